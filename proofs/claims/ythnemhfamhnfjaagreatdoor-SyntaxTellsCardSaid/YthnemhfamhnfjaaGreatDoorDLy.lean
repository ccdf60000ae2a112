import Derived.Test.YthnemhfamhnfjaaGreatDoorTie
import Derived.Test.YthnemhfamhnfjaaGreatDoorCards
import Derived.Test.YthnemhfamhnfjaaGreatDoorDUv
import Derived.Test.YthnemhfamhnfjaaGreatDoorDVLA
import Derived.Lib.LaidTab
set_option linter.all false
set_option maxRecDepth 100000
set_option maxHeartbeats 8000000
set_option linter.all false
namespace Go.Proofs.YthnemhfamhnfjaaGreatDoor
open Go Go.VL
abbrev zoL : List (String × DataW Unit) := [("math/bits.deBruijn32tab", Rows.laid_math_bits_deBruijn32tab), ("math/bits.deBruijn64tab", Rows.laid_math_bits_deBruijn64tab), ("internal/strconv.uint64pow10", Rows.laid_internal_strconv_uint64pow10), ("stokvel/lex.signs", Rows.laid_stokvel_lex_signs)]
theorem zqd (os : Os) (args : Array Value) : laidMetH Tryz.prog zoL ((World.doorLaid Tryz.prog 400 os).forCall (fun _ _ => 0) ⟨#[], args, []⟩).memory :=
 laidMetH_of_parts3 (fuel := 8) (laidMet_of_run' 8 (by kernel_rfl) (by kernel_rfl)) (by kernel_rfl) (by kernel_rfl)
theorem zi3 {P : Program} {w : World} {n : String} {g : Nat} {cs : Array Value} (hg : P.globalNamed n = some g) (hv : w.var? P n = some cs) :
  (∀ j, j < cs.toList.length -> VL.look w g j = some (.val (cs.toList.getD j undef))) /\ VL.look w g cs.toList.length = some .fin := by
 unfold World.var? at hv;rw [hg, Option.bind_some] at hv;split at hv
 ·rename_i cs0 t fr hh;cases hv;refine ⟨fun j hj => zeg ?_, ?_⟩
  ·have hj' : j < cs.size := by simpa using hj
   simp [World.cell?, hh, hj', List.getD]
  ·have := zpV hh;simpa using this
 ·cases hv
theorem zq4 {P : Program} {w : World} {n : String} {g : Nat} {t e : TypeId} {cs : Array Value} {L : List (List UInt8)} {fuel : Nat} {H : Type} {enc : TypeId × Value -> H} {base : Nat} {spare : Nat -> Bool} {held : Bool} {q : List MemPlace}
  (hg : P.globalNamed n = some g) (hv : w.var? P n = some cs) (ht : P.underlying t = some (.array L.length e)) (he : P.underlying e = some .string) (hc : P.cellsOf e = 1) (hct : P.cellsOf t = L.length)
  (hd : DataW.trod enc P w base spare held fuel t cs.toList = some (.agg (L.map fun b => .lit (.string b)), q)) : cs.toList = L.map fun b => .string ⟨b.toArray⟩ := by
 obtain ⟨xs, m1, rfl, hx1, hlen, hn3, hel⟩ := DataW.trod_array ht hd;have hcell := zjd hg hv ht he hc hd;apply List.ext_getElem?;intro j;cases hb : L[j]? with
 | none =>
  have := List.getElem?_eq_none_iff.1 hb;rw [List.getElem?_eq_none (by omega), List.getElem?_map, hb]; rfl
 | some b =>
  have h := hcell j b hb;rw [World.var?_cell hg hv j] at h;rw [List.getElem?_map, hb, Array.getElem?_toList, h]; rfl
def zrX : List (List UInt8) := [[61, 61], [59], [44], [61], [60], [43], [45], [42], [47], [40], [41]]
theorem zoU (W : World) (h : laidMetH Tryz.prog zoL W) : GlobIn (zjn W) := by
 rw [MakeChecks.laidMetH_plain _ _ _ (by kernel_rfl)] at h;obtain ⟨ps, ⟨ga, ta, ca, fa, pa, qa, hga, hta, hva, hda, ⟨gb, tb, cb, fb, pb, qb, hgb, htb, hvb, hdb, ⟨gc, tc, cc, fc, pc, qc, hgc, htc, hvc, hdc, ⟨gd, td, cd, fd, pd, qd, hgd, htd, hvd, hdd, _⟩, _⟩, _⟩, _⟩, _⟩ := h;obtain rfl : ga = 3 := Option.some.inj (hga.symm.trans (by kernel_rfl));obtain rfl : gb = 4 := Option.some.inj (hgb.symm.trans (by kernel_rfl));obtain rfl : gc = 2 := Option.some.inj (hgc.symm.trans (by kernel_rfl));obtain rfl : gd = 0 := Option.some.inj (hgd.symm.trans (by kernel_rfl));obtain rfl : ta = 164 := Option.some.inj (hta.symm.trans (by kernel_rfl));obtain rfl : tb = 165 := Option.some.inj (htb.symm.trans (by kernel_rfl));obtain rfl : tc = 158 := Option.some.inj (htc.symm.trans (by kernel_rfl));obtain rfl : td = 138 := Option.some.inj (htd.symm.trans (by kernel_rfl));have ea := Lib.cells_of_tab (p := pa) (n := 32) (e := 5) (k := .u8) (zs := (globs[1]!.2.map fun v => match v with | .int _ z => z | _ => 0)) (by kernel_rfl) (by kernel_rfl) (by kernel_rfl) (by kernel_rfl) (hda.trans (by kernel_rfl));have eb := Lib.cells_of_tab (p := pb) (n := 64) (e := 5) (k := .u8) (zs := (globs[2]!.2.map fun v => match v with | .int _ z => z | _ => 0)) (by kernel_rfl) (by kernel_rfl) (by kernel_rfl) (by kernel_rfl) (hdb.trans (by kernel_rfl));have ec := Lib.cells_of_tab (p := pc) (n := 20) (e := 152) (k := .u64) (zs := (globs[0]!.2.map fun v => match v with | .int _ z => z | _ => 0)) (by kernel_rfl) (by kernel_rfl) (by kernel_rfl) (by kernel_rfl) (hdc.trans (by kernel_rfl));have ed := zq4 (q := pd) (L := zrX) hgd hvd (by kernel_rfl) (e := 9) (by kernel_rfl) (by kernel_rfl) (by kernel_rfl) (hdd.trans (by kernel_rfl));have fa := zi3 hga hva;have fb := zi3 hgb hvb;have fc := zi3 hgc hvc;have fd := zi3 hgd hvd;rw [ea] at fa;rw [eb] at fb;rw [ec] at fc;rw [ed] at fd;intro p hp;unfold globs at hp;simp only [List.mem_cons, List.not_mem_nil, or_false] at hp;rcases hp with rfl | rfl | rfl | rfl
 ·exact fc
 ·exact fa
 ·exact fb
 ·exact fd
end Go.Proofs.YthnemhfamhnfjaaGreatDoor
