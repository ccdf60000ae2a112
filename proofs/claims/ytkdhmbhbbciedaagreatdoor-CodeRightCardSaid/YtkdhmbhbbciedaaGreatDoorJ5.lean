/- Texts joined by a program of mine: Z1#p Cb Cc#p Cd Cl Cq Cs#p Ce#p Cf#p Cg#p Cm C3 Cj#p C2#p C4#p C5#p Cw#p CA#p Fb Fc Fd Fe Ed Ce Cf C4 C5 Ee Ya Yb Yc Yd Ye Yf Yg Yh Yi Yj Ct#p Cx Cy#p Cz#p C0#p Ef Cs Cy Cz C0 Eg Eh Ei. -/
import Derived.Test.YtkdhmbhbbciedaaGreatDoorJ4
import Derived.Lib.ItoaLen
import Derived.Lib.ItoaNum
import Derived.Lib.AtoiAllCases
import Derived.Lib.Bytealg
set_option linter.all false
set_option maxRecDepth 100000
set_option maxHeartbeats 8000000
namespace Go.Proofs.YtkdhmbhbbciedaaGreatDoor
open Go Go.VL Go.Shelf Go.RowKit
theorem two_args {k : Kr} {d e : D} {vs : Array Value} (h : RepL k [d, e] vs) : ∃ v u, vs = #[v, u] ∧ Rep k d v ∧ Rep k e u := by
 obtain ⟨h1, h2⟩ := h
 have hs : vs.size = 2 := by simpa using h1
 refine ⟨vs.getD 0 undef, vs.getD 1 undef, ?_, h2 0 d rfl, h2 1 e rfl⟩
 apply Array.ext_getElem?
 intro i
 match i with
 | 0 => simp [show 0 < vs.size by omega]
 | 1 => simp [show 1 < vs.size by omega]
 | i + 2 => rw [Array.getElem?_eq_none (by omega), Array.getElem?_eq_none (by simp)]
theorem tab_glob {k : Kr} {own obs} {w : World} (h : Sat k own obs w) : Lib.TabIs Tryz.prog w "internal/strconv.uint64pow10" .u64 Lib.pow10Tab := by
 have he : globs.head! = (globs.head!.1, Lib.pow10Tab.map fun z => Value.int .u64 z) := rfl
 have hm : globs.head! ∈ globs := by unfold globs; exact List.mem_cons_self
 obtain ⟨h1, h2⟩ := k.glob.tab _ hm
 rw [he] at h1 h2
 simp only [List.length_map, Lib.pow10Tab_length] at h1 h2
 obtain ⟨cs, t, fr, h3, h4⟩ := look_fin (h.mem _ _ _ h2)
 have h5 : Tryz.prog.globalNamed "internal/strconv.uint64pow10" = some globs.head!.1 := by kernel_rfl
 unfold Lib.TabIs World.var?
 rw [h5, Option.bind_some, h3]
 simp only [Option.some.injEq]
 apply Array.ext_getElem?
 intro j
 by_cases hj : j < 20
 ·have h6 := h.cell (h1 j hj)
  have h7 : cs[j]? = some ((Lib.pow10Tab.map fun z => Value.int .u64 z).getD j undef) := by simpa [World.cell?, h3] using h6
  rw [h7]
  simp [List.getD, Lib.pow10Tab_length, hj]
 ·rw [Array.getElem?_eq_none (by omega), Array.getElem?_eq_none (by simp [Lib.pow10Tab_length]; omega)]
theorem itoa_fun (n : Int) (h0 : -9223372036854775808 ≤ n) (h1 : n ≤ 9223372036854775807) : Fun Tryz.prog 84 [.u (.int .i64 n)] (· = .u (.str (Lib.itoa n))) :=
 Fun.ofBelow fun k own w vs hsat hrep => by
  obtain ⟨v, rfl, hv⟩ := one_arg hrep
  have hv := rep_int hv
  subst hv
  refine ⟨_, .str _, (Tryz.strconv_Itoa n h0 h1 w (tab_glob hsat)).mono ?_⟩
  rintro e w' ⟨h1, q, os, rfl⟩
  refine ⟨h1, rfl, rfl, rfl, ?_, fun x hx => ?_⟩
  ·show w.heap.size ≤ (w.heap ++ os).size
   simp
  ·show (w.heap ++ os)[x]? = w.heap[x]?
   rw [Array.getElem?_append_left hx]
end Go.Proofs.YtkdhmbhbbciedaaGreatDoor
namespace Go.Proofs.YtkdhmbhbbciedaaGreatDoor
open Go Go.VL
theorem tmod_iff (a b : Int) : a.tdiv b * b ≠ a ↔ a.tmod b ≠ 0 := by
 have := Int.mul_tdiv_add_tmod a b
 rw [Int.mul_comm] at this
 omega
theorem floorX_fdiv (a b : Int) (hb : b ≠ 0) : floorX a b = a.fdiv b := by
 rw [Pm.floor_eq a b hb]
 unfold floorX
 simp only [tmod_iff]
theorem kept_okv {n : Int} : keptX n = if Vm.okv n = true then .ok n else .error 3 := by
 unfold keptX Vm.okv
 by_cases h : -1099511627776 ≤ n ∧ n ≤ 1099511627776
 ·rw [if_neg (by omega), if_pos (by simpa using h)]
 ·rw [if_pos (by omega), if_neg (by simpa using h)]
theorem prod_over {a b c : Int} (hc : c = 1 ∨ c = 1000) : prodX a b c = if Vm.okv (Pm.over a b c) = true then .ok (Pm.over a b c) else .error 3 := by
 have hcp : 0 < c := by omega
 have hcn : c ≠ 0 := by omega
 have hfl : floorX (a * b) c = a * b / c := by rw [floorX_fdiv _ _ hcn, Int.fdiv_eq_ediv_of_nonneg _ (by omega)]
 have habs : (a * b).natAbs = a.natAbs * b.natAbs := Int.natAbs_mul a b
 unfold prodX
 have hiff : (a ≠ 0 ∧ ((1099511627777 * c).tdiv (max a (-a)) < b ∨ b < (-(1099511627777 * c)).tdiv (max a (-a)))) ↔ (1099511627777 * c).natAbs < a.natAbs * b.natAbs := by
  by_cases ha : a = 0
  ·subst ha; simp
  ·have hM : 0 < max a (-a) := by omega
   have hm : (max a (-a)).natAbs = a.natAbs := by omega
   have h1 : ((1099511627777 * c).tdiv (max a (-a))).natAbs = (1099511627777 * c).natAbs / a.natAbs := by rw [Int.natAbs_tdiv, hm]; rfl
   have h3 : 0 ≤ (1099511627777 * c).tdiv (max a (-a)) := Int.tdiv_nonneg (by omega) (by omega)
   have h4 : (-(1099511627777 * c)).tdiv (max a (-a)) = -((1099511627777 * c).tdiv (max a (-a))) := by rw [Int.neg_tdiv]
   rw [h4]
   have h5 : (1099511627777 * c).natAbs / a.natAbs < b.natAbs ↔ (1099511627777 * c).natAbs < a.natAbs * b.natAbs := by
    rw [Nat.div_lt_iff_lt_mul (by omega), Nat.mul_comm]
   rw [← h5, ← h1]
   generalize (1099511627777 * c).tdiv (max a (-a)) = q at *
   constructor
   ·rintro ⟨_, h⟩; omega
   ·intro h; exact ⟨ha, by omega⟩
 by_cases hbig : (1099511627777 * c).natAbs < a.natAbs * b.natAbs
 ·rw [if_pos (hiff.2 hbig)]
  have ho : Pm.over a b c = 1099511627777 := by
   unfold Pm.over
   rw [if_pos]
   have e : ((a.natAbs : Int) * (b.natAbs : Int)) = ((a.natAbs * b.natAbs : Nat) : Int) := by push_cast; rfl
   rw [e]
   rcases hc with rfl | rfl <;> omega
  rw [ho, if_neg (by decide)]
 ·rw [if_neg (fun h => hbig (hiff.1 h)), hfl, kept_okv]
  have e : ((a.natAbs : Int) * (b.natAbs : Int)) = ((a.natAbs * b.natAbs : Nat) : Int) := by push_cast; rfl
  unfold Pm.over
  rw [e]
  by_cases h2 : 1099511627776 < ((a.natAbs * b.natAbs : Nat) : Int) / c
  ·have hL : ¬ Vm.okv (a * b / c) = true := fun h3 => by
    have h4 : inC (a * b / c) := okv_out h3
    unfold inC at h4
    rcases hc with rfl | rfl <;> omega
   rw [if_pos h2, if_neg hL, if_neg (by decide)]
  ·rw [if_neg h2]
/-- The instruction of an operation. -/
theorem bin_two {sh : Exp → Bool} {op : Int} {args : List Exp} (hop : 2 ≤ op ∧ op ≤ 9) {a b : Int} (ha : inC a) (hb : inC b) : 2 ≤ plainOp sh op args ∧ plainOp sh op args ≤ 10 ∧
  (if plainOp sh op args = 5 ∧ b = 0 then binX op ((args.take 2).any sh) a b = .error 15 else
    binX op ((args.take 2).any sh) a b = if Vm.okv (Pm.two (plainOp sh op args) a b) = true then .ok (Pm.two (plainOp sh op args) a b) else .error 3) := by
 have htr : ∀ x : Bool, Pm.truth x = truthX x := fun x => by unfold Pm.truth truthX; rfl
 have hmin : Vm.okv (min a b) = true := okv_of (by unfold inC at *; omega)
 have hmax : Vm.okv (max a b) = true := okv_of (by unfold inC at *; omega)
 have htk : ∀ x : Bool, Vm.okv (truthX x) = true := fun x => okv_of (truthX_in x)
 rcases (show op = 2 ∨ op = 3 ∨ op = 4 ∨ op = 5 ∨ op = 6 ∨ op = 7 ∨ op = 8 ∨ op = 9 by omega) with rfl | rfl | rfl | rfl | rfl | rfl | rfl | rfl
 ·simp [plainOp, binX, Pm.two, kept_okv]
 ·simp [plainOp, binX, Pm.two, kept_okv]
 ·generalize hs : (args.take 2).any sh = s
  cases s with
  | true => simp [plainOp, binX, Pm.two, hs, prod_over (.inr rfl)]
  | false => simp [plainOp, binX, Pm.two, hs, prod_over (.inl rfl)]
 ·by_cases h0 : b = 0
  ·simp [plainOp, binX, h0]
  ·simp [plainOp, binX, Pm.two, h0, kept_okv, floorX_fdiv a b h0]
 ·simp [plainOp, binX, Pm.two, hmin]
 ·simp [plainOp, binX, Pm.two, hmax]
 ·simp [plainOp, binX, Pm.two, htr, htk]
 ·simp [plainOp, binX, Pm.two, htr, htk]
theorem Does.bin {vs F G ra rb} {sh : Exp → Bool} {op : Int} {args : List Exp} (hF : Does vs F ra) (hG : Does vs G rb) (pF : Pre F) (pG : Pre G) (hop : 2 ≤ op ∧ op ≤ 9) :
  Does vs (fun c => putC (G (F c)) ⟨plainOp sh op args, 0, []⟩) (bindX ra fun a => bindX rb fun b => binX op ((args.take 2).any sh) a b) := fun c C S hl hC hS va er => by
 simp only at hl hC
 obtain ⟨h1, h2, h3, h4⟩ := put_at hl
 obtain ⟨p1, _⟩ := pF c
 obtain ⟨q1, q2⟩ := pG (F c)
 have hCG : ∀ i, c.length ≤ i → i < (G (F c)).length → C[i]? = (G (F c))[i]? := fun i hi hi2 => by rw [hC i hi (by omega), h4 i hi2]
 have hCF : ∀ i, c.length ≤ i → i < (F c).length → C[i]? = (F c)[i]? := fun i hi hi2 => by rw [hCG i hi (by omega), q2 i hi2]
 have hi : C[(G (F c)).length]? = some ⟨plainOp sh op args, 0, []⟩ := by rw [hC _ (by omega) (by omega)]; exact h3
 cases ra with
 | error e =>
  obtain ⟨q, hq, hE⟩ := hF.err rfl (by omega) hCF hS va er
  exact ⟨q, by simp only; omega, hE⟩
 | ok a =>
  obtain ⟨hin, q, hq, hE⟩ := hF.ok rfl (by omega) hCF hS va er
  have hG' := hG (F c) C (S ++ [a]) (by omega) (fun i hi => hCG i (by omega)) (hS.snoc (okv_of hin)) va er
  cases rb with
  | error e =>
   obtain ⟨q', hq', hE'⟩ := hG'
   exact ⟨_, by simp only; omega, hE.ends hE'⟩
  | ok b =>
   obtain ⟨hin', q', hq', hE'⟩ := hG'
   have hEE := hE.trans hE'
   obtain ⟨m1, m2, m3⟩ := bin_two (sh := sh) (args := args) hop hin hin'
   have := run_two (va := va) (er := er) (vs := vs) ⟨m1, m2⟩ hi hS hin hin'
   have hb : (bindX (.ok a) fun a => bindX (.ok b) fun b => binX op ((args.take 2).any sh) a b) = binX op ((args.take 2).any sh) a b := rfl
   rw [hb]
   split at m3
   ·rename_i hz
    rw [if_pos hz] at this
    rw [m3]
    exact ⟨_, by first | omega | (simp only; omega), hEE.ends this⟩
   ·rename_i hz
    rw [if_neg hz] at this
    split at m3
    ·rename_i ho
     rw [if_pos ho] at this
     rw [m3]
     exact ⟨okv_out ho, q + q' + 1, by first | omega | (simp only; omega), by (first | rw [h2] | (simp only; rw [h2])); exact hEE.trans this⟩
    ·rename_i ho
     rw [if_neg ho] at this
     rw [m3]
     exact ⟨_, by first | omega | (simp only; omega), hEE.ends this⟩
theorem genN_at {nm sh} : ∀ {l : List Exp} {i : Nat} {e : Exp}, l[i]? = some e → genN nm sh l i = genT nm sh e
 | [], _, _, h => by simp at h
 | a :: r, 0, e, h => by simp at h; subst h; rw [genN]
 | a :: r, i + 1, e, h => by rw [genN]; exact genN_at (by simpa using h)
end Go.Proofs.YtkdhmbhbbciedaaGreatDoor
namespace Go.Proofs.YtkdhmbhbbciedaaGreatDoor
open Go Go.VL
/-- The last one of the first n lets with a name. -/
def lastI (lets : List Let) : Nat → List UInt8 → Option Nat
 | 0, _ => none
 | n + 1, s => match lets[n]? with
  | none => none
  | some l => if l.name = s then some n else lastI lets n s
theorem lastI_some {lets : List Let} {s : List UInt8} : ∀ {n i : Nat}, lastI lets n s = some i → i < n ∧ ∃ l, lets[i]? = some l ∧ l.name = s
 | 0, i, h => by simp [lastI] at h
 | n + 1, i, h => by
  rw [lastI] at h
  split at h
  ·cases h
  ·rename_i l hl
   split at h
   ·rename_i hn
    cases h
    exact ⟨by omega, l, hl, hn⟩
   ·obtain ⟨h1, h2⟩ := lastI_some h
    exact ⟨by omega, h2⟩
def boolsU (l : List Bool) : U := .sl (l.map fun b => [.bool b])
def nmS (lets : List Let) (shs : List Bool) (n : Nat) (s : List UInt8) : Bool := match lastI lets n s with | some i => shs.getD i false | none => false
def ixO : Option Nat → Int | some i => i | none => -1
end Go.Proofs.YtkdhmbhbbciedaaGreatDoor
namespace Go.Proofs.YtkdhmbhbbciedaaGreatDoor
open Go Go.VL
/-- The shares among the lets. -/
def shsL (lets : List Let) : Nat → List Bool
 | 0 => []
 | n + 1 => match lets[n]? with
  | none => shsL lets n
  | some l => shsL lets n ++ [shareS (sF (mOf [] (lets.take n))) l.body]
theorem shsL_len {lets : List Let} : ∀ {n : Nat}, n ≤ lets.length → (shsL lets n).length = n
 | 0, _ => rfl
 | n + 1, h => by
  have hn : n < lets.length := by omega
  rw [shsL, List.getElem?_eq_getElem hn]
  simp [shsL_len (lets := lets) (n := n) (by omega)]
theorem shsL_at {lets : List Let} {i : Nat} {l : Let} (hl : lets[i]? = some l) : ∀ {n : Nat}, i < n → n ≤ lets.length → (shsL lets n)[i]? = some (shareS (sF (mOf [] (lets.take i))) l.body)
 | 0, h, _ => by omega
 | n + 1, h, hn => by
  have hn2 : n < lets.length := by omega
  have hlen := shsL_len (lets := lets) (n := n) (by omega)
  rw [shsL, List.getElem?_eq_getElem hn2]
  simp only
  rcases Nat.lt_or_ge i n with h2 | h2
  ·rw [List.getElem?_append_left (by omega)]
   exact shsL_at hl h2 (by omega)
  ·obtain rfl : i = n := by omega
   rw [List.getElem?_append_right (by omega), hlen]
   rw [List.getElem?_eq_getElem hn2] at hl
   cases hl
   simp
theorem nmS_eq {lets : List Let} {m : Nat} (hm : m ≤ lets.length) : ∀ {n : Nat}, n ≤ m → ∀ s, nmS lets (shsL lets m) n s = sF (mOf [] (lets.take n)) s
 | 0, _, s => by simp [nmS, lastI, mOf, sF, asc]
 | n + 1, hn, s => by
  have hnl : n < lets.length := by omega
  have hl : lets[n]? = some lets[n] := List.getElem?_eq_getElem hnl
  have ih := nmS_eq hm (n := n) (by omega) s
  rw [mOf_succ hl]
  unfold nmS at ih ⊢
  rw [lastI, hl]
  simp only
  unfold sF
  rw [asc_put]
  by_cases hs : lets[n].name = s
  ·rw [if_pos hs, if_pos hs.symm]
   have := shsL_at hl (n := m) (by omega) hm
   simp [List.getD_eq_getElem?_getD, this]
   rfl
  ·rw [if_neg hs, if_neg (fun e => hs e.symm)]
   exact ih
theorem shareP_take {lets : List Let} (hr : ∀ l ∈ lets, rightB 12 l.body = true) (hl : lets.length ≤ 20) {n m : Nat} (hn : n ≤ m) (hm : m ≤ lets.length) {e : Exp} (he : rightB 12 e = true) : shareP (lets.take n) e = shareS (nmS lets (shsL lets m) n) e := by
 have h1 : rightAll (lets.take n) e = true := by
  simp only [rightAll, Bool.and_eq_true, decide_eq_true_eq, Bool.not_eq_true', List.any_eq_false, Bool.not_eq_true]
  refine ⟨⟨by simp; omega, he⟩, fun l h => ?_⟩
  rw [hr l (List.mem_of_mem_take h)]
  simp
 rw [shareP, h1, Bool.true_and, show nmS lets (shsL lets m) n = sF (mOf [] (lets.take n)) from funext fun s => nmS_eq hm hn s]
theorem rightB_up : ∀ (d : Nat) (e : Exp), rightB d e = true → rightB (d + 1) e = true
 | 0, e, h => by simp [rightB] at h
 | d + 1, e, h => by
  have ih := fun x => rightB_up d x
  rw [rightB] at h ⊢
  by_cases h0 : e.op = 0
  ·simpa [h0] using h
  ·by_cases h1 : e.op = 1
   ·simpa [h0, h1] using h
   ·simp only [h0, h1, if_false, Bool.and_eq_true, decide_eq_true_eq] at h ⊢
    refine ⟨h.1, ?_⟩
    have h2 := h.2
    split at h2
    ·cases h2
    ·rename_i hz
     rw [if_neg hz]
     simp only [Bool.and_eq_true, decide_eq_true_eq, Bool.not_eq_true', List.any_eq_false] at h2 ⊢
     exact ⟨h2.1, fun x hx => by simpa using ih x (by simpa using h2.2 x hx)⟩
theorem rightB_le {d d' : Nat} (h : d ≤ d') {e : Exp} (he : rightB d e = true) : rightB d' e = true := by
 induction h with
 | refl => exact he
 | step _ ih => exact rightB_up _ _ ih
theorem plainOp_eq {lets : List Let} (hr : ∀ l ∈ lets, rightB 12 l.body = true) (hl : lets.length ≤ 20) {n m d : Nat} (hn : n ≤ m) (hm : m ≤ lets.length) {e : Exp} (he : rightB (d + 1) e = true) (hd : d ≤ 11) (h0 : ¬ e.op = 0) (h1 : ¬ e.op = 1) :
  plainOp (shareS (nmS lets (shsL lets m) n)) e.op e.args = plainOp (shareP (lets.take n)) e.op e.args := by
 have ha := (right_args he).2.2.2 h0 h1
 have : (e.args.take 2).any (shareS (nmS lets (shsL lets m) n)) = (e.args.take 2).any (shareP (lets.take n)) := by
  rw [Bool.eq_iff_iff, List.any_eq_true, List.any_eq_true]
  constructor
  ·rintro ⟨x, hx, h⟩
   exact ⟨x, hx, by rw [shareP_take hr hl hn hm (rightB_le (by omega) (ha x (List.mem_of_mem_take hx)))]; exact h⟩
  ·rintro ⟨x, hx, h⟩
   exact ⟨x, hx, by rw [← shareP_take hr hl hn hm (rightB_le (by omega) (ha x (List.mem_of_mem_take hx)))]; exact h⟩
 unfold plainOp
 rw [this]
abbrev shF (lets : List Let) (n : Nat) : Exp → Bool := shareP (lets.take n)
/-- The code of an expression, without its end. -/
def compL (lets : List Let) (e : Exp) : Code := genT (nmC lets (shF lets) lets.length) (shF lets lets.length) e []
def compP (lets : List Let) (e : Exp) : Code × Int := if rightAll lets e = true then (if 2000 ≤ (compL lets e).length then ([], 6) else (compL lets e ++ [⟨14, 0, []⟩], 0)) else ([], 1)
end Go.Proofs.YtkdhmbhbbciedaaGreatDoor
namespace Go.Proofs.YtkdhmbhbbciedaaGreatDoor
open Go Go.VL
/-- What an instruction needs of the stack, and leaves of that. -/
def needI (op : Int) : Int := if op = 0 ∨ op = 1 ∨ op = 12 then 0 else if op = 11 ∨ op = 13 ∨ op = 14 then 1 else 2
def leavesI (op : Int) : Int := if op = 12 ∨ op = 13 ∨ op = 14 then 0 else 1
def formI (x : Ins) (i n : Nat) : Bool :=
 if x.op = 0 then decide (x.s = []) && decide (-1099511627776 ≤ x.a) && decide (x.a ≤ 1099511627776)
 else if x.op = 1 then decide (x.a = 0) && nameB x.s
 else if x.op = 12 ∨ x.op = 13 then decide (x.s = []) && decide ((i : Int) < x.a) && decide (x.a < n)
 else decide (x.s = []) && decide (x.a = 0) && decide (0 ≤ x.op) && decide (x.op < 15)
def nextI (x : Ins) (i : Nat) : List Nat := if x.op = 14 then [] else if x.op = 12 then [x.a.toNat] else if x.op = 13 then [i + 1, x.a.toNat] else [i + 1]
def setH (hi : List Int) (k : Nat) (h : Int) : Option (List Int) := if 0 ≤ hi.getD k (-1) ∧ hi.getD k (-1) ≠ h then none else some (hi.set k h)
def setsH (h : Int) : List Nat → List Int → Option (List Int)
 | [], hi => some hi
 | k :: ks, hi => (setH hi k h).bind (setsH h ks)
def rstep (l : Code) (i : Nat) (hi : List Int) : Option (List Int) := match l[i]? with
 | none => none
 | some x => if hi.getD i (-1) < 0 then some hi
  else if hi.getD i (-1) < needI x.op ∨ (x.op = 14 ∧ hi.getD i (-1) ≠ 1) then none
  else setsH (hi.getD i (-1) - needI x.op + leavesI x.op) (nextI x i) hi
def rgo (l : Code) : Nat → Option (List Int)
 | 0 => some (0 :: List.replicate l.length (-1))
 | i + 1 => (rgo l i).bind (rstep l i)
def formsB (l : Code) : Bool := (List.range l.length).all fun i => match l[i]? with | some x => formI x i l.length | none => true
def rightC (l : Code) : Bool := decide (0 < l.length) && decide (l.length ≤ 2000) && formsB l && match rgo l l.length with | some h => decide (h.getD l.length (-1) < 0) | none => false
theorem forms_at {l : Code} (h : formsB l = true) {i : Nat} {x : Ins} (hx : l[i]? = some x) : formI x i l.length = true := by
 have := List.all_eq_true.1 h i (List.mem_range.2 (List.getElem?_eq_some_iff.1 hx).1)
 rw [hx] at this
 exact this
/-- These are the heights ahead of the instructions. -/
structure Hts (C : Code) (H : Nat → Int) : Prop where
 zero : H 0 = 0
 ok : ∀ i x, C[i]? = some x → 0 ≤ H i ∧ needI x.op ≤ H i ∧ (x.op = 14 → H i = 1) ∧ ∀ k ∈ nextI x i, i < k ∧ k < C.length ∧ H k = H i - needI x.op + leavesI x.op
 reach : ∀ k, 0 < k → k < C.length → ∃ i x, i < k ∧ C[i]? = some x ∧ k ∈ nextI x i
theorem sets_ok {H : Nat → Int} {h : Int} : ∀ {ks : List Nat} {hi : List Int}, (∀ k ∈ ks, k < hi.length ∧ H k = h ∧ (hi.getD k (-1) = H k ∨ hi.getD k (-1) = -1)) → ∃ hi', setsH h ks hi = some hi' ∧ hi'.length = hi.length ∧
  ∀ k, hi'.getD k (-1) = if k ∈ ks then h else hi.getD k (-1)
 | [], hi, _ => ⟨hi, rfl, rfl, fun k => by simp⟩
 | a :: ks, hi, hk => by
  obtain ⟨h1, h2, h3⟩ := hk a (by simp)
  have e : setH hi a h = some (hi.set a h) := by
   unfold setH
   rw [if_neg]
   rintro ⟨h4, h5⟩
   rcases h3 with h3 | h3
   ·exact h5 (h3.trans h2)
   ·omega
  have hg : ∀ k, (hi.set a h).getD k (-1) = if k = a then h else hi.getD k (-1) := fun k => by
   by_cases hka : k = a
   ·subst hka; simp [List.getD, h1]
   ·simp [List.getD, hka, List.getElem?_set_ne (Ne.symm hka)]
  obtain ⟨hi', h4, h5, h6⟩ := sets_ok (H := H) (h := h) (ks := ks) (hi := hi.set a h) fun k hm => by
   obtain ⟨g1, g2, g3⟩ := hk k (by simp [hm])
   refine ⟨by simpa using g1, g2, ?_⟩
   rw [hg]
   split
   ·exact .inl g2.symm
   ·exact g3
  refine ⟨hi', by rw [setsH, e]; exact h4, by simpa using h5, fun k => ?_⟩
  rw [h6, hg]
  by_cases hm : k ∈ ks
  ·simp [hm]
  ·by_cases hka : k = a
   ·simp [hka]
   ·simp [hm, hka]
theorem rgo_ok {C : Code} {H : Nat → Int} (h : Hts C H) : ∀ i, i ≤ C.length → ∃ hi, rgo C i = some hi ∧ hi.length = C.length + 1 ∧
  ∀ k, k ≤ C.length → ((k = 0 ∨ ∃ j x, j < i ∧ C[j]? = some x ∧ k ∈ nextI x j) → hi.getD k (-1) = H k) ∧ (¬ (k = 0 ∨ ∃ j x, j < i ∧ C[j]? = some x ∧ k ∈ nextI x j) → hi.getD k (-1) = -1)
 | 0, _ => ⟨_, rfl, by simp, fun k hk => ⟨fun hr => by
   rcases hr with rfl | ⟨j, x, hj, _⟩
   ·simp [h.zero]
   ·omega, fun hr => by
   cases k with
   | zero => exact absurd (.inl rfl) hr
   | succ k => simp [List.getD, List.getElem?_replicate, show k < C.length by omega]⟩⟩
 | i + 1, hi1 => by
  obtain ⟨hi, e, hl, hv⟩ := rgo_ok h i (by omega)
  have hx : C[i]? = some C[i] := List.getElem?_eq_getElem (by omega)
  generalize C[i] = x at hx
  obtain ⟨o1, o2, o3, o4⟩ := h.ok i x hx
  have hri : hi.getD i (-1) = H i := (hv i (by omega)).1 (by
   by_cases h0 : i = 0
   ·exact .inl h0
   ·obtain ⟨j, y, hj, hy, hm⟩ := h.reach i (by omega) (by omega)
    exact .inr ⟨j, y, hj, hy, hm⟩)
  obtain ⟨hi', e', hl', hv'⟩ := sets_ok (H := H) (h := H i - needI x.op + leavesI x.op) (ks := nextI x i) (hi := hi) fun k hk => by
   obtain ⟨k1, k2, k3⟩ := o4 k hk
   refine ⟨by omega, k3, ?_⟩
   by_cases hr : k = 0 ∨ ∃ j x, j < i ∧ C[j]? = some x ∧ k ∈ nextI x j
   ·exact .inl ((hv k (by omega)).1 hr)
   ·exact .inr ((hv k (by omega)).2 hr)
  refine ⟨hi', ?_, by omega, fun k hk => ?_⟩
  ·rw [rgo, e]
   show rstep C i hi = _
   unfold rstep
   rw [hx, hri]
   simp only
   rw [if_neg (by omega), if_neg (by rintro (h1 | ⟨h1, h2⟩); · omega
                                     ·exact h2 (o3 h1))]
   exact e'
  ·rw [hv']
   by_cases hm : k ∈ nextI x i
   ·rw [if_pos hm]
    exact ⟨fun _ => (o4 k hm).2.2.symm, fun hr => absurd (.inr ⟨i, x, by omega, hx, hm⟩) hr⟩
   ·rw [if_neg hm]
    refine ⟨fun hr => (hv k hk).1 ?_, fun hr => (hv k hk).2 fun h2 => hr ?_⟩
    ·rcases hr with h0 | ⟨j, y, hj, hy, hm2⟩
     ·exact .inl h0
     ·refine .inr ⟨j, y, ?_, hy, hm2⟩
      rcases Nat.lt_succ_iff_lt_or_eq.1 hj with h1 | h1
      ·exact h1
      ·subst h1
       rw [hx] at hy
       cases hy
       exact absurd hm2 hm
    ·rcases h2 with h0 | ⟨j, y, hj, hy, hm2⟩
     ·exact .inl h0
     ·exact .inr ⟨j, y, by omega, hy, hm2⟩
theorem right_of {C : Code} {H : Nat → Int} (h : Hts C H) (h0 : 0 < C.length) (hl : C.length ≤ 2000) (hf : formsB C = true) : rightC C = true := by
 obtain ⟨hi, e, _, hv⟩ := rgo_ok h C.length (Nat.le_refl _)
 unfold rightC
 rw [e, hf]
 have := (hv C.length (Nat.le_refl _)).2 (by
  rintro (h1 | ⟨j, x, _, hx, hm⟩)
  ·omega
  ·have := (h.ok j x hx).2.2.2 _ hm; omega)
 simp only [decide_eq_true h0, decide_eq_true hl, this, Bool.true_and]
 decide
/-- A piece of code with these heights: it is entered at its beginning, and left at its end. -/
structure Seg (C : Code) (p q : Nat) (H : Nat → Int) : Prop where
 lt : p < q
 ok : ∀ i, p ≤ i → i < q → ∃ x, C[i]? = some x ∧ x.op ≠ 14 ∧ formI x i (q + 1) = true ∧ 0 ≤ H i ∧ needI x.op ≤ H i ∧ ∀ k ∈ nextI x i, i < k ∧ k ≤ q ∧ H k = H i - needI x.op + leavesI x.op
 reach : ∀ k, p < k → k ≤ q → ∃ i x, p ≤ i ∧ i < k ∧ C[i]? = some x ∧ k ∈ nextI x i
theorem form_le {x : Ins} {i n m : Nat} (h : formI x i n = true) (hm : n ≤ m) : formI x i m = true := by
 unfold formI at h ⊢
 by_cases c0 : x.op = 0
 ·rw [if_pos c0] at h ⊢; exact h
 rw [if_neg c0] at h ⊢
 by_cases c1 : x.op = 1
 ·rw [if_pos c1] at h ⊢; exact h
 rw [if_neg c1] at h ⊢
 by_cases c2 : x.op = 12 ∨ x.op = 13
 ·rw [if_pos c2] at h ⊢
  simp only [Bool.and_eq_true, decide_eq_true_eq] at h ⊢
  exact ⟨h.1, by omega⟩
 ·rw [if_neg c2] at h ⊢; exact h
theorem Seg.one {C : Code} {p : Nat} {x : Ins} {h : Int} (hx : C[p]? = some x) (h14 : x.op ≠ 14) (h12 : x.op ≠ 12) (h13 : x.op ≠ 13) (hf : formI x p (p + 2) = true) (h0 : 0 ≤ h) (hn : needI x.op ≤ h) :
  Seg C p (p + 1) fun i => if i = p then h else h - needI x.op + leavesI x.op := by
 have hne : nextI x p = [p + 1] := by simp [nextI, h14, h12, h13]
 refine ⟨by omega, fun i h1 h2 => ?_, fun k h1 h2 => ?_⟩
 ·obtain rfl : i = p := by omega
  refine ⟨x, hx, h14, hf, by simp [h0], by simp [hn], fun k hk => ?_⟩
  rw [hne] at hk
  simp at hk
  subst hk
  simp
 ·obtain rfl : k = p + 1 := by omega
  exact ⟨p, x, Nat.le_refl _, by omega, hx, by simp [hne]⟩
theorem Seg.glue {C : Code} {p m q : Nat} {H G : Nat → Int} (h : Seg C p m H) (g : Seg C m q G) (e : H m = G m) : Seg C p q fun i => if i < m then H i else G i := by
 refine ⟨Nat.lt_trans h.lt g.lt, fun i h1 h2 => ?_, fun k h1 h2 => ?_⟩
 ·by_cases hm : i < m
  ·obtain ⟨x, a1, a2, a3, a4, a5, a6⟩ := h.ok i h1 hm
   have := g.lt
   refine ⟨x, a1, a2, form_le a3 (by omega), by simp [hm, a4], by simp [hm, a5], fun k hk => ?_⟩
   obtain ⟨k1, k2, k3⟩ := a6 k hk
   refine ⟨k1, by omega, ?_⟩
   simp only [hm, if_true]
   by_cases hkm : k < m
   ·rw [if_pos hkm]; exact k3
   ·obtain rfl : k = m := by omega
    rw [if_neg hkm, ← e]; exact k3
  ·obtain ⟨x, a1, a2, a3, a4, a5, a6⟩ := g.ok i (by omega) h2
   refine ⟨x, a1, a2, a3, by simp [hm, a4], by simp [hm, a5], fun k hk => ?_⟩
   obtain ⟨k1, k2, k3⟩ := a6 k hk
   refine ⟨k1, k2, ?_⟩
   simp only [hm, if_false]
   rw [if_neg (by omega)]; exact k3
 ·by_cases hm : k ≤ m
  ·exact h.reach k h1 hm
  ·obtain ⟨i, x, a1, a2, a3, a4⟩ := g.reach k (by omega) h2
   exact ⟨i, x, by have := h.lt; omega, a2, a3, a4⟩
/-- What a piece of the compiler lays has heights: it adds one value. -/
def Hgt (F : Code → Code) : Prop := ∀ (c C : Code) (h : Int), (F c).length ≤ 2000 → (∀ i, c.length ≤ i → i < (F c).length → C[i]? = (F c)[i]?) → 0 ≤ h → ∃ H, Seg C c.length (F c).length H ∧ H c.length = h ∧ H (F c).length = h + 1
theorem Hgt.put {x : Ins} (h14 : x.op ≠ 14) (h12 : x.op ≠ 12) (h13 : x.op ≠ 13) (hf : ∀ i, formI x i (i + 2) = true) (hn : needI x.op = 0) (hl : leavesI x.op = 1) : Hgt fun c => putC c x := fun c C h hl' hC h0 => by
 simp only at hl' hC ⊢
 obtain ⟨h1, h2, h3, _⟩ := put_at hl'
 have hi : C[c.length]? = some x := by rw [hC _ (Nat.le_refl _) (by omega)]; exact h3
 rw [h2]
 exact ⟨_, Seg.one (h := h) hi h14 h12 h13 (hf _) h0 (by omega), by simp, by simp [hn, hl]⟩
/-- An instruction behind it that leaves the height as it is, or takes one value of two. -/
theorem Hgt.then {F : Code → Code} {x : Ins} (hF : Hgt F) (pF : Pre F) (h14 : x.op ≠ 14) (h12 : x.op ≠ 12) (h13 : x.op ≠ 13) (hf : ∀ i, formI x i (i + 2) = true) (hn : needI x.op = 1) (hl : leavesI x.op = 1) : Hgt fun c => putC (F c) x := fun c C h hl' hC h0 => by
 simp only at hl' hC ⊢
 obtain ⟨h1, h2, h3, h4⟩ := put_at hl'
 obtain ⟨p1, _⟩ := pF c
 obtain ⟨H, g1, g2, g3⟩ := hF c C h (by omega) (fun i hi hi2 => by rw [hC i hi (by omega), h4 i hi2]) h0
 have hi : C[(F c).length]? = some x := by rw [hC _ p1 (by omega)]; exact h3
 rw [h2]
 refine ⟨_, g1.glue (Seg.one (h := h + 1) hi h14 h12 h13 (hf _) (by omega) (by omega)) (by simp [g3]), ?_, ?_⟩
 ·simp only [g1.lt, if_true]; exact g2
 ·rw [if_neg (by omega), if_neg (by omega), hn, hl]; omega
theorem Hgt.two {F G : Code → Code} {x : Ins} (hF : Hgt F) (hG : Hgt G) (pF : Pre F) (pG : Pre G) (h14 : x.op ≠ 14) (h12 : x.op ≠ 12) (h13 : x.op ≠ 13) (hf : ∀ i, formI x i (i + 2) = true) (hn : needI x.op = 2) (hl : leavesI x.op = 1) :
  Hgt fun c => putC (G (F c)) x := fun c C h hl' hC h0 => by
 simp only at hl' hC ⊢
 obtain ⟨h1, h2, h3, h4⟩ := put_at hl'
 obtain ⟨p1, _⟩ := pF c
 obtain ⟨q1, q2⟩ := pG (F c)
 obtain ⟨H, g1, g2, g3⟩ := hF c C h (by omega) (fun i hi hi2 => by rw [hC i hi (by omega), h4 i (by omega), q2 i hi2]) h0
 obtain ⟨K, k1, k2, k3⟩ := hG (F c) C (h + 1) (by omega) (fun i hi hi2 => by rw [hC i (by omega) (by omega), h4 i hi2]) (by omega)
 have hi : C[(G (F c)).length]? = some x := by rw [hC _ (by omega) (by omega)]; exact h3
 rw [h2]
 have gk := g1.glue k1 (by omega)
 refine ⟨_, gk.glue (Seg.one (h := h + 1 + 1) hi h14 h12 h13 (hf _) (by omega) (by omega)) ?_, ?_, ?_⟩
 ·have := k1.lt
  simp only [if_true]
  rw [if_neg (by omega)]; exact k3
 ·have := g1.lt; have := k1.lt
  rw [if_pos (by omega), if_pos (by omega)]; exact g2
 ·rw [if_neg (by omega), if_neg (by omega), hn, hl]; omega
theorem Hgt.choice {A B D : Code → Code} (hA : Hgt A) (hB : Hgt B) (hD : Hgt D) (pA : Pre A) (pB : Pre B) (pD : Pre D) : Hgt (choiceC A B D) := fun c C h hl hC h0 => by
 unfold choiceC at hl hC ⊢
 obtain ⟨a1, _⟩ := pA c
 obtain ⟨p1, p2⟩ := putC_pre ⟨13, 0, []⟩ (A c)
 have kA := @put_at (A c) ⟨13, 0, []⟩
 generalize hc2 : putC (A c) ⟨13, 0, []⟩ = c2 at *
 obtain ⟨b1, b2⟩ := pB c2
 obtain ⟨q1, q2⟩ := putC_pre ⟨12, 0, []⟩ (B c2)
 have kB := @put_at (B c2) ⟨12, 0, []⟩
 generalize hc4 : putC (B c2) ⟨12, 0, []⟩ = c4 at *
 obtain ⟨d1, d2⟩ := pD (landC c4 (c2.length - 1))
 rw [landC_len] at d1 d2
 have hD' := hD (landC c4 (c2.length - 1)) C
 rw [landC_len] at hl hD' ⊢
 generalize hc6 : D (landC c4 (c2.length - 1)) = c6 at *
 obtain ⟨x1, x2, x3, x4⟩ := kB (by omega)
 obtain ⟨y1, y2, y3, y4⟩ := kA (by omega)
 rw [landC_len] at hC
 have g5 : ∀ i, i < c4.length → i ≠ c2.length - 1 → i ≠ c4.length - 1 → c.length ≤ i → C[i]? = c4[i]? := fun i h1 h2 h3 h4 => by
  rw [hC i h4 (by omega), landC_get _ _ _ h3, d2 i h1, landC_get _ _ _ h2]
 have gA : ∀ i, c.length ≤ i → i < (A c).length → C[i]? = (A c)[i]? := fun i h1 h2 => by
  rw [g5 i (by omega) (by omega) (by omega) h1, x4 i (by omega), b2 i (by omega), y4 i h2]
 have gF : C[(A c).length]? = some ⟨13, (c4.length : Nat), []⟩ := by
  have e : (A c).length = c2.length - 1 := by omega
  rw [hC _ a1 (by omega), landC_get _ _ _ (by omega), d2 _ (by omega), e]
  exact landC_at (x := ⟨13, 0, []⟩) (by rw [← e, x4 _ (by omega), b2 _ (by omega), y3])
 have gB : ∀ i, c2.length ≤ i → i < (B c2).length → C[i]? = (B c2)[i]? := fun i h1 h2 => by
  rw [g5 i (by omega) (by omega) (by omega) (by omega), x4 i h2]
 have gJ : C[(B c2).length]? = some ⟨12, (c6.length : Nat), []⟩ := by
  have e : (B c2).length = c4.length - 1 := by omega
  rw [hC _ (by omega) (by omega), e]
  exact landC_at (x := ⟨12, 0, []⟩) (by rw [← e, d2 _ (by omega), landC_get _ _ _ (by omega), x3])
 have gD : ∀ i, c4.length ≤ i → i < c6.length → C[i]? = c6[i]? := fun i h1 h2 => by
  rw [hC i (by omega) h2, landC_get _ _ _ (by omega)]
 obtain ⟨HA, s1, s2, s3⟩ := hA c C h (by omega) gA h0
 obtain ⟨HB, t1, t2, t3⟩ := hB c2 C h (by omega) gB h0
 obtain ⟨HD, u1, u2, u3⟩ := hD' h (by omega) gD h0
 have l1 := s1.lt; have l2 := t1.lt; have l3 := u1.lt
 generalize (A c).length = la at *
 generalize (B c2).length = lb at *
 have n13 : nextI ⟨13, (c4.length : Nat), []⟩ la = [la + 1, c4.length] := by simp [nextI]
 have n12 : nextI ⟨12, (c6.length : Nat), []⟩ lb = [c6.length] := by simp [nextI]
 refine ⟨fun i => if i ≤ la then HA i else if i ≤ lb then HB i else HD i, ⟨by omega, fun i h1 h2 => ?_, fun k h1 h2 => ?_⟩, by simp only [a1, if_true]; exact s2, by
  simp only
  rw [if_neg (by omega), if_neg (by omega)]; exact u3⟩
 ·by_cases i1 : i < la
  ·obtain ⟨x, w1, w2, w3, w4, w5, w6⟩ := s1.ok i h1 i1
   refine ⟨x, w1, w2, form_le w3 (by omega), by rw [if_pos (by omega)]; exact w4, by rw [if_pos (by omega)]; exact w5, fun k hk => ?_⟩
   obtain ⟨k1, k2, k3⟩ := w6 k hk
   exact ⟨k1, by omega, by rw [if_pos k2, if_pos (by omega)]; exact k3⟩
  by_cases i2 : i = la
  ·subst i2
   refine ⟨_, gF, by simp, by simp [formI]; omega, by simp [s3]; omega, by simp [s3, needI]; omega, fun k hk => ?_⟩
   rw [n13] at hk
   simp only [List.mem_cons, List.not_mem_nil, or_false] at hk
   simp only [Nat.le_refl, if_true, s3]
   rcases hk with rfl | rfl
   ·refine ⟨by omega, by omega, ?_⟩
    rw [if_neg (by omega), if_pos (by omega), ← y2, t2]; simp [needI, leavesI]
   ·refine ⟨by omega, by omega, ?_⟩
    rw [if_neg (by omega), if_neg (by omega), u2]; simp [needI, leavesI]
  by_cases i3 : i < lb
  ·obtain ⟨x, w1, w2, w3, w4, w5, w6⟩ := t1.ok i (by omega) i3
   refine ⟨x, w1, w2, form_le w3 (by omega), by rw [if_neg (by omega), if_pos (by omega)]; exact w4, by rw [if_neg (by omega), if_pos (by omega)]; exact w5, fun k hk => ?_⟩
   obtain ⟨k1, k2, k3⟩ := w6 k hk
   exact ⟨k1, by omega, by rw [if_neg (by omega), if_pos k2, if_neg (by omega), if_pos (by omega)]; exact k3⟩
  by_cases i4 : i = lb
  ·subst i4
   refine ⟨_, gJ, by simp, by simp [formI]; omega, by rw [if_neg (by omega), if_pos (Nat.le_refl _), t3]; omega, by rw [if_neg (by omega), if_pos (Nat.le_refl _), t3]; simp [needI]; omega, fun k hk => ?_⟩
   rw [n12] at hk
   simp only [List.mem_cons, List.not_mem_nil, or_false] at hk
   subst hk
   refine ⟨by omega, by omega, ?_⟩
   rw [if_neg (by omega), if_neg (by omega), if_neg (by omega), if_pos (Nat.le_refl _), t3, u3]; simp [needI, leavesI]
  ·obtain ⟨x, w1, w2, w3, w4, w5, w6⟩ := u1.ok i (by omega) h2
   refine ⟨x, w1, w2, w3, by rw [if_neg (by omega), if_neg (by omega)]; exact w4, by rw [if_neg (by omega), if_neg (by omega)]; exact w5, fun k hk => ?_⟩
   obtain ⟨k1, k2, k3⟩ := w6 k hk
   exact ⟨k1, k2, by rw [if_neg (by omega), if_neg (by omega), if_neg (by omega), if_neg (by omega)]; exact k3⟩
 ·by_cases k1 : k ≤ la
  ·exact s1.reach k h1 k1
  by_cases k2 : k = la + 1
  ·exact ⟨la, _, a1, by omega, gF, by rw [n13]; simp [k2]⟩
  by_cases k3 : k ≤ lb
  ·obtain ⟨i, x, r1, r2, r3, r4⟩ := t1.reach k (by omega) k3
   exact ⟨i, x, by omega, r2, r3, r4⟩
  by_cases k4 : k = c4.length
  ·exact ⟨la, _, a1, by omega, gF, by rw [n13]; simp [k4]⟩
  ·obtain ⟨i, x, r1, r2, r3, r4⟩ := u1.reach k (by omega) h2
   exact ⟨i, x, by omega, r2, r3, r4⟩
theorem Hgt.num {a : Int} (h : -1099511627776 ≤ a) (h' : a ≤ 1099511627776) : Hgt fun c => putC c ⟨0, a, []⟩ :=
 Hgt.put (by simp) (by simp) (by simp) (fun i => by simp [formI]; omega) (by simp [needI]) (by simp [leavesI])
theorem Hgt.name {s : List UInt8} (h : nameB s = true) : Hgt fun c => putC c ⟨1, 0, s⟩ :=
 Hgt.put (by simp) (by simp) (by simp) (fun i => by simp [formI, h]) (by simp [needI]) (by simp [leavesI])
theorem Hgt.not {F : Code → Code} (hF : Hgt F) (pF : Pre F) : Hgt fun c => putC (F c) ⟨11, 0, []⟩ :=
 hF.then pF (by simp) (by simp) (by simp) (fun i => by simp [formI]) (by simp [needI]) (by simp [leavesI])
theorem Hgt.truth {F : Code → Code} (hF : Hgt F) (pF : Pre F) : Hgt fun c => truthC (F c) := (hF.not pF).not (pF.comp (Pre.put _))
theorem Hgt.bin {F G : Code → Code} {op : Int} (hF : Hgt F) (hG : Hgt G) (pF : Pre F) (pG : Pre G) (h : 2 ≤ op) (h' : op ≤ 10) : Hgt fun c => putC (G (F c)) ⟨op, 0, []⟩ :=
 hF.two hG pF pG (by simp; omega) (by simp; omega) (by simp; omega) (fun i => by
  simp only [formI]
  rw [if_neg (by omega), if_neg (by omega), if_neg (by omega)]
  simp; omega) (by simp only [needI]; rw [if_neg (by omega), if_neg (by omega)]) (by simp only [leavesI]; rw [if_neg (by omega)])
end Go.Proofs.YtkdhmbhbbciedaaGreatDoor
namespace Go.Proofs.YtkdhmbhbbciedaaGreatDoor
open Go Go.VL
theorem rgo_none {l : Code} {i : Nat} (h : rgo l i = none) : ∀ k, rgo l (i + k) = none
 | 0 => h
 | k + 1 => by rw [← Nat.add_assoc, rgo, rgo_none h k]; rfl
def hi1 (n i : Nat) : List Int := 0 :: (List.replicate i (-1) ++ List.replicate (n - i) 0)
theorem hi1_zero (n : Nat) : hi1 n 0 = List.replicate (n + 1) 0 := by simp [hi1, List.replicate_succ]
theorem hi1_set {n i : Nat} (h : i < n) : (hi1 n i).set (i + 1) (-1) = hi1 n (i + 1) := by
 unfold hi1
 rw [List.set_cons_succ, List.set_append_right _ _ (by simp), List.length_replicate, Nat.sub_self]
 have : n - i = (n - (i + 1)) + 1 := by omega
 rw [this, List.replicate_succ, List.set_cons_zero]
 congr 1
 rw [List.replicate_succ', List.append_assoc]
 rfl
theorem hi1_len {n i : Nat} (h : i ≤ n) : (hi1 n i).length = n + 1 := by simp [hi1]; omega
theorem hi1_all (n : Nat) : hi1 n n = 0 :: List.replicate n (-1) := by simp [hi1]
/-- Where the second loop stands. -/
structure HiAt (l : Code) where
 i : Nat
 hi : List Int
 hle : i ≤ l.length
 go : rgo l i = some hi
 len : hi.length = l.length + 1
 lo : ∀ z ∈ hi, -1 ≤ z ∧ z ≤ i
theorem forms_take {l : Code} (h : ∀ j x, l[j]? = some x → formI x j l.length = true) : formsB l = true := by
 refine List.all_eq_true.2 fun i _ => ?_
 cases hx : l[i]? with
 | none => rfl
 | some x => exact h i x hx
theorem next_in {l : Code} (hf : formsB l = true) {i : Nat} {x : Ins} (hx : l[i]? = some x) : ∀ k ∈ nextI x i, i < k ∧ k ≤ l.length := by
 have h := forms_at hf hx
 have hi := (List.getElem?_eq_some_iff.1 hx).1
 intro k hk
 unfold nextI at hk
 unfold formI at h
 by_cases h14 : x.op = 14
 ·simp [h14] at hk
 by_cases h12 : x.op = 12
 ·simp [h12] at hk h
  omega
 by_cases h13 : x.op = 13
 ·simp [h13] at hk h
  omega
 ·simp [h12, h13, h14] at hk
  omega
/-- Where the loop over the next instructions stands. -/
structure NxAt (ks : List Nat) (h : Int) (hi : List Int) (i : Nat) where
 j : Nat
 hj : List Int
 hle : j ≤ ks.length
 go : setsH h ks hi = setsH h (ks.drop j) hj
 len : hj.length = hi.length
 at_i : hj[i]? = hi[i]?
 lo : ∀ z ∈ hj, -1 ≤ z ∧ z ≤ i + 1
theorem needI_le (op : Int) : 0 ≤ needI op ∧ needI op ≤ 2 := by
 unfold needI
 split
 ·omega
 ·split <;> omega
theorem leavesI_le (op : Int) : 0 ≤ leavesI op ∧ leavesI op ≤ 1 := by unfold leavesI; split <;> omega
theorem rgo_step {l : Code} {i : Nat} {hi : List Int} {y : Ins} {v : Int} (go : rgo l i = some hi) (hy : l[i]? = some y) (hv : hi[i]? = some v) : rgo l (i + 1) = if v < 0 then some hi
  else if v < needI y.op ∨ (y.op = 14 ∧ v ≠ 1) then none else setsH (v - needI y.op + leavesI y.op) (nextI y i) hi := by
 have : hi.getD i (-1) = v := by simp [List.getD, hv]
 rw [rgo, go]
 show rstep l i hi = _
 unfold rstep
 rw [hy, this]
theorem right_none {l : Code} {i : Nat} (h : rgo l (i + 1) = none) (hi : i < l.length) : rightC l = false := by
 have := rgo_none h (l.length - (i + 1))
 rw [show i + 1 + (l.length - (i + 1)) = l.length by omega] at this
 unfold rightC
 rw [this]
 simp
theorem setsH_drop {h : Int} {ks : List Nat} {hi : List Int} {j k : Nat} (hk : ks[j]? = some k) : setsH h (ks.drop j) hi = (setH hi k h).bind (setsH h (ks.drop (j + 1))) := by
 obtain ⟨h1, h2⟩ := List.getElem?_eq_some_iff.1 hk
 rw [List.drop_eq_getElem_cons h1, h2, setsH]
end Go.Proofs.YtkdhmbhbbciedaaGreatDoor
namespace Go.Proofs.YtkdhmbhbbciedaaGreatDoor
open Go Go.VL
def wordsL : List (List UInt8) := [[110, 117, 109], [110, 97, 109, 101], [97, 100, 100], [115, 117, 98], [109, 117, 108], [100, 105, 118], [115, 99, 97, 108, 101], [109, 105, 110], [109, 97, 120], [108, 101, 115, 115], [101, 113], [110, 111, 116], [106, 117, 109, 112], [102, 97, 108, 115, 101], [101, 110, 100]]
def wordC (op : Int) : List UInt8 := wordsL.getD op.toNat []
/-- The line of an instruction. -/
def lineC (x : Ins) : List UInt8 := wordC x.op ++ (if x.op = 0 ∨ x.op = 12 ∨ x.op = 13 then 32 :: Lib.itoa x.a else if x.op = 1 then 32 :: x.s else []) ++ [10]
def listC (l : Code) : List UInt8 := (l.map lineC).flatten
end Go.Proofs.YtkdhmbhbbciedaaGreatDoor
namespace Go.Proofs.YtkdhmbhbbciedaaGreatDoor
open Go Go.VL
abbrev insR (c : Code) : List (List D) := c.map fun i => [.u (.int .i64 i.op), .u (.int .i64 i.a), .u (.str i.s)]
abbrev cOb (lets : List Let) (shs : List Bool) (q : Nat) (c : Code) : Ob := .box [.u (letsU lets), .u (boolsU shs), .vec q c.length]
abbrev kOb (c : Code) : Ob := .vec 44 3 (insR c)
theorem insR_lenR (c : Code) : lenR 3 (insR c) := by intro r hr; obtain ⟨i, _, rfl⟩ := List.mem_map.1 hr; rfl
theorem pure_insR (c : Code) : pureRows (insR c) := by
 induction c with
 | nil => simp [insR, pureRows]
 | cons a l ih => simp only [insR] at ih; simp [insR, pureRows, pureRow, ih]
theorem insR_set (c : Code) (j : Nat) (x : Ins) : (insR c).set j [.u (.int .i64 x.op), .u (.int .i64 x.a), .u (.str x.s)] = insR (c.set j x) := by simp [insR]
theorem insR_at {c : Code} {j : Nat} {x : Ins} (h : c[j]? = some x) : (insR c)[j]? = some [.u (.int .i64 x.op), .u (.int .i64 x.a), .u (.str x.s)] := by simp [insR, h]
theorem insR_len (c : Code) : (insR c).length = c.length := by simp [insR]
end Go.Proofs.YtkdhmbhbbciedaaGreatDoor
namespace Go.Proofs.YtkdhmbhbbciedaaGreatDoor
open Go Go.VL
def Cap (F : Code → Code) : Prop := ∀ c : Code, c.length ≤ 2001 → (F c).length ≤ 2001
theorem Cap.put (x : Ins) : Cap fun c => putC c x := fun c h => by
 show (putC c x).length ≤ 2001
 rw [putC_len]; split <;> omega
theorem Cap.comp {F G : Code → Code} (hF : Cap F) (hG : Cap G) : Cap fun c => G (F c) := fun c h => hG _ (hF c h)
theorem Cap.truth : Cap truthC := (Cap.put _).comp (Cap.put _)
theorem Cap.choice {A B D : Code → Code} (hA : Cap A) (hB : Cap B) (hD : Cap D) : Cap (choiceC A B D) := fun c h => by
 unfold choiceC
 rw [landC_len]
 refine hD _ ?_
 rw [landC_len]
 exact Cap.put _ _ (hB _ (Cap.put _ _ (hA c h)))
mutual
theorem genT_cap {nm : List UInt8 → Code → Code} {sh : Exp → Bool} (hn : ∀ s, Cap (nm s)) : ∀ e : Exp, Cap (genT nm sh e)
 | .mk op n u s args => fun c hc2 => by
  have h := fun i => genN_cap (sh := sh) hn args i
  have hA := genA_cap (sh := sh) hn args
  rw [genT]
  simp only
  split
  ·exact hc2
  split
  ·exact Cap.put _ c hc2
  split
  ·exact hn s c hc2
  split
  ·exact Cap.choice (h 0) ((h 1).comp Cap.truth) (Cap.put _) c hc2
  split
  ·exact Cap.choice (h 0) (Cap.put _) ((h 1).comp Cap.truth) c hc2
  split
  ·exact Cap.choice (h 0) (h 1) (h 2) c hc2
  ·exact (hA.comp (Cap.put _)) c hc2
theorem genN_cap {nm : List UInt8 → Code → Code} {sh : Exp → Bool} (hn : ∀ s, Cap (nm s)) : ∀ (l : List Exp) (i : Nat), Cap (genN nm sh l i)
 | [], i => by rw [genN]; exact fun _ h => h
 | e :: l, 0 => by rw [genN]; exact genT_cap hn e
 | e :: l, i + 1 => by rw [genN]; exact genN_cap hn l i
theorem genA_cap {nm : List UInt8 → Code → Code} {sh : Exp → Bool} (hn : ∀ s, Cap (nm s)) : ∀ (l : List Exp), Cap (genA nm sh l)
 | [] => by rw [genA]; exact fun _ h => h
 | e :: l => by rw [genA]; exact (genT_cap hn e).comp (genA_cap hn l)
end
theorem nmC_cap {lets sh} : ∀ (n : Nat) (s : List UInt8), Cap (nmC lets sh n s)
 | 0, s => by rw [nmC]; exact Cap.put _
 | n + 1, s => by
  rw [nmC]
  split
  ·exact Cap.put _
  ·split
   ·exact genT_cap (nmC_cap n) _
   ·exact nmC_cap n s
def ExpX (lets : List Let) (shs : List Bool) (m n : Nat) (e : Exp) (F : Code → Code) : Prop := ∀ (c : Code) (q nx : Nat), m < nx → q < nx → m ≠ q → c.length ≤ 2001 → RetX Tryz.prog 36 [.ptr m 0, .u (.int .i64 n), eagg e] [(m, cOb lets shs q c), (q, kOb c)] nx
  fun r o n' => r = .val (.tup []) ∧ o = [(m, cOb lets shs nx (F c)), (nx, kOb (F c))] ∧ n' = nx + 1
def ChoX (lets : List Let) (shs : List Bool) (m n : Nat) (e : Exp) (F : Code → Code) : Prop := ∀ (c : Code) (q nx : Nat), m < nx → q < nx → m ≠ q → c.length ≤ 2001 → RetX Tryz.prog 67 [.ptr m 0, .u (.int .i64 n), eagg e] [(m, cOb lets shs q c), (q, kOb c)] nx
  fun r o n' => r = .val (.tup []) ∧ o = [(m, cOb lets shs nx (F c)), (nx, kOb (F c))] ∧ n' = nx + 1
end Go.Proofs.YtkdhmbhbbciedaaGreatDoor
namespace Go.Proofs.YtkdhmbhbbciedaaGreatDoor
open Go Go.VL
theorem allU2_insR (c : Code) : allU2 (insR c) = some (c.map fun i => [.int .i64 i.op, .int .i64 i.a, .str i.s]) := by
 have : insR c = (c.map fun i => [U.int .i64 i.op, .int .i64 i.a, .str i.s]).map (·.map D.u) := by simp [insR]
 rw [this, allU2_map]
theorem insR_take (c : Code) : (insR c).take c.length = insR c := by rw [← insR_len, List.take_length]
theorem nmC_last {lets : List Let} {sh : Nat → Exp → Bool} (s : List UInt8) : ∀ {n : Nat}, n ≤ lets.length → nmC lets sh n s = match lastI lets n s with | none => fun c => putC c ⟨1, 0, s⟩ | some i => match lets[i]? with | some l => genT (nmC lets sh i) (sh i) l.body | none => fun c => c
 | 0, _ => by rw [nmC]; rfl
 | n + 1, h => by
  have hl : lets[n]? = some lets[n] := List.getElem?_eq_getElem (by omega)
  rw [nmC, lastI, hl]
  simp only
  by_cases hs : lets[n].name = s
  ·rw [if_pos hs, if_pos hs]
   simp only [hl]
  ·rw [if_neg hs, if_neg hs]
   exact nmC_last s (by omega)
end Go.Proofs.YtkdhmbhbbciedaaGreatDoor
namespace Go.Proofs.YtkdhmbhbbciedaaGreatDoor
open Go Go.VL
theorem plainOp_range {sh : Exp → Bool} {op : Int} {args : List Exp} (h : op ≠ 12) : 2 ≤ plainOp sh op args ∧ plainOp sh op args ≤ 10 := by
 unfold plainOp
 repeat' split
 all_goals omega
theorem gen_hgt {nm : List UInt8 → Code → Code} {sh : Exp → Bool} (hn : ∀ s, Pre (nm s)) (hN : ∀ s, nameB s = true → Hgt (nm s)) :
  ∀ (d : Nat) (e : Exp), rightB d e = true → Hgt (genT nm sh e)
 | 0, e, h => by simp [rightB] at h
 | d + 1, e, h => by
  obtain ⟨h1, h2, h3, h4⟩ := right_args h
  have hpre := fun x => genT_pre (nm := nm) (sh := sh) hn x
  suffices hs : ∀ (F : Code → Code), (∀ c : Code, c.length ≤ 2000 → genT nm sh e c = F c) → Hgt F → Hgt (genT nm sh e) by
   have hb := h
   rw [rightB] at hb
   simp only [Bool.and_eq_true] at hb
   by_cases h0 : e.op = 0
   ·have hnum := hb.2
    rw [if_pos h0] at hnum
    simp only [numB, Bool.and_eq_true, decide_eq_true_eq] at hnum
    refine hs _ (fun c hc => ?_) (Hgt.num (a := e.n) (by omega) (by have := hnum.2; split at this <;> omega))
    rw [genT_eq, if_neg (by omega), if_pos h0]
   by_cases hnm : e.op = 1
   ·have hname := hb.2
    rw [if_neg h0] at hname
    have hnu : ¬ (e.n ≠ 0 ∨ e.unit ≠ 0) := fun hnu => by rw [if_pos hnu] at hname; cases hname
    rw [if_neg hnu, if_pos hnm] at hname
    refine hs _ (fun c hc => ?_) (hN e.s hname)
    rw [genT_eq, if_neg (by omega), if_neg h0, if_pos hnm]
   have hr := h4 h0 hnm
   have two : ∀ {n : Nat}, operandsI e.op = n → e.args.length = n := fun hq => by rw [hq] at h1; omega
   by_cases hA : e.op = 10
   ·match hq : e.args, two (n := 2) (by rw [hA]; rfl) with
    | [a, b], _ =>
     have ga := gen_hgt (sh := sh) hn hN d a (hr a (by simp [hq]))
     have gb := gen_hgt (sh := sh) hn hN d b (hr b (by simp [hq]))
     refine hs (choiceC (genT nm sh a) (fun c => truthC (genT nm sh b c)) (fun c => putC c ⟨0, 0, []⟩)) (fun c hc => ?_) (Hgt.choice ga (gb.truth (hpre b)) (Hgt.num (by omega) (by omega)) (hpre a) ((hpre b).comp Pre.truth) (Pre.put _))
     rw [genT_eq, if_neg (by omega), if_neg h0, if_neg hnm, if_pos hA, hq, genN_at (i := 0) (e := a) rfl, genN_at (i := 1) (e := b) rfl]
   by_cases hO : e.op = 11
   ·match hq : e.args, two (n := 2) (by rw [hO]; rfl) with
    | [a, b], _ =>
     have ga := gen_hgt (sh := sh) hn hN d a (hr a (by simp [hq]))
     have gb := gen_hgt (sh := sh) hn hN d b (hr b (by simp [hq]))
     refine hs (choiceC (genT nm sh a) (fun c => putC c ⟨0, 1, []⟩) (fun c => truthC (genT nm sh b c))) (fun c hc => ?_) (Hgt.choice ga (Hgt.num (by omega) (by omega)) (gb.truth (hpre b)) (hpre a) (Pre.put _) ((hpre b).comp Pre.truth))
     rw [genT_eq, if_neg (by omega), if_neg h0, if_neg hnm, if_neg hA, if_pos hO, hq, genN_at (i := 0) (e := a) rfl, genN_at (i := 1) (e := b) rfl]
   by_cases hI : e.op = 13
   ·match hq : e.args, two (n := 3) (by rw [hI]; rfl) with
    | [a, b, x], _ =>
     have ga := gen_hgt (sh := sh) hn hN d a (hr a (by simp [hq]))
     have gb := gen_hgt (sh := sh) hn hN d b (hr b (by simp [hq]))
     have gx := gen_hgt (sh := sh) hn hN d x (hr x (by simp [hq]))
     refine hs (choiceC (genT nm sh a) (genT nm sh b) (genT nm sh x)) (fun c hc => ?_) (Hgt.choice ga gb gx (hpre a) (hpre b) (hpre x))
     rw [genT_eq, if_neg (by omega), if_neg h0, if_neg hnm, if_neg hA, if_neg hO, if_pos hI, hq, genN_at (i := 0) (e := a) rfl, genN_at (i := 1) (e := b) rfl, genN_at (i := 2) (e := x) rfl]
   have hg : ∀ c : Code, c.length ≤ 2000 → genT nm sh e c = putC (genA nm sh e.args c) ⟨plainOp sh e.op e.args, 0, []⟩ := fun c hc => by
    rw [genT_eq, if_neg (by omega), if_neg h0, if_neg hnm, if_neg hA, if_neg hO, if_neg hI]
   by_cases hT : e.op = 12
   ·match hq : e.args, two (n := 1) (by rw [hT]; rfl) with
    | [a], _ =>
     have ga := gen_hgt (sh := sh) hn hN d a (hr a (by simp [hq]))
     refine hs (fun c => putC (genT nm sh a c) ⟨11, 0, []⟩) (fun c hc => ?_) (ga.not (hpre a))
     rw [hg c hc, hq, genA, genA]
     simp [plainOp, hT]
   ·match hq : e.args, two (n := 2) (by
      have h5 := h2; have h6 := h3
      have : e.op = 2 ∨ e.op = 3 ∨ e.op = 4 ∨ e.op = 5 ∨ e.op = 6 ∨ e.op = 7 ∨ e.op = 8 ∨ e.op = 9 := by omega
      rcases this with h | h | h | h | h | h | h | h <;> rw [h] <;> rfl) with
    | [a, b], _ =>
     have ga := gen_hgt (sh := sh) hn hN d a (hr a (by simp [hq]))
     have gb := gen_hgt (sh := sh) hn hN d b (hr b (by simp [hq]))
     obtain ⟨o1, o2⟩ := plainOp_range (sh := sh) (op := e.op) (args := e.args) hT
     refine hs (fun c => putC (genT nm sh b (genT nm sh a c)) ⟨plainOp sh e.op e.args, 0, []⟩) (fun c hc => ?_) (Hgt.bin ga gb (hpre a) (hpre b) o1 o2)
     rw [hg c hc, hq, genA, genA, genA]
  intro F hF hH c C h hl hC h0
  by_cases hc : c.length ≤ 2000
  ·rw [hF c hc] at hl hC ⊢
   exact hH c C h hl hC h0
  ·have := (hpre e c).1
   omega
theorem nm_hgt {lets : List Let} {sh : Nat → Exp → Bool} (hr : ∀ l ∈ lets, rightB 12 l.body = true) : ∀ (n : Nat) (s : List UInt8), nameB s = true → Hgt (nmC lets sh n s)
 | 0, s, h => by rw [nmC]; exact Hgt.name h
 | n + 1, s, h => by
  rw [nmC]
  split
  ·exact Hgt.name h
  ·rename_i l hl
   split
   ·exact gen_hgt (fun t => nmC_pre n t) (fun t ht => nm_hgt hr n t ht) 12 l.body (hr l (List.mem_of_getElem? hl))
   ·exact nm_hgt hr n s h
theorem comp_heights {lets : List Let} {e : Exp} (hr : rightAll lets e = true) (hl : (compL lets e).length < 2000) : ∃ H, Hts (compL lets e ++ [⟨14, 0, []⟩]) H ∧ formsB (compL lets e ++ [⟨14, 0, []⟩]) = true ∧
  ∀ (i : Nat) (x : Ins), (compL lets e)[i]? = some x → Vm.Ins.op x ≠ 14 := by
 obtain ⟨_, h2, h3⟩ := rights_out hr
 have hC : (genT (nmC lets (shF lets) lets.length) (shF lets lets.length) e []) = compL lets e := rfl
 obtain ⟨H, s, e1, e2⟩ := gen_hgt (sh := shF lets lets.length) (fun t => nmC_pre (sh := shF lets) lets.length t) (fun t ht => nm_hgt (sh := shF lets) h3 lets.length t ht) 12 e h2 [] (compL lets e ++ [⟨14, 0, []⟩]) 0 (Nat.le_of_lt hl) (fun i _ hi => List.getElem?_append_left hi) (by omega)
 rw [hC] at s e2
 simp only [List.length_nil] at s e1
 generalize compL lets e = L at *
 have hend : (L ++ [⟨14, 0, []⟩] : Code)[L.length]? = some ⟨14, 0, []⟩ := by simp
 have hlen : (L ++ [⟨14, 0, []⟩] : Code).length = L.length + 1 := by simp
 refine ⟨H, ⟨e1, fun i x hx => ?_, fun k h1 h4 => ?_⟩, ?_, fun i x hx => ?_⟩
 ·by_cases hi : i < L.length
  ·obtain ⟨y, w1, w2, w3, w4, w5, w6⟩ := s.ok i (by omega) hi
   rw [w1] at hx
   cases hx
   refine ⟨w4, w5, fun h14 => absurd h14 w2, fun k hk => ?_⟩
   obtain ⟨k1, k2, k3⟩ := w6 k hk
   exact ⟨k1, by omega, k3⟩
  ·have hi2 := (List.getElem?_eq_some_iff.1 hx).1
   obtain rfl : i = L.length := by omega
   rw [hend] at hx
   cases hx
   rw [e2]
   exact ⟨by omega, by simp [needI], fun _ => by omega, fun k hk => by simp [nextI] at hk⟩
 ·obtain ⟨i, x, r1, r2, r3, r4⟩ := s.reach k h1 (by omega)
  exact ⟨i, x, r2, r3, r4⟩
 ·refine List.all_eq_true.2 fun i hi => ?_
  rw [List.mem_range, hlen] at hi
  by_cases hi2 : i < L.length
  ·obtain ⟨y, w1, w2, w3, _⟩ := s.ok i (by omega) hi2
   rw [w1, hlen]
   exact w3
  ·obtain rfl : i = L.length := by omega
   rw [hend]
   simp [formI]
 ·have hi := (List.getElem?_eq_some_iff.1 hx).1
  obtain ⟨y, w1, w2, _⟩ := s.ok i (by omega) hi
  rw [List.getElem?_append_left hi, hx] at w1
  cases w1
  exact w2
theorem comp_right {lets : List Let} {e : Exp} (hr : rightAll lets e = true) (hl : (compL lets e).length < 2000) : rightC (compL lets e ++ [⟨14, 0, []⟩]) = true := by
 obtain ⟨H, h1, h2, _⟩ := comp_heights hr hl
 exact right_of h1 (by simp) (by simp; omega) h2
end Go.Proofs.YtkdhmbhbbciedaaGreatDoor
namespace Go.Proofs.YtkdhmbhbbciedaaGreatDoor
open Go Go.VL
/-- Where a step leads: to an end that is no malformed one, or further on. -/
def Goes (C : Code) (H : Nat → Int) (i : Nat) (m : Vm.Mach) : Prop :=
 (m.en = true ∧ m.er ≠ 16 ∧ m.er ≠ 2) ∨ (m.en = false ∧ ∃ j : Nat, i < j ∧ j < C.length ∧ m.pc = j ∧ (m.stack.length : Int) = H j ∧ (m.stack.any fun n => !Vm.okv n) = false)
theorem goes_push {C : Code} {H : Nat → Int} {i : Nat} {m : Vm.Mach} (y : Int) (he : m.en = false) (hp : m.pc = i) (hb : (m.stack.any fun n => !Vm.okv n) = false) (h1 : i + 1 < C.length) (h2 : H (i + 1) = m.stack.length + 1) : Goes C H i (m.push y) := by
 unfold Vm.Mach.push
 by_cases hy : Vm.okv y = true
 ·rw [if_pos hy]
  refine .inr ⟨he, i + 1, by omega, h1, by simp [hp], by simp [h2], ?_⟩
  simp only [List.any_append, hb, Bool.false_or]
  simp [hy]
 ·rw [if_neg hy]
  exact .inl ⟨rfl, by simp [Vm.Mach.fin], by simp [Vm.Mach.fin]⟩
theorem drop_any {m : Vm.Mach} (k : Nat) (hb : (m.stack.any fun n => !Vm.okv n) = false) : ((m.drop k).stack.any fun n => !Vm.okv n) = false := by
 rw [List.any_eq_false] at hb ⊢
 exact fun x hx => hb x (List.mem_of_mem_take hx)
theorem drop_length {m : Vm.Mach} (k : Nat) : (m.drop k).stack.length = m.stack.length - k := by simp [Vm.Mach.drop]
theorem form_op {x : Ins} {i n : Nat} (h : formI x i n = true) : 0 ≤ x.op ∧ x.op < 15 ∧ ((x.op = 12 ∨ x.op = 13) → (i : Int) < x.a) := by
 unfold formI at h
 split at h
 ·rename_i e; rw [e]; omega
 split at h
 ·rename_i e; rw [e]; omega
 split at h
 ·rename_i e; simp at h; exact ⟨by omega, by omega, fun _ => h.1.2⟩
 ·rename_i e; simp at h; exact ⟨h.1.2, h.2, fun e2 => absurd e2 e⟩
theorem run_ok {C : Code} {H : Nat → Int} (h : Hts C H) (hf : formsB C = true) (vs : List Vm.Var) (fuel : Int) : ∀ (k : Nat) (n : Int) (m : Vm.Mach) (i : Nat), m.en = false → m.pc = i → i < C.length → (m.stack.length : Int) = H i →
  (m.stack.any fun n => !Vm.okv n) = false → C.length - i ≤ k → (Vm.runK C vs fuel k n m).2.2 ≠ 16 ∧ (Vm.runK C vs fuel k n m).2.2 ≠ 2
 | 0, n, m, i, he, hp, hi, hs, hb, hk => by omega
 | k + 1, n, m, i, he, hp, hi, hs, hb, hk => by
  have hx : C[i]? = some C[i] := List.getElem?_eq_getElem hi
  generalize C[i] = x at hx
  obtain ⟨h1, h2, h3, h4⟩ := h.ok i x hx
  obtain ⟨o1, o2, o3⟩ := form_op (forms_at hf hx)
  have hst : Vm.stepM C vs m = Vm.stepI vs m x := by
   rw [Vm.stepM_eq (by omega) (by rw [hp]; simpa using hx), if_neg]
   have : Vm.needs x.op = needI x.op := rfl
   rw [this, hb]
   simp
   omega
  have key : Goes C H i (Vm.stepI vs m x) := by
   have nx : x.op ≠ 14 → x.op ≠ 12 → i + 1 ∈ nextI x i := fun e1 e2 => by
    unfold nextI
    rw [if_neg e1, if_neg e2]
    split <;> simp
   unfold Vm.stepI
   split
   ·rename_i e
    obtain ⟨q1, q2, q3⟩ := h4 _ (nx (by omega) (by omega))
    exact goes_push _ he hp hb q2 (by rw [q3, hs]; simp [needI, leavesI, e])
   split
   ·rename_i e
    obtain ⟨q1, q2, q3⟩ := h4 _ (nx (by omega) (by omega))
    split
    ·exact .inl ⟨rfl, by simp [Vm.Mach.fin], by simp [Vm.Mach.fin]⟩
    ·exact goes_push _ he hp hb q2 (by rw [q3, hs]; simp [needI, leavesI, e])
   split
   ·rename_i e
    have ha := o3 (.inl e)
    obtain ⟨q1, q2, q3⟩ := h4 x.a.toNat (by simp [nextI, e])
    exact .inr ⟨he, x.a.toNat, q1, q2, by simp; omega, by simp only; rw [q3, hs]; simp [needI, leavesI, e], hb⟩
   split
   ·rename_i e
    have ha := o3 (.inr e)
    have hl := drop_length (m := m) 1
    have hd := drop_any 1 hb
    have hn : (1 : Int) ≤ H i := by simpa [needI, e] using h2
    have a1 := h4 x.a.toNat (by simp [nextI, e])
    have a2 := h4 (i + 1) (by simp [nextI, e])
    have hv : H i - needI x.op + leavesI x.op = H i - 1 := by simp [needI, leavesI, e]
    rw [hv] at a1 a2
    refine .inr ⟨he, if m.top 0 = 0 then x.a.toNat else i + 1, ?_, ?_, ?_, ?_, hd⟩
    ·split
     ·exact a1.1
     ·exact a2.1
    ·split
     ·exact a1.2.1
     ·exact a2.2.1
    ·simp only
     split <;> omega
    ·simp only
     rw [hl]
     split
     ·rw [a1.2.2]; omega
     ·rw [a2.2.2]; omega
   split
   ·exact .inl ⟨rfl, by simp [Vm.Mach.fin], by simp [Vm.Mach.fin]⟩
   split
   ·rename_i e
    obtain ⟨q1, q2, q3⟩ := h4 _ (nx (by omega) (by omega))
    have hl := drop_length (m := m) 1
    have hn : (1 : Int) ≤ H i := by simpa [needI, e] using h2
    exact goes_push _ he hp (drop_any 1 hb) q2 (by rw [q3, hl]; simp [needI, leavesI, e]; omega)
   split
   ·exact .inl ⟨rfl, by simp [Vm.Mach.fin], by simp [Vm.Mach.fin]⟩
   ·rename_i e0 e1 e12 e13 e14 e11 _
    obtain ⟨q1, q2, q3⟩ := h4 _ (nx e14 e12)
    have hl := drop_length (m := m) 2
    have hv : needI x.op = 2 ∧ leavesI x.op = 1 := by
     unfold needI leavesI
     rw [if_neg (by omega), if_neg (by omega), if_neg (by omega)]
     exact ⟨rfl, rfl⟩
    rw [hv.1] at h2 q3
    rw [hv.2] at q3
    exact goes_push _ he hp (drop_any 2 hb) q2 (by rw [q3, hl]; omega)
  rw [Vm.runK]
  simp only [hst]
  rcases key with ⟨e1, e2, e3⟩ | ⟨e1, j, g1, g2, g3, g4, g5⟩
  ·rw [if_pos e1]
   exact ⟨e2, e3⟩
  ·rw [if_neg (by simp [e1])]
   exact run_ok h hf vs fuel k (n + 1) _ j e1 g3 g2 g4 g5 (by omega)
theorem run_compiled_ok {lets : List Let} {e : Exp} {c : Code} (hc : compP lets e = (c, 0)) (vs : List Vm.Var) : (Vm.runM c vs 100000).2.2 ≠ 16 ∧ (Vm.runM c vs 100000).2.2 ≠ 2 := by
 unfold compP at hc
 split at hc
 ·rename_i hr
  split at hc
  ·cases hc
  ·rename_i hl
   obtain rfl := congrArg Prod.fst hc
   obtain ⟨H, h1, h2, _⟩ := comp_heights hr (by omega)
   unfold Vm.runM
   rw [if_neg (by omega)]
   refine run_ok h1 h2 vs 100000 _ 0 Vm.run0 0 rfl rfl (by simp) (by rw [h1.zero]; rfl) rfl ?_
   simp
   omega
 ·cases hc
theorem comp_ok {lets : List Let} {e : Exp} {c : Code} (hc : compP lets e = (c, 0)) : rightC c = true := by
 unfold compP at hc
 split at hc
 ·rename_i hr
  split at hc
  ·cases hc
  ·rename_i hl
   obtain rfl := congrArg Prod.fst hc
   exact comp_right hr (by omega)
 ·cases hc
end Go.Proofs.YtkdhmbhbbciedaaGreatDoor
namespace Go.Proofs.YtkdhmbhbbciedaaGreatDoor
open Go Go.VL
end Go.Proofs.YtkdhmbhbbciedaaGreatDoor
namespace Go.Proofs.YtkdhmbhbbciedaaGreatDoor
open Go Go.VL
abbrev letR (l : Let) : List U := [.str l.name, .int .i64 l.body.op, .int .i64 l.body.n, .int .i64 l.body.unit, .str l.body.s, .sl (l.body.args.map Exp.row)]
end Go.Proofs.YtkdhmbhbbciedaaGreatDoor
namespace Go.Proofs.YtkdhmbhbbciedaaGreatDoor
open Go Go.VL
theorem sets_two (h : Int) (a b : Nat) (hi : List Int) : setsH h [a, b] hi = setsH h [b, a] hi := by
 by_cases e : a = b
 ·rw [e]
 ·simp only [setsH, setH]
  have g1 : ∀ v : Int, (hi.set a v).getD b (-1) = hi.getD b (-1) := fun v => by
   simp [List.getD, List.getElem?_set_ne e]
  have g2 : ∀ v : Int, (hi.set b v).getD a (-1) = hi.getD a (-1) := fun v => by
   simp [List.getD, List.getElem?_set_ne (Ne.symm e)]
  by_cases h1 : 0 ≤ hi.getD a (-1) ∧ hi.getD a (-1) ≠ h
  ·rw [if_pos h1]
   by_cases h2 : 0 ≤ hi.getD b (-1) ∧ hi.getD b (-1) ≠ h
   ·rw [if_pos h2]; rfl
   ·rw [if_neg h2]
    simp [setsH, setH, List.getElem?_set_ne (Ne.symm e)]
    simpa using h1
  ·rw [if_neg h1]
   by_cases h2 : 0 ≤ hi.getD b (-1) ∧ hi.getD b (-1) ≠ h
   ·rw [if_pos h2]
    simp [setsH, setH, List.getElem?_set_ne e]
    simpa using h2
   ·rw [if_neg h2]
    simp [setsH, setH, List.getElem?_set_ne e, List.getElem?_set_ne (Ne.symm e), List.set_comm _ _ e]
    rw [if_neg (by simpa using h2), if_neg (by simpa using h1)]
/-- What Heights returns. -/
def heightsP (l : Code) : List Int × Bool := if 0 < l.length ∧ l.length ≤ 2000 ∧ formsB l = true then (match rgo l l.length with | some h => (h.take l.length, decide (h.getD l.length (-1) < 0)) | none => ([], false)) else ([], false)
theorem heights_right (l : Code) : (heightsP l).2 = rightC l := by
 unfold heightsP rightC
 by_cases h1 : 0 < l.length
 ·by_cases h2 : l.length ≤ 2000
  ·by_cases h3 : formsB l = true
   ·rw [if_pos ⟨h1, h2, h3⟩, h3, decide_eq_true h1, decide_eq_true h2]
    cases rgo l l.length <;> simp
   ·simp [h3]
  ·simp [h2]
 ·simp [h1]
theorem heights_none {l : Code} {i : Nat} (h : rgo l (i + 1) = none) (hi : i < l.length) : heightsP l = ([], false) := by
 have h2 := rgo_none h (l.length - (i + 1))
 rw [show i + 1 + (l.length - (i + 1)) = l.length by omega] at h2
 unfold heightsP
 rw [h2]
 simp
end Go.Proofs.YtkdhmbhbbciedaaGreatDoor
namespace Go.Proofs.YtkdhmbhbbciedaaGreatDoor
open Go Go.VL
theorem intR_allU2 (l : List Int) : allU2 (intR l) = some (l.map fun z => [U.int .i64 z]) := by
 induction l with
 | nil => rfl
 | cons a l ih => simp only [intR] at ih; simp [intR, allU2, allU, ih]
theorem intR_take (l : List Int) (n : Nat) : (intR l).take n = intR (l.take n) := by simp [intR, List.map_take]
theorem setH_at {hi : List Int} {k : Nat} {w h : Int} (hw : hi[k]? = some w) : setH hi k h = if 0 ≤ w ∧ w ≠ h then none else some (hi.set k h) := by
 unfold setH
 simp [List.getD, hw]
end Go.Proofs.YtkdhmbhbbciedaaGreatDoor
namespace Go.Proofs.YtkdhmbhbbciedaaGreatDoor
open Go Go.VL
end Go.Proofs.YtkdhmbhbbciedaaGreatDoor
namespace Go.Proofs.YtkdhmbhbbciedaaGreatDoor
open Go Go.VL
/-- Whether the expression and the first bodies are right. -/
def rightN (lets : List Let) (e : Exp) (n : Nat) : Bool := rightB 12 e && (lets.take n).all fun l => rightB 12 l.body
theorem rightN_succ {lets : List Let} {e : Exp} {n : Nat} {l : Let} (h : lets[n]? = some l) : rightN lets e (n + 1) = (rightN lets e n && rightB 12 l.body) := by
 unfold rightN
 rw [List.take_add_one, h]
 simp [Bool.and_assoc]
theorem rightN_all {lets : List Let} {e : Exp} (h : lets.length ≤ 20) : rightN lets e lets.length = rightAll lets e := by
 unfold rightN rightAll
 rw [decide_eq_true h, List.take_length, Bool.true_and]
 congr 1
 rw [List.all_eq_not_any_not]
theorem few_len {lets : List Let} {e : Exp} (h : (fewL lets 4 30 && fewE e 30) = true) : lets.length ≤ 4 := by
 simp only [fewL, Bool.and_eq_true, decide_eq_true_eq] at h
 omega
end Go.Proofs.YtkdhmbhbbciedaaGreatDoor
namespace Go.Proofs.YtkdhmbhbbciedaaGreatDoor
open Go Go.VL
attribute [local simp] HS exS_some hcons hstep evPure opd uOf putOK St.put St.at getK binD binI binS binB nilD aggD eqUs cmpK lookD lookR rangeD rangeS Go.VL.nextD Go.VL.nextS entryD keyD valU keyU lookK mkV entD_nil allUE makeMapD mapUpdD mapEff updK valM Key.kk shiftI arith unD convD pickD loadD cellsAt fieldAddrD fieldD indexAddrD indexSlD arrAddr indexD sliceD cutD lenD minmaxD nilCheckD buildD fillD cellsD isOne ones setAll mkAgg allU allocD boxD storeD St.add buildSliceD appendD rowsOf makeD setOb getK_setOb getK_del getK_cons stripL strip guardTmp entry chunks zcells valD argsV argsW argW argU1 argU0 argsU0 argsU1 calleeOf scalarD scalarU delAll effD St.effS RK_seq RK_seq_ret RK_seq_exit RK_blk RK_blk_ret RK_blk_exit RK_loop RK_loop_ret RK_loop_exit RK_done vs_seq vs_block vs_cond vs_region vs_loop applyW mkD rdIds lentIds callOf calleeOf freeOp D.ids Op.operands Call.operands isEffOp makeIfD makeFuncD typeAssertD conc concs conc1 uOfV panicD IntKind.bits allU2 List.take_of_length_le List.range_succ HR_nil HR_cons HR_grd v2_seq v2_block v2_skip v2_exit v2_ret v2_cond v2_region v2_draw v2_loop RN_0 RN_done RN_seq RN_seq_ret RN_seq_exit RN_blk RN_blk_ret RN_blk_exit RN_loop RN_loop_ret RN_loop_exit Cnd_tf Cnd_ft EndV getK_append frzN frz1 frz_env frz_obs St.frz St.frzS frzS fv fzVec fzMap fzBox frzObS frz_entD frz_rowsD frz frzOb normD normU norm1 normOb St.norm St.lp St.only keepE wkE wkO wkU Ob.under D.under under_rowsD under_entD H4_nil H4_cons H4_grd h4s resD oneOrTup pureD List.zipIdx_cons List.zipIdx_nil List.map_cons List.map_nil Nat.zero_add
attribute [local irreducible] V G H HD HD2 HD4 HD4h RetX RunK Eff CallP CallV EndOK Fun Ret FinOK LoopI LoopW EndW HR vs2 RN Cnd H4
end Go.Proofs.YtkdhmbhbbciedaaGreatDoor
namespace Go.Proofs.YtkdhmbhbbciedaaGreatDoor
open Go Go.VL
section
variable {lets : List Let} {G : List UInt8 → Option Int} {n : Nat} {e x y z : Exp} {t t1 t2 : Tab}
end
attribute [local simp] HS exS_some hcons hstep evPure opd uOf putOK St.put St.at getK binD binI binS binB nilD aggD eqUs cmpK lookD lookR rangeD rangeS Go.VL.nextD Go.VL.nextS entryD keyD valU keyU lookK mkV entD_nil allUE makeMapD mapUpdD mapEff updK valM Key.kk shiftI arith unD convD pickD loadD cellsAt fieldAddrD fieldD indexAddrD indexSlD arrAddr indexD sliceD cutD lenD minmaxD nilCheckD buildD fillD cellsD isOne ones setAll mkAgg allU allocD boxD storeD St.add buildSliceD appendD rowsOf makeD setOb getK_setOb getK_del getK_cons stripL strip guardTmp entry chunks zcells valD argsV argsW argW argU1 argU0 argsU0 argsU1 calleeOf scalarD scalarU delAll effD St.effS RK_seq RK_seq_ret RK_seq_exit RK_blk RK_blk_ret RK_blk_exit RK_loop RK_loop_ret RK_loop_exit RK_done vs_seq vs_block vs_cond vs_region vs_loop applyW mkD rdIds lentIds callOf calleeOf freeOp D.ids Op.operands Call.operands isEffOp makeIfD makeFuncD typeAssertD conc concs conc1 uOfV panicD IntKind.bits allU2 List.take_of_length_le List.range_succ HR_nil HR_cons HR_grd v2_seq v2_block v2_skip v2_exit v2_ret v2_cond v2_region v2_draw v2_loop RN_0 RN_done RN_seq RN_seq_ret RN_seq_exit RN_blk RN_blk_ret RN_blk_exit RN_loop RN_loop_ret RN_loop_exit Cnd_tf Cnd_ft EndV getK_append frzN frz1 frz_env frz_obs St.frz St.frzS frzS fv fzVec fzMap fzBox frzObS frz_entD frz_rowsD frz frzOb normD normU norm1 normOb St.norm St.lp St.only keepE wkE wkO wkU Ob.under D.under under_rowsD under_entD H4_nil H4_cons H4_grd h4s resD oneOrTup pureD List.zipIdx_cons List.zipIdx_nil List.map_cons List.map_nil Nat.zero_add
attribute [local irreducible] V G H HD HD2 HD4 HD4h RetX RunK Eff CallP CallV EndOK Fun Ret FinOK LoopI LoopW EndW HR vs2 RN Cnd H4
end Go.Proofs.YtkdhmbhbbciedaaGreatDoor
namespace Go.Proofs.YtkdhmbhbbciedaaGreatDoor
open Go Go.VL
attribute [local simp] HS exS_some hcons hstep evPure opd uOf putOK St.put St.at getK binD binI binS binB nilD aggD eqUs cmpK lookD lookR rangeD rangeS Go.VL.nextD Go.VL.nextS entryD keyD valU keyU lookK mkV entD_nil allUE makeMapD mapUpdD mapEff updK valM Key.kk shiftI arith unD convD pickD loadD cellsAt fieldAddrD fieldD indexAddrD indexSlD arrAddr indexD sliceD cutD lenD minmaxD nilCheckD buildD fillD cellsD isOne ones setAll mkAgg allU allocD boxD storeD St.add buildSliceD appendD rowsOf makeD setOb getK_setOb getK_del getK_cons stripL strip guardTmp entry chunks zcells valD argsV argsW argW argU1 argU0 argsU0 argsU1 calleeOf scalarD scalarU delAll effD St.effS RK_seq RK_seq_ret RK_seq_exit RK_blk RK_blk_ret RK_blk_exit RK_loop RK_loop_ret RK_loop_exit RK_done vs_seq vs_block vs_cond vs_region vs_loop applyW mkD rdIds lentIds callOf calleeOf freeOp D.ids Op.operands Call.operands isEffOp makeIfD makeFuncD typeAssertD conc concs conc1 uOfV panicD IntKind.bits allU2 List.take_of_length_le List.range_succ HR_nil HR_cons HR_grd v2_seq v2_block v2_skip v2_exit v2_ret v2_cond v2_region v2_draw v2_loop RN_0 RN_done RN_seq RN_seq_ret RN_seq_exit RN_blk RN_blk_ret RN_blk_exit RN_loop RN_loop_ret RN_loop_exit Cnd_tf Cnd_ft EndV getK_append frzN frz1 frz_env frz_obs St.frz St.frzS frzS fv fzVec fzMap fzBox frzObS frz_entD frz_rowsD frz frzOb normD normU norm1 normOb St.norm St.lp St.only keepE wkE wkO wkU Ob.under D.under under_rowsD under_entD H4_nil H4_cons H4_grd h4s resD oneOrTup pureD List.zipIdx_cons List.zipIdx_nil List.map_cons List.map_nil Nat.zero_add
attribute [local irreducible] V G H HD HD2 HD4 HD4h RetX RunK Eff CallP CallV EndOK Fun Ret FinOK LoopI LoopW EndW HR vs2 RN Cnd H4
theorem pnext_fun (l : List Tok) (p : Nat) (t : Tok) (hp : l[p]? = some t) (hl : l.length ≤ 1000000) : Fun Tryz.prog 108 [.u (pRow l p)] (· = .u (.agg [.int .i64 t.kind, .str t.text, .int .i64 t.n, .int .i64 t.pos])) := by
 have hlt := (List.getElem?_eq_some_iff.1 hp).1
 unfold pRow toksU
 refine Fun.run Tryz.func108 Tryz.ntmps108 Tryz.results108 rfl (by simp) fun Γ hn => ?_
 repeat' (first
  | (refine V_run rfl ?_; simp [hp])
  | (refine ⟨hC _ (by kernel_rfl), hk _ (RN_K 8 _ _ _ ?_)⟩; clear hC hk C k; simp [hp])
  | (refine V_dx rfl (by kernel_rfl) (by first | (simp [hn]; done) | (simp [hn]; omega) | fail) fun C k hC hk => ?_; simp [hp])
  | fail)
 (refine Pst.of ?_; simp)
theorem is_fun (l : List Tok) (p : Nat) (w : List UInt8) (hp : p < l.length) (hl : l.length ≤ 1000000) : Fun Tryz.prog 143 [.u (pRow l p), .u (.str w)] (· = .u (.bool (isB l p w))) := by
 obtain ⟨t, ht⟩ : ∃ t, l[p]? = some t := ⟨_, List.getElem?_eq_getElem hp⟩
 have hnx := pnext_fun l p t ht hl
 unfold isB
 rw [ht]
 unfold pRow toksU at *
 by_cases h1 : t.kind = 0
 ·refine Fun.run Tryz.func143 Tryz.ntmps143 Tryz.results143 rfl (by simp) fun Γ hn => ?_
  repeat' (first
  | (refine V_run rfl ?_; simp [h1])
  | (refine CallP.f2 rfl (hnx) (by first | simp [h1] <;> rfl | fail) ?_; simp [h1])
  | fail)
  all_goals
   (refine Pst.of ?_; simp)
  all_goals simp [h1]
 ·refine Fun.run Tryz.func143 Tryz.ntmps143 Tryz.results143 rfl (by simp) fun Γ hn => ?_
  repeat' (first
  | (refine V_run rfl ?_; simp [h1])
  | (refine CallP.f2 rfl (hnx) (by first | simp [h1] <;> rfl | fail) ?_; simp [h1])
  | fail)
  all_goals
   (refine Pst.of ?_; simp)
  all_goals simp [h1]
theorem has_ret (l : List Tok) (p : Nat) (w : List UInt8) (i nx : Nat) (hi : i < nx) (hp : p < l.length) (hl : l.length ≤ 1000000) :
  RetX Tryz.prog 168 [.ptr i 0, .u (.str w)] [(i, pOb l p)] nx (fun r o n => r = .val (.u (.bool (isB l p w))) ∧ o = [(i, pOb l (if isB l p w = true then p + 1 else p))] ∧ n = nx) := by
 have h1 := is_fun l p w hp hl
 unfold pOb pRow toksU at *
 cases hb : isB l p w with
 | false =>
  rw [hb] at h1
  refine RetX.runW Tryz.func168 Tryz.ntmps168 rfl (by simp) fun Γ hn hpan => ?_
  repeat' (first
  | (refine V_run rfl ?_; simp)
  | (refine CallP.f2 rfl (h1) (by first | simp <;> rfl | fail) ?_; simp)
  | fail)
  (refine EndW.h Tryz.results168 ?_; simp)
 | true =>
  rw [hb] at h1
  refine RetX.runW Tryz.func168 Tryz.ntmps168 rfl (by simp) fun Γ hn hpan => ?_
  repeat' (first
  | (refine V_run rfl ?_; simp)
  | (refine And.intro (by omega) ?_)
  | (refine CallP.f2 rfl (h1) (by first | simp <;> rfl | fail) ?_; simp)
  | fail)
  (refine EndW.h Tryz.results168 ?_; simp)
/-- The panic of a stop. -/
def chP (pos e : Int) : List PanicEntry := [{ v := .iface 179 (.agg #[.int .i64 pos, .int .i64 e]), recovered := false }]
def isP (l : List Tok) (ob : Ob) : Prop := ∃ q : Nat, ob = pOb l q
theorem check_ok (l : List Tok) (p : Nat) (e : Int) (i nx : Nat) (hi : i < nx) :
  RetX Tryz.prog 107 [.ptr i 0, .u (.bool true), .u (.int .i64 e)] [(i, pOb l p)] nx (fun r o n => r = .val (.tup []) ∧ o = [(i, pOb l p)] ∧ n = nx) := by
 refine RetX.runW Tryz.func107 Tryz.ntmps107 rfl (by simp) fun Γ hn hpan => ?_
 repeat' (first
  | (refine V_run rfl ?_; simp)
  | fail)
 (refine EndW.h Tryz.results107 ?_; simp)
theorem check_pan (l : List Tok) (p : Nat) (t : Tok) (e : Int) (i nx : Nat) (hi : i < nx) (hp : l[p]? = some t) (hl : l.length ≤ 1000000) :
  RetX Tryz.prog 107 [.ptr i 0, .u (.bool false), .u (.int .i64 e)] [(i, pOb l p)] nx (fun r o n => r = .pan (chP t.pos e) ∧ (∃ ob', isP l ob' ∧ o = [(i, ob')]) ∧ n = nx) := by
 have h1 := pnext_fun l p t hp hl
 refine RetX.runW Tryz.func107 Tryz.ntmps107 rfl (by simp) fun Γ hn hpan => ?_
 repeat' (first
  | (refine V_run rfl ?_; simp)
  | (refine CallP.f2 rfl (h1) (by first | simp <;> rfl | fail) ?_; simp)
  | fail)
 all_goals
  (refine hpan _ _ (PanG.k ([(i, pOb l p)]) (nx) (by simp [hn, hi] <;> omega) ?_); try simp)
  all_goals exact ⟨rfl, p, rfl⟩
inductive PR (α : Type) where
 | ok (a : α) (p : Nat)
 | stop (pos e : Int)
def posAt (l : List Tok) (p : Nat) : Int := match l[p]? with | some t => t.pos | none => 0
def wantP (l : List Tok) : Nat → List (List UInt8) → PR Unit
 | p, [] => .ok () p
 | p, w :: ws => if isB l p w = true then wantP l (p + 1) ws else .stop (posAt l p) 12
def PPost {α : Type} (l : List Tok) (i nx : Nat) (val : α → D) : PR α → Out → List (Nat × Ob) → Nat → Prop
 | .ok a q, o, obs, n => o = .val (val a) ∧ obs = [(i, pOb l q)] ∧ n = nx
 | .stop pos e, o, obs, n => o = .pan (chP pos e) ∧ (∃ ob', isP l ob' ∧ obs = [(i, ob')]) ∧ n = nx
theorem want_ret (l : List Tok) (p : Nat) (ws : List (List UInt8)) (i nx : Nat) (hi : i < nx) (hp : p < l.length) (hl : TokOK l) (hw : ws.length ≤ 100) :
  RetX Tryz.prog 169 [.ptr i 0, .u (.sl (ws.map fun w => [.str w]))] [(i, pOb l p)] nx (PPost l i nx (fun _ => .tup []) (wantP l p ws)) := by
 refine RetX.runW Tryz.func169 Tryz.ntmps169 rfl (by simp) fun Γ hn hpan => ?_
 repeat' (first
  | (refine V_run rfl ?_; simp)
  | fail)
 refine V_loopO (α := { x : Nat × Nat // x.1 ≤ ws.length ∧ x.2 < l.length ∧ wantP l p ws = wantP l x.2 (ws.drop x.1) }) [0, 6, 7] (fun x => [(8, .u (.int .i64 x.1.1))]) (fun x => [(i, pOb l x.1.2)]) nx (fun x => ws.length - x.1.1) ⟨(0, p), by simp, hp, by simp⟩ ?_ ?_
 ·exact (Wk.cut2 (by simp [hn, hi] <;> grind))
 rintro ⟨⟨k, q⟩, h1, h2, h3⟩
 simp only at h1 h2 h3
 simp
 rcases hx : ws[k]? with _ | w
 ·have hge : ws.length ≤ k := by simpa using hx
  obtain rfl : k = ws.length := by omega
  rw [List.drop_length, wantP] at h3
  repeat' (first
  | (refine V_run rfl ?_; simp [hx])
  | fail)
  rw [h3]
  (refine EndW.h Tryz.results169 ?_; simp)
  simp [PPost]
 ·have hlt : k < ws.length := (List.getElem?_eq_some_iff.1 hx).1
  have hd : ws.drop k = w :: ws.drop (k + 1) := by
   obtain ⟨h5, h6⟩ := List.getElem?_eq_some_iff.1 hx
   rw [← h6, List.getElem_cons_drop]
  rw [hd, wantP] at h3
  have hh := has_ret l q w i nx hi h2 hl.len
  by_cases hb : isB l q w = true
  ·rw [if_pos hb] at h3
   rw [hb, if_pos rfl] at hh
   have hq := isB_lt hl hb
   have hck := check_ok l (q + 1) 12 i nx hi
   repeat' (first
  | (refine Cnd.of (fun hc => ?_) (fun hc => ?_) <;> (try (exfalso; omega)) <;> (try simp [hx]))
  | (refine V_run rfl ?_; simp [hx])
  | (refine And.intro (by omega) ?_)
  | (refine CallP.ok1 (hh) (by first | (simp [hx, getK_cons, getK, getK_append, getK_del]; done) | fail) (by rfl) (by first | assumption | (simp; done) | fail) (by rfl) (by simp) ?_; (try simp [hx]))
  | (refine CallP.ok1 (hck) (by first | (simp [hx, getK_cons, getK, getK_append, getK_del]; done) | fail) (by rfl) (by first | assumption | (simp; done) | fail) (by rfl) (by simp) ?_; (try simp [hx]))
  | fail)
   refine LoopW.next ⟨(k + 1, q + 1), by omega, hq, h3⟩ (by simp; omega) ?_
   exact (Wk.cut2 (by simp [hn, hi, getK_append, getK_del, getK_cons, getK] <;> grind))
  ·have hb2 : isB l q w = false := by simpa using hb
   rw [if_neg hb] at h3
   rw [hb2, if_neg (by simp)] at hh
   obtain ⟨t, ht⟩ : ∃ t, l[q]? = some t := ⟨_, List.getElem?_eq_getElem h2⟩
   have hck := check_pan l q t 12 i nx hi ht hl.len
   repeat' (first
  | (refine Cnd.of (fun hc => ?_) (fun hc => ?_) <;> (try (exfalso; omega)) <;> (try simp [hx]))
  | (refine V_run rfl ?_; simp [hx])
  | (refine CallP.ok1 (hh) (by first | (simp [hx, getK_cons, getK, getK_append, getK_del]; done) | fail) (by rfl) (by first | assumption | (simp; done) | fail) (by rfl) (by simp) ?_; (try simp [hx]))
  | (refine CallP.pan1 (hck) (by first | (simp [hx, getK_cons, getK, getK_append, getK_del]; done) | fail) (by rfl) (by first | assumption | (simp; done) | fail) (by rfl) (by simp) ?_; rintro ob' ⟨q', rfl⟩; refine ⟨_, Wk.refl _, ?_⟩)
  | fail)
   rw [h3] at hpan
   (refine hpan _ _ (PanG.k ([(i, pOb l q')]) (nx) (by simp [hn, hi, getK_append, getK_del, getK_cons, getK] <;> omega) ?_); try simp)
   all_goals exact ⟨by simp [posAt, ht], ⟨_, ⟨q', rfl⟩, rfl⟩, rfl⟩
theorem put_x (lets : List Let) (shs : List Bool) (c : Code) (i : Ins) (m q nx : Nat) (hm : m < nx) (hq : q < nx) (hmq : m ≠ q) (hl : c.length ≤ 100000) : RetX Tryz.prog 38 [.ptr m 0, .u (.agg [.int .i64 i.op, .int .i64 i.a, .str i.s])] [(m, cOb lets shs q c), (q, kOb c)] nx
  fun r o n' => r = .val (.u (.int .i64 (((putC c i).length : Int) - 1))) ∧ o = [(m, cOb lets shs nx (putC c i)), (nx, kOb (putC c i))] ∧ n' = nx + 1 := by
 have hne := nef hm
 have hne2 := nef hq
 have hlr := insR_lenR c
 have hm1 : m < nx + 1 := by omega
 unfold cOb kOb
 generalize boolsU shs = y
 simp only [letsU]
 unfold putC
 by_cases hc2 : c.length ≤ 2000
 ·rw [if_pos hc2]
  refine RetX.runW Tryz.func38 Tryz.ntmps38 rfl (by simp) fun Γ hn hpan => ?_
  repeat' (first
  | (refine Cnd.of (fun hc => ?_) (fun hc => ?_) <;> (try (exfalso; omega)) <;> (try simp [hne, hne2, hmq, Ne.symm hmq, hc2, Nat.add_assoc, del]))
  | (refine V_run rfl ?_; simp [hne, hne2, hmq, Ne.symm hmq, hc2, Nat.add_assoc, del])
  | (refine And.intro (by omega) ?_)
  | (refine ⟨hC _ (okP4_ren [m, q] nx (by simp <;> omega) (by simp <;> omega) (by apply Exists.intro; apply And.intro; (focus (repeat' (first | exact KF.nil | exact KL.nil | apply KF.cons | apply KL.cons 0 rfl | apply KL.cons 1 rfl | apply KL.cons 2 rfl | apply KL.cons 3 rfl | apply KL.cons 4 rfl | apply KL.cons 5 rfl | apply KL.cons 6 rfl | apply KL.cons 7 rfl | apply KL.cons 8 rfl | apply KL.cons 9 rfl))); kernel_rfl)), hk _ (RN_K 8 _ _ _ ?_)⟩; clear hC hk C k; simp [hne, hne2, hmq, Ne.symm hmq, hc2, Nat.add_assoc, del])
  | (refine V_dx rfl (by kernel_rfl) (by first | (simp [hn]; done) | (simp [hn]; omega) | fail) fun C k hC hk => ?_; simp [hne, hne2, hmq, Ne.symm hmq, hc2, Nat.add_assoc, del])
  | fail)
  refine EndW.wk { n := _, env := [(4, .u (.int .i64 c.length))], obs := [(m, .box [.u (.sl (lets.map fun l => [.str l.name, .int .i64 l.body.op, .int .i64 l.body.n, .int .i64 l.body.unit, .str l.body.s, .sl (l.body.args.map Exp.row)])), .u y, .vec nx (c.length + 1)]), (nx, .vec 44 3 (insR c ++ [[.u (.int .i64 i.op), .u (.int .i64 i.a), .u (.str i.s)]]))], next := nx + 1 } (Wk.ren ((fun i => if i = nx then nx + 2 else i)) rfl (by first | (simp [hn]; done) | (intro i hi; rw [hn] at hi; constructor <;> (try simp) <;> (try (intro _)) <;> omega)) (by simp [wkER, St.lp, keepE, getK_cons, getK, getK_del, getK_setOb, D.under, D.le, D.ren, hne, hne2, hmq, Ne.symm hmq, hm1, pure_insR] <;> (try (intros; simp_all; done)) <;> (try omega)) (by simp [wkR, St.lp, getK_cons, getK, getK_del, getK_setOb, obR, leU, pureRow, pureRows, Ob.under, D.under, D.le, D.ren, hne, hne2, hmq, Ne.symm hmq, hm1, pure_insR] <;> (try (intros; simp_all; done)) <;> (try omega)) (by simp [hne, hne2, hmq, Ne.symm hmq, hm1, pure_insR])) ?_
  (refine EndW.h Tryz.results38 ?_; simp)
 ·rw [if_neg hc2]
  refine RetX.runW Tryz.func38 Tryz.ntmps38 rfl (by simp) fun Γ hn hpan => ?_
  repeat' (first
  | (refine Cnd.of (fun hc => ?_) (fun hc => ?_) <;> (try (exfalso; omega)) <;> (try simp [hne, hne2, hmq, Ne.symm hmq, hc2, Nat.add_assoc, del]))
  | (refine V_run rfl ?_; simp [hne, hne2, hmq, Ne.symm hmq, hc2, Nat.add_assoc, del])
  | (refine And.intro (by omega) ?_)
  | fail)
  refine EndW.wk { n := _, env := [(4, .u (.int .i64 ((c.length : Int) - 1)))], obs := [(m, .box [.u (.sl (lets.map fun l => [.str l.name, .int .i64 l.body.op, .int .i64 l.body.n, .int .i64 l.body.unit, .str l.body.s, .sl (l.body.args.map Exp.row)])), .u y, .vec nx c.length]), (nx, .vec 44 3 (insR c))], next := nx + 1 } (Wk.ren ((fun i => if i = nx then q else i)) rfl (by first | (simp [hn]; done) | (intro i hi; rw [hn] at hi; constructor <;> (try simp) <;> (try (intro _)) <;> omega)) (by simp [wkER, St.lp, keepE, getK_cons, getK, getK_del, getK_setOb, D.under, D.le, D.ren, hne, hne2, hmq, Ne.symm hmq, hm1, pure_insR] <;> (try (intros; simp_all; done)) <;> (try omega)) (by simp [wkR, St.lp, getK_cons, getK, getK_del, getK_setOb, obR, leU, pureRow, pureRows, Ob.under, D.under, D.le, D.ren, hne, hne2, hmq, Ne.symm hmq, hm1, pure_insR] <;> (try (intros; simp_all; done)) <;> (try omega)) (by simp [hne, hne2, hmq, Ne.symm hmq, hm1, pure_insR])) ?_
  (refine EndW.h Tryz.results38 ?_; simp)
theorem land_x (lets : List Let) (shs : List Bool) (c : Code) (j : Nat) (m q nx : Nat) (hm : m < nx) (hq : q < nx) (hmq : m ≠ q) (hl : c.length ≤ 100000) (hj : j < c.length) : RetX Tryz.prog 111 [.ptr m 0, .u (.int .i64 j)] [(m, cOb lets shs q c), (q, kOb c)] nx
  fun r o n' => r = .val (.tup []) ∧ o = [(m, cOb lets shs nx (landC c j)), (nx, kOb (landC c j))] ∧ n' = nx + 1 := by
 have hne := nef hm
 have hne2 := nef hq
 have hm1 : m < nx + 1 := by omega
 have hx : c[j]? = some c[j] := List.getElem?_eq_getElem hj
 have hxr := insR_at hx
 have hlen := landC_len c j
 have hset := insR_set c j { c[j] with a := c.length }
 have hland : landC c j = c.set j { c[j] with a := c.length } := by unfold landC; rw [hx]
 have hp := pure_insR (landC c j)
 rw [hland] at hlen hp ⊢
 generalize c.set j { c[j] with a := c.length } = c2 at *
 generalize c[j] = x at *
 have hij := insR_len c
 have hj2 : j < (insR c).length := by omega
 unfold cOb kOb
 rw [hlen]
 generalize boolsU shs = y
 generalize hR : insR c = R at *
 generalize insR c2 = R2 at *
 have hxe : R[j] = [.u (.int .i64 x.op), .u (.int .i64 x.a), .u (.str x.s)] := by
  rw [List.getElem?_eq_getElem hj2] at hxr
  exact Option.some.inj hxr
 simp only at hset
 clear hland hx hR hxr
 simp only [letsU]
 refine RetX.runW Tryz.func111 Tryz.ntmps111 rfl (by simp) fun Γ hn hpan => ?_
 repeat' (first
  | (refine ⟨hC _ (okP4_ren [m, q] nx (by simp <;> omega) (by simp <;> omega) (by apply Exists.intro; apply And.intro; (focus (repeat' (first | exact KF.nil | exact KL.nil | apply KF.cons | apply KL.cons 0 rfl | apply KL.cons 1 rfl | apply KL.cons 2 rfl | apply KL.cons 3 rfl | apply KL.cons 4 rfl | apply KL.cons 5 rfl | apply KL.cons 6 rfl | apply KL.cons 7 rfl | apply KL.cons 8 rfl | apply KL.cons 9 rfl))); kernel_rfl)), hk _ (RN_K 8 _ _ _ ?_)⟩; clear hC hk C k; simp [hne, hne2, hmq, Ne.symm hmq, Nat.add_assoc, del, hij, hj, hxe, hset])
  | (refine V_dx rfl (by kernel_rfl) (by first | (simp [hn]; done) | (simp [hn]; omega) | fail) fun C k hC hk => ?_; simp [hne, hne2, hmq, Ne.symm hmq, Nat.add_assoc, del, hij, hj, hxe, hset])
  | fail)
 refine EndW.wk { n := _, env := [], obs := [(m, .box [.u (.sl (lets.map fun l => [.str l.name, .int .i64 l.body.op, .int .i64 l.body.n, .int .i64 l.body.unit, .str l.body.s, .sl (l.body.args.map Exp.row)])), .u y, .vec nx c.length]), (nx, .vec 44 3 R2)], next := nx + 1 } (Wk.ren ((fun i => if i = nx then q else i)) rfl (by first | (simp [hn]; done) | (intro i hi; rw [hn] at hi; constructor <;> (try simp) <;> (try (intro _)) <;> omega)) (by simp [wkER, St.lp, keepE, getK_cons, getK, getK_del, getK_setOb, D.under, D.le, D.ren, hne, hne2, hmq, Ne.symm hmq, hm1, hp] <;> (try (intros; simp_all; done)) <;> (try omega)) (by simp [wkR, St.lp, getK_cons, getK, getK_del, getK_setOb, obR, leU, pureRow, pureRows, Ob.under, D.under, D.le, D.ren, hne, hne2, hmq, Ne.symm hmq, hm1, hp] <;> (try (intros; simp_all; done)) <;> (try omega)) (by simp [hne, hne2, hmq, Ne.symm hmq, hm1, hp])) ?_
 (refine EndW.h Tryz.results111 ?_; simp)
theorem truth_x (lets : List Let) (shs : List Bool) (c : Code) (m q nx : Nat) (hm : m < nx) (hq : q < nx) (hmq : m ≠ q) (hl : c.length ≤ 100000) : RetX Tryz.prog 110 [.ptr m 0] [(m, cOb lets shs q c), (q, kOb c)] nx
  fun r o n' => r = .val (.tup []) ∧ o = [(m, cOb lets shs nx (truthC c)), (nx, kOb (truthC c))] ∧ n' = nx + 1 := by
 have hne := nef hm
 have hne2 := nef hq
 have hm1 : m < nx + 1 := by omega
 have hp := pure_insR (truthC c)
 have hlc := putC_len c ⟨11, 0, []⟩
 have h1 := put_x lets shs c ⟨11, 0, []⟩ m q nx hm hq hmq hl
 have h2 := put_x lets shs (putC c ⟨11, 0, []⟩) ⟨11, 0, []⟩ m nx (nx + 1) (by omega) (by omega) (by omega) (by split at hlc <;> omega)
 unfold truthC at hp ⊢
 simp only [letsU] at h1 h2 ⊢
 generalize putC c ⟨11, 0, []⟩ = c1 at *
 generalize putC c1 ⟨11, 0, []⟩ = c2 at *
 refine RetX.runW Tryz.func110 Tryz.ntmps110 rfl (by simp) fun Γ hn hpan => ?_
 repeat' (first
  | (refine V_run rfl ?_; simp [hne, hne2, hmq, Ne.symm hmq, Nat.add_assoc, del])
  | (refine CallP.okL (h1) (by first | (simp [hne, hne2, hmq, Ne.symm hmq, Nat.add_assoc, del, getK_cons, getK, getK_append, getK_del, getK_setOb, applyW, del]; done) | fail) (by rfl) (by first | assumption | (simp; done) | fail) (by rfl) (by simp) ?_; (try simp [hne, hne2, hmq, Ne.symm hmq, Nat.add_assoc, del, delL, del]))
  | (refine CallP.okL (h2) (by first | (simp [hne, hne2, hmq, Ne.symm hmq, Nat.add_assoc, del, getK_cons, getK, getK_append, getK_del, getK_setOb, applyW, del]; done) | fail) (by rfl) (by first | assumption | (simp; done) | fail) (by rfl) (by simp) ?_; (try simp [hne, hne2, hmq, Ne.symm hmq, Nat.add_assoc, del, delL, del]))
  | fail)
 refine EndW.wk { n := _, env := [], obs := [(m, cOb lets shs nx c2), (nx, kOb c2)], next := nx + 1 } (Wk.ren ((fun i => if i = nx then nx + 1 else i)) rfl (by first | (simp [hn]; done) | (intro i hi; rw [hn] at hi; constructor <;> (try simp) <;> (try (intro _)) <;> omega)) (by simp [wkER, St.lp, keepE, getK_cons, getK, getK_del, getK_setOb, D.under, D.le, D.ren, hne, hne2, hmq, Ne.symm hmq, hm1, hp, cOb, kOb] <;> (try (intros; simp_all; done)) <;> (try omega)) (by simp [wkR, St.lp, getK_cons, getK, getK_del, getK_setOb, obR, leU, pureRow, pureRows, Ob.under, D.under, D.le, D.ren, hne, hne2, hmq, Ne.symm hmq, hm1, hp, cOb, kOb] <;> (try (intros; simp_all; done)) <;> (try omega)) (by simp [hne, hne2, hmq, Ne.symm hmq, hm1, hp, cOb, kOb])) ?_
 (refine EndW.h Tryz.results110 ?_; simp)
theorem choice_and {lets shs m n e a b FA FB} (ho : e.op = 10) (hab : e.args = [a, b]) (hA : ExpX lets shs m n a FA) (cA : Cap FA) (pA : Pre FA) (hB : ExpX lets shs m n b FB) (cB : Cap FB) (pB : Pre FB) : ChoX lets shs m n e (choiceC FA (fun c => truthC (FB c)) (fun c => putC c ⟨0, 0, []⟩)) := by
 intro c q nx hm hq hmq hl
 have hne := nef hm
 have hne2 := nef hq
 have hm1 : m < nx + 1 := by omega
 have hp := pure_insR ((choiceC FA (fun c => truthC (FB c)) (fun c => putC c ⟨0, 0, []⟩)) c)
 unfold choiceC at hp ⊢
 try simp only at hp ⊢
 have l1 := cA c hl
 have w1 := (pA c).1
 have a1 := hA c q (nx + 1) (by omega) (by omega) (by omega) hl
 generalize FA c = k1 at *
 have l2 := Cap.put ⟨13, 0, []⟩ k1 l1
 have w2 := (putC_pre ⟨13, 0, []⟩ k1).1
 have g2 := putC_pos k1 ⟨13, 0, []⟩
 simp only at l2
 have a2 := put_x lets shs k1 ⟨13, 0, []⟩ m (nx + 1) (nx + 2) (by omega) (by omega) (by omega) (by omega)
 generalize putC k1 ⟨13, 0, []⟩ = k2 at *
 have l3 := cB k2 l2
 have w3 := (pB k2).1
 have a3 := hB k2 (nx + 2) (nx + 3) (by omega) (by omega) (by omega) l2
 generalize FB k2 = k3 at *
 have l4 := Cap.truth k3 l3
 have w4 := (Pre.truth k3).1
 have a4 := truth_x lets shs k3 m (nx + 3) (nx + 4) (by omega) (by omega) (by omega) (by omega)
 generalize truthC k3 = k4 at *
 have l5 := Cap.put ⟨12, 0, []⟩ k4 l4
 have w5 := (putC_pre ⟨12, 0, []⟩ k4).1
 have g5 := putC_pos k4 ⟨12, 0, []⟩
 simp only at l5
 have a5 := put_x lets shs k4 ⟨12, 0, []⟩ m (nx + 4) (nx + 5) (by omega) (by omega) (by omega) (by omega)
 generalize putC k4 ⟨12, 0, []⟩ = k5 at *
 have l6 := landC_len k5 (k2.length - 1)
 have a6 := land_x lets shs k5 (k2.length - 1) m (nx + 5) (nx + 6) (by omega) (by omega) (by omega) (by omega) (by omega)
 rw [show ((k2.length - 1 : Nat) : Int) = (k2.length : Int) - 1 by omega] at a6
 generalize landC k5 (k2.length - 1) = k6 at *
 have l6 : k6.length ≤ 2001 := by omega
 have l7 := Cap.put ⟨0, 0, []⟩ k6 l6
 have w7 := (putC_pre ⟨0, 0, []⟩ k6).1
 have g7 := putC_pos k6 ⟨0, 0, []⟩
 simp only at l7
 have a7 := put_x lets shs k6 ⟨0, 0, []⟩ m (nx + 6) (nx + 7) (by omega) (by omega) (by omega) (by omega)
 generalize putC k6 ⟨0, 0, []⟩ = k7 at *
 have l8 := landC_len k7 (k5.length - 1)
 have a8 := land_x lets shs k7 (k5.length - 1) m (nx + 7) (nx + 8) (by omega) (by omega) (by omega) (by omega) (by omega)
 rw [show ((k5.length - 1 : Nat) : Int) = (k5.length : Int) - 1 by omega] at a8
 generalize landC k7 (k5.length - 1) = k8 at *
 have l8 : k8.length ≤ 2001 := by omega
 simp only [eagg, letsU] at a1 a2 a3 a4 a5 a6 a7 a8 ⊢
 have hpp := hp
 refine RetX.runW Tryz.func67 Tryz.ntmps67 rfl (by simp) fun Γ hn hpan => ?_
 repeat' (first
  | (refine V_run rfl ?_; simp [hne, hne2, hmq, Ne.symm hmq, Nat.add_assoc, del, ho, hab, a.row_eq, b.row_eq])
  | (refine CallP.okL (a1) (by first | (simp [hne, hne2, hmq, Ne.symm hmq, Nat.add_assoc, del, ho, hab, a.row_eq, b.row_eq, getK_cons, getK, getK_append, getK_del, getK_setOb, applyW, del]; done) | fail) (by rfl) (by first | assumption | (simp; done) | fail) (by rfl) (by simp) ?_; (try simp [hne, hne2, hmq, Ne.symm hmq, Nat.add_assoc, del, ho, hab, a.row_eq, b.row_eq, delL, del]))
  | (refine CallP.okL (a2) (by first | (simp [hne, hne2, hmq, Ne.symm hmq, Nat.add_assoc, del, ho, hab, a.row_eq, b.row_eq, getK_cons, getK, getK_append, getK_del, getK_setOb, applyW, del]; done) | fail) (by rfl) (by first | assumption | (simp; done) | fail) (by rfl) (by simp) ?_; (try simp [hne, hne2, hmq, Ne.symm hmq, Nat.add_assoc, del, ho, hab, a.row_eq, b.row_eq, delL, del]))
  | (refine CallP.okL (a3) (by first | (simp [hne, hne2, hmq, Ne.symm hmq, Nat.add_assoc, del, ho, hab, a.row_eq, b.row_eq, getK_cons, getK, getK_append, getK_del, getK_setOb, applyW, del]; done) | fail) (by rfl) (by first | assumption | (simp; done) | fail) (by rfl) (by simp) ?_; (try simp [hne, hne2, hmq, Ne.symm hmq, Nat.add_assoc, del, ho, hab, a.row_eq, b.row_eq, delL, del]))
  | (refine CallP.okL (a4) (by first | (simp [hne, hne2, hmq, Ne.symm hmq, Nat.add_assoc, del, ho, hab, a.row_eq, b.row_eq, getK_cons, getK, getK_append, getK_del, getK_setOb, applyW, del]; done) | fail) (by rfl) (by first | assumption | (simp; done) | fail) (by rfl) (by simp) ?_; (try simp [hne, hne2, hmq, Ne.symm hmq, Nat.add_assoc, del, ho, hab, a.row_eq, b.row_eq, delL, del]))
  | (refine CallP.okL (a5) (by first | (simp [hne, hne2, hmq, Ne.symm hmq, Nat.add_assoc, del, ho, hab, a.row_eq, b.row_eq, getK_cons, getK, getK_append, getK_del, getK_setOb, applyW, del]; done) | fail) (by rfl) (by first | assumption | (simp; done) | fail) (by rfl) (by simp) ?_; (try simp [hne, hne2, hmq, Ne.symm hmq, Nat.add_assoc, del, ho, hab, a.row_eq, b.row_eq, delL, del]))
  | (refine CallP.okL (a6) (by first | (simp [hne, hne2, hmq, Ne.symm hmq, Nat.add_assoc, del, ho, hab, a.row_eq, b.row_eq, getK_cons, getK, getK_append, getK_del, getK_setOb, applyW, del]; done) | fail) (by rfl) (by first | assumption | (simp; done) | fail) (by rfl) (by simp) ?_; (try simp [hne, hne2, hmq, Ne.symm hmq, Nat.add_assoc, del, ho, hab, a.row_eq, b.row_eq, delL, del]))
  | (refine CallP.okL (a7) (by first | (simp [hne, hne2, hmq, Ne.symm hmq, Nat.add_assoc, del, ho, hab, a.row_eq, b.row_eq, getK_cons, getK, getK_append, getK_del, getK_setOb, applyW, del]; done) | fail) (by rfl) (by first | assumption | (simp; done) | fail) (by rfl) (by simp) ?_; (try simp [hne, hne2, hmq, Ne.symm hmq, Nat.add_assoc, del, ho, hab, a.row_eq, b.row_eq, delL, del]))
  | (refine CallP.okL (a8) (by first | (simp [hne, hne2, hmq, Ne.symm hmq, Nat.add_assoc, del, ho, hab, a.row_eq, b.row_eq, getK_cons, getK, getK_append, getK_del, getK_setOb, applyW, del]; done) | fail) (by rfl) (by first | assumption | (simp; done) | fail) (by rfl) (by simp) ?_; (try simp [hne, hne2, hmq, Ne.symm hmq, Nat.add_assoc, del, ho, hab, a.row_eq, b.row_eq, delL, del]))
  | fail)
 refine EndW.wk { n := _, env := [], obs := [(m, cOb lets shs nx k8), (nx, kOb k8)], next := nx + 1 } (Wk.ren ((fun i => if i = nx then nx + 8 else i)) rfl (by first | (simp [hn]; done) | (intro i hi; rw [hn] at hi; constructor <;> (try simp) <;> (try (intro _)) <;> omega)) (by simp [wkER, St.lp, keepE, getK_cons, getK, getK_del, getK_setOb, D.under, D.le, D.ren, hne, hne2, hmq, Ne.symm hmq, hm1, hp, cOb, kOb, letsU] <;> (try (intros; simp_all; done)) <;> (try omega)) (by simp [wkR, St.lp, getK_cons, getK, getK_del, getK_setOb, obR, leU, pureRow, pureRows, Ob.under, D.under, D.le, D.ren, hne, hne2, hmq, Ne.symm hmq, hm1, hp, cOb, kOb, letsU] <;> (try (intros; simp_all; done)) <;> (try omega)) (by simp [hne, hne2, hmq, Ne.symm hmq, hm1, hp, cOb, kOb, letsU])) ?_
 (refine EndW.h Tryz.results67 ?_; simp)
theorem choice_or {lets shs m n e a b FA FB} (ho : e.op = 11) (hab : e.args = [a, b]) (hA : ExpX lets shs m n a FA) (cA : Cap FA) (pA : Pre FA) (hB : ExpX lets shs m n b FB) (cB : Cap FB) (pB : Pre FB) : ChoX lets shs m n e (choiceC FA (fun c => putC c ⟨0, 1, []⟩) (fun c => truthC (FB c))) := by
 intro c q nx hm hq hmq hl
 have hne := nef hm
 have hne2 := nef hq
 have hm1 : m < nx + 1 := by omega
 have hp := pure_insR ((choiceC FA (fun c => putC c ⟨0, 1, []⟩) (fun c => truthC (FB c))) c)
 unfold choiceC at hp ⊢
 try simp only at hp ⊢
 have l1 := cA c hl
 have w1 := (pA c).1
 have a1 := hA c q (nx + 1) (by omega) (by omega) (by omega) hl
 generalize FA c = k1 at *
 have l2 := Cap.put ⟨13, 0, []⟩ k1 l1
 have w2 := (putC_pre ⟨13, 0, []⟩ k1).1
 have g2 := putC_pos k1 ⟨13, 0, []⟩
 simp only at l2
 have a2 := put_x lets shs k1 ⟨13, 0, []⟩ m (nx + 1) (nx + 2) (by omega) (by omega) (by omega) (by omega)
 generalize putC k1 ⟨13, 0, []⟩ = k2 at *
 have l3 := Cap.put ⟨0, 1, []⟩ k2 l2
 have w3 := (putC_pre ⟨0, 1, []⟩ k2).1
 have g3 := putC_pos k2 ⟨0, 1, []⟩
 simp only at l3
 have a3 := put_x lets shs k2 ⟨0, 1, []⟩ m (nx + 2) (nx + 3) (by omega) (by omega) (by omega) (by omega)
 generalize putC k2 ⟨0, 1, []⟩ = k3 at *
 have l4 := Cap.put ⟨12, 0, []⟩ k3 l3
 have w4 := (putC_pre ⟨12, 0, []⟩ k3).1
 have g4 := putC_pos k3 ⟨12, 0, []⟩
 simp only at l4
 have a4 := put_x lets shs k3 ⟨12, 0, []⟩ m (nx + 3) (nx + 4) (by omega) (by omega) (by omega) (by omega)
 generalize putC k3 ⟨12, 0, []⟩ = k4 at *
 have l5 := landC_len k4 (k2.length - 1)
 have a5 := land_x lets shs k4 (k2.length - 1) m (nx + 4) (nx + 5) (by omega) (by omega) (by omega) (by omega) (by omega)
 rw [show ((k2.length - 1 : Nat) : Int) = (k2.length : Int) - 1 by omega] at a5
 generalize landC k4 (k2.length - 1) = k5 at *
 have l5 : k5.length ≤ 2001 := by omega
 have l6 := cB k5 l5
 have w6 := (pB k5).1
 have a6 := hB k5 (nx + 5) (nx + 6) (by omega) (by omega) (by omega) l5
 generalize FB k5 = k6 at *
 have l7 := Cap.truth k6 l6
 have w7 := (Pre.truth k6).1
 have a7 := truth_x lets shs k6 m (nx + 6) (nx + 7) (by omega) (by omega) (by omega) (by omega)
 generalize truthC k6 = k7 at *
 have l8 := landC_len k7 (k4.length - 1)
 have a8 := land_x lets shs k7 (k4.length - 1) m (nx + 7) (nx + 8) (by omega) (by omega) (by omega) (by omega) (by omega)
 rw [show ((k4.length - 1 : Nat) : Int) = (k4.length : Int) - 1 by omega] at a8
 generalize landC k7 (k4.length - 1) = k8 at *
 have l8 : k8.length ≤ 2001 := by omega
 simp only [eagg, letsU] at a1 a2 a3 a4 a5 a6 a7 a8 ⊢
 have hpp := hp
 refine RetX.runW Tryz.func67 Tryz.ntmps67 rfl (by simp) fun Γ hn hpan => ?_
 repeat' (first
  | (refine V_run rfl ?_; simp [hne, hne2, hmq, Ne.symm hmq, Nat.add_assoc, del, ho, hab, a.row_eq, b.row_eq])
  | (refine CallP.okL (a1) (by first | (simp [hne, hne2, hmq, Ne.symm hmq, Nat.add_assoc, del, ho, hab, a.row_eq, b.row_eq, getK_cons, getK, getK_append, getK_del, getK_setOb, applyW, del]; done) | fail) (by rfl) (by first | assumption | (simp; done) | fail) (by rfl) (by simp) ?_; (try simp [hne, hne2, hmq, Ne.symm hmq, Nat.add_assoc, del, ho, hab, a.row_eq, b.row_eq, delL, del]))
  | (refine CallP.okL (a2) (by first | (simp [hne, hne2, hmq, Ne.symm hmq, Nat.add_assoc, del, ho, hab, a.row_eq, b.row_eq, getK_cons, getK, getK_append, getK_del, getK_setOb, applyW, del]; done) | fail) (by rfl) (by first | assumption | (simp; done) | fail) (by rfl) (by simp) ?_; (try simp [hne, hne2, hmq, Ne.symm hmq, Nat.add_assoc, del, ho, hab, a.row_eq, b.row_eq, delL, del]))
  | (refine CallP.okL (a3) (by first | (simp [hne, hne2, hmq, Ne.symm hmq, Nat.add_assoc, del, ho, hab, a.row_eq, b.row_eq, getK_cons, getK, getK_append, getK_del, getK_setOb, applyW, del]; done) | fail) (by rfl) (by first | assumption | (simp; done) | fail) (by rfl) (by simp) ?_; (try simp [hne, hne2, hmq, Ne.symm hmq, Nat.add_assoc, del, ho, hab, a.row_eq, b.row_eq, delL, del]))
  | (refine CallP.okL (a4) (by first | (simp [hne, hne2, hmq, Ne.symm hmq, Nat.add_assoc, del, ho, hab, a.row_eq, b.row_eq, getK_cons, getK, getK_append, getK_del, getK_setOb, applyW, del]; done) | fail) (by rfl) (by first | assumption | (simp; done) | fail) (by rfl) (by simp) ?_; (try simp [hne, hne2, hmq, Ne.symm hmq, Nat.add_assoc, del, ho, hab, a.row_eq, b.row_eq, delL, del]))
  | (refine CallP.okL (a5) (by first | (simp [hne, hne2, hmq, Ne.symm hmq, Nat.add_assoc, del, ho, hab, a.row_eq, b.row_eq, getK_cons, getK, getK_append, getK_del, getK_setOb, applyW, del]; done) | fail) (by rfl) (by first | assumption | (simp; done) | fail) (by rfl) (by simp) ?_; (try simp [hne, hne2, hmq, Ne.symm hmq, Nat.add_assoc, del, ho, hab, a.row_eq, b.row_eq, delL, del]))
  | (refine CallP.okL (a6) (by first | (simp [hne, hne2, hmq, Ne.symm hmq, Nat.add_assoc, del, ho, hab, a.row_eq, b.row_eq, getK_cons, getK, getK_append, getK_del, getK_setOb, applyW, del]; done) | fail) (by rfl) (by first | assumption | (simp; done) | fail) (by rfl) (by simp) ?_; (try simp [hne, hne2, hmq, Ne.symm hmq, Nat.add_assoc, del, ho, hab, a.row_eq, b.row_eq, delL, del]))
  | (refine CallP.okL (a7) (by first | (simp [hne, hne2, hmq, Ne.symm hmq, Nat.add_assoc, del, ho, hab, a.row_eq, b.row_eq, getK_cons, getK, getK_append, getK_del, getK_setOb, applyW, del]; done) | fail) (by rfl) (by first | assumption | (simp; done) | fail) (by rfl) (by simp) ?_; (try simp [hne, hne2, hmq, Ne.symm hmq, Nat.add_assoc, del, ho, hab, a.row_eq, b.row_eq, delL, del]))
  | (refine CallP.okL (a8) (by first | (simp [hne, hne2, hmq, Ne.symm hmq, Nat.add_assoc, del, ho, hab, a.row_eq, b.row_eq, getK_cons, getK, getK_append, getK_del, getK_setOb, applyW, del]; done) | fail) (by rfl) (by first | assumption | (simp; done) | fail) (by rfl) (by simp) ?_; (try simp [hne, hne2, hmq, Ne.symm hmq, Nat.add_assoc, del, ho, hab, a.row_eq, b.row_eq, delL, del]))
  | fail)
 refine EndW.wk { n := _, env := [], obs := [(m, cOb lets shs nx k8), (nx, kOb k8)], next := nx + 1 } (Wk.ren ((fun i => if i = nx then nx + 8 else i)) rfl (by first | (simp [hn]; done) | (intro i hi; rw [hn] at hi; constructor <;> (try simp) <;> (try (intro _)) <;> omega)) (by simp [wkER, St.lp, keepE, getK_cons, getK, getK_del, getK_setOb, D.under, D.le, D.ren, hne, hne2, hmq, Ne.symm hmq, hm1, hp, cOb, kOb, letsU] <;> (try (intros; simp_all; done)) <;> (try omega)) (by simp [wkR, St.lp, getK_cons, getK, getK_del, getK_setOb, obR, leU, pureRow, pureRows, Ob.under, D.under, D.le, D.ren, hne, hne2, hmq, Ne.symm hmq, hm1, hp, cOb, kOb, letsU] <;> (try (intros; simp_all; done)) <;> (try omega)) (by simp [hne, hne2, hmq, Ne.symm hmq, hm1, hp, cOb, kOb, letsU])) ?_
 (refine EndW.h Tryz.results67 ?_; simp)
theorem choice_if {lets shs m n e a b d FA FB FD} (ho : e.op = 13) (hab : e.args = [a, b, d]) (hA : ExpX lets shs m n a FA) (cA : Cap FA) (pA : Pre FA) (hB : ExpX lets shs m n b FB) (cB : Cap FB) (pB : Pre FB) (hD : ExpX lets shs m n d FD) (cD : Cap FD) (pD : Pre FD) : ChoX lets shs m n e (choiceC FA FB FD) := by
 intro c q nx hm hq hmq hl
 have hne := nef hm
 have hne2 := nef hq
 have hm1 : m < nx + 1 := by omega
 have hp := pure_insR ((choiceC FA FB FD) c)
 unfold choiceC at hp ⊢
 try simp only at hp ⊢
 have l1 := cA c hl
 have w1 := (pA c).1
 have a1 := hA c q (nx + 1) (by omega) (by omega) (by omega) hl
 generalize FA c = k1 at *
 have l2 := Cap.put ⟨13, 0, []⟩ k1 l1
 have w2 := (putC_pre ⟨13, 0, []⟩ k1).1
 have g2 := putC_pos k1 ⟨13, 0, []⟩
 simp only at l2
 have a2 := put_x lets shs k1 ⟨13, 0, []⟩ m (nx + 1) (nx + 2) (by omega) (by omega) (by omega) (by omega)
 generalize putC k1 ⟨13, 0, []⟩ = k2 at *
 have l3 := cB k2 l2
 have w3 := (pB k2).1
 have a3 := hB k2 (nx + 2) (nx + 3) (by omega) (by omega) (by omega) l2
 generalize FB k2 = k3 at *
 have l4 := Cap.put ⟨12, 0, []⟩ k3 l3
 have w4 := (putC_pre ⟨12, 0, []⟩ k3).1
 have g4 := putC_pos k3 ⟨12, 0, []⟩
 simp only at l4
 have a4 := put_x lets shs k3 ⟨12, 0, []⟩ m (nx + 3) (nx + 4) (by omega) (by omega) (by omega) (by omega)
 generalize putC k3 ⟨12, 0, []⟩ = k4 at *
 have l5 := landC_len k4 (k2.length - 1)
 have a5 := land_x lets shs k4 (k2.length - 1) m (nx + 4) (nx + 5) (by omega) (by omega) (by omega) (by omega) (by omega)
 rw [show ((k2.length - 1 : Nat) : Int) = (k2.length : Int) - 1 by omega] at a5
 generalize landC k4 (k2.length - 1) = k5 at *
 have l5 : k5.length ≤ 2001 := by omega
 have l6 := cD k5 l5
 have w6 := (pD k5).1
 have a6 := hD k5 (nx + 5) (nx + 6) (by omega) (by omega) (by omega) l5
 generalize FD k5 = k6 at *
 have l7 := landC_len k6 (k4.length - 1)
 have a7 := land_x lets shs k6 (k4.length - 1) m (nx + 6) (nx + 7) (by omega) (by omega) (by omega) (by omega) (by omega)
 rw [show ((k4.length - 1 : Nat) : Int) = (k4.length : Int) - 1 by omega] at a7
 generalize landC k6 (k4.length - 1) = k7 at *
 have l7 : k7.length ≤ 2001 := by omega
 simp only [eagg, letsU] at a1 a2 a3 a4 a5 a6 a7 ⊢
 have hpp := hp
 refine RetX.runW Tryz.func67 Tryz.ntmps67 rfl (by simp) fun Γ hn hpan => ?_
 repeat' (first
  | (refine V_run rfl ?_; simp [hne, hne2, hmq, Ne.symm hmq, Nat.add_assoc, del, ho, hab, a.row_eq, b.row_eq, d.row_eq])
  | (refine CallP.okL (a1) (by first | (simp [hne, hne2, hmq, Ne.symm hmq, Nat.add_assoc, del, ho, hab, a.row_eq, b.row_eq, d.row_eq, getK_cons, getK, getK_append, getK_del, getK_setOb, applyW, del]; done) | fail) (by rfl) (by first | assumption | (simp; done) | fail) (by rfl) (by simp) ?_; (try simp [hne, hne2, hmq, Ne.symm hmq, Nat.add_assoc, del, ho, hab, a.row_eq, b.row_eq, d.row_eq, delL, del]))
  | (refine CallP.okL (a2) (by first | (simp [hne, hne2, hmq, Ne.symm hmq, Nat.add_assoc, del, ho, hab, a.row_eq, b.row_eq, d.row_eq, getK_cons, getK, getK_append, getK_del, getK_setOb, applyW, del]; done) | fail) (by rfl) (by first | assumption | (simp; done) | fail) (by rfl) (by simp) ?_; (try simp [hne, hne2, hmq, Ne.symm hmq, Nat.add_assoc, del, ho, hab, a.row_eq, b.row_eq, d.row_eq, delL, del]))
  | (refine CallP.okL (a3) (by first | (simp [hne, hne2, hmq, Ne.symm hmq, Nat.add_assoc, del, ho, hab, a.row_eq, b.row_eq, d.row_eq, getK_cons, getK, getK_append, getK_del, getK_setOb, applyW, del]; done) | fail) (by rfl) (by first | assumption | (simp; done) | fail) (by rfl) (by simp) ?_; (try simp [hne, hne2, hmq, Ne.symm hmq, Nat.add_assoc, del, ho, hab, a.row_eq, b.row_eq, d.row_eq, delL, del]))
  | (refine CallP.okL (a4) (by first | (simp [hne, hne2, hmq, Ne.symm hmq, Nat.add_assoc, del, ho, hab, a.row_eq, b.row_eq, d.row_eq, getK_cons, getK, getK_append, getK_del, getK_setOb, applyW, del]; done) | fail) (by rfl) (by first | assumption | (simp; done) | fail) (by rfl) (by simp) ?_; (try simp [hne, hne2, hmq, Ne.symm hmq, Nat.add_assoc, del, ho, hab, a.row_eq, b.row_eq, d.row_eq, delL, del]))
  | (refine CallP.okL (a5) (by first | (simp [hne, hne2, hmq, Ne.symm hmq, Nat.add_assoc, del, ho, hab, a.row_eq, b.row_eq, d.row_eq, getK_cons, getK, getK_append, getK_del, getK_setOb, applyW, del]; done) | fail) (by rfl) (by first | assumption | (simp; done) | fail) (by rfl) (by simp) ?_; (try simp [hne, hne2, hmq, Ne.symm hmq, Nat.add_assoc, del, ho, hab, a.row_eq, b.row_eq, d.row_eq, delL, del]))
  | (refine CallP.okL (a6) (by first | (simp [hne, hne2, hmq, Ne.symm hmq, Nat.add_assoc, del, ho, hab, a.row_eq, b.row_eq, d.row_eq, getK_cons, getK, getK_append, getK_del, getK_setOb, applyW, del]; done) | fail) (by rfl) (by first | assumption | (simp; done) | fail) (by rfl) (by simp) ?_; (try simp [hne, hne2, hmq, Ne.symm hmq, Nat.add_assoc, del, ho, hab, a.row_eq, b.row_eq, d.row_eq, delL, del]))
  | (refine CallP.okL (a7) (by first | (simp [hne, hne2, hmq, Ne.symm hmq, Nat.add_assoc, del, ho, hab, a.row_eq, b.row_eq, d.row_eq, getK_cons, getK, getK_append, getK_del, getK_setOb, applyW, del]; done) | fail) (by rfl) (by first | assumption | (simp; done) | fail) (by rfl) (by simp) ?_; (try simp [hne, hne2, hmq, Ne.symm hmq, Nat.add_assoc, del, ho, hab, a.row_eq, b.row_eq, d.row_eq, delL, del]))
  | fail)
 refine EndW.wk { n := _, env := [], obs := [(m, cOb lets shs nx k7), (nx, kOb k7)], next := nx + 1 } (Wk.ren ((fun i => if i = nx then nx + 7 else i)) rfl (by first | (simp [hn]; done) | (intro i hi; rw [hn] at hi; constructor <;> (try simp) <;> (try (intro _)) <;> omega)) (by simp [wkER, St.lp, keepE, getK_cons, getK, getK_del, getK_setOb, D.under, D.le, D.ren, hne, hne2, hmq, Ne.symm hmq, hm1, hp, cOb, kOb, letsU] <;> (try (intros; simp_all; done)) <;> (try omega)) (by simp [wkR, St.lp, getK_cons, getK, getK_del, getK_setOb, obR, leU, pureRow, pureRows, Ob.under, D.under, D.le, D.ren, hne, hne2, hmq, Ne.symm hmq, hm1, hp, cOb, kOb, letsU] <;> (try (intros; simp_all; done)) <;> (try omega)) (by simp [hne, hne2, hmq, Ne.symm hmq, hm1, hp, cOb, kOb, letsU])) ?_
 (refine EndW.h Tryz.results67 ?_; simp)
theorem change_fun (op : Int) : Fun Tryz.prog 57 [.u (.int .i64 op)] (· = .tup [.u (.int .i64 (needI op)), .u (.int .i64 (leavesI op - needI op))]) := by
 refine Fun.run Tryz.func57 Tryz.ntmps57 Tryz.results57 rfl (by simp) fun Γ hn => ?_
 repeat' (first
  | (refine Cnd.of (fun hc => ?_) (fun hc => ?_) <;> (try (exfalso; omega)) <;> (try simp))
  | (refine V_run rfl ?_; simp)
  | fail)
 all_goals
  (refine Pst.of ?_; simp)
 all_goals (unfold needI leavesI; simp_all)
theorem rformed_fun (l : Code) (i : Nat) (x : Ins) (hx : l[i]? = some x) (hl : l.length ≤ 1000000) : Fun Tryz.prog 56 [.u (Vm.inss l), .u (.int .i64 i)] (· = .u (.bool (formI x i l.length))) := by
 have hi := (List.getElem?_eq_some_iff.1 hx).1
 have hnam := rname_fun x.s
 unfold formI
 generalize nameB x.s = nm at hnam ⊢
 obtain ⟨op, a, s⟩ := x
 simp only [Vm.inss] at hnam ⊢
 refine Fun.run Tryz.func56 Tryz.ntmps56 Tryz.results56 rfl (by simp) fun Γ hn => ?_
 repeat' (first
  | (refine Cnd.of (fun hc => ?_) (fun hc => ?_) <;> (try (exfalso; omega)) <;> (try simp [hx, Vm.Ins.row]))
  | (refine V_run rfl ?_; simp [hx, Vm.Ins.row])
  | (refine CallP.f2 rfl (hnam) (by first | simp [hx, Vm.Ins.row] <;> rfl | fail) ?_; simp [hx, Vm.Ins.row])
  | fail)
 all_goals
  (refine Pst.of ?_; simp)
 all_goals grind
theorem heights_fun (l : Code) (hll : l.length ≤ 1000000) : Fun Tryz.prog 23 [.u (Vm.inss l)] (· = .tup [.u (.sl ((heightsP l).1.map fun z => [.int .i64 z])), .u (.bool (heightsP l).2)]) := by
 have hl1 : ((l.length : Int) + 1).toNat = l.length + 1 := by omega
 have e1 := intR_allU2
 have e2 := intR_take
 simp only [Vm.inss]
 by_cases h0 : l.length = 0
 ·have h0' : l = [] := by simpa using h0
  subst h0'
  have hp : heightsP [] = ([], false) := by simp [heightsP]
  rw [hp]
  refine Fun.runW Tryz.func23 Tryz.ntmps23 rfl (by simp) fun Γ hn => ?_
  repeat' (first
  | (refine V_run rfl ?_; simp)
  | fail)
  refine EndW.norm (EndW.here ?_)
  (refine EndOK.val (.inr rfl) ?_; simp [Tryz.results23])
 have h0' : ¬ l = [] := by simpa using h0
 have h0'' : ¬ (l.length : Int) < 1 := by omega
 by_cases h2 : 2000 < l.length
 ·have h2' : (2000 : Int) < l.length := by omega
  have hp : heightsP l = ([], false) := by unfold heightsP; rw [if_neg (by omega)]
  rw [hp]
  refine Fun.runW Tryz.func23 Tryz.ntmps23 rfl (by simp) fun Γ hn => ?_
  repeat' (first
  | (refine V_run rfl ?_; simp [h0', h0'', h2, h2'])
  | fail)
  refine EndW.norm (EndW.here ?_)
  (refine EndOK.val (.inr rfl) ?_; simp [Tryz.results23])
 have h2' : ¬ (2000 : Int) < l.length := by omega
 refine Fun.runW Tryz.func23 Tryz.ntmps23 rfl (by simp) fun Γ hn => ?_
 repeat' (first
  | (refine V_run rfl ?_; simp [h0', h0'', h2, h2', hl1])
  | (refine And.intro (by omega) ?_)
  | fail)
 refine V_loopO (α := { i : Nat // i ≤ l.length ∧ ∀ j x, j < i → l[j]? = some x → formI x j l.length = true }) [0, 4] (fun i => [(5, .u (.int .i64 i.1))]) (fun i => [(0, .vec 3 1 (intR (hi1 l.length i.1)))]) 1 (fun i => l.length - i.1) ⟨0, by omega, by omega⟩ ?_ ?_
 ·exact (Wk.cut2 (by simp [hn, hi1_zero, intR_rep, under_intR] <;> grind))
 rintro ⟨i, hi, hf⟩
 simp
 have ht : ((i : Int) + 1).toNat = i + 1 := by omega
 rcases hx : l[i]? with _ | x
 case some =>
  have hlt : i < l.length := (List.getElem?_eq_some_iff.1 hx).1
  have h4 := rformed_fun l i x hx (by omega)
  simp only [Vm.inss] at h4
  by_cases hfx : formI x i l.length = true
  ·rw [hfx] at h4
   repeat' (first
  | (refine V_run rfl ?_; simp [hlt, ht, intR_getE, intR_len, intR_set, hi1_len hi, hi1_set hlt])
  | (refine And.intro (by omega) ?_)
  | (refine CallP.f2 rfl (h4) (by first | simp [hlt, ht, intR_getE, intR_len, intR_set, hi1_len hi, hi1_set hlt] <;> rfl | fail) ?_; simp [hlt, ht, intR_getE, intR_len, intR_set, hi1_len hi, hi1_set hlt])
  | fail)
   refine LoopW.next ⟨i + 1, by omega, fun j y hj hy => ?_⟩ (by simp; omega) ?_
   ·rcases Nat.lt_succ_iff_lt_or_eq.1 hj with h1 | h1
    ·exact hf j y h1 hy
    ·subst h1; rw [hx] at hy; cases hy; exact hfx
   exact (Wk.cut2 (by simp [hn, under_intR] <;> grind))
  ·rw [Bool.not_eq_true] at hfx
   rw [hfx] at h4
   have hp : heightsP l = ([], false) := by
    unfold heightsP
    rw [if_neg]
    rintro ⟨_, _, h⟩
    rw [forms_at h hx] at hfx
    cases hfx
   rw [hp]
   repeat' (first
  | (refine V_run rfl ?_; simp [hlt, ht, intR_getE, intR_len, intR_set, hi1_len hi, hi1_set hlt])
  | (refine And.intro (by omega) ?_)
  | (refine CallP.f2 rfl (h4) (by first | simp [hlt, ht, intR_getE, intR_len, intR_set, hi1_len hi, hi1_set hlt] <;> rfl | fail) ?_; simp [hlt, ht, intR_getE, intR_len, intR_set, hi1_len hi, hi1_set hlt])
  | fail)
   refine EndW.norm (EndW.here ?_)
   (refine EndOK.val (.inr rfl) ?_; simp [Tryz.results23])
 have hge : l.length ≤ i := by simpa using hx
 obtain rfl : i = l.length := by omega
 have hfm : formsB l = true := forms_take fun j x hj => hf j x (List.getElem?_eq_some_iff.1 hj).1 hj
 repeat' (first
  | (refine V_run rfl ?_; simp [hx])
  | fail)
 refine V_loopO (α := HiAt l) [0, 4] (fun s => [(6, .u (.int .i64 s.i))]) (fun s => [(0, .vec 3 1 (intR s.hi))]) 1 (fun s => l.length - s.i) ⟨0, _, by omega, rfl, by simp, fun z hz => by
  rcases List.mem_cons.1 hz with rfl | hz
  ·omega
  ·rw [List.eq_of_mem_replicate hz]; omega⟩ ?_ ?_
 ·exact (Wk.cut2 (by simp [hn, hi1_all, under_intR] <;> grind))
 rintro ⟨i, hi, hle, go, len, lo⟩
 simp
 rcases hy : l[i]? with _ | y
 case none =>
  have hge : l.length ≤ i := by simpa using hy
  obtain rfl : i = l.length := by omega
  obtain ⟨w, hw⟩ : ∃ w, hi[l.length]? = some w := ⟨_, List.getElem?_eq_getElem (by omega)⟩
  have hR : heightsP l = (hi.take l.length, decide (w < 0)) := by
   have : hi.getD l.length (-1) = w := by simp [List.getD, hw]
   unfold heightsP
   rw [if_pos ⟨by omega, by omega, hfm⟩, go]
   simp only [this]
  rw [hR]
  have hb1 : l.length ≤ hi.length := by omega
  have hb2 : (l.length : Int) ≤ hi.length := by omega
  repeat' (first
  | (refine V_run rfl ?_; simp [hy, intR_get, intR_len, hw, hb1, hb2, e2])
  | (refine And.intro (by omega) ?_)
  | (refine ⟨hC _ (by kernel_rfl), hk _ (RN_K 8 _ _ _ ?_)⟩; clear hC hk C k; simp [hy, intR_get, intR_len, hw, hb1, hb2, e2])
  | (refine V_dx rfl (by kernel_rfl) (by first | (simp [hn]; done) | (simp [hn]; omega) | fail) fun C k hC hk => ?_; simp [hy, intR_get, intR_len, hw, hb1, hb2, e2])
  | (refine And.intro ?_ (by omega))
  | fail)
  (refine EndW.frzN 1 ?_; simp [del, e1, e2, intR_len, hb1])
  refine EndW.here ?_
  (refine EndOK.val (.inr rfl) ?_; simp [Tryz.results23])
 have hlt : i < l.length := (List.getElem?_eq_some_iff.1 hy).1
 have h5 := change_fun y.op
 obtain ⟨v, hv⟩ : ∃ v, hi[i]? = some v := ⟨_, List.getElem?_eq_getElem (by omega)⟩
 have hvb := lo v (List.mem_of_getElem? hv)
 have hst := rgo_step go hy hv
 obtain ⟨n1, n2⟩ := needI_le y.op
 obtain ⟨m1, m2⟩ := leavesI_le y.op
 by_cases hv0 : v < 0
 ·rw [if_pos hv0] at hst
  repeat' (first
  | (refine Cnd.of (fun hc => ?_) (fun hc => ?_) <;> (try (exfalso; omega)) <;> (try simp [hy, intR_get, intR_len, hv, hv0]))
  | (refine V_run rfl ?_; simp [hy, intR_get, intR_len, hv, hv0])
  | (refine And.intro (by omega) ?_)
  | (refine And.intro ?_ (by omega))
  | (refine CallP.f2 rfl (h5) (by first | simp [hy, intR_get, intR_len, hv, hv0] <;> rfl | fail) ?_; simp [hy, intR_get, intR_len, hv, hv0])
  | fail)
  refine LoopW.next ⟨i + 1, hi, by omega, hst, len, fun z hz => by have := lo z hz; omega⟩ (by simp; omega) ?_
  exact (Wk.cut2 (by simp [hn, under_intR] <;> grind))
 rw [if_neg hv0] at hst
 by_cases hbad : v < needI y.op ∨ (y.op = 14 ∧ v ≠ 1)
 ·rw [if_pos hbad] at hst
  rw [heights_none hst hlt]
  rcases hbad with hb1 | ⟨hb1, hb2⟩
  ·repeat' (first
  | (refine Cnd.of (fun hc => ?_) (fun hc => ?_) <;> (try (exfalso; omega)) <;> (try simp [hy, intR_get, intR_len, hv, hv0, hb1]))
  | (refine V_run rfl ?_; simp [hy, intR_get, intR_len, hv, hv0, hb1])
  | (refine And.intro (by omega) ?_)
  | (refine And.intro ?_ (by omega))
  | (refine CallP.f2 rfl (h5) (by first | simp [hy, intR_get, intR_len, hv, hv0, hb1] <;> rfl | fail) ?_; simp [hy, intR_get, intR_len, hv, hv0, hb1])
  | fail)
   refine EndW.norm (EndW.here ?_)
   (refine EndOK.val (.inr rfl) ?_; simp [Tryz.results23])
  ·repeat' (first
  | (refine Cnd.of (fun hc => ?_) (fun hc => ?_) <;> (try (exfalso; omega)) <;> (try simp [hy, intR_get, intR_len, hv, hv0, hb2, ((propext (iff_true_intro hb1)) : (y.op = 14) = True)]))
  | (refine V_run rfl ?_; simp [hy, intR_get, intR_len, hv, hv0, hb2, ((propext (iff_true_intro hb1)) : (y.op = 14) = True)])
  | (refine And.intro (by omega) ?_)
  | (refine And.intro ?_ (by omega))
  | (refine CallP.f2 rfl (h5) (by first | simp [hy, intR_get, intR_len, hv, hv0, hb2, ((propext (iff_true_intro hb1)) : (y.op = 14) = True)] <;> rfl | fail) ?_; simp [hy, intR_get, intR_len, hv, hv0, hb2, ((propext (iff_true_intro hb1)) : (y.op = 14) = True)])
  | fail)
   all_goals
    refine EndW.norm (EndW.here ?_)
    (refine EndOK.val (.inr rfl) ?_; simp [Tryz.results23])
 rw [if_neg hbad] at hst
 have hb1 : ¬ v < needI y.op := fun h => hbad (.inl h)
 have hvi : v ≤ i := hvb.2
 have hsum : v - needI y.op + leavesI y.op = v + (leavesI y.op - needI y.op) := by omega
 rw [hsum] at hst
 generalize hch : leavesI y.op - needI y.op = ch at *
 have hchb : -2 ≤ ch ∧ ch ≤ 1 := by omega
 by_cases h14 : y.op = 14
 ·have hv1 : v = 1 := Classical.byContradiction fun h => hbad (.inr ⟨h14, h⟩)
  have hn14 : nextI y i = [] := by simp [nextI, h14]
  rw [hn14] at hst
  simp only [setsH] at hst
  subst hv1
  have hq : ((14 : Int) = 12) = False ∧ ((14 : Int) = 13) = False := by decide
  have q12 : (y.op = 12) = False := eq_false (by omega)
  have q13 : (y.op = 13) = False := eq_false (by omega)
  repeat' (first
  | (refine Cnd.of (fun hc => ?_) (fun hc => ?_) <;> (try (exfalso; omega)) <;> (try simp [hy, intR_get, intR_len, hv, hb1, q12, q13, ((propext (iff_true_intro h14)) : (y.op = 14) = True)]))
  | (refine V_run rfl ?_; simp [hy, intR_get, intR_len, hv, hb1, q12, q13, ((propext (iff_true_intro h14)) : (y.op = 14) = True)])
  | (refine And.intro (by omega) ?_)
  | (refine And.intro ?_ (by omega))
  | (refine CallP.f2 rfl (h5) (by first | simp [hy, intR_get, intR_len, hv, hb1, q12, q13, ((propext (iff_true_intro h14)) : (y.op = 14) = True)] <;> rfl | fail) ?_; simp [hy, intR_get, intR_len, hv, hb1, q12, q13, ((propext (iff_true_intro h14)) : (y.op = 14) = True)])
  | fail)
  refine LoopW.next ⟨i + 1, hi, by omega, hst, len, fun z hz => by have := lo z hz; omega⟩ (by simp; omega) ?_
  exact (Wk.cut2 (by simp [hn, under_intR] <;> grind))
 have q14 : (y.op = 14) = False := eq_false h14
 have hfo := forms_at hfm hy
 have hti : ((i : Int) + 1).toNat = i + 1 := by omega
 by_cases hj : y.op = 12 ∨ y.op = 13
 ·obtain ⟨a1, a2, a3⟩ : (i : Int) < y.a ∧ y.a < l.length ∧ ((y.a.toNat : Nat) : Int) = y.a := by
   unfold formI at hfo
   rw [if_neg (by omega), if_neg (by omega), if_pos hj] at hfo
   simp at hfo
   omega
  obtain ⟨w, hw⟩ : ∃ w, hi[y.a.toNat]? = some w := ⟨_, List.getElem?_eq_getElem (by omega)⟩
  have hwb := lo w (List.mem_of_getElem? hw)
  have hsA := setH_at (h := v + ch) hw
  by_cases h12 : y.op = 12
  ·have hn : nextI y i = [y.a.toNat] := by simp [nextI, h12]
   rw [hn] at hst
   simp only [setsH] at hst
   rw [hsA] at hst
   have q12 : (y.op = 12) = True := eq_true h12
   have q13 : (y.op = 13) = False := eq_false (by omega)
   by_cases hbd : 0 ≤ w ∧ w ≠ v + ch
   ·rw [if_pos hbd] at hst
    rw [heights_none hst hlt]
    obtain ⟨hbd1, hbd2⟩ := hbd
    repeat' (first
  | (refine Cnd.of (fun hc => ?_) (fun hc => ?_) <;> (try (exfalso; omega)) <;> (try simp [hy, intR_get, intR_len, hv, hv0, hb1, q12, q13, q14, hw, hbd1, hbd2]))
  | (refine V_run rfl ?_; simp [hy, intR_get, intR_len, hv, hv0, hb1, q12, q13, q14, hw, hbd1, hbd2])
  | (refine And.intro (by omega) ?_)
  | (refine And.intro ?_ (by omega))
  | (refine CallP.f2 rfl (h5) (by first | simp [hy, intR_get, intR_len, hv, hv0, hb1, q12, q13, q14, hw, hbd1, hbd2] <;> rfl | fail) ?_; simp [hy, intR_get, intR_len, hv, hv0, hb1, q12, q13, q14, hw, hbd1, hbd2])
  | fail)
    refine EndW.norm (EndW.here ?_)
    (refine EndOK.val (.inr rfl) ?_; simp [Tryz.results23])
   ·rw [if_neg hbd] at hst
    repeat' (first
  | (refine Cnd.of (fun hc => ?_) (fun hc => ?_) <;> (try (exfalso; omega)) <;> (try simp [hy, intR_get, intR_len, hv, hv0, hb1, q12, q13, q14, hw, intR_set]))
  | (refine V_run rfl ?_; simp [hy, intR_get, intR_len, hv, hv0, hb1, q12, q13, q14, hw, intR_set])
  | (refine And.intro (by omega) ?_)
  | (refine And.intro ?_ (by omega))
  | (refine CallP.f2 rfl (h5) (by first | simp [hy, intR_get, intR_len, hv, hv0, hb1, q12, q13, q14, hw, intR_set] <;> rfl | fail) ?_; simp [hy, intR_get, intR_len, hv, hv0, hb1, q12, q13, q14, hw, intR_set])
  | fail)
    all_goals
     first
     | (exfalso; omega)
     | skip
    all_goals
     refine LoopW.next ⟨i + 1, _, by omega, hst, by simp [len], fun z hz => ?_⟩ (by simp; omega) ?_
     ·rcases List.mem_or_eq_of_mem_set hz with hz | hz
      ·have := lo z hz; omega
      ·omega
     exact (Wk.cut2 (by simp [hn, under_intR] <;> grind))
  ·have h13 : y.op = 13 := by omega
   have hn : nextI y i = [i + 1, y.a.toNat] := by simp [nextI, h13]
   rw [hn, sets_two] at hst
   have q12 : (y.op = 12) = False := eq_false (by omega)
   have q13 : (y.op = 13) = True := eq_true h13
   rw [show setsH (v + ch) [y.a.toNat, i + 1] hi = (setH hi y.a.toNat (v + ch)).bind (setsH (v + ch) [i + 1]) from rfl, hsA] at hst
   by_cases hbd : 0 ≤ w ∧ w ≠ v + ch
   ·rw [if_pos hbd] at hst
    rw [heights_none hst hlt]
    obtain ⟨hbd1, hbd2⟩ := hbd
    repeat' (first
  | (refine Cnd.of (fun hc => ?_) (fun hc => ?_) <;> (try (exfalso; omega)) <;> (try simp [hy, intR_get, intR_len, hv, hv0, hb1, q12, q13, q14, hw, hbd1, hbd2]))
  | (refine V_run rfl ?_; simp [hy, intR_get, intR_len, hv, hv0, hb1, q12, q13, q14, hw, hbd1, hbd2])
  | (refine And.intro (by omega) ?_)
  | (refine And.intro ?_ (by omega))
  | (refine CallP.f2 rfl (h5) (by first | simp [hy, intR_get, intR_len, hv, hv0, hb1, q12, q13, q14, hw, hbd1, hbd2] <;> rfl | fail) ?_; simp [hy, intR_get, intR_len, hv, hv0, hb1, q12, q13, q14, hw, hbd1, hbd2])
  | fail)
    refine EndW.norm (EndW.here ?_)
    (refine EndOK.val (.inr rfl) ?_; simp [Tryz.results23])
   ·rw [if_neg hbd] at hst
    generalize hhj : hi.set y.a.toNat (v + ch) = hj2 at hst
    have hlen2 : hj2.length = l.length + 1 := by rw [← hhj]; simp [len]
    have hlo2 : ∀ z ∈ hj2, -1 ≤ z ∧ z ≤ i + 1 := fun z hz => by
     rw [← hhj] at hz
     rcases List.mem_or_eq_of_mem_set hz with hz | hz
     ·have := lo z hz; omega
     ·omega
    obtain ⟨w2, hw2⟩ : ∃ w2, hj2[i + 1]? = some w2 := ⟨_, List.getElem?_eq_getElem (by omega)⟩
    have hwb2 := hlo2 w2 (List.mem_of_getElem? hw2)
    rw [show (Option.bind (some hj2) (setsH (v + ch) [i + 1])) = (setH hj2 (i + 1) (v + ch)).bind (setsH (v + ch) []) from rfl, setH_at hw2] at hst
    by_cases hbd2 : 0 ≤ w2 ∧ w2 ≠ v + ch
    ·rw [if_pos hbd2] at hst
     rw [heights_none hst hlt]
     obtain ⟨hc1, hc2⟩ := hbd2
     repeat' (first
  | (refine Cnd.of (fun hc => ?_) (fun hc => ?_) <;> (try (exfalso; omega)) <;> (try simp [hy, intR_get, intR_len, hv, hv0, hb1, q12, q13, q14, hw, intR_set, hhj, hw2, hti, hc1, hc2]))
  | (refine V_run rfl ?_; simp [hy, intR_get, intR_len, hv, hv0, hb1, q12, q13, q14, hw, intR_set, hhj, hw2, hti, hc1, hc2])
  | (refine And.intro (by omega) ?_)
  | (refine And.intro ?_ (by omega))
  | (refine CallP.f2 rfl (h5) (by first | simp [hy, intR_get, intR_len, hv, hv0, hb1, q12, q13, q14, hw, intR_set, hhj, hw2, hti, hc1, hc2] <;> rfl | fail) ?_; simp [hy, intR_get, intR_len, hv, hv0, hb1, q12, q13, q14, hw, intR_set, hhj, hw2, hti, hc1, hc2])
  | fail)
     all_goals
      first
      | (exfalso; omega)
      | skip
     all_goals
      refine EndW.norm (EndW.here ?_)
      (refine EndOK.val (.inr rfl) ?_; simp [Tryz.results23])
    ·rw [if_neg hbd2] at hst
     repeat' (first
  | (refine Cnd.of (fun hc => ?_) (fun hc => ?_) <;> (try (exfalso; omega)) <;> (try simp [hy, intR_get, intR_len, hv, hv0, hb1, q12, q13, q14, hw, intR_set, hhj, hw2, hti]))
  | (refine V_run rfl ?_; simp [hy, intR_get, intR_len, hv, hv0, hb1, q12, q13, q14, hw, intR_set, hhj, hw2, hti])
  | (refine And.intro (by omega) ?_)
  | (refine And.intro ?_ (by omega))
  | (refine CallP.f2 rfl (h5) (by first | simp [hy, intR_get, intR_len, hv, hv0, hb1, q12, q13, q14, hw, intR_set, hhj, hw2, hti] <;> rfl | fail) ?_; simp [hy, intR_get, intR_len, hv, hv0, hb1, q12, q13, q14, hw, intR_set, hhj, hw2, hti])
  | fail)
     all_goals
      first
      | (exfalso; omega)
      | skip
     all_goals
      refine LoopW.next ⟨i + 1, _, by omega, hst, by simp [hlen2], fun z hz => ?_⟩ (by simp; omega) ?_
      ·rcases List.mem_or_eq_of_mem_set hz with hz | hz
       ·have := hlo2 z hz; omega
       ·omega
      exact (Wk.cut2 (by simp [hn, under_intR] <;> grind))
 ·have hn : nextI y i = [i + 1] := by
   unfold nextI
   rw [if_neg h14, if_neg (by omega), if_neg (by omega)]
  rw [hn] at hst
  have q12 : (y.op = 12) = False := eq_false (by omega)
  have q13 : (y.op = 13) = False := eq_false (by omega)
  obtain ⟨w, hw⟩ : ∃ w, hi[i + 1]? = some w := ⟨_, List.getElem?_eq_getElem (by omega)⟩
  have hwb := lo w (List.mem_of_getElem? hw)
  rw [show setsH (v + ch) [i + 1] hi = (setH hi (i + 1) (v + ch)).bind (setsH (v + ch) []) from rfl, setH_at hw] at hst
  by_cases hbd : 0 ≤ w ∧ w ≠ v + ch
  ·rw [if_pos hbd] at hst
   rw [heights_none hst hlt]
   obtain ⟨hbd1, hbd2⟩ := hbd
   repeat' (first
  | (refine Cnd.of (fun hc => ?_) (fun hc => ?_) <;> (try (exfalso; omega)) <;> (try simp [hy, intR_get, intR_len, hv, hv0, hb1, q12, q13, q14, hw, hti, hbd1, hbd2]))
  | (refine V_run rfl ?_; simp [hy, intR_get, intR_len, hv, hv0, hb1, q12, q13, q14, hw, hti, hbd1, hbd2])
  | (refine And.intro (by omega) ?_)
  | (refine And.intro ?_ (by omega))
  | (refine CallP.f2 rfl (h5) (by first | simp [hy, intR_get, intR_len, hv, hv0, hb1, q12, q13, q14, hw, hti, hbd1, hbd2] <;> rfl | fail) ?_; simp [hy, intR_get, intR_len, hv, hv0, hb1, q12, q13, q14, hw, hti, hbd1, hbd2])
  | fail)
   refine EndW.norm (EndW.here ?_)
   (refine EndOK.val (.inr rfl) ?_; simp [Tryz.results23])
  ·rw [if_neg hbd] at hst
   repeat' (first
  | (refine Cnd.of (fun hc => ?_) (fun hc => ?_) <;> (try (exfalso; omega)) <;> (try simp [hy, intR_get, intR_len, hv, hv0, hb1, q12, q13, q14, hw, hti, intR_set]))
  | (refine V_run rfl ?_; simp [hy, intR_get, intR_len, hv, hv0, hb1, q12, q13, q14, hw, hti, intR_set])
  | (refine And.intro (by omega) ?_)
  | (refine And.intro ?_ (by omega))
  | (refine CallP.f2 rfl (h5) (by first | simp [hy, intR_get, intR_len, hv, hv0, hb1, q12, q13, q14, hw, hti, intR_set] <;> rfl | fail) ?_; simp [hy, intR_get, intR_len, hv, hv0, hb1, q12, q13, q14, hw, hti, intR_set])
  | fail)
   all_goals
    first
    | (exfalso; omega)
    | skip
   all_goals
    refine LoopW.next ⟨i + 1, _, by omega, hst, by simp [len], fun z hz => ?_⟩ (by simp; omega) ?_
    ·rcases List.mem_or_eq_of_mem_set hz with hz | hz
     ·have := lo z hz; omega
     ·omega
    exact (Wk.cut2 (by simp [hn, under_intR] <;> grind))
end Go.Proofs.YtkdhmbhbbciedaaGreatDoor
namespace Go.Proofs.YtkdhmbhbbciedaaGreatDoor
open Go Go.VL
def PR.bind {α β : Type} : PR α → (α → Nat → PR β) → PR β
 | .ok a p, f => f a p
 | .stop pos e, _ => .stop pos e
theorem PR.bind_ok {α β : Type} {a : α} {p : Nat} {f : α → Nat → PR β} : (PR.ok a p).bind f = f a p := rfl
theorem PR.bind_out {α β : Type} {r : PR α} {f : α → Nat → PR β} {b : β} {q : Nat} (h : r.bind f = .ok b q) : ∃ a p, r = .ok a p ∧ f a p = .ok b q := by
 cases r with
 | ok a p => exact ⟨a, p, rfl, h⟩
 | stop => cases h
theorem PPost.at_ok {α : Type} {l i nx} {val : α → D} {r : PR α} {a : α} {q : Nat} (h : r = .ok a q) {d : D} (hd : d = val a) {o : List (Nat × Ob)} (ho : o = [(i, pOb l q)]) : PPost l i nx val r (.val d) o nx := by
 subst h; subst hd; subst ho; exact ⟨rfl, rfl, rfl⟩
theorem PPost.at_stop {α : Type} {l i nx} {val : α → D} {r : PR α} {pos e : Int} {q : Nat} (h : r = .stop pos e) : PPost l i nx val r (.pan (chP pos e)) [(i, pOb l q)] nx := by
 subst h; exact ⟨rfl, ⟨_, ⟨q, rfl⟩, rfl⟩, rfl⟩
structure Opr where
 text : List UInt8
 op : Int
 form : Int
def oprs : List Opr := [⟨[111, 114], 11, 1⟩, ⟨[97, 110, 100], 10, 2⟩, ⟨[61, 61], 9, 4⟩, ⟨[60], 8, 4⟩, ⟨[43], 2, 5⟩, ⟨[45], 3, 5⟩, ⟨[42], 4, 6⟩, ⟨[47], 5, 6⟩]
def oprAt (l : List Tok) (p : Nat) : Option Opr := oprs.find? fun o => isB l p o.text
def unitP (l : List Tok) (p : Nat) : PR Int :=
 if isB l p [99, 111, 105, 110, 115] = true then .ok 3 (p + 1)
 else if isB l p [100, 97, 121, 115] = true then .ok 2 (p + 1)
 else if isB l p [112, 101, 114] = true then (wantP l (p + 1) [[109, 105, 108, 108, 101]]).bind fun _ q => .ok 4 q
 else .ok 1 p
mutual
def expP (l : List Tok) : Nat → Nat → Int → PR Exp
 | 0, _, _ => .stop 0 0
 | f + 1, p, form => (prefixP l f p form).bind fun e q => loopP l f form e.1 e.2 q
def loopP (l : List Tok) : Nat → Int → Exp → Int → Nat → PR Exp
 | 0, _, _, _, _ => .stop 0 0
 | f + 1, form, e, own, q => match oprAt l q with
  | none => .ok e q
  | some x => if x.form < form ∨ own < x.form ∨ (own = 4 ∧ x.form = 4) then .ok e q
   else (expP l f (q + 1) (x.form + 1)).bind fun e2 r => loopP l f form (.mk x.op 0 0 [] [e, e2]) x.form r
def prefixP (l : List Tok) : Nat → Nat → Int → PR (Exp × Int)
 | 0, _, _ => .stop 0 0
 | f + 1, p, form =>
  if form = 0 ∧ isB l p [105, 102] = true then
   (expP l f (p + 1) 0).bind fun a q1 => (wantP l q1 [[116, 104, 101, 110]]).bind fun _ q2 => (expP l f q2 0).bind fun b q3 =>
   (wantP l q3 [[101, 108, 115, 101]]).bind fun _ q4 => (expP l f q4 0).bind fun c q5 => .ok (.mk 13 0 0 [] [a, b, c], 0) q5
  else if form ≤ 3 ∧ isB l p [110, 111, 116] = true then (expP l f (p + 1) 3).bind fun a q => .ok (.mk 12 0 0 [] [a], 3) q
  else (primaryP l f p).bind fun e q => .ok (e, 7) q
def primaryP (l : List Tok) : Nat → Nat → PR Exp
 | 0, _ => .stop 0 0
 | f + 1, p => match l[p]? with
  | none => .stop 0 0
  | some t =>
   if t.kind = 2 then (unitP l (p + 1)).bind fun u q => .ok (.mk 0 t.n u [] []) q
   else if isB l p [116, 114, 117, 101] = true then .ok (.mk 0 1 0 [] []) (p + 1)
   else if isB l p [102, 97, 108, 115, 101] = true then .ok (.mk 0 0 0 [] []) (p + 1)
   else if isB l p [109, 105, 110] = true ∨ isB l p [109, 97, 120] = true then
    (wantP l (p + 1) [[40]]).bind fun _ q1 => (expP l f q1 0).bind fun a q2 => (wantP l q2 [[44]]).bind fun _ q3 => (expP l f q3 0).bind fun b q4 =>
    (wantP l q4 [[41]]).bind fun _ q5 => .ok (.mk (if isB l p [109, 97, 120] = true then 7 else 6) 0 0 [] [a, b]) q5
   else if isB l p [40] = true then (expP l f (p + 1) 0).bind fun e q1 => (wantP l q1 [[41]]).bind fun _ q2 => .ok e q2
   else if t.kind = 1 ∧ nameB t.text = true then .ok (.mk 1 0 0 t.text []) (p + 1)
   else .stop t.pos 12
end
theorem wantP_le {l : List Tok} (hl : TokOK l) : ∀ (ws : List (List UInt8)) {p q : Nat}, wantP l p ws = .ok () q → p < l.length → p ≤ q ∧ q < l.length
 | [], p, q, h, hp => by rw [wantP] at h; cases h; exact ⟨Nat.le_refl _, hp⟩
 | w :: ws, p, q, h, hp => by
  rw [wantP] at h
  split at h
  ·rename_i hb
   have := wantP_le hl ws h (isB_lt hl hb)
   exact ⟨by omega, this.2⟩
  ·cases h
theorem unitP_le {l : List Tok} (hl : TokOK l) {p q : Nat} {u : Int} (h : unitP l p = .ok u q) (hp : p < l.length) : p ≤ q ∧ q < l.length := by
 unfold unitP at h
 split at h
 ·rename_i hb; cases h; exact ⟨by omega, isB_lt hl hb⟩
 ·split at h
  ·rename_i hb; cases h; exact ⟨by omega, isB_lt hl hb⟩
  ·split at h
   ·rename_i hb
    obtain ⟨a, r, h1, h2⟩ := PR.bind_out h
    cases h2
    have := wantP_le hl _ h1 (isB_lt hl hb)
    exact ⟨by omega, this.2⟩
   ·cases h; exact ⟨by omega, hp⟩
theorem parse_le {l : List Tok} (hl : TokOK l) : ∀ (f : Nat),
  (∀ p form e q, expP l f p form = .ok e q → p < l.length → p ≤ q ∧ q < l.length) ∧
  (∀ form e own p e' q, loopP l f form e own p = .ok e' q → p < l.length → p ≤ q ∧ q < l.length) ∧
  (∀ p form e q, prefixP l f p form = .ok e q → p < l.length → p ≤ q ∧ q < l.length) ∧
  (∀ p e q, primaryP l f p = .ok e q → p < l.length → p ≤ q ∧ q < l.length)
 | 0 => ⟨fun _ _ _ _ h => by simp [expP] at h, fun _ _ _ _ _ _ h => by simp [loopP] at h, fun _ _ _ _ h => by simp [prefixP] at h, fun _ _ _ h => by simp [primaryP] at h⟩
 | f + 1 => by
  obtain ⟨he, hlo, hpr, hpm⟩ := parse_le hl f
  refine ⟨fun p form e q h hp => ?_, fun form e own p e' q h hp => ?_, fun p form e q h hp => ?_, fun p e q h hp => ?_⟩
  ·rw [expP] at h
   obtain ⟨a, r, h1, h2⟩ := PR.bind_out h
   have g1 := hpr _ _ _ _ h1 hp
   have g2 := hlo _ _ _ _ _ _ h2 g1.2
   exact ⟨by omega, g2.2⟩
  ·rw [loopP] at h
   split at h
   ·cases h; exact ⟨by omega, hp⟩
   ·rename_i x hx
    have hb := List.find?_some hx
    have hp2 := isB_lt hl hb
    split at h
    ·cases h; exact ⟨by omega, hp⟩
    ·obtain ⟨a, r, h1, h2⟩ := PR.bind_out h
     have g1 := he _ _ _ _ h1 hp2
     have g2 := hlo _ _ _ _ _ _ h2 g1.2
     exact ⟨by omega, g2.2⟩
  ·rw [prefixP] at h
   split at h
   ·rename_i hb
    have hp2 := isB_lt hl hb.2
    obtain ⟨a, r, h1, h⟩ := PR.bind_out h
    have g1 := he _ _ _ _ h1 hp2
    obtain ⟨_, r2, h2, h⟩ := PR.bind_out h
    have g2 := wantP_le hl _ h2 g1.2
    obtain ⟨a, r3, h3, h⟩ := PR.bind_out h
    have g3 := he _ _ _ _ h3 g2.2
    obtain ⟨_, r4, h4, h⟩ := PR.bind_out h
    have g4 := wantP_le hl _ h4 g3.2
    obtain ⟨a, r5, h5, h⟩ := PR.bind_out h
    have g5 := he _ _ _ _ h5 g4.2
    cases h
    exact ⟨by omega, g5.2⟩
   ·split at h
    ·rename_i hb
     have hp2 := isB_lt hl hb.2
     obtain ⟨a, r, h1, h⟩ := PR.bind_out h
     have g1 := he _ _ _ _ h1 hp2
     cases h
     exact ⟨by omega, g1.2⟩
    ·obtain ⟨a, r, h1, h⟩ := PR.bind_out h
     have g1 := hpm _ _ _ h1 hp
     cases h
     exact g1
  ·rw [primaryP] at h
   split at h
   ·cases h
   ·rename_i t ht
    split at h
    ·rename_i hk
     have hp2 := hl.fin p t ht (by omega)
     obtain ⟨a, r, h1, h⟩ := PR.bind_out h
     have g1 := unitP_le hl h1 hp2
     cases h
     exact ⟨by omega, g1.2⟩
    split at h
    ·rename_i hb; cases h; exact ⟨by omega, isB_lt hl hb⟩
    split at h
    ·rename_i hb; cases h; exact ⟨by omega, isB_lt hl hb⟩
    split at h
    ·rename_i hb
     have hp2 : p + 1 < l.length := hb.elim (isB_lt hl) (isB_lt hl)
     obtain ⟨_, r2, h2, h⟩ := PR.bind_out h
     have g2 := wantP_le hl _ h2 hp2
     obtain ⟨a, r3, h3, h⟩ := PR.bind_out h
     have g3 := he _ _ _ _ h3 g2.2
     obtain ⟨_, r4, h4, h⟩ := PR.bind_out h
     have g4 := wantP_le hl _ h4 g3.2
     obtain ⟨a, r5, h5, h⟩ := PR.bind_out h
     have g5 := he _ _ _ _ h5 g4.2
     obtain ⟨_, r6, h6, h⟩ := PR.bind_out h
     have g6 := wantP_le hl _ h6 g5.2
     cases h
     exact ⟨by omega, g6.2⟩
    split at h
    ·rename_i hb
     have hp2 := isB_lt hl hb
     obtain ⟨a, r3, h3, h⟩ := PR.bind_out h
     have g3 := he _ _ _ _ h3 hp2
     obtain ⟨_, r4, h4, h⟩ := PR.bind_out h
     have g4 := wantP_le hl _ h4 g3.2
     cases h
     exact ⟨by omega, g4.2⟩
    split at h
    ·rename_i hk
     cases h
     exact ⟨by omega, hl.fin p t ht (by omega)⟩
    ·cases h
end Go.Proofs.YtkdhmbhbbciedaaGreatDoor
namespace Go.Proofs.YtkdhmbhbbciedaaGreatDoor
open Go Go.VL
abbrev W8 := List UInt8
def kindW : W8 → Int
 | [] => 0
 | c :: _ => if isLetter c = true then 1 else if isDigit c = true then 2 else 3
theorem kindW_ne {w : W8} (h : w ≠ []) : kindW w ≠ 0 := by
 cases w with
 | nil => exact absurd rfl h
 | cons c w => rw [kindW]; split <;> (try split) <;> decide
def numW (w : W8) : Int := if kindW w = 2 then (numberO w).getD 0 else 0
def Reads (l : List Tok) (p : Nat) (ws : List W8) : Prop := ∀ i w, ws[i]? = some w → w ≠ [] ∧ ∃ t, l[p + i]? = some t ∧ t.text = w ∧ t.kind = kindW w ∧ t.n = numW w
theorem Reads.left {l p} {a b : List W8} (h : Reads l p (a ++ b)) : Reads l p a := fun i w hi => h i w (by rw [List.getElem?_append_left (List.getElem?_eq_some_iff.1 hi).1]; exact hi)
theorem Reads.right {l p} {a b : List W8} (h : Reads l p (a ++ b)) : Reads l (p + a.length) b := fun i w hi => by
 have := h (a.length + i) w (by rw [List.getElem?_append_right (by omega), Nat.add_sub_cancel_left]; exact hi)
 rwa [← Nat.add_assoc] at this
theorem Reads.head {l p} {w : W8} {b : List W8} (h : Reads l p (w :: b)) : w ≠ [] ∧ ∃ t, l[p]? = some t ∧ t.text = w ∧ t.kind = kindW w ∧ t.n = numW w := h 0 w rfl
theorem Reads.tail {l p} {w : W8} {b : List W8} (h : Reads l p (w :: b)) : Reads l (p + 1) b := Reads.right (a := [w]) h
theorem Reads.isB {l p} {w : W8} {b : List W8} (h : Reads l p (w :: b)) (v : W8) : isB l p v = decide (w = v) := by
 obtain ⟨hw, t, ht, h1, h2, h3⟩ := h.head
 have := kindW_ne hw
 simp [Go.Proofs.YtkdhmbhbbciedaaGreatDoor.isB, ht, h1, h2, this]
theorem Reads.want {l p} {w : W8} {b : List W8} (h : Reads l p (w :: b)) : wantP l p [w] = .ok () (p + 1) := by
 rw [wantP, if_pos (by rw [h.isB]; simp), wantP]
def Ev {α : Type} (g : Nat → PR α) (r : PR α) : Prop := ∃ f0, ∀ f, f0 ≤ f → g f = r
theorem Ev.succ {α : Type} {g : Nat → PR α} {r : PR α} (h : Ev (fun f => g (f + 1)) r) : Ev g r := by
 obtain ⟨f0, h⟩ := h
 refine ⟨f0 + 1, fun f hf => ?_⟩
 obtain ⟨f, rfl⟩ : ∃ k, f = k + 1 := ⟨f - 1, by omega⟩
 exact h f (by omega)
theorem Ev.const {α : Type} {r : PR α} : Ev (fun _ => r) r := ⟨0, fun _ _ => rfl⟩
theorem Ev.of {α : Type} {g : Nat → PR α} {r : PR α} (h : ∀ f, g f = r) : Ev g r := ⟨0, fun f _ => h f⟩
theorem Ev.bind {α β : Type} {g : Nat → PR α} {a : α} {q : Nat} {F : Nat → α → Nat → PR β} {r : PR β} (h : Ev g (.ok a q)) (h2 : Ev (fun f => F f a q) r) : Ev (fun f => (g f).bind (F f)) r := by
 obtain ⟨f0, h⟩ := h
 obtain ⟨f1, h2⟩ := h2
 refine ⟨max f0 f1, fun f hf => ?_⟩
 show (g f).bind (F f) = r
 rw [h f (by omega), PR.bind_ok]
 exact h2 f (by omega)
end Go.Proofs.YtkdhmbhbbciedaaGreatDoor
namespace Go.Proofs.YtkdhmbhbbciedaaGreatDoor
open Go Go.VL
end Go.Proofs.YtkdhmbhbbciedaaGreatDoor
namespace Go.Proofs.YtkdhmbhbbciedaaGreatDoor
open Go Go.VL
theorem decDigits_ne : ∀ n, Lib.decDigits n ≠ [] := fun n => by
 rw [Lib.decDigits]; split <;> simp
theorem decDigits_digit (n : Nat) : ∀ c ∈ Lib.decDigits n, isDigit c = true := by
 induction n using Nat.strongRecOn with
 | _ n ih =>
  intro c hc
  have hd : ∀ k, k < 10 → isDigit (UInt8.ofNat (48 + k)) = true := by decide
  rw [Lib.decDigits] at hc
  split at hc
  ·rename_i h
   simp only [List.mem_singleton] at hc
   subst hc
   exact hd n h
  ·rename_i h
   rw [List.mem_append, List.mem_singleton] at hc
   rcases hc with hc | rfl
   ·exact ih _ (by omega) c hc
   ·exact hd _ (by omega)
theorem decDigits_val (n : Nat) : digitsV (Lib.decDigits n) = n := by
 induction n using Nat.strongRecOn with
 | _ n ih =>
  have hd : ∀ k, k < 10 → ((UInt8.ofNat (48 + k)).toNat : Int) - 48 = k := by decide
  rw [Lib.decDigits]
  split
  ·rename_i h
   simpa [digitsV] using hd n h
  ·rename_i h
   rw [digitsV_snoc, ih _ (by omega), hd _ (by omega)]
   omega
theorem decDigits_len (n : Nat) : ∀ k, n < 10 ^ (k + 1) → (Lib.decDigits n).length ≤ k + 1 := by
 induction n using Nat.strongRecOn with
 | _ n ih =>
  intro k hk
  rw [Lib.decDigits]
  split
  ·simp
  ·rename_i h
   obtain ⟨k, rfl⟩ : ∃ j, k = j + 1 := ⟨k - 1, by cases k with | zero => simp at hk; omega | succ k => rfl⟩
   have := ih (n / 10) (by omega) k (by rw [Nat.pow_succ] at hk; omega)
   simp
   omega
end Go.Proofs.YtkdhmbhbbciedaaGreatDoor
namespace Go.Proofs.YtkdhmbhbbciedaaGreatDoor
open Go Go.VL
end Go.Proofs.YtkdhmbhbbciedaaGreatDoor
namespace Go.Proofs.YtkdhmbhbbciedaaGreatDoor
open Go Go.VL
end Go.Proofs.YtkdhmbhbbciedaaGreatDoor
namespace Go.Proofs.YtkdhmbhbbciedaaGreatDoor
open Go Go.VL
end Go.Proofs.YtkdhmbhbbciedaaGreatDoor
namespace Go.Proofs.YtkdhmbhbbciedaaGreatDoor
open Go Go.VL
/-- What stands behind a word: nothing, or a blank. -/
def Ends8 (r : W8) : Prop := ∀ c t, r = c :: t → isBlank c = true
structure GoodW (w : W8) : Prop where
 next : ∀ r, Ends8 r → nextO (w ++ r) = .ok ⟨kindW w, w, numW w, 0⟩
 ne : w ≠ []
 head : ∀ c t, w = c :: t → isBlank c = false
/-- Words, each with what stands behind it: blanks; behind the last one maybe nothing. -/
def Spaced : List (W8 × W8) → Prop
 | [] => True
 | [x] => GoodW x.1 ∧ ∀ c ∈ x.2, isBlank c = true
 | x :: y :: l => GoodW x.1 ∧ (∀ c ∈ x.2, isBlank c = true) ∧ x.2 ≠ [] ∧ Spaced (y :: l)
theorem Spaced.good {x : W8 × W8} {l : List (W8 × W8)} (h : Spaced (x :: l)) : GoodW x.1 ∧ (∀ c ∈ x.2, isBlank c = true) ∧ (l ≠ [] → x.2 ≠ []) ∧ Spaced l := by
 cases l with
 | nil => exact ⟨h.1, h.2, fun h => absurd rfl h, trivial⟩
 | cons y l => exact ⟨h.1, h.2.1, fun _ => h.2.2.1, h.2.2.2⟩
end Go.Proofs.YtkdhmbhbbciedaaGreatDoor
namespace Go.Proofs.YtkdhmbhbbciedaaGreatDoor
open Go Go.VL
theorem PR.bind_congr {α β : Type} {r : PR α} {F G : α → Nat → PR β} (h : ∀ a q, r = .ok a q → F a q = G a q) : r.bind F = r.bind G := by
 cases r with
 | ok a q => exact h a q rfl
 | stop => rfl
theorem fuel_all {l : List Tok} (hl : TokOK l) : ∀ (f : Nat),
  (∀ p form, p < l.length → 4 * (l.length - p) + 3 ≤ f → expP l (f + 1) p form = expP l f p form) ∧
  (∀ p form e own, p < l.length → 4 * (l.length - p) + 2 ≤ f → loopP l (f + 1) form e own p = loopP l f form e own p) ∧
  (∀ p form, p < l.length → 4 * (l.length - p) + 2 ≤ f → prefixP l (f + 1) p form = prefixP l f p form) ∧
  (∀ p, p < l.length → 4 * (l.length - p) + 1 ≤ f → primaryP l (f + 1) p = primaryP l f p)
 | 0 => ⟨fun _ _ _ h => by omega, fun _ _ _ _ _ h => by omega, fun _ _ _ h => by omega, fun _ _ h => by omega⟩
 | f + 1 => by
  obtain ⟨he, hlo, hpr, hpm⟩ := fuel_all hl f
  obtain ⟨le, llo, lpr, lpm⟩ := parse_le hl f
  refine ⟨fun p form hp hf => ?_, fun p form e own hp hf => ?_, fun p form hp hf => ?_, fun p hp hf => ?_⟩
  ·simp only [expP]
   rw [hpr p form hp (by omega)]
   refine PR.bind_congr fun a q hq => ?_
   have g := lpr _ _ _ _ hq hp
   exact hlo _ _ _ _ g.2 (by omega)
  ·rw [loopP, loopP]
   split
   ·rfl
   ·rename_i x hx
    have hb := List.find?_some hx
    have hp2 := isB_lt hl hb
    split
    ·rfl
    ·rw [he (p + 1) _ hp2 (by omega)]
     refine PR.bind_congr fun a q hq => ?_
     have g := le _ _ _ _ hq hp2
     exact hlo _ _ _ _ g.2 (by omega)
  ·simp only [prefixP]
   split
   ·rename_i hb
    have hp2 := isB_lt hl hb.2
    rw [he (p + 1) _ hp2 (by omega)]
    refine PR.bind_congr fun a q1 hq1 => ?_
    have g1 := le _ _ _ _ hq1 hp2
    refine PR.bind_congr fun _ q2 hq2 => ?_
    have g2 := wantP_le hl _ hq2 g1.2
    rw [he q2 _ g2.2 (by omega)]
    refine PR.bind_congr fun b q3 hq3 => ?_
    have g3 := le _ _ _ _ hq3 g2.2
    refine PR.bind_congr fun _ q4 hq4 => ?_
    have g4 := wantP_le hl _ hq4 g3.2
    rw [he q4 _ g4.2 (by omega)]
   ·split
    ·rename_i hb
     rw [he (p + 1) _ (isB_lt hl hb.2) (by omega)]
    ·rw [hpm p hp (by omega)]
  ·simp only [primaryP]
   split
   ·rfl
   ·split
    ·rfl
    ·split
     ·rfl
     ·split
      ·rfl
      ·split
       ·rename_i hb
        have hp2 : p + 1 < l.length := hb.elim (isB_lt hl) (isB_lt hl)
        refine PR.bind_congr fun _ q1 hq1 => ?_
        have g1 := wantP_le hl _ hq1 hp2
        rw [he q1 _ g1.2 (by omega)]
        refine PR.bind_congr fun a q2 hq2 => ?_
        have g2 := le _ _ _ _ hq2 g1.2
        refine PR.bind_congr fun _ q3 hq3 => ?_
        have g3 := wantP_le hl _ hq3 g2.2
        rw [he q3 _ g3.2 (by omega)]
       ·split
        ·rename_i hb
         rw [he (p + 1) _ (isB_lt hl hb) (by omega)]
        ·rfl
theorem fuel_more {l : List Tok} (hl : TokOK l) {p f : Nat} {form : Int} (hp : p < l.length) (hf : 4 * (l.length - p) + 3 ≤ f) : ∀ g, expP l (f + g) p form = expP l f p form
 | 0 => rfl
 | g + 1 => by rw [← Nat.add_assoc, (fuel_all hl (f + g)).1 p form hp (by omega), fuel_more hl hp hf g]
theorem Ev.fuel {l : List Tok} (hl : TokOK l) {p f : Nat} {form : Int} {r : PR Exp} (h : Ev (fun f => expP l f p form) r) (hp : p < l.length) (hf : 4 * (l.length - p) + 3 ≤ f) : expP l f p form = r := by
 obtain ⟨f0, h⟩ := h
 rw [← fuel_more hl hp hf f0]
 exact h (f + f0) (by omega)
end Go.Proofs.YtkdhmbhbbciedaaGreatDoor
namespace Go.Proofs.YtkdhmbhbbciedaaGreatDoor
open Go Go.VL
def AllGood (ws : List W8) : Prop := ∀ w ∈ ws, GoodW w
theorem AllGood.nil : AllGood [] := fun _ h => by cases h
theorem AllGood.cons {w : W8} {ws : List W8} (h : GoodW w) (h2 : AllGood ws) : AllGood (w :: ws) := fun x hx => by
 rcases List.mem_cons.1 hx with rfl | hx
 ·exact h
 ·exact h2 x hx
theorem AllGood.app {a b : List W8} (h : AllGood a) (h2 : AllGood b) : AllGood (a ++ b) := fun x hx => by
 rcases List.mem_append.1 hx with hx | hx
 ·exact h x hx
 ·exact h2 x hx
end Go.Proofs.YtkdhmbhbbciedaaGreatDoor
namespace Go.Proofs.YtkdhmbhbbciedaaGreatDoor
open Go Go.VL
end Go.Proofs.YtkdhmbhbbciedaaGreatDoor
namespace Go.Proofs.YtkdhmbhbbciedaaGreatDoor
open Go Go.VL
theorem right_item {l : Code} (hr : rightC l = true) {i : Nat} {x : Ins} (hx : l[i]? = some x) : 0 ≤ x.op ∧ x.op < 15 ∧ -1099511627776 ≤ x.a ∧ x.a ≤ 1099511627776 ∧ x.s.length ≤ 1000 := by
 simp only [rightC, Bool.and_eq_true, decide_eq_true_eq] at hr
 have h := forms_at hr.1.2 hx
 have hl := hr.1.1.2
 unfold formI at h
 split at h
 ·simp at h; rw [h.1.1]; simp; omega
 split at h
 ·rename_i h1
  simp at h
  have h3 : x.s.length ≤ 20 := by
   have h := h.2
   simp only [nameB, Bool.and_eq_true] at h
   have h := h.1
   generalize x.s = s at *
   cases s with
   | nil => simp
   | cons c r =>
    simp only [wordB, Bool.and_eq_true, decide_eq_true_eq] at h
    exact h.1.2
  have h4 := h.1
  rw [h1, h4]
  omega
 split at h
 ·simp at h; rw [h.1.1]; simp; omega
 ·simp at h; rw [h.1.1.1]; simp; omega
theorem line_len (x : Ins) (h0 : 0 ≤ x.op ∧ x.op < 15 ∧ -1099511627776 ≤ x.a ∧ x.a ≤ 1099511627776 ∧ x.s.length ≤ 1000) : (lineC x).length ≤ 2000 := by
 have hil := Lib.itoa_length_le x.a (by omega) (by omega)
 have hwl2 : ∀ w ∈ wordsL, w.length ≤ 5 := by decide
 have hu : wordsL[x.op.toNat]? = some (wordC x.op) := by
  rw [wordC, List.getD, List.getElem?_eq_getElem (by have : wordsL.length = 15 := rfl; omega)]; rfl
 have := hwl2 _ (List.mem_of_getElem? hu)
 unfold lineC
 split
 ·simp; omega
 split
 ·simp; omega
 ·simp; omega
theorem list_take {l : Code} {i : Nat} {x : Ins} (h : l[i]? = some x) : listC (l.take (i + 1)) = listC (l.take i) ++ lineC x := by
 obtain ⟨hi, rfl⟩ := List.getElem?_eq_some_iff.1 h
 rw [List.take_succ_eq_append_getElem hi, listC, List.map_append, List.flatten_append]
 simp [listC]
theorem list_len {l : Code} (hr : rightC l = true) : ∀ i, i ≤ l.length → (listC (l.take i)).length ≤ i * 2000
 | 0, _ => by simp [listC]
 | i + 1, h => by
  have hx : l[i]? = some l[i] := List.getElem?_eq_getElem (by omega)
  rw [list_take hx, List.length_append]
  have := list_len hr i (by omega)
  have := line_len _ (right_item hr hx)
  omega
/-- The objects of List, ahead of the i-th line. -/
def listO (T : List UInt8) (i : Nat) : List (Nat × Ob) := if i = 0 then [(0, .nw 88)] else [(0, .box [.ptr 0 0, .vec 1 T.length]), (1, .vec u8T 1 (bytesR T))]
end Go.Proofs.YtkdhmbhbbciedaaGreatDoor
namespace Go.Proofs.YtkdhmbhbbciedaaGreatDoor
open Go Go.VL
/-- A string cut at its first c. -/
def cutB (c : UInt8) : W8 → Option (W8 × W8)
 | [] => none
 | x :: r => if x = c then some ([], r) else (cutB c r).map fun p => (x :: p.1, p.2)
theorem cut_some {c : UInt8} : ∀ {s p q : W8}, cutB c s = some (p, q) → s = p ++ c :: q ∧ c ∉ p
 | [], p, q, h => by simp [cutB] at h
 | x :: r, p, q, h => by
  unfold cutB at h
  split at h
  ·rename_i e
   simp at h
   obtain ⟨rfl, rfl⟩ := h
   simp [e]
  ·rename_i e
   cases hr : cutB c r with
   | none => rw [hr] at h; simp at h
   | some pq =>
    obtain ⟨p', q'⟩ := pq
    rw [hr] at h
    simp at h
    obtain ⟨rfl, rfl⟩ := h
    obtain ⟨h1, h2⟩ := cut_some hr
    exact ⟨by rw [h1]; rfl, by simp [h2, Ne.symm e]⟩
theorem cut_at {c : UInt8} : ∀ {p : W8} (q : W8), c ∉ p → cutB c (p ++ c :: q) = some (p, q)
 | [], q, _ => by simp [cutB]
 | x :: p, q, h => by
  simp at h
  rw [List.cons_append, cutB, if_neg (Ne.symm h.1), cut_at q h.2]
  rfl
theorem cut_not {c : UInt8} : ∀ {s : W8}, c ∉ s → cutB c s = none
 | [], _ => rfl
 | x :: r, h => by
  simp at h
  rw [cutB, if_neg (Ne.symm h.1), cut_not h.2]
  rfl
theorem index_cut {c : UInt8} : ∀ (s : W8), Lib.indexByte s c = match cutB c s with | some p => (p.1.length : Int) | none => -1
 | [] => rfl
 | x :: r => by
  have ih := index_cut (c := c) r
  unfold cutB Lib.indexByte
  by_cases e : x = c
  ·simp [e]
  ·rw [if_neg e, ih]
   have : (x == c) = false := by simpa using e
   rw [this]
   cases cutB c r with
   | none => simp
   | some p => simp
theorem cut_len {c : UInt8} {s p q : W8} (h : cutB c s = some (p, q)) : q.length < s.length := by
 rw [(cut_some h).1]; simp; omega
/-- The parts of a string between the c's. -/
def pieces (c : UInt8) : W8 → List W8
 | [] => [[]]
 | x :: r => if x = c then [] :: pieces c r else match pieces c r with | [] => [[x]] | p :: ps => (x :: p) :: ps
theorem pieces_ne {c : UInt8} : ∀ s : W8, pieces c s ≠ []
 | [] => by simp [pieces]
 | x :: r => by
  unfold pieces
  split
  ·simp
  ·split <;> simp
theorem pieces_cut {c : UInt8} : ∀ s : W8, pieces c s = match cutB c s with | some p => p.1 :: pieces c p.2 | none => [s]
 | [] => rfl
 | x :: r => by
  have ih := pieces_cut (c := c) r
  rw [pieces, cutB]
  by_cases e : x = c
  ·simp [e]
  ·rw [if_neg e, if_neg e, ih]
   cases cutB c r <;> simp
theorem pieces_len {c : UInt8} : ∀ s : W8, ∀ t ∈ pieces c s, t.length ≤ s.length
 | [], t, h => by simp [pieces] at h; simp [h]
 | x :: r, t, h => by
  have ih := pieces_len (c := c) r
  unfold pieces at h
  split at h
  ·rcases List.mem_cons.1 h with rfl | h
   ·simp
   ·have := ih t h; simp; omega
  ·split at h
   ·simp at h; subst h; simp
   ·rename_i p ps hp
    rcases List.mem_cons.1 h with rfl | h
    ·have := ih p (by rw [hp]; simp); simp; omega
    ·have := ih t (by rw [hp]; simp [h]); simp; omega
theorem pieces_num {c : UInt8} : ∀ s : W8, (pieces c s).length ≤ s.length + 1
 | [] => by simp [pieces]
 | x :: r => by
  have ih := pieces_num (c := c) r
  unfold pieces
  split
  ·simp; omega
  ·split
   ·simp
   ·rename_i p ps hp
    rw [hp] at ih
    simp at ih ⊢
    omega
/-- Without a line feed at the end. -/
def trimN (s : W8) : W8 := if s.getLast? = some 10 then s.dropLast else s
theorem trim_app (t : W8) : trimN (t ++ [10]) = t := by simp [trimN]
theorem trim_len (s : W8) : (trimN s).length ≤ s.length := by unfold trimN; split <;> simp
/-- A number, as far as it can be read. -/
def atoiV (s : W8) : Int := match Lib.atoiAll s with | .ok v => v | .range => Lib.atoiSat s | _ => 0
/-- What is read of a line. -/
def insP (t : W8) : Ins :=
 let w := match cutB 32 t with | some p => p.1 | none => t
 let r := match cutB 32 t with | some p => p.2 | none => []
 if idxS wordsL w 0 = 1 then ⟨1, 0, r⟩ else ⟨idxS wordsL w 0, atoiV r, []⟩
def parseL (s : W8) : Code := (pieces 10 (trimN s)).map insP
/-- What Read returns. -/
def readB (s : W8) : Code × Int := if rightC (parseL s) = true ∧ listC (parseL s) = s then (parseL s, 0) else ([], 2)
theorem digits_parse : ∀ (s : W8) (acc : Nat), (∀ c ∈ s, isDigit c = true) → ((acc + 1) * 10 ^ s.length ≤ 10 ^ 18) → Lib.parseUint10 acc s = .ok (s.foldl (fun (n : Int) c => 10 * n + ((c.toNat : Int) - 48)) acc).toNat ∧ 0 ≤ s.foldl (fun (n : Int) c => 10 * n + ((c.toNat : Int) - 48)) acc
 | [], acc, _, _ => by simp [Lib.parseUint10]
 | c :: r, acc, h, hb => by
  have hc := h c (by simp)
  simp only [isDigit, Bool.and_eq_true, decide_eq_true_eq] at hc
  have hpow : 1 ≤ 10 ^ r.length := Nat.one_le_pow _ _ (by decide)
  have e1 : (acc + 1) * 10 ^ (c :: r).length = (10 * (acc + 1)) * 10 ^ r.length := by
   rw [List.length_cons, Nat.pow_succ, Nat.mul_comm (10 ^ r.length) 10, ← Nat.mul_assoc, Nat.mul_comm (acc + 1) 10]
  rw [e1] at hb
  have hle : (acc * 10 + (c.toNat - 48) + 1) * 10 ^ r.length ≤ 10 * (acc + 1) * 10 ^ r.length := Nat.mul_le_mul_right _ (by omega)
  have h18 : 10 * (acc + 1) ≤ 10 ^ 18 := Nat.le_trans (Nat.le_mul_of_pos_right _ hpow) hb
  have ih := digits_parse r (acc * 10 + (c.toNat - 48)) (fun d hd => h d (by simp [hd])) (Nat.le_trans hle hb)
  have e2 : (10 * (acc : Int) + ((c.toNat : Int) - 48)) = ((acc * 10 + (c.toNat - 48) : Nat) : Int) := by omega
  rw [List.foldl_cons, e2]
  refine ⟨?_, ih.2⟩
  rw [← ih.1, Lib.parseUint10, if_pos hc, if_neg (by omega), if_neg (by omega)]
theorem parseMag_dec (n : Nat) (h : n < 10 ^ 17) : Lib.parseMag (Lib.decDigits n) = .ok n := by
 unfold Lib.parseMag
 rw [if_neg (decDigits_ne n)]
 have hl := decDigits_len n 16 (by omega)
 have hpow : 10 ^ (Lib.decDigits n).length ≤ 10 ^ 17 := Nat.pow_le_pow_right (by decide) (by omega)
 have h1 := digits_parse (Lib.decDigits n) 0 (decDigits_digit n) (by omega)
 have h2 := decDigits_val n
 unfold digitsV at h2
 simp only [Int.ofNat_zero, Int.natCast_zero] at h1
 rw [h1.1, h2]
 simp
theorem dec_headNot (n : Nat) {c : UInt8} {r : W8} (h : Lib.decDigits n = c :: r) : isDigit c = true := decDigits_digit n c (by rw [h]; simp)
theorem atoiV_itoa {a : Int} (h0 : -1099511627776 ≤ a) (h1 : a ≤ 1099511627776) : atoiV (Lib.itoa a) = a := by
 unfold Lib.itoa
 split
 ·rename_i hn
  have hm := parseMag_dec a.natAbs (by omega)
  have e : Lib.atoiAll (45 :: Lib.decDigits a.natAbs) = .ok a := by
   rw [Lib.atoiAll_minus, hm, Lib.signed]
   rw [if_neg (by omega)]
   congr 1
   omega
  rw [atoiV, e]
 ·rename_i hn
  have hm := parseMag_dec a.toNat (by omega)
  have e : Lib.atoiAll (Lib.decDigits a.toNat) = .ok a := by
   cases hd : Lib.decDigits a.toNat with
   | nil => exact absurd hd (decDigits_ne _)
   | cons c r =>
    have hc := dec_headNot _ hd
    simp only [isDigit, Bool.and_eq_true, decide_eq_true_eq] at hc
    rw [Lib.atoiAll_plain c r (by omega) (by omega), ← hd, hm, Lib.signless]
    rw [if_neg (by omega)]
    congr 1
    omega
  rw [atoiV, e]
def tailC (x : Ins) : W8 := if x.op = 0 ∨ x.op = 12 ∨ x.op = 13 then 32 :: Lib.itoa x.a else if x.op = 1 then 32 :: x.s else []
theorem lineC_tail (x : Ins) : lineC x = (wordC x.op ++ tailC x) ++ [10] := rfl
theorem words_at : ∀ n : Nat, n < 15 → idxS wordsL (wordsL.getD n []) 0 = n ∧ (32 : UInt8) ∉ wordsL.getD n [] ∧ (10 : UInt8) ∉ wordsL.getD n [] := by decide
theorem nameB_no {s : W8} (h : nameB s = true) : (10 : UInt8) ∉ s := fun hm => by
 simp only [nameB, Bool.and_eq_true] at h
 have h := h.1
 cases s with
 | nil => cases hm
 | cons c r =>
  simp only [wordB, Bool.and_eq_true, decide_eq_true_eq] at h
  have := spanL_all h.2 10 hm
  simp [isLetter, isDigit] at this
theorem itoa_no (a : Int) : (10 : UInt8) ∉ Lib.itoa a := fun hm => by
 have hd : ∀ n, (10 : UInt8) ∉ Lib.decDigits n := fun n h => by
  have := decDigits_digit n 10 h
  simp [isDigit] at this
 unfold Lib.itoa at hm
 split at hm
 ·simp at hm; exact hd _ hm
 ·exact hd _ hm
theorem insP_line {x : Ins} {i n : Nat} (h : formI x i n = true) (hn : n ≤ 1099511627776) : insP (wordC x.op ++ tailC x) = x ∧ (10 : UInt8) ∉ wordC x.op ++ tailC x := by
 obtain ⟨op, a, s⟩ := x
 have hw : ∀ o : Int, 0 ≤ o → o < 15 → idxS wordsL (wordC o) 0 = o ∧ (32 : UInt8) ∉ wordC o ∧ (10 : UInt8) ∉ wordC o := fun o h0 h1 => by
  have := words_at o.toNat (by omega)
  unfold wordC
  refine ⟨?_, this.2⟩
  rw [this.1]
  omega
 unfold formI at h
 simp only at h
 split at h
 ·rename_i e
  subst e
  simp at h
  obtain ⟨⟨rfl, h1⟩, h2⟩ := h
  obtain ⟨w1, w2, w3⟩ := hw 0 (by omega) (by omega)
  have et : tailC ⟨0, a, []⟩ = 32 :: Lib.itoa a := by simp [tailC]
  refine ⟨?_, ?_⟩
  ·rw [et]
   unfold insP
   rw [cut_at _ w2]
   simp only
   rw [w1, if_neg (by omega), atoiV_itoa h1 h2]
  ·rw [et]; simp [w3, itoa_no]
 split at h
 ·rename_i e
  subst e
  simp at h
  obtain ⟨rfl, h2⟩ := h
  obtain ⟨w1, w2, w3⟩ := hw 1 (by omega) (by omega)
  have et : tailC ⟨1, 0, s⟩ = 32 :: s := by simp [tailC]
  refine ⟨?_, ?_⟩
  ·rw [et]
   unfold insP
   rw [cut_at _ w2]
   simp only
   rw [w1, if_pos rfl]
  ·rw [et]; simp [w3, nameB_no h2]
 split at h
 ·rename_i e1 e2 e
  simp at h
  obtain ⟨⟨rfl, h1⟩, h2⟩ := h
  obtain ⟨w1, w2, w3⟩ := hw op (by omega) (by omega)
  have et : tailC ⟨op, a, []⟩ = 32 :: Lib.itoa a := by simp only [tailC]; rw [if_pos (by omega)]
  refine ⟨?_, ?_⟩
  ·rw [et]
   unfold insP
   rw [cut_at _ w2]
   simp only
   rw [w1, if_neg (by omega), atoiV_itoa (by omega) (by omega)]
  ·rw [et]; simp [w3, itoa_no]
 ·rename_i e1 e2 e3
  simp at h
  obtain ⟨⟨⟨rfl, rfl⟩, h1⟩, h2⟩ := h
  obtain ⟨w1, w2, w3⟩ := hw op (by omega) (by omega)
  have et : tailC ⟨op, 0, []⟩ = [] := by simp only [tailC]; rw [if_neg (by omega), if_neg (by omega)]
  refine ⟨?_, ?_⟩
  ·rw [et, List.append_nil]
   unfold insP
   rw [cut_not w2]
   simp only
   rw [w1, if_neg (by omega)]
   rfl
  ·rw [et]; simpa using w3
theorem pieces_app {c : UInt8} {p : W8} (q : W8) (h : c ∉ p) : pieces c (p ++ c :: q) = p :: pieces c q := by rw [pieces_cut, cut_at q h]
theorem pieces_one {c : UInt8} {p : W8} (h : c ∉ p) : pieces c p = [p] := by rw [pieces_cut, cut_not h]
theorem parse_lines : ∀ (l : Code), l ≠ [] → (∀ x ∈ l, insP (wordC x.op ++ tailC x) = x ∧ (10 : UInt8) ∉ wordC x.op ++ tailC x) → ∃ t, listC l = t ++ [10] ∧ (pieces 10 t).map insP = l
 | [], h, _ => absurd rfl h
 | [x], _, h => by
  obtain ⟨h1, h2⟩ := h x (by simp)
  exact ⟨wordC x.op ++ tailC x, by simp [listC, lineC_tail], by rw [pieces_one h2]; simp [h1]⟩
 | x :: y :: r, _, h => by
  obtain ⟨h1, h2⟩ := h x (by simp)
  obtain ⟨t, h3, h4⟩ := parse_lines (y :: r) (by simp) (fun z hz => h z (by simp [List.mem_cons.1 hz]))
  refine ⟨(wordC x.op ++ tailC x) ++ 10 :: t, ?_, ?_⟩
  ·have : listC (x :: y :: r) = lineC x ++ listC (y :: r) := by simp [listC]
   rw [this, h3, lineC_tail]
   simp
  ·rw [pieces_app _ h2, List.map_cons, h1, h4]
theorem right_parts {l : Code} (h : rightC l = true) : 0 < l.length ∧ l.length ≤ 2000 ∧ ∀ i x, l[i]? = some x → formI x i l.length = true := by
 simp only [rightC, Bool.and_eq_true, decide_eq_true_eq] at h
 exact ⟨h.1.1.1, h.1.1.2, fun i x hx => forms_at h.1.2 hx⟩
theorem parse_list {l : Code} (h : rightC l = true) : parseL (listC l) = l := by
 obtain ⟨h1, h2, h3⟩ := right_parts h
 obtain ⟨t, h4, h5⟩ := parse_lines l (fun e => by rw [e] at h1; simp at h1) (fun x hx => by
  obtain ⟨i, hi⟩ := List.getElem?_of_mem hx
  exact insP_line (h3 i x hi) (by omega))
 unfold parseL
 rw [h4, trim_app, h5]
theorem read_list {l : Code} (h : rightC l = true) : readB (listC l) = (l, 0) := by
 unfold readB
 rw [parse_list h, if_pos ⟨h, rfl⟩]
end Go.Proofs.YtkdhmbhbbciedaaGreatDoor
namespace Go.Proofs.YtkdhmbhbbciedaaGreatDoor
open Go Go.VL Go.Shelf Go.RowKit
theorem indexByte_fun (s : W8) (c : UInt8) : Fun Tryz.prog 145 [.u (.str s), .u (.int .u8 c.toNat)] (· = .u (.int .i64 (Lib.indexByte s c))) :=
 Fun.ofBelow fun k own w vs hsat hrep => by
  obtain ⟨v, u, rfl, hv, hu⟩ := two_args hrep
  have hv := rep_str hv
  have hu := rep_int hu
  subst hv hu
  refine ⟨_, .int _ _, (Tryz.stringslite_IndexByte ⟨s.toArray⟩ c.toNat w).mono ?_⟩
  rintro e w' ⟨h1, rfl⟩
  refine ⟨?_, Below.refl _ _⟩
  rw [h1]
  simp
end Go.Proofs.YtkdhmbhbbciedaaGreatDoor
namespace Go.Proofs.YtkdhmbhbbciedaaGreatDoor
open Go Go.VL
def lastP (c : UInt8) (s : W8) : W8 := (pieces c s).getLast (pieces_ne s)
def splitO (c : UInt8) (s : W8) : List (Nat × Ob) := [(1, .box [.u (.str s)]), (2, .box [.u (.str [c])]), (3, .box [.u (.int .i64 0)])]
theorem lastP_some {c : UInt8} {s p q : W8} (h : cutB c s = some (p, q)) : lastP c s = lastP c q := by
 unfold lastP
 have := pieces_cut (c := c) s
 rw [h] at this
 simp only [this]
 rw [List.getLast_cons (pieces_ne q)]
theorem lastP_none {c : UInt8} {s : W8} (h : cutB c s = none) : lastP c s = s := by
 unfold lastP
 have := pieces_cut (c := c) s
 rw [h] at this
 simp only [this]
 rfl
end Go.Proofs.YtkdhmbhbbciedaaGreatDoor
namespace Go.Proofs.YtkdhmbhbbciedaaGreatDoor
open Go Go.VL Go.Shelf Go.RowKit
/-- A call by value by a contract that keeps all that was there; what it returns is told by a property. -/
theorem Fun.ofB {P : Program} {f : FuncId} {ds : List D} {post : D → Prop} (h : ∀ (k : Kr) (own : Nat → Prop) (w : World) (vs : Array Value), Sat k own [] w → RepL k ds vs →
  Calls P f vs w fun e w' => (∃ v d, e = .returned v ∧ Rep k d v ∧ pureD d = true ∧ post d) ∧ Below w.heap.size w w') : Fun P f ds post := by
 intro k own w vs hsat hhdr hown hrep
 refine (h k own w vs hsat hrep).mono ?_
 rintro e w' ⟨⟨v, d, rfl, hv, hpd, hpo⟩, hb⟩
 refine ⟨v, d, [], 0, k, rfl, ⟨.refl _, fun i hi => hhdr i hi, fun _ _ _ e => .inl e, hown, hb.os, hb.tape, hb.output, hb.size, fun x hx => hb.block x ?_⟩, ⟨fun x o v hm => ?_, fun j ob hj => by simp [getK] at hj, fun x y ox oy g g' b hx => by simp [getK] at hx⟩, hhdr, Nat.le_refl _, hv, hpd, hpo⟩
 ·rcases Nat.lt_or_ge x w.heap.size with h | h
  ·exact h
  ·exact absurd (hown x h) hx
 ·rw [look_heap (hb.block x (hsat.memLt hm))]
  exact hsat.mem x o v hm
theorem err_at {k : Kr} {own obs} {w : World} (h : Sat k own obs w) {g : Nat} (hg : g ∈ ifgs) : ∃ ev, w.cell? ⟨g, 0, none⟩ = some ev ∧ (ev = .nilIface ∨ ∃ te pe, ev = .iface te pe) := by
 obtain ⟨t, v, e⟩ := k.glob.ifc g hg
 exact ⟨_, h.cell e, .inr ⟨t, v, rfl⟩⟩
theorem atoi_fun (s : W8) (hl : s.length ≤ 140737488355328) : Fun Tryz.prog 45 [.u (.str s)] (fun d => ∃ v, d = .tup [.u (.int .i64 (atoiV s)), .u (.oth v)]) :=
 Fun.ofB fun k own w vs hsat hrep => by
  obtain ⟨v, rfl, hv⟩ := one_arg hrep
  have hv := rep_str hv
  subst hv
  have tup : ∀ (n : Int) (u : Value), Rep k (.tup [.u (.int .i64 n), .u (.oth u)]) (.tuple #[.int .i64 n, u]) := fun n u => .tup _ [_, _] rfl fun j d hj => by
   match j, hj with
   | 0, hj => cases hj; exact .u _ _ (.int _ _)
   | 1, hj => cases hj; exact .u _ _ (.oth _)
  have hsz : (⟨s.toArray⟩ : ByteArray).size ≤ 281474976710656 := by
   show s.toArray.size ≤ _
   simp; omega
  unfold atoiV
  cases ha : Lib.atoiAll s with
  | ok n =>
   refine (Tryz.strconv_Atoi_ok ⟨s.toArray⟩ (by omega) n (by simpa using ha) w).mono ?_
   rintro e w' ⟨rfl, h2⟩
   refine ⟨⟨_, _, rfl, tup n .nilIface, by simp [pureD], _, rfl⟩, ?_⟩
   rcases h2 with rfl | ⟨t, rfl⟩
   ·exact Below.refl _ _
   ·exact Lib.bytesWorld_below w _ t
  | range =>
   obtain ⟨ev, h1, h2⟩ := err_at hsat (g := 3) (by simp [ifgs])
   refine (Tryz.strconv_Atoi_range ⟨s.toArray⟩ hsz (by simpa using ha) ev w h1 h2).mono ?_
   rintro e w' ⟨N, rfl, _, _, hb⟩
   refine ⟨⟨_, _, rfl, tup (Lib.atoiSat s) _, by simp [pureD], _, rfl⟩, hb⟩
  | _ =>
   obtain ⟨ev, h1, h2⟩ := err_at hsat (g := 2) (by simp [ifgs])
   refine (Tryz.strconv_Atoi_syntax ⟨s.toArray⟩ hsz (by simp [ha]) ev w h1 h2).mono ?_
   rintro e w' ⟨N, rfl, _, _, hb⟩
   exact ⟨⟨_, _, rfl, tup 0 _, by simp [pureD], _, rfl⟩, hb⟩
end Go.Proofs.YtkdhmbhbbciedaaGreatDoor
namespace Go.Proofs.YtkdhmbhbbciedaaGreatDoor
open Go Go.VL
attribute [local simp] HS exS_some hcons hstep evPure opd uOf putOK St.put St.at getK binD binI binS binB nilD aggD eqUs cmpK lookD lookR rangeD rangeS Go.VL.nextD Go.VL.nextS entryD keyD valU keyU lookK mkV entD_nil allUE makeMapD mapUpdD mapEff updK valM Key.kk shiftI arith unD convD pickD loadD cellsAt fieldAddrD fieldD indexAddrD indexSlD arrAddr indexD sliceD cutD lenD minmaxD nilCheckD buildD fillD cellsD isOne ones setAll mkAgg allU allocD boxD storeD St.add buildSliceD appendD rowsOf makeD setOb getK_setOb getK_del getK_cons stripL strip guardTmp entry chunks zcells valD argsV argsW argW argU1 argU0 argsU0 argsU1 calleeOf scalarD scalarU delAll effD St.effS RK_seq RK_seq_ret RK_seq_exit RK_blk RK_blk_ret RK_blk_exit RK_loop RK_loop_ret RK_loop_exit RK_done vs_seq vs_block vs_cond vs_region vs_loop applyW mkD rdIds lentIds callOf calleeOf freeOp D.ids Op.operands Call.operands isEffOp makeIfD makeFuncD typeAssertD conc concs conc1 uOfV panicD IntKind.bits allU2 List.take_of_length_le List.range_succ HR_nil HR_cons HR_grd v2_seq v2_block v2_skip v2_exit v2_ret v2_cond v2_region v2_draw v2_loop RN_0 RN_done RN_seq RN_seq_ret RN_seq_exit RN_blk RN_blk_ret RN_blk_exit RN_loop RN_loop_ret RN_loop_exit Cnd_tf Cnd_ft EndV getK_append frzN frz1 frz_env frz_obs St.frz St.frzS frzS fv fzVec fzMap fzBox frzObS frz_entD frz_rowsD frz frzOb normD normU norm1 normOb St.norm St.lp St.only keepE wkE wkO wkU Ob.under D.under under_rowsD under_entD H4_nil H4_cons H4_grd h4s resD oneOrTup pureD List.zipIdx_cons List.zipIdx_nil List.map_cons List.map_nil Nat.zero_add
attribute [local irreducible] V G H HD HD2 HD4 HD4h RetX RunK Eff CallP CallV EndOK Fun Ret FinOK LoopI LoopW EndW HR vs2 RN Cnd H4
abbrev expD (e : Exp) : D := .u (.agg e.row)
abbrev intD (n : Int) : D := .u (.int .i64 n)
theorem ne_facts {i nx : Nat} (h : i < nx) : ¬ i = nx ∧ ¬ nx = i ∧ (∀ k, ¬ i = nx + k) ∧ ∀ k, ¬ nx + k = i := ⟨by omega, by omega, fun k => by omega, fun k => by omega⟩
theorem unit_ret (l : List Tok) (p : Nat) (i nx : Nat) (hi : i < nx) (hp : p < l.length) (hl : TokOK l) :
  RetX Tryz.prog 183 [.ptr i 0] [(i, pOb l p)] nx (PPost l i nx intD (unitP l p)) := by
 have hne := ne_facts hi
 have hh1 := fun nx' (h : nx ≤ nx') => has_ret l p [99, 111, 105, 110, 115] i nx' (by omega) hp hl.len
 have hh2 := fun nx' (h : nx ≤ nx') => has_ret l p [100, 97, 121, 115] i nx' (by omega) hp hl.len
 have hh3 := fun nx' (h : nx ≤ nx') => has_ret l p [112, 101, 114] i nx' (by omega) hp hl.len
 unfold unitP
 by_cases h1 : isB l p [99, 111, 105, 110, 115] = true
 ·simp only [h1, if_true] at hh1 ⊢
  refine RetX.runW Tryz.func183 Tryz.ntmps183 rfl (by simp) fun Γ hn hpan => ?_
  repeat' (first
  | (refine V_run rfl ?_; simp [hne])
  | (refine CallP.ok1 (hh1 _ (by first | omega | (simp; done) | (simp; omega) | fail)) (by first | (simp [hne, getK_cons, getK, getK_append, getK_del]; done) | fail) (by rfl) (by first | assumption | (simp; done) | fail) (by rfl) (by simp) ?_; (try simp [hne]))
  | fail)
  (refine EndW.h Tryz.results183 ?_; simp)
  exact PPost.at_ok rfl rfl (by first | rfl | simp [del])
 ·simp only [h1, Bool.false_eq_true, if_false] at hh1 ⊢
  by_cases h2 : isB l p [100, 97, 121, 115] = true
  ·simp only [h2, if_true] at hh2 ⊢
   refine RetX.runW Tryz.func183 Tryz.ntmps183 rfl (by simp) fun Γ hn hpan => ?_
   repeat' (first
  | (refine V_run rfl ?_; simp [hne])
  | (refine CallP.ok1 (hh1 _ (by first | omega | (simp; done) | (simp; omega) | fail)) (by first | (simp [hne, getK_cons, getK, getK_append, getK_del]; done) | fail) (by rfl) (by first | assumption | (simp; done) | fail) (by rfl) (by simp) ?_; (try simp [hne]))
  | (refine CallP.ok1 (hh2 _ (by first | omega | (simp; done) | (simp; omega) | fail)) (by first | (simp [hne, getK_cons, getK, getK_append, getK_del]; done) | fail) (by rfl) (by first | assumption | (simp; done) | fail) (by rfl) (by simp) ?_; (try simp [hne]))
  | fail)
   (refine EndW.h Tryz.results183 ?_; simp)
   exact PPost.at_ok rfl rfl (by first | rfl | simp [del])
  ·simp only [h2, Bool.false_eq_true, if_false] at hh2 ⊢
   by_cases h3 : isB l p [112, 101, 114] = true
   ·simp only [h3, if_true] at hh3 ⊢
    have hw := fun nx' (h : nx ≤ nx') => want_ret l (p + 1) [[109, 105, 108, 108, 101]] i nx' (by omega) (isB_lt hl h3) hl (by simp)
    cases hr : wantP l (p + 1) [[109, 105, 108, 108, 101]] with
    | ok a q =>
     simp only [hr, List.map_cons, List.map_nil] at hw
     refine RetX.runW Tryz.func183 Tryz.ntmps183 rfl (by simp) fun Γ hn hpan => ?_
     repeat' (first
  | (refine V_run rfl ?_; simp [hne])
  | (refine CallP.ok1 (hh1 _ (by first | omega | (simp; done) | (simp; omega) | fail)) (by first | (simp [hne, getK_cons, getK, getK_append, getK_del]; done) | fail) (by rfl) (by first | assumption | (simp; done) | fail) (by rfl) (by simp) ?_; (try simp [hne]))
  | (refine CallP.ok1 (hh2 _ (by first | omega | (simp; done) | (simp; omega) | fail)) (by first | (simp [hne, getK_cons, getK, getK_append, getK_del]; done) | fail) (by rfl) (by first | assumption | (simp; done) | fail) (by rfl) (by simp) ?_; (try simp [hne]))
  | (refine CallP.ok1 (hh3 _ (by first | omega | (simp; done) | (simp; omega) | fail)) (by first | (simp [hne, getK_cons, getK, getK_append, getK_del]; done) | fail) (by rfl) (by first | assumption | (simp; done) | fail) (by rfl) (by simp) ?_; (try simp [hne]))
  | (refine CallP.ok1 (hw _ (by first | omega | (simp; done) | (simp; omega) | fail)) (by first | (simp [hne, getK_cons, getK, getK_append, getK_del]; done) | fail) (by rfl) (by first | assumption | (simp; done) | fail) (by rfl) (by simp) ?_; (try simp [hne]))
  | (refine CallP_frzV (by first | rfl | fail) ?_; simp [hne, frzN, frz1, frz_env, frz_obs, St.frz, St.frzS, frzS, fv, fzVec, fzMap, fzBox, frzObS, frz_entD, frz_rowsD, del, frz, frzOb])
  | fail)
     (refine EndW.wk { n := _, env := [(2, intD 4)], obs := [(i, pOb l q)], next := nx } (Wk.cut rfl (by simp [hn]) (by simp [wkO, getK_cons, getK, getK_append, getK_del, Ob.under, D.under, under_rowsD, under_entD, hne, hi]) (by simp [wkU, keepE, getK_cons, getK, D.under, hne, hi]) (by simp [wkE, keepE, getK_cons, getK, hne, hi])) (EndW.here ?_); (first | (refine EndOK.fin (.inr rfl) ?_) | (refine EndOK.fin (.inl rfl) ?_)); simp [resD, oneOrTup, Tryz.results183]; refine FinOK.here (by simp) ?_; try simp)
     exact PPost.at_ok rfl rfl (by first | rfl | simp [del])
    | stop pos e =>
     simp only [hr, List.map_cons, List.map_nil] at hw
     refine RetX.runW Tryz.func183 Tryz.ntmps183 rfl (by simp) fun Γ hn hpan => ?_
     repeat' (first
  | (refine V_run rfl ?_; simp [hne])
  | (refine CallP.ok1 (hh1 _ (by first | omega | (simp; done) | (simp; omega) | fail)) (by first | (simp [hne, getK_cons, getK, getK_append, getK_del]; done) | fail) (by rfl) (by first | assumption | (simp; done) | fail) (by rfl) (by simp) ?_; (try simp [hne]))
  | (refine CallP.ok1 (hh2 _ (by first | omega | (simp; done) | (simp; omega) | fail)) (by first | (simp [hne, getK_cons, getK, getK_append, getK_del]; done) | fail) (by rfl) (by first | assumption | (simp; done) | fail) (by rfl) (by simp) ?_; (try simp [hne]))
  | (refine CallP.ok1 (hh3 _ (by first | omega | (simp; done) | (simp; omega) | fail)) (by first | (simp [hne, getK_cons, getK, getK_append, getK_del]; done) | fail) (by rfl) (by first | assumption | (simp; done) | fail) (by rfl) (by simp) ?_; (try simp [hne]))
  | (refine CallP.pan1 (hw _ (by first | omega | (simp; done) | (simp; omega) | fail)) (by first | (simp [hne, getK_cons, getK, getK_append, getK_del]; done) | fail) (by rfl) (by first | assumption | (simp; done) | fail) (by rfl) (by simp) ?_; rintro ob' ⟨q', rfl⟩; refine ⟨_, Wk.refl _, ?_⟩)
  | (refine CallP_frzV (by first | rfl | fail) ?_; simp [hne, frzN, frz1, frz_env, frz_obs, St.frz, St.frzS, frzS, fv, fzVec, fzMap, fzBox, frzObS, frz_entD, frz_rowsD, del, frz, frzOb])
  | fail)
     (refine hpan _ _ (PanG.k ([(i, pOb l q')]) (nx) (by simp [hn, hi, getK_append, getK_del, getK_cons, getK] <;> omega) ?_); try simp)
     exact PPost.at_stop rfl
   ·simp only [h3, Bool.false_eq_true, if_false] at hh3 ⊢
    refine RetX.runW Tryz.func183 Tryz.ntmps183 rfl (by simp) fun Γ hn hpan => ?_
    repeat' (first
  | (refine V_run rfl ?_; simp [hne])
  | (refine CallP.ok1 (hh1 _ (by first | omega | (simp; done) | (simp; omega) | fail)) (by first | (simp [hne, getK_cons, getK, getK_append, getK_del]; done) | fail) (by rfl) (by first | assumption | (simp; done) | fail) (by rfl) (by simp) ?_; (try simp [hne]))
  | (refine CallP.ok1 (hh2 _ (by first | omega | (simp; done) | (simp; omega) | fail)) (by first | (simp [hne, getK_cons, getK, getK_append, getK_del]; done) | fail) (by rfl) (by first | assumption | (simp; done) | fail) (by rfl) (by simp) ?_; (try simp [hne]))
  | (refine CallP.ok1 (hh3 _ (by first | omega | (simp; done) | (simp; omega) | fail)) (by first | (simp [hne, getK_cons, getK, getK_append, getK_del]; done) | fail) (by rfl) (by first | assumption | (simp; done) | fail) (by rfl) (by simp) ?_; (try simp [hne]))
  | fail)
    (refine EndW.h Tryz.results183 ?_; simp)
    exact PPost.at_ok rfl rfl (by first | rfl | simp [del])
theorem glob_words : globD 0 = .u (.row (wordsL.map .str) 0) := by
 simp [globD, globs, wordsL, uOf]
theorem line_fun (x : Ins) (h0 : 0 ≤ x.op) (h1 : x.op < 15) (ha : -9223372036854775808 ≤ x.a) (hb : x.a ≤ 9223372036854775807) (hsl : x.s.length ≤ 1000000) : Fun Tryz.prog 50 [.u (.agg [.int .i64 x.op, .int .i64 x.a, .str x.s])] (· = .u (.str (lineC x))) := by
 have hgw := glob_words
 have hwl : wordsL.length = 15 := rfl
 have hu : wordsL[x.op.toNat]? = some (wordC x.op) := by
  rw [wordC, List.getD, List.getElem?_eq_getElem (by omega)]; rfl
 have hu' : ∀ h, wordsL[x.op.toNat]'h = wordC x.op := fun h => (List.getElem?_eq_some_iff.1 hu).2
 have hit := itoa_fun x.a ha hb
 have hkn : ((x.op.toNat : Nat) : Int) = x.op := by omega
 have hs : ∃ W, W = wordC x.op := ⟨_, rfl⟩
 obtain ⟨W, hW⟩ := hs
 unfold lineC
 have hwl2 : ∀ w ∈ wordsL, w.length ≤ 5 := by decide
 have hWl : (wordC x.op).length ≤ 5 := hwl2 _ (List.mem_of_getElem? hu)
 rw [← hW] at hu hu' hWl ⊢
 clear hW hwl2
 have hil := Lib.itoa_length_le x.a ha hb
 generalize Lib.itoa x.a = T at *
 refine Fun.run Tryz.func50 Tryz.ntmps50 Tryz.results50 rfl (by simp) fun Γ hn => ?_; simp only [entry, List.zipIdx_cons, List.zipIdx_nil, List.map_cons, List.map_nil, Nat.zero_add]
 by_cases e0 : x.op = 0
 ·rw [e0] at hu' ⊢
  have hwx : wordsL[0]'(by decide) = W := hu' (by decide)
  clear hu hu' hkn
  repeat' (first
  | (refine V_run rfl ?_; simp [hgw, hwl, hwx])
  | (refine And.intro (by omega) ?_)
  | (refine CallP.f2 rfl (hit) (by first | simp [hgw, hwl, hwx] <;> rfl | fail) ?_; simp [hgw, hwl, hwx])
  | fail)
  (refine Pst.of ?_; simp)
 by_cases e12 : x.op = 12
 ·rw [e12] at hu' ⊢
  have hwx : wordsL[12]'(by decide) = W := hu' (by decide)
  clear hu hu' hkn
  repeat' (first
  | (refine V_run rfl ?_; simp [hgw, hwl, hwx])
  | (refine And.intro (by omega) ?_)
  | (refine CallP.f2 rfl (hit) (by first | simp [hgw, hwl, hwx] <;> rfl | fail) ?_; simp [hgw, hwl, hwx])
  | fail)
  (refine Pst.of ?_; simp)
 by_cases e13 : x.op = 13
 ·rw [e13] at hu' ⊢
  have hwx : wordsL[13]'(by decide) = W := hu' (by decide)
  clear hu hu' hkn
  repeat' (first
  | (refine V_run rfl ?_; simp [hgw, hwl, hwx])
  | (refine And.intro (by omega) ?_)
  | (refine CallP.f2 rfl (hit) (by first | simp [hgw, hwl, hwx] <;> rfl | fail) ?_; simp [hgw, hwl, hwx])
  | fail)
  (refine Pst.of ?_; simp)
 by_cases e1 : x.op = 1
 ·rw [e1] at hu' ⊢
  have hwx : wordsL[1]'(by decide) = W := hu' (by decide)
  clear hu hu' hkn
  repeat' (first
  | (refine V_run rfl ?_; simp [hgw, hwl, hwx])
  | (refine And.intro (by omega) ?_)
  | fail)
  (refine Pst.of ?_; simp)
 repeat' (first
  | (refine V_run rfl ?_; simp [hgw, hwl, hu, hu', h0, h1, hkn, e0, e1, e12, e13])
  | (refine And.intro (by omega) ?_)
  | fail)
 (refine Pst.of ?_; simp)
end Go.Proofs.YtkdhmbhbbciedaaGreatDoor
namespace Go.Proofs.YtkdhmbhbbciedaaGreatDoor
open Go Go.VL Go.Shelf Go.RowKit
attribute [local simp] HS exS_some hcons hstep evPure opd uOf putOK St.put St.at getK binD binI binS binB nilD aggD eqUs cmpK lookD lookR rangeD rangeS Go.VL.nextD Go.VL.nextS entryD keyD valU keyU lookK mkV entD_nil allUE makeMapD mapUpdD mapEff updK valM Key.kk shiftI arith unD convD pickD loadD cellsAt fieldAddrD fieldD indexAddrD indexSlD arrAddr indexD sliceD cutD lenD minmaxD nilCheckD buildD fillD cellsD isOne ones setAll mkAgg allU allocD boxD storeD St.add buildSliceD appendD rowsOf makeD setOb getK_setOb getK_del getK_cons stripL strip guardTmp entry chunks zcells valD argsV argsW argW argU1 argU0 argsU0 argsU1 calleeOf scalarD scalarU delAll effD St.effS RK_seq RK_seq_ret RK_seq_exit RK_blk RK_blk_ret RK_blk_exit RK_loop RK_loop_ret RK_loop_exit RK_done vs_seq vs_block vs_cond vs_region vs_loop applyW mkD rdIds lentIds callOf calleeOf freeOp D.ids Op.operands Call.operands isEffOp makeIfD makeFuncD typeAssertD conc concs conc1 uOfV panicD IntKind.bits allU2 List.take_of_length_le List.range_succ HR_nil HR_cons HR_grd v2_seq v2_block v2_skip v2_exit v2_ret v2_cond v2_region v2_draw v2_loop RN_0 RN_done RN_seq RN_seq_ret RN_seq_exit RN_blk RN_blk_ret RN_blk_exit RN_loop RN_loop_ret RN_loop_exit Cnd_tf Cnd_ft EndV getK_append frzN frz1 frz_env frz_obs St.frz St.frzS frzS fv fzVec fzMap fzBox frzObS frz_entD frz_rowsD frz frzOb normD normU norm1 normOb St.norm St.lp St.only keepE wkE wkO wkU Ob.under D.under under_rowsD under_entD H4_nil H4_cons H4_grd h4s resD oneOrTup pureD List.zipIdx_cons List.zipIdx_nil List.map_cons List.map_nil Nat.zero_add
attribute [local irreducible] V G H HD HD2 HD4 HD4h RetX RunK Eff CallP CallV EndOK Fun Ret FinOK LoopI LoopW EndW HR vs2 RN Cnd H4
theorem index1_fun (s : W8) (c : UInt8) : Fun Tryz.prog 119 [.u (.str s), .u (.str [c])] (· = .u (.int .i64 (Lib.indexByte s c))) := by
 have hib := indexByte_fun s c
 by_cases he : s = [c]
 ·subst he
  have e : Lib.indexByte [c] c = 0 := by simp [Lib.indexByte]
  rw [e]
  refine Fun.run Tryz.func119 Tryz.ntmps119 Tryz.results119 rfl (by simp) fun Γ hn => ?_
  repeat' (first
  | (refine V_run rfl ?_; simp)
  | fail)
  (refine Pst.of ?_; simp)
 ·generalize Lib.indexByte s c = n at hib ⊢
  have he' : ¬ [c] = s := fun e => he e.symm
  refine Fun.run Tryz.func119 Tryz.ntmps119 Tryz.results119 rfl (by simp) fun Γ hn => ?_
  repeat' (first
  | (refine V_run rfl ?_; simp [he', he])
  | (refine CallP.f2 rfl (hib) (by first | simp [he', he] <;> rfl | fail) ?_; simp [he', he])
  | fail)
  (refine Pst.of ?_; simp)
theorem index_fun (s : W8) (c : UInt8) : Fun Tryz.prog 117 [.u (.str s), .u (.str [c])] (· = .u (.int .i64 (Lib.indexByte s c))) := by
 have hib := index1_fun s c
 refine Fun.run Tryz.func117 Tryz.ntmps117 Tryz.results117 rfl (by simp) fun Γ hn => ?_
 repeat' (first
  | (refine V_run rfl ?_; simp)
  | (refine CallP.f2 rfl (hib) (by first | simp <;> rfl | fail) ?_; simp)
  | fail)
 (refine Pst.of ?_; simp)
/-- What Cut returns. -/
def cutU (c : UInt8) (s : W8) : D := match cutB c s with
 | some p => .tup [.u (.str p.1), .u (.str p.2), .u (.bool true)]
 | none => .tup [.u (.str s), .u (.str []), .u (.bool false)]
theorem cut1_fun (s : W8) (c : UInt8) (hl : s.length ≤ 140737488355328) : Fun Tryz.prog 77 [.u (.str s), .u (.str [c])] (· = cutU c s) := by
 have hib := index1_fun s c
 have hix := index_cut (c := c) s
 unfold cutU
 cases hc : cutB c s with
 | none =>
  rw [hc] at hix
  simp only at hix
  rw [hix] at hib
  refine Fun.run Tryz.func77 Tryz.ntmps77 Tryz.results77 rfl (by simp) fun Γ hn => ?_
  repeat' (first
  | (refine V_run rfl ?_; simp)
  | (refine CallP.f2 rfl (hib) (by first | simp <;> rfl | fail) ?_; simp)
  | fail)
  (refine Pst.of ?_; simp)
 | some pq =>
  obtain ⟨p, q⟩ := pq
  rw [hc] at hix
  simp only at hix ⊢
  rw [hix] at hib
  obtain ⟨rfl, _⟩ := cut_some hc
  simp at hl
  have e1 : List.drop (p.length + 1) (p ++ c :: q) = q := by simp [List.drop_append]
  have e2 : List.take p.length (p ++ c :: q) = p := by simp
  have b1 : p.length ≤ (p ++ c :: q).length := by simp
  have b2 : p.length + 1 ≤ (p ++ c :: q).length := by simp
  refine Fun.run Tryz.func77 Tryz.ntmps77 Tryz.results77 rfl (by simp) fun Γ hn => ?_
  repeat' (first
  | (refine V_run rfl ?_; simp [e1, e2, b1, b2])
  | (refine And.intro (by omega) ?_)
  | (refine ⟨hC _ (by kernel_rfl), hk _ (RN_K 8 _ _ _ ?_)⟩; clear hC hk C k; simp [e1, e2, b1, b2])
  | (refine V_dx rfl (by kernel_rfl) (by first | (simp [hn]; done) | (simp [hn]; omega) | fail) fun C k hC hk => ?_; simp [e1, e2, b1, b2])
  | (refine CallP.f2 rfl (hib) (by first | simp [e1, e2, b1, b2] <;> rfl | fail) ?_; simp [e1, e2, b1, b2])
  | fail)
  (refine Pst.of ?_; simp)
theorem cut_fun (s : W8) (c : UInt8) (hl : s.length ≤ 140737488355328) : Fun Tryz.prog 43 [.u (.str s), .u (.str [c])] (· = cutU c s) := by
 have hib := cut1_fun s c hl
 unfold cutU at hib ⊢
 cases hc : cutB c s <;> rw [hc] at hib <;> simp only at hib ⊢
 all_goals
  refine Fun.run Tryz.func43 Tryz.ntmps43 Tryz.results43 rfl (by simp) fun Γ hn => ?_
  repeat' (first
  | (refine V_run rfl ?_; simp)
  | (refine CallP.f2 rfl (hib) (by first | simp <;> rfl | fail) ?_; simp)
  | fail)
  (refine Pst.of ?_; simp)
theorem hasSuffix_fun (s : W8) (hl : s.length ≤ 140737488355328) : Fun Tryz.prog 118 [.u (.str s), .u (.str [10])] (· = .u (.bool (decide (s.getLast? = some 10)))) := by
 rcases List.eq_nil_or_concat s with rfl | ⟨t, c, rfl⟩
 ·refine Fun.run Tryz.func118 Tryz.ntmps118 Tryz.results118 rfl (by simp) fun Γ hn => ?_
  repeat' (first
  | (refine V_run rfl ?_; simp)
  | fail)
  (refine Pst.of ?_; simp)
 ·rw [List.concat_eq_append] at hl ⊢
  have e1 : List.drop t.length (t ++ [c]) = [c] := by simp
  have e2 : (t ++ [c]).getLast? = some c := by simp
  simp at hl
  rw [e2]
  refine Fun.run Tryz.func118 Tryz.ntmps118 Tryz.results118 rfl (by simp) fun Γ hn => ?_
  repeat' (first
  | (refine Cnd.of (fun hc => ?_) (fun hc => ?_) <;> (try (exfalso; omega)) <;> (try simp [e1]))
  | (refine V_run rfl ?_; simp [e1])
  | (refine And.intro (by omega) ?_)
  | fail)
  (refine Pst.of ?_; simp)
theorem trim1_fun (s : W8) (hl : s.length ≤ 140737488355328) : Fun Tryz.prog 76 [.u (.str s), .u (.str [10])] (· = .u (.str (trimN s))) := by
 have hsf := hasSuffix_fun s hl
 unfold trimN
 by_cases hb : s.getLast? = some 10
 ·rw [decide_eq_true hb] at hsf
  rw [if_pos hb]
  obtain ⟨t, rfl⟩ : ∃ t, s = t ++ [10] := List.getLast?_eq_some_iff.1 hb
  have e1 : List.take t.length (t ++ [10]) = t := by simp
  simp at hl
  refine Fun.run Tryz.func76 Tryz.ntmps76 Tryz.results76 rfl (by simp) fun Γ hn => ?_
  repeat' (first
  | (refine V_run rfl ?_; simp [e1])
  | (refine And.intro (by omega) ?_)
  | (refine CallP.f2 rfl (hsf) (by first | simp [e1] <;> rfl | fail) ?_; simp [e1])
  | fail)
  (refine Pst.of ?_; simp)
 ·rw [decide_eq_false hb] at hsf
  rw [if_neg hb]
  refine Fun.run Tryz.func76 Tryz.ntmps76 Tryz.results76 rfl (by simp) fun Γ hn => ?_
  repeat' (first
  | (refine V_run rfl ?_; simp)
  | (refine CallP.f2 rfl (hsf) (by first | simp <;> rfl | fail) ?_; simp)
  | fail)
  (refine Pst.of ?_; simp)
theorem trim_fun (s : W8) (hl : s.length ≤ 140737488355328) : Fun Tryz.prog 42 [.u (.str s), .u (.str [10])] (· = .u (.str (trimN s))) := by
 have hsf := trim1_fun s hl
 refine Fun.run Tryz.func42 Tryz.ntmps42 Tryz.results42 rfl (by simp) fun Γ hn => ?_
 repeat' (first
  | (refine V_run rfl ?_; simp)
  | (refine CallP.f2 rfl (hsf) (by first | simp <;> rfl | fail) ?_; simp)
  | fail)
 (refine Pst.of ?_; simp)
end Go.Proofs.YtkdhmbhbbciedaaGreatDoor
namespace Go.Proofs.YtkdhmbhbbciedaaGreatDoor
open Go Go.VL
attribute [local simp] HS exS_some hcons hstep evPure opd uOf putOK St.put St.at getK binD binI binS binB nilD aggD eqUs cmpK lookD lookR rangeD rangeS Go.VL.nextD Go.VL.nextS entryD keyD valU keyU lookK mkV entD_nil allUE makeMapD mapUpdD mapEff updK valM Key.kk shiftI arith unD convD pickD loadD cellsAt fieldAddrD fieldD indexAddrD indexSlD arrAddr indexD sliceD cutD lenD minmaxD nilCheckD buildD fillD cellsD isOne ones setAll mkAgg allU allocD boxD storeD St.add buildSliceD appendD rowsOf makeD setOb getK_setOb getK_del getK_cons stripL strip guardTmp entry chunks zcells valD argsV argsW argW argU1 argU0 argsU0 argsU1 calleeOf scalarD scalarU delAll effD St.effS RK_seq RK_seq_ret RK_seq_exit RK_blk RK_blk_ret RK_blk_exit RK_loop RK_loop_ret RK_loop_exit RK_done vs_seq vs_block vs_cond vs_region vs_loop applyW mkD rdIds lentIds callOf calleeOf freeOp D.ids Op.operands Call.operands isEffOp makeIfD makeFuncD typeAssertD conc concs conc1 uOfV panicD IntKind.bits allU2 List.take_of_length_le List.range_succ HR_nil HR_cons HR_grd v2_seq v2_block v2_skip v2_exit v2_ret v2_cond v2_region v2_draw v2_loop RN_0 RN_done RN_seq RN_seq_ret RN_seq_exit RN_blk RN_blk_ret RN_blk_exit RN_loop RN_loop_ret RN_loop_exit Cnd_tf Cnd_ft EndV getK_append frzN frz1 frz_env frz_obs St.frz St.frzS frzS fv fzVec fzMap fzBox frzObS frz_entD frz_rowsD frz frzOb normD normU norm1 normOb St.norm St.lp St.only keepE wkE wkO wkU Ob.under D.under under_rowsD under_entD H4_nil H4_cons H4_grd h4s resD oneOrTup pureD List.zipIdx_cons List.zipIdx_nil List.map_cons List.map_nil Nat.zero_add
attribute [local irreducible] V G H HD HD2 HD4 HD4h RetX RunK Eff CallP CallV EndOK Fun Ret FinOK LoopI LoopW EndW HR vs2 RN Cnd H4
theorem split_iter (c : UInt8) (s : W8) (hl : s.length ≤ 140737488355328) : Iter Tryz.prog 115 [.ptr 2 0, .ptr 1 0, .ptr 3 0] (splitO c s) (splitO c (lastP c s)) ((pieces c s).map fun t => .u (.str t)) := by
 intro k0 l L A N hdis hN hY
 have hNle : ∀ i, N 0 ≤ N i := fun i => by
  induction i with
  | zero => omega
  | succ i ih => exact Nat.le_trans ih (hN i)
 simp only [splitO] at hdis ⊢
 have hdis1 : ∀ i j ob, getK [(1, Ob.box [D.u (.str s)]), (2, Ob.box [D.u (.str [c])]), (3, Ob.box [D.u (.int .i64 0)])] j = some ob → getK (A i) j = none := hdis
 have hdis2 : ∀ (t : W8) i j ob, getK [(1, Ob.box [D.u (.str t)]), (2, Ob.box [D.u (.str [c])]), (3, Ob.box [D.u (.int .i64 0)])] j = some ob → getK (A i) j = none := fun t i j ob h => by
  simp only [getK_cons] at h hdis1
  by_cases h1 : j = 1
  ·exact hdis1 i j _ (if_pos h1)
  ·rw [if_neg h1] at h
   exact hdis1 i j ob (by rw [if_neg h1]; exact h)
 generalize hls : lastP c s = ls
 refine RetI.of_body Tryz.func115 Tryz.ntmps115 rfl (by simp) fun Γ hn hyc hpan => ?_; simp only [entry, List.zipIdx_cons, List.zipIdx_nil, List.map_cons, List.map_nil, Nat.zero_add]
 rw [hold_at 8, hold_end 10]
 repeat' (first
  | (refine V_runH rfl ?_; simp)
  | fail)
 refine V_loopN (α := { p : Nat × W8 // (pieces c s).drop p.1 = pieces c p.2 ∧ p.2.length ≤ s.length ∧ ls = lastP c p.2 }) [0, 1, 2, 3] (fun _ => []) (fun p => [(1, .box [.u (.str p.1.2)]), (2, .box [.u (.str [c])]), (3, .box [.u (.int .i64 0)])] ++ A p.1.1) (fun p => N p.1.1) (fun p => p.1.2.length) ⟨(0, s), by simp, by simp, hls.symm⟩ ?_ ?_
 ·exact (Wk.env rfl rfl rfl (by simp [wkE, St.lp, keepE, getK_cons, getK] <;> (try (intros; simp_all; done)) <;> (try (intros; omega)) <;> (try grind)))
 rintro ⟨⟨i, t⟩, h1, h2, h3⟩
 simp
 have hix := index_fun t c
 rw [index_cut] at hix
 have hpc := pieces_cut (c := c) t
 simp only at h1 h2 h3
 have hN0 := hNle i
 have hlt : i < (pieces c s).length := by
  rcases Nat.lt_or_ge i (pieces c s).length with h | h
  ·exact h
  ·rw [List.drop_eq_nil_of_le h] at h1
   exact absurd h1.symm (pieces_ne t)
 cases hc : cutB c t with
 | none =>
  rw [hc] at hix hpc
  simp only at hix hpc
  have h3' : ls = t := h3.trans (lastP_none hc)
  have hlen : (pieces c s).length = i + 1 := by
   have := congrArg List.length h1
   rw [hpc] at this
   simp at this
   omega
  have hget : ((pieces c s).map fun t => D.u (.str t))[i]? = some (.u (.str t)) := by
   have : ((pieces c s).drop i)[0]? = some t := by rw [h1, hpc]; rfl
   rw [List.getElem?_drop] at this
   simp only [Nat.add_zero] at this
   rw [List.getElem?_map, this]
   rfl
  repeat' (first
  | (refine V_runH rfl ?_; simp)
  | (refine CallP.f2 rfl (hix) (by first | simp <;> rfl | fail) ?_; simp)
  | fail)
  refine V_yield0 2 hpan hyc rfl rfl ?_
  simp
  refine YS.of [(1, .box [.u (.str t)]), (2, .box [.u (.str [c])]), (3, .box [.u (.int .i64 0)])] (hY i _ hget) rfl (fun _ => rfl) (hdis2 t i) rfl (by simp) ?_
  rintro d o n hn2 ⟨rfl, rfl, rfl⟩
  simp
  repeat' (first | fail)
  (refine EndW.h Tryz.results115 ?_; simp)
  rw [hlen, h3']
  exact ⟨hNle _, ⟨rfl, rfl⟩, rfl⟩
 | some pq =>
  obtain ⟨p, q⟩ := pq
  rw [hc] at hix hpc
  simp only at hix hpc
  have hget : ((pieces c s).map fun t => D.u (.str t))[i]? = some (.u (.str p)) := by
   have : ((pieces c s).drop i)[0]? = some p := by rw [h1, hpc]; rfl
   rw [List.getElem?_drop] at this
   simp only [Nat.add_zero] at this
   rw [List.getElem?_map, this]
   rfl
  have hdrop : (pieces c s).drop (i + 1) = pieces c q := by
   have : ((pieces c s).drop i).drop 1 = pieces c q := by rw [h1, hpc]; rfl
   rw [List.drop_drop] at this
   exact this
  have hlp := lastP_some hc
  obtain ⟨rfl, _⟩ := cut_some hc
  simp at h2
  have e1 : List.drop (p.length + 1) (p ++ c :: q) = q := by simp [List.drop_append]
  have e2 : List.take p.length (p ++ c :: q) = p := by simp
  repeat' (first
  | (refine Cnd.of (fun hc => ?_) (fun hc => ?_) <;> (try (exfalso; omega)) <;> (try simp [e1, e2]))
  | (refine V_runH rfl ?_; simp [e1, e2])
  | (refine And.intro (by omega) ?_)
  | (refine CallP.f2 rfl (hix) (by first | simp [e1, e2] <;> rfl | fail) ?_; simp [e1, e2])
  | fail)
  refine V_seq ?_
  refine V_yield 2 hpan hyc rfl rfl ?_
  simp
  refine YS.of [(1, .box [.u (.str (p ++ c :: q))]), (2, .box [.u (.str [c])]), (3, .box [.u (.int .i64 0)])] (hY i _ hget) rfl (fun _ => rfl) (hdis2 (p ++ c :: q) i) rfl (by simp) ?_
  rintro d o n hn2 ⟨rfl, rfl, rfl⟩
  simp
  repeat' (first
  | (refine V_runH rfl ?_; simp [e1, e2])
  | (refine And.intro (by omega) ?_)
  | fail)
  refine LoopW.next ⟨(i + 1, q), hdrop, by simp; omega, h3.trans hlp⟩ (by simp; omega) ?_
  exact (Wk.env rfl rfl rfl (by simp [wkE, St.lp, keepE, getK_cons, getK] <;> (try (intros; simp_all; done)) <;> (try (intros; omega)) <;> (try grind)))
end Go.Proofs.YtkdhmbhbbciedaaGreatDoor
namespace Go.Proofs.YtkdhmbhbbciedaaGreatDoor
open Go Go.VL Go.Shelf Go.RowKit
attribute [local simp] HS exS_some hcons hstep evPure opd uOf putOK St.put St.at getK binD binI binS binB nilD aggD eqUs cmpK lookD lookR rangeD rangeS Go.VL.nextD Go.VL.nextS entryD keyD valU keyU lookK mkV entD_nil allUE makeMapD mapUpdD mapEff updK valM Key.kk shiftI arith unD convD pickD loadD cellsAt fieldAddrD fieldD indexAddrD indexSlD arrAddr indexD sliceD cutD lenD minmaxD nilCheckD buildD fillD cellsD isOne ones setAll mkAgg allU allocD boxD storeD St.add buildSliceD appendD rowsOf makeD setOb getK_setOb getK_del getK_cons stripL strip guardTmp entry chunks zcells valD argsV argsW argW argU1 argU0 argsU0 argsU1 calleeOf scalarD scalarU delAll effD St.effS RK_seq RK_seq_ret RK_seq_exit RK_blk RK_blk_ret RK_blk_exit RK_loop RK_loop_ret RK_loop_exit RK_done vs_seq vs_block vs_cond vs_region vs_loop applyW mkD rdIds lentIds callOf calleeOf freeOp D.ids Op.operands Call.operands isEffOp makeIfD makeFuncD typeAssertD conc concs conc1 uOfV panicD IntKind.bits allU2 List.take_of_length_le List.range_succ HR_nil HR_cons HR_grd v2_seq v2_block v2_skip v2_exit v2_ret v2_cond v2_region v2_draw v2_loop RN_0 RN_done RN_seq RN_seq_ret RN_seq_exit RN_blk RN_blk_ret RN_blk_exit RN_loop RN_loop_ret RN_loop_exit Cnd_tf Cnd_ft EndV getK_append frzN frz1 frz_env frz_obs St.frz St.frzS frzS fv fzVec fzMap fzBox frzObS frz_entD frz_rowsD frz frzOb normD normU norm1 normOb St.norm St.lp St.only keepE wkE wkO wkU Ob.under D.under under_rowsD under_entD H4_nil H4_cons H4_grd h4s resD oneOrTup pureD List.zipIdx_cons List.zipIdx_nil List.map_cons List.map_nil Nat.zero_add
attribute [local irreducible] V G H HD HD2 HD4 HD4h RetX RunK Eff CallP CallV EndOK Fun Ret FinOK LoopI LoopW EndW HR vs2 RN Cnd H4
theorem splitSeq1_ret (s : W8) (c : UInt8) : Ret Tryz.prog 75 [.u (.str s), .u (.str [c]), .u (.int .i64 0)] [] 1
  (fun d o n => d = .fnc (.func 115) [.ptr 2 0, .ptr 1 0, .ptr 3 0] ∧ o = [(3, .box [.u (.int .i64 0)]), (2, .box [.u (.str [c])]), (1, .box [.u (.str s)])] ∧ n = 4) := by
 refine Ret.runW Tryz.func75 Tryz.ntmps75 rfl (by simp) fun Γ hn => ?_
 repeat' (first
  | (refine V_run rfl ?_; simp)
  | fail)
 (refine EndW.h Tryz.results75 ?_; simp)
theorem splitSeq_ret (s : W8) (c : UInt8) : Ret Tryz.prog 41 [.u (.str s), .u (.str [c])] [] 1
  (fun d o n => d = .fnc (.func 115) [.ptr 2 0, .ptr 1 0, .ptr 3 0] ∧ o = [(3, .box [.u (.int .i64 0)]), (2, .box [.u (.str [c])]), (1, .box [.u (.str s)])] ∧ n = 4) := by
 have h1 := splitSeq1_ret s c
 have hca : callable Tryz.prog 75 = true := by kernel_rfl
 refine Ret.runW Tryz.func41 Tryz.ntmps41 rfl (by simp) fun Γ hn => ?_
 repeat' (first
  | (refine V_run rfl ?_; simp [hca])
  | (refine CallP.ret0 (h1) (by rfl) (by first | assumption | simp) (by rfl) (by simp) ?_; rintro d o n' hn' ⟨rfl, rfl, rfl⟩; (try simp at hn'); (try simp [hca]))
  | fail)
 (refine EndW.h Tryz.results41 ?_; simp)
end Go.Proofs.YtkdhmbhbbciedaaGreatDoor
namespace Go.Proofs.YtkdhmbhbbciedaaGreatDoor
open Go Go.VL
attribute [local simp] HS exS_some hcons hstep evPure opd uOf putOK St.put St.at getK binD binI binS binB nilD aggD eqUs cmpK lookD lookR rangeD rangeS Go.VL.nextD Go.VL.nextS entryD keyD valU keyU lookK mkV entD_nil allUE makeMapD mapUpdD mapEff updK valM Key.kk shiftI arith unD convD pickD loadD cellsAt fieldAddrD fieldD indexAddrD indexSlD arrAddr indexD sliceD cutD lenD minmaxD nilCheckD buildD fillD cellsD isOne ones setAll mkAgg allU allocD boxD storeD St.add buildSliceD appendD rowsOf makeD setOb getK_setOb getK_del getK_cons stripL strip guardTmp entry chunks zcells valD argsV argsW argW argU1 argU0 argsU0 argsU1 calleeOf scalarD scalarU delAll effD St.effS RK_seq RK_seq_ret RK_seq_exit RK_blk RK_blk_ret RK_blk_exit RK_loop RK_loop_ret RK_loop_exit RK_done vs_seq vs_block vs_cond vs_region vs_loop applyW mkD rdIds lentIds callOf calleeOf freeOp D.ids Op.operands Call.operands isEffOp makeIfD makeFuncD typeAssertD conc concs conc1 uOfV panicD IntKind.bits allU2 List.take_of_length_le List.range_succ HR_nil HR_cons HR_grd v2_seq v2_block v2_skip v2_exit v2_ret v2_cond v2_region v2_draw v2_loop RN_0 RN_done RN_seq RN_seq_ret RN_seq_exit RN_blk RN_blk_ret RN_blk_exit RN_loop RN_loop_ret RN_loop_exit Cnd_tf Cnd_ft EndV getK_append frzN frz1 frz_env frz_obs St.frz St.frzS frzS fv fzVec fzMap fzBox frzObS frz_entD frz_rowsD frz frzOb normD normU norm1 normOb St.norm St.lp St.only keepE wkE wkO wkU Ob.under D.under under_rowsD under_entD H4_nil H4_cons H4_grd h4s resD oneOrTup pureD List.zipIdx_cons List.zipIdx_nil List.map_cons List.map_nil Nat.zero_add
attribute [local irreducible] V G H HD HD2 HD4 HD4h RetX RunK Eff CallP CallV EndOK Fun Ret FinOK LoopI LoopW EndW HR vs2 RN Cnd H4
abbrev pairD (e : Exp × Int) : D := .tup [.u (.agg e.1.row), .u (.int .i64 e.2)]
def ExpOK (l : List Tok) (f : Nat) : Prop := ∀ (p : Nat) (form : Int) (i nx : Nat), i < nx → p < l.length → 4 * (l.length - p) + 3 ≤ f → 0 ≤ form → form ≤ 7 →
 RetX Tryz.prog 106 [.ptr i 0, intD form] [(i, pOb l p)] nx (PPost l i nx expD (expP l f p form))
def PreOK (l : List Tok) (f : Nat) : Prop := ∀ (p : Nat) (form : Int) (i nx : Nat), i < nx → p < l.length → 4 * (l.length - p) + 2 ≤ f → 0 ≤ form → form ≤ 7 →
 RetX Tryz.prog 139 [.ptr i 0, intD form] [(i, pOb l p)] nx (PPost l i nx pairD (prefixP l f p form))
def PrimOK (l : List Tok) (f : Nat) : Prop := ∀ (p : Nat) (i nx : Nat), i < nx → p < l.length → 4 * (l.length - p) + 1 ≤ f →
 RetX Tryz.prog 170 [.ptr i 0] [(i, pOb l p)] nx (PPost l i nx expD (primaryP l f p))
theorem want1 {l : List Tok} (hl : TokOK l) (w : List UInt8) {q i nx : Nat} (hi : i < nx) (hq : q < l.length) :
  RetX Tryz.prog 169 [.ptr i 0, .u (.sl [[.str w]])] [(i, pOb l q)] nx (PPost l i nx (fun _ => .tup []) (wantP l q [w])) := want_ret l q [w] i nx hi hq hl (by simp)
theorem primary_num {l : List Tok} (hl : TokOK l) {f p : Nat} {t : Tok} (ht : l[p]? = some t) (hk : t.kind = 2) {i nx : Nat} (hi : i < nx) :
  RetX Tryz.prog 170 [.ptr i 0] [(i, pOb l p)] nx (PPost l i nx expD (primaryP l (f + 1) p)) := by
 have hne := ne_facts hi
 have hp := (List.getElem?_eq_some_iff.1 ht).1
 have hnx := pnext_fun l p t ht hl.len
 have hp2 := hl.fin p t ht (by omega)
 have hll := hl.len
 rw [primaryP, ht]
 simp only [hk, if_true] at hnx ⊢
 have hu := fun nx' (h : nx ≤ nx') => unit_ret l (p + 1) i nx' (by omega) hp2 hl
 cases hr : unitP l (p + 1) with
 | ok a q =>
  simp only [hr] at hu
  refine RetX.runW Tryz.func170 Tryz.ntmps170 rfl (by simp) fun Γ hn hpan => ?_
  repeat' (first
  | (refine HD4_ok1 (fun nx' h' => hu nx' (by simp at h'; omega)) (by first | (simp [hne, getK_cons, getK, getK_append, getK_del, getK_setOb, applyW]; done) | fail) (by rfl) (by first | assumption | simp) (by rfl) (by simp [D.under, Ob.under]) (by simp) ?_; (try simp [hne]))
  | (refine V_run rfl ?_; simp [hne])
  | (refine And.intro (by omega) ?_)
  | (refine ⟨hC _ (okP4_ren [i] nx (by simp <;> omega) (by simp <;> omega) (by apply Exists.intro; apply And.intro; (focus (repeat' (first | exact KF.nil | exact KL.nil | apply KF.cons | apply KL.cons 0 rfl | apply KL.cons 1 rfl | apply KL.cons 2 rfl | apply KL.cons 3 rfl | apply KL.cons 4 rfl | apply KL.cons 5 rfl | apply KL.cons 6 rfl | apply KL.cons 7 rfl | apply KL.cons 8 rfl | apply KL.cons 9 rfl))); kernel_rfl)), hk _ (RN_K 8 _ _ _ ?_)⟩; clear hC hk C k; simp [hne])
  | (refine V_dx rfl (by kernel_rfl) (by first | (simp [hn]; done) | (simp [hn]; omega) | fail) fun C k hC hk => ?_; simp [hne])
  | (refine H4_HD4 rfl ?_; simp [hne])
  | (refine CallP.f2 rfl (hnx) (by first | simp [hne] <;> rfl | fail) ?_; simp [hne])
  | fail)
  refine EndW.norm ?_
  simp [St.norm, normOb, normD, normU, norm1, hne]
  (refine EndW.z ([(i, pOb l q)]) (N := nx) Tryz.results170 (by simp [hne, hi] <;> omega) ?_; simp [hne, hi])
  exact PPost.at_ok rfl (by simp [Exp.row]) rfl
 | stop pos e =>
  simp only [hr] at hu
  refine RetX.runW Tryz.func170 Tryz.ntmps170 rfl (by simp) fun Γ hn hpan => ?_
  repeat' (first
  | (refine HD4_pan1 (fun nx' h' => hu nx' (by simp at h'; omega)) (by first | (simp [hne, getK_cons, getK, getK_append, getK_del, getK_setOb, applyW]; done) | fail) (by rfl) (by first | assumption | simp) (by rfl) (by simp) ?_ ?_; rintro env' ob' n' hn' ⟨q', rfl⟩; refine ⟨_, Wk.refl _, ?_⟩)
  | (refine HD4_skipS rfl (by simp) ?_; simp)
  | (refine V_run rfl ?_; simp [hne])
  | (refine And.intro (by omega) ?_)
  | (refine HD4_nilS (hC _ (okP4_ren [i] nx (by simp <;> omega) (by simp <;> omega) (by apply Exists.intro; apply And.intro; (focus (repeat' (first | exact KF.nil | exact KL.nil | apply KF.cons | apply KL.cons 0 rfl | apply KL.cons 1 rfl | apply KL.cons 2 rfl | apply KL.cons 3 rfl | apply KL.cons 4 rfl | apply KL.cons 5 rfl | apply KL.cons 6 rfl | apply KL.cons 7 rfl | apply KL.cons 8 rfl | apply KL.cons 9 rfl))); kernel_rfl))) rfl; done)
  | (refine V_dx rfl (by kernel_rfl) (by first | (simp [hn]; done) | (simp [hn]; omega) | fail) fun C k hC hk => ?_; simp [hne])
  | (refine CallP.f2 rfl (hnx) (by first | simp [hne] <;> rfl | fail) ?_; simp [hne])
  | fail)
  (refine hpan _ _ (PanG.k ([(i, pOb l q')]) (nx) (by simp [hn, hi, hne, getK_append, getK_del, getK_cons, getK] <;> omega) ?_); try simp)
  exact PPost.at_stop (by simp [PR.bind])
theorem primary_true {l : List Tok} (hl : TokOK l) {f p : Nat} {t : Tok} (ht : l[p]? = some t) (hk : ¬ t.kind = 2) (h1 : isB l p [116, 114, 117, 101] = true) {i nx : Nat} (hi : i < nx) :
  RetX Tryz.prog 170 [.ptr i 0] [(i, pOb l p)] nx (PPost l i nx expD (primaryP l (f + 1) p)) := by
 have hne := ne_facts hi
 have hp := (List.getElem?_eq_some_iff.1 ht).1
 have hnx := pnext_fun l p t ht hl.len
 have hll := hl.len
 rw [primaryP, ht]
 have hh1 := fun nx' (h : nx ≤ nx') => has_ret l p [116, 114, 117, 101] i nx' (by omega) hp hl.len
 simp only [hk, h1, if_false, if_true] at hh1 ⊢
 refine RetX.runW Tryz.func170 Tryz.ntmps170 rfl (by simp) fun Γ hn hpan => ?_
 repeat' (first
  | (refine V_run rfl ?_; simp [hne, hk, del])
  | (refine CallP.f2 rfl (hnx) (by first | simp [hne, hk, del] <;> rfl | fail) ?_; simp [hne, hk, del])
  | (refine CallP.ok1 (hh1 _ (by first | omega | (simp; done) | (simp; omega) | fail)) (by first | (simp [hne, hk, del, getK_cons, getK, getK_append, getK_del]; done) | fail) (by rfl) (by first | assumption | (simp; done) | fail) (by rfl) (by simp) ?_; (try simp [hne, hk, del]))
  | fail)
 refine EndW.norm ?_
 simp [St.norm, normOb, normD, normU, norm1, hne]
 (refine EndW.z ([(i, pOb l (p + 1))]) (N := nx) Tryz.results170 (by simp [hne, hi] <;> omega) ?_; simp [hne, hi])
 exact PPost.at_ok rfl (by simp [Exp.row]) rfl
theorem primary_false {l : List Tok} (hl : TokOK l) {f p : Nat} {t : Tok} (ht : l[p]? = some t) (hk : ¬ t.kind = 2) (h1 : isB l p [116, 114, 117, 101] = false) (h2 : isB l p [102, 97, 108, 115, 101] = true) {i nx : Nat} (hi : i < nx) :
  RetX Tryz.prog 170 [.ptr i 0] [(i, pOb l p)] nx (PPost l i nx expD (primaryP l (f + 1) p)) := by
 have hne := ne_facts hi
 have hp := (List.getElem?_eq_some_iff.1 ht).1
 have hnx := pnext_fun l p t ht hl.len
 have hll := hl.len
 rw [primaryP, ht]
 have hh1 := fun nx' (h : nx ≤ nx') => has_ret l p [116, 114, 117, 101] i nx' (by omega) hp hl.len
 have hh2 := fun nx' (h : nx ≤ nx') => has_ret l p [102, 97, 108, 115, 101] i nx' (by omega) hp hl.len
 simp only [hk, h1, h2, if_false, if_true, Bool.false_eq_true] at hh1 hh2 ⊢
 refine RetX.runW Tryz.func170 Tryz.ntmps170 rfl (by simp) fun Γ hn hpan => ?_
 repeat' (first
  | (refine V_run rfl ?_; simp [hne, hk, del])
  | (refine CallP.f2 rfl (hnx) (by first | simp [hne, hk, del] <;> rfl | fail) ?_; simp [hne, hk, del])
  | (refine CallP.ok1 (hh1 _ (by first | omega | (simp; done) | (simp; omega) | fail)) (by first | (simp [hne, hk, del, getK_cons, getK, getK_append, getK_del]; done) | fail) (by rfl) (by first | assumption | (simp; done) | fail) (by rfl) (by simp) ?_; (try simp [hne, hk, del]))
  | (refine CallP.ok1 (hh2 _ (by first | omega | (simp; done) | (simp; omega) | fail)) (by first | (simp [hne, hk, del, getK_cons, getK, getK_append, getK_del]; done) | fail) (by rfl) (by first | assumption | (simp; done) | fail) (by rfl) (by simp) ?_; (try simp [hne, hk, del]))
  | fail)
 refine EndW.norm ?_
 simp [St.norm, normOb, normD, normU, norm1, hne]
 (refine EndW.z ([(i, pOb l (p + 1))]) (N := nx) Tryz.results170 (by simp [hne, hi] <;> omega) ?_; simp [hne, hi])
 exact PPost.at_ok rfl (by simp [Exp.row]) rfl
theorem exp_ok {l : List Tok} {F : FuncId} {r : PR Exp} {e : Exp} {q i nx : Nat} {ds : List D} {obs : List (Nat × Ob)} (h : RetX Tryz.prog F ds obs nx (PPost l i nx expD r)) (hr : r = .ok e q) :
  RetX Tryz.prog F ds obs nx fun r o n => r = .val (.u (.agg [.int .i64 e.op, .int .i64 e.n, .int .i64 e.unit, .str e.s, .sl (e.args.map Exp.row)])) ∧ o = [(i, pOb l q)] ∧ n = nx := by
 subst hr
 rw [← Exp.row_eq]
 exact h
theorem primary_paren {l : List Tok} (hl : TokOK l) {f p : Nat} (hE : ExpOK l f) (hf : 4 * (l.length - p) ≤ f) {t : Tok} (ht : l[p]? = some t) (hk : ¬ t.kind = 2) (h1 : isB l p [116, 114, 117, 101] = false) (h2 : isB l p [102, 97, 108, 115, 101] = false)
  (h3 : isB l p [109, 105, 110] = false) (h4 : isB l p [109, 97, 120] = false) (h5 : isB l p [40] = true) {i nx : Nat} (hi : i < nx) :
  RetX Tryz.prog 170 [.ptr i 0] [(i, pOb l p)] nx (PPost l i nx expD (primaryP l (f + 1) p)) := by
 have hne := ne_facts hi
 have hp := (List.getElem?_eq_some_iff.1 ht).1
 have hnx := pnext_fun l p t ht hl.len
 have hll := hl.len
 have hp2 := isB_lt hl h5
 rw [primaryP, ht]
 have hh1 := fun nx' (h : nx ≤ nx') => has_ret l p [116, 114, 117, 101] i nx' (by omega) hp hl.len
 have hh2 := fun nx' (h : nx ≤ nx') => has_ret l p [102, 97, 108, 115, 101] i nx' (by omega) hp hl.len
 have hm1 := is_fun l p [109, 105, 110] hp hl.len
 have hm2 := is_fun l p [109, 97, 120] hp hl.len
 have hh3 := fun nx' (h : nx ≤ nx') => has_ret l p [40] i nx' (by omega) hp hl.len
 simp only [hk, h1, h2, h3, h4, h5, if_false, if_true, Bool.false_eq_true, or_self] at hh1 hh2 hm1 hm2 hh3 ⊢
 have he := fun nx' (h : nx ≤ nx') => hE (p + 1) 0 i nx' (by omega) hp2 (by omega) (by omega) (by omega)
 cases hr : expP l f (p + 1) 0 with
 | stop pos e =>
  simp only [hr] at he
  refine RetX.runW Tryz.func170 Tryz.ntmps170 rfl (by simp) fun Γ hn hpan => ?_
  repeat' (first
  | (refine V_run rfl ?_; simp [hne, hk, del, Nat.add_assoc])
  | ((first | refine CallP.f2 rfl (hnx) (by first | simp [hne, hk, del, Nat.add_assoc] <;> rfl | fail) ?_ | refine CallP.f2 rfl (hm1) (by first | simp [hne, hk, del, Nat.add_assoc] <;> rfl | fail) ?_ | refine CallP.f2 rfl (hm2) (by first | simp [hne, hk, del, Nat.add_assoc] <;> rfl | fail) ?_ | fail); simp [hne, hk, del, Nat.add_assoc])
  | (refine CallP.ok1 (hh1 _ (by first | omega | (simp; done) | (simp; omega) | fail)) (by first | (simp [hne, hk, del, Nat.add_assoc, getK_cons, getK, getK_append, getK_del]; done) | fail) (by rfl) (by first | assumption | (simp; done) | fail) (by rfl) (by simp) ?_; (try simp [hne, hk, del, Nat.add_assoc]))
  | (refine CallP.ok1 (hh2 _ (by first | omega | (simp; done) | (simp; omega) | fail)) (by first | (simp [hne, hk, del, Nat.add_assoc, getK_cons, getK, getK_append, getK_del]; done) | fail) (by rfl) (by first | assumption | (simp; done) | fail) (by rfl) (by simp) ?_; (try simp [hne, hk, del, Nat.add_assoc]))
  | (refine CallP.ok1 (hh3 _ (by first | omega | (simp; done) | (simp; omega) | fail)) (by first | (simp [hne, hk, del, Nat.add_assoc, getK_cons, getK, getK_append, getK_del]; done) | fail) (by rfl) (by first | assumption | (simp; done) | fail) (by rfl) (by simp) ?_; (try simp [hne, hk, del, Nat.add_assoc]))
  | (refine CallP.pan1 (he _ (by first | omega | (simp; done) | (simp; omega) | fail)) (by first | (simp [hne, hk, del, Nat.add_assoc, getK_cons, getK, getK_append, getK_del]; done) | fail) (by rfl) (by first | assumption | (simp; done) | fail) (by rfl) (by simp) ?_; rintro ob' ⟨q', rfl⟩; refine ⟨_, Wk.refl _, ?_⟩)
  | fail)
  (refine hpan _ _ (PanG.k ([(i, pOb l q')]) (nx) (by simp [hn, hi, hne, getK_append, getK_del, getK_cons, getK] <;> omega) ?_); try simp)
  exact PPost.at_stop (by simp [PR.bind, *])
 | ok e1 q1 =>
  have he := fun nx' h => exp_ok (he nx' h) hr
  obtain ⟨g1, g2⟩ := (parse_le hl f).1 _ _ _ _ hr hp2
  have hw := fun nx' (h : nx ≤ nx') => want1 hl [41] (q := q1) (i := i) (nx := nx') (by omega) g2
  cases hr2 : wantP l q1 [[41]] with
  | stop pos e =>
   simp only [hr2] at hw
   refine RetX.runW Tryz.func170 Tryz.ntmps170 rfl (by simp) fun Γ hn hpan => ?_
   repeat' (first
  | (refine V_run rfl ?_; simp [hne, hk, del, Nat.add_assoc])
  | ((first | refine CallP.f2 rfl (hnx) (by first | simp [hne, hk, del, Nat.add_assoc] <;> rfl | fail) ?_ | refine CallP.f2 rfl (hm1) (by first | simp [hne, hk, del, Nat.add_assoc] <;> rfl | fail) ?_ | refine CallP.f2 rfl (hm2) (by first | simp [hne, hk, del, Nat.add_assoc] <;> rfl | fail) ?_ | fail); simp [hne, hk, del, Nat.add_assoc])
  | (refine CallP.ok1 (hh1 _ (by first | omega | (simp; done) | (simp; omega) | fail)) (by first | (simp [hne, hk, del, Nat.add_assoc, getK_cons, getK, getK_append, getK_del]; done) | fail) (by rfl) (by first | assumption | (simp; done) | fail) (by rfl) (by simp) ?_; (try simp [hne, hk, del, Nat.add_assoc]))
  | (refine CallP.ok1 (hh2 _ (by first | omega | (simp; done) | (simp; omega) | fail)) (by first | (simp [hne, hk, del, Nat.add_assoc, getK_cons, getK, getK_append, getK_del]; done) | fail) (by rfl) (by first | assumption | (simp; done) | fail) (by rfl) (by simp) ?_; (try simp [hne, hk, del, Nat.add_assoc]))
  | (refine CallP.ok1 (hh3 _ (by first | omega | (simp; done) | (simp; omega) | fail)) (by first | (simp [hne, hk, del, Nat.add_assoc, getK_cons, getK, getK_append, getK_del]; done) | fail) (by rfl) (by first | assumption | (simp; done) | fail) (by rfl) (by simp) ?_; (try simp [hne, hk, del, Nat.add_assoc]))
  | (refine CallP.ok1 (he _ (by first | omega | (simp; done) | (simp; omega) | fail)) (by first | (simp [hne, hk, del, Nat.add_assoc, getK_cons, getK, getK_append, getK_del]; done) | fail) (by rfl) (by first | assumption | (simp; done) | fail) (by rfl) (by simp) ?_; (try simp [hne, hk, del, Nat.add_assoc]))
  | (refine CallP.pan1 (hw _ (by first | omega | (simp; done) | (simp; omega) | fail)) (by first | (simp [hne, hk, del, Nat.add_assoc, getK_cons, getK, getK_append, getK_del]; done) | fail) (by rfl) (by first | assumption | (simp; done) | fail) (by rfl) (by simp) ?_; rintro ob' ⟨q', rfl⟩; refine ⟨_, Wk.refl _, ?_⟩)
  | (refine CallP_frzV (by first | rfl | fail) ?_; simp [hne, hk, del, Nat.add_assoc, frzN, frz1, frz_env, frz_obs, St.frz, St.frzS, frzS, fv, fzVec, fzMap, fzBox, frzObS, frz_entD, frz_rowsD, del, frz, frzOb])
  | fail)
   (refine hpan _ _ (PanG.k ([(i, pOb l q')]) (nx) (by simp [hn, hi, hne, getK_append, getK_del, getK_cons, getK] <;> omega) ?_); try simp)
   exact PPost.at_stop (by simp [PR.bind, *])
  | ok u2 q =>
   simp only [hr2] at hw
   refine RetX.runW Tryz.func170 Tryz.ntmps170 rfl (by simp) fun Γ hn hpan => ?_
   repeat' (first
  | (refine V_run rfl ?_; simp [hne, hk, del, Nat.add_assoc])
  | ((first | refine CallP.f2 rfl (hnx) (by first | simp [hne, hk, del, Nat.add_assoc] <;> rfl | fail) ?_ | refine CallP.f2 rfl (hm1) (by first | simp [hne, hk, del, Nat.add_assoc] <;> rfl | fail) ?_ | refine CallP.f2 rfl (hm2) (by first | simp [hne, hk, del, Nat.add_assoc] <;> rfl | fail) ?_ | fail); simp [hne, hk, del, Nat.add_assoc])
  | (refine CallP.ok1 (hh1 _ (by first | omega | (simp; done) | (simp; omega) | fail)) (by first | (simp [hne, hk, del, Nat.add_assoc, getK_cons, getK, getK_append, getK_del]; done) | fail) (by rfl) (by first | assumption | (simp; done) | fail) (by rfl) (by simp) ?_; (try simp [hne, hk, del, Nat.add_assoc]))
  | (refine CallP.ok1 (hh2 _ (by first | omega | (simp; done) | (simp; omega) | fail)) (by first | (simp [hne, hk, del, Nat.add_assoc, getK_cons, getK, getK_append, getK_del]; done) | fail) (by rfl) (by first | assumption | (simp; done) | fail) (by rfl) (by simp) ?_; (try simp [hne, hk, del, Nat.add_assoc]))
  | (refine CallP.ok1 (hh3 _ (by first | omega | (simp; done) | (simp; omega) | fail)) (by first | (simp [hne, hk, del, Nat.add_assoc, getK_cons, getK, getK_append, getK_del]; done) | fail) (by rfl) (by first | assumption | (simp; done) | fail) (by rfl) (by simp) ?_; (try simp [hne, hk, del, Nat.add_assoc]))
  | (refine CallP.ok1 (he _ (by first | omega | (simp; done) | (simp; omega) | fail)) (by first | (simp [hne, hk, del, Nat.add_assoc, getK_cons, getK, getK_append, getK_del]; done) | fail) (by rfl) (by first | assumption | (simp; done) | fail) (by rfl) (by simp) ?_; (try simp [hne, hk, del, Nat.add_assoc]))
  | (refine CallP.ok1 (hw _ (by first | omega | (simp; done) | (simp; omega) | fail)) (by first | (simp [hne, hk, del, Nat.add_assoc, getK_cons, getK, getK_append, getK_del]; done) | fail) (by rfl) (by first | assumption | (simp; done) | fail) (by rfl) (by simp) ?_; (try simp [hne, hk, del, Nat.add_assoc]))
  | (refine CallP_frzV (by first | rfl | fail) ?_; simp [hne, hk, del, Nat.add_assoc, frzN, frz1, frz_env, frz_obs, St.frz, St.frzS, frzS, fv, fzVec, fzMap, fzBox, frzObS, frz_entD, frz_rowsD, del, frz, frzOb])
  | fail)
   refine EndW.norm ?_
   simp [St.norm, normOb, normD, normU, norm1, hne]
   (refine EndW.z ([(i, pOb l q)]) (N := nx) Tryz.results170 (by simp [hne, hi] <;> omega) ?_; simp [hne, hi])
   exact PPost.at_ok (by simp [PR.bind, *]; rfl) (by simp [Exp.row_eq]) rfl
theorem primary_mm {l : List Tok} (hl : TokOK l) {f p : Nat} (hE : ExpOK l f) (hf : 4 * (l.length - p) ≤ f) {t : Tok} (ht : l[p]? = some t) (hk : ¬ t.kind = 2) (h1 : isB l p [116, 114, 117, 101] = false) (h2 : isB l p [102, 97, 108, 115, 101] = false)
  (hm : isB l p [109, 105, 110] = false ∧ isB l p [109, 97, 120] = true ∨ isB l p [109, 105, 110] = true ∧ isB l p [109, 97, 120] = false) {i nx : Nat} (hi : i < nx) :
  RetX Tryz.prog 170 [.ptr i 0] [(i, pOb l p)] nx (PPost l i nx expD (primaryP l (f + 1) p)) := by
 have hne := ne_facts hi
 have hp := (List.getElem?_eq_some_iff.1 ht).1
 have hnx := pnext_fun l p t ht hl.len
 have hll := hl.len
 have hp2 : p + 1 < l.length := hm.elim (fun h => isB_lt hl h.2) (fun h => isB_lt hl h.1)
 rw [primaryP, ht]
 have hh1 := fun nx' (h : nx ≤ nx') => has_ret l p [116, 114, 117, 101] i nx' (by omega) hp hl.len
 have hh2 := fun nx' (h : nx ≤ nx') => has_ret l p [102, 97, 108, 115, 101] i nx' (by omega) hp hl.len
 have hm1 := is_fun l p [109, 105, 110] hp hl.len
 have hm2 := is_fun l p [109, 97, 120] hp hl.len
 rcases hm with ⟨h3, h4⟩ | ⟨h3, h4⟩
 all_goals
  simp only [hk, h1, h2, h3, h4, if_false, if_true, Bool.false_eq_true, or_true, true_or] at hh1 hh2 hm1 hm2 ⊢
  have hw1 := fun nx' (h : nx ≤ nx') => want1 hl [40] (q := (p + 1)) (i := i) (nx := nx') (by omega) hp2
  cases hr0 : wantP l (p + 1) [[40]] with
  | stop pos e =>
   simp only [hr0] at hw1
   refine RetX.runW Tryz.func170 Tryz.ntmps170 rfl (by simp) fun Γ hn hpan => ?_
   repeat' (first
  | (refine V_run rfl ?_; simp [hne, hk, del, Nat.add_assoc])
  | (refine And.intro (by omega) ?_)
  | ((first | refine CallP.f2 rfl (hnx) (by first | simp [hne, hk, del, Nat.add_assoc] <;> rfl | fail) ?_ | refine CallP.f2 rfl (hm1) (by first | simp [hne, hk, del, Nat.add_assoc] <;> rfl | fail) ?_ | refine CallP.f2 rfl (hm2) (by first | simp [hne, hk, del, Nat.add_assoc] <;> rfl | fail) ?_ | fail); simp [hne, hk, del, Nat.add_assoc])
  | (refine CallP.ok1 (hh1 _ (by first | omega | (simp; done) | (simp; omega) | fail)) (by first | (simp [hne, hk, del, Nat.add_assoc, getK_cons, getK, getK_append, getK_del]; done) | fail) (by rfl) (by first | assumption | (simp; done) | fail) (by rfl) (by simp) ?_; (try simp [hne, hk, del, Nat.add_assoc]))
  | (refine CallP.ok1 (hh2 _ (by first | omega | (simp; done) | (simp; omega) | fail)) (by first | (simp [hne, hk, del, Nat.add_assoc, getK_cons, getK, getK_append, getK_del]; done) | fail) (by rfl) (by first | assumption | (simp; done) | fail) (by rfl) (by simp) ?_; (try simp [hne, hk, del, Nat.add_assoc]))
  | (refine CallP.pan1 (hw1 _ (by first | omega | (simp; done) | (simp; omega) | fail)) (by first | (simp [hne, hk, del, Nat.add_assoc, getK_cons, getK, getK_append, getK_del]; done) | fail) (by rfl) (by first | assumption | (simp; done) | fail) (by rfl) (by simp) ?_; rintro ob' ⟨q', rfl⟩; refine ⟨_, Wk.refl _, ?_⟩)
  | (refine CallP_frzV (by first | rfl | fail) ?_; simp [hne, hk, del, Nat.add_assoc, frzN, frz1, frz_env, frz_obs, St.frz, St.frzS, frzS, fv, fzVec, fzMap, fzBox, frzObS, frz_entD, frz_rowsD, del, frz, frzOb])
  | fail)
   (refine hpan _ _ (PanG.k ([(i, pOb l q')]) (nx) (by simp [hn, hi, hne, getK_append, getK_del, getK_cons, getK] <;> omega) ?_); try simp)
   exact PPost.at_stop (by simp [PR.bind, *])
  | ok v0 q0 =>
   simp only [hr0] at hw1
   obtain ⟨g0a, g0b⟩ := wantP_le hl _ hr0 hp2
   have ha := fun nx' (h : nx ≤ nx') => hE q0 0 i nx' (by omega) g0b (by omega) (by omega) (by omega)
   cases hr1 : expP l f q0 0 with
   | stop pos e =>
    simp only [hr1] at ha
    refine RetX.runW Tryz.func170 Tryz.ntmps170 rfl (by simp) fun Γ hn hpan => ?_
    repeat' (first
  | (refine V_run rfl ?_; simp [hne, hk, del, Nat.add_assoc])
  | (refine And.intro (by omega) ?_)
  | ((first | refine CallP.f2 rfl (hnx) (by first | simp [hne, hk, del, Nat.add_assoc] <;> rfl | fail) ?_ | refine CallP.f2 rfl (hm1) (by first | simp [hne, hk, del, Nat.add_assoc] <;> rfl | fail) ?_ | refine CallP.f2 rfl (hm2) (by first | simp [hne, hk, del, Nat.add_assoc] <;> rfl | fail) ?_ | fail); simp [hne, hk, del, Nat.add_assoc])
  | (refine CallP.ok1 (hh1 _ (by first | omega | (simp; done) | (simp; omega) | fail)) (by first | (simp [hne, hk, del, Nat.add_assoc, getK_cons, getK, getK_append, getK_del]; done) | fail) (by rfl) (by first | assumption | (simp; done) | fail) (by rfl) (by simp) ?_; (try simp [hne, hk, del, Nat.add_assoc]))
  | (refine CallP.ok1 (hh2 _ (by first | omega | (simp; done) | (simp; omega) | fail)) (by first | (simp [hne, hk, del, Nat.add_assoc, getK_cons, getK, getK_append, getK_del]; done) | fail) (by rfl) (by first | assumption | (simp; done) | fail) (by rfl) (by simp) ?_; (try simp [hne, hk, del, Nat.add_assoc]))
  | (refine CallP.ok1 (hw1 _ (by first | omega | (simp; done) | (simp; omega) | fail)) (by first | (simp [hne, hk, del, Nat.add_assoc, getK_cons, getK, getK_append, getK_del]; done) | fail) (by rfl) (by first | assumption | (simp; done) | fail) (by rfl) (by simp) ?_; (try simp [hne, hk, del, Nat.add_assoc]))
  | (refine CallP.pan1 (ha _ (by first | omega | (simp; done) | (simp; omega) | fail)) (by first | (simp [hne, hk, del, Nat.add_assoc, getK_cons, getK, getK_append, getK_del]; done) | fail) (by rfl) (by first | assumption | (simp; done) | fail) (by rfl) (by simp) ?_; rintro ob' ⟨q', rfl⟩; refine ⟨_, Wk.refl _, ?_⟩)
  | (refine CallP_frzV (by first | rfl | fail) ?_; simp [hne, hk, del, Nat.add_assoc, frzN, frz1, frz_env, frz_obs, St.frz, St.frzS, frzS, fv, fzVec, fzMap, fzBox, frzObS, frz_entD, frz_rowsD, del, frz, frzOb])
  | fail)
    (refine hpan _ _ (PanG.k ([(i, pOb l q')]) (nx) (by simp [hn, hi, hne, getK_append, getK_del, getK_cons, getK] <;> omega) ?_); try simp)
    exact PPost.at_stop (by simp [PR.bind, *])
   | ok v1 q1 =>
    have ha := fun nx' h => exp_ok (ha nx' h) hr1
    obtain ⟨g1a, g1b⟩ := (parse_le hl f).1 _ _ _ _ hr1 g0b
    have hw2 := fun nx' (h : nx ≤ nx') => want1 hl [44] (q := q1) (i := i) (nx := nx') (by omega) g1b
    cases hr2 : wantP l q1 [[44]] with
    | stop pos e =>
     simp only [hr2] at hw2
     refine RetX.runW Tryz.func170 Tryz.ntmps170 rfl (by simp) fun Γ hn hpan => ?_
     repeat' (first
  | (refine V_run rfl ?_; simp [hne, hk, del, Nat.add_assoc])
  | (refine And.intro (by omega) ?_)
  | ((first | refine CallP.f2 rfl (hnx) (by first | simp [hne, hk, del, Nat.add_assoc] <;> rfl | fail) ?_ | refine CallP.f2 rfl (hm1) (by first | simp [hne, hk, del, Nat.add_assoc] <;> rfl | fail) ?_ | refine CallP.f2 rfl (hm2) (by first | simp [hne, hk, del, Nat.add_assoc] <;> rfl | fail) ?_ | fail); simp [hne, hk, del, Nat.add_assoc])
  | (refine CallP.ok1 (hh1 _ (by first | omega | (simp; done) | (simp; omega) | fail)) (by first | (simp [hne, hk, del, Nat.add_assoc, getK_cons, getK, getK_append, getK_del]; done) | fail) (by rfl) (by first | assumption | (simp; done) | fail) (by rfl) (by simp) ?_; (try simp [hne, hk, del, Nat.add_assoc]))
  | (refine CallP.ok1 (hh2 _ (by first | omega | (simp; done) | (simp; omega) | fail)) (by first | (simp [hne, hk, del, Nat.add_assoc, getK_cons, getK, getK_append, getK_del]; done) | fail) (by rfl) (by first | assumption | (simp; done) | fail) (by rfl) (by simp) ?_; (try simp [hne, hk, del, Nat.add_assoc]))
  | (refine CallP.ok1 (hw1 _ (by first | omega | (simp; done) | (simp; omega) | fail)) (by first | (simp [hne, hk, del, Nat.add_assoc, getK_cons, getK, getK_append, getK_del]; done) | fail) (by rfl) (by first | assumption | (simp; done) | fail) (by rfl) (by simp) ?_; (try simp [hne, hk, del, Nat.add_assoc]))
  | (refine CallP.ok1 (ha _ (by first | omega | (simp; done) | (simp; omega) | fail)) (by first | (simp [hne, hk, del, Nat.add_assoc, getK_cons, getK, getK_append, getK_del]; done) | fail) (by rfl) (by first | assumption | (simp; done) | fail) (by rfl) (by simp) ?_; (try simp [hne, hk, del, Nat.add_assoc]))
  | (refine CallP.pan1 (hw2 _ (by first | omega | (simp; done) | (simp; omega) | fail)) (by first | (simp [hne, hk, del, Nat.add_assoc, getK_cons, getK, getK_append, getK_del]; done) | fail) (by rfl) (by first | assumption | (simp; done) | fail) (by rfl) (by simp) ?_; rintro ob' ⟨q', rfl⟩; refine ⟨_, Wk.refl _, ?_⟩)
  | (refine CallP_frzV (by first | rfl | fail) ?_; simp [hne, hk, del, Nat.add_assoc, frzN, frz1, frz_env, frz_obs, St.frz, St.frzS, frzS, fv, fzVec, fzMap, fzBox, frzObS, frz_entD, frz_rowsD, del, frz, frzOb])
  | fail)
     (refine hpan _ _ (PanG.k ([(i, pOb l q')]) (nx) (by simp [hn, hi, hne, getK_append, getK_del, getK_cons, getK] <;> omega) ?_); try simp)
     exact PPost.at_stop (by simp [PR.bind, *])
    | ok v2 q2 =>
     simp only [hr2] at hw2
     obtain ⟨g2a, g2b⟩ := wantP_le hl _ hr2 g1b
     have hb := fun nx' (h : nx ≤ nx') => hE q2 0 i nx' (by omega) g2b (by omega) (by omega) (by omega)
     cases hr3 : expP l f q2 0 with
     | stop pos e =>
      simp only [hr3] at hb
      refine RetX.runW Tryz.func170 Tryz.ntmps170 rfl (by simp) fun Γ hn hpan => ?_
      repeat' (first
  | (refine V_run rfl ?_; simp [hne, hk, del, Nat.add_assoc])
  | (refine And.intro (by omega) ?_)
  | ((first | refine CallP.f2 rfl (hnx) (by first | simp [hne, hk, del, Nat.add_assoc] <;> rfl | fail) ?_ | refine CallP.f2 rfl (hm1) (by first | simp [hne, hk, del, Nat.add_assoc] <;> rfl | fail) ?_ | refine CallP.f2 rfl (hm2) (by first | simp [hne, hk, del, Nat.add_assoc] <;> rfl | fail) ?_ | fail); simp [hne, hk, del, Nat.add_assoc])
  | (refine CallP.ok1 (hh1 _ (by first | omega | (simp; done) | (simp; omega) | fail)) (by first | (simp [hne, hk, del, Nat.add_assoc, getK_cons, getK, getK_append, getK_del]; done) | fail) (by rfl) (by first | assumption | (simp; done) | fail) (by rfl) (by simp) ?_; (try simp [hne, hk, del, Nat.add_assoc]))
  | (refine CallP.ok1 (hh2 _ (by first | omega | (simp; done) | (simp; omega) | fail)) (by first | (simp [hne, hk, del, Nat.add_assoc, getK_cons, getK, getK_append, getK_del]; done) | fail) (by rfl) (by first | assumption | (simp; done) | fail) (by rfl) (by simp) ?_; (try simp [hne, hk, del, Nat.add_assoc]))
  | (refine CallP.ok1 (hw1 _ (by first | omega | (simp; done) | (simp; omega) | fail)) (by first | (simp [hne, hk, del, Nat.add_assoc, getK_cons, getK, getK_append, getK_del]; done) | fail) (by rfl) (by first | assumption | (simp; done) | fail) (by rfl) (by simp) ?_; (try simp [hne, hk, del, Nat.add_assoc]))
  | (refine CallP.ok1 (ha _ (by first | omega | (simp; done) | (simp; omega) | fail)) (by first | (simp [hne, hk, del, Nat.add_assoc, getK_cons, getK, getK_append, getK_del]; done) | fail) (by rfl) (by first | assumption | (simp; done) | fail) (by rfl) (by simp) ?_; (try simp [hne, hk, del, Nat.add_assoc]))
  | (refine CallP.ok1 (hw2 _ (by first | omega | (simp; done) | (simp; omega) | fail)) (by first | (simp [hne, hk, del, Nat.add_assoc, getK_cons, getK, getK_append, getK_del]; done) | fail) (by rfl) (by first | assumption | (simp; done) | fail) (by rfl) (by simp) ?_; (try simp [hne, hk, del, Nat.add_assoc]))
  | (refine CallP.pan1 (hb _ (by first | omega | (simp; done) | (simp; omega) | fail)) (by first | (simp [hne, hk, del, Nat.add_assoc, getK_cons, getK, getK_append, getK_del]; done) | fail) (by rfl) (by first | assumption | (simp; done) | fail) (by rfl) (by simp) ?_; rintro ob' ⟨q', rfl⟩; refine ⟨_, Wk.refl _, ?_⟩)
  | (refine CallP_frzV (by first | rfl | fail) ?_; simp [hne, hk, del, Nat.add_assoc, frzN, frz1, frz_env, frz_obs, St.frz, St.frzS, frzS, fv, fzVec, fzMap, fzBox, frzObS, frz_entD, frz_rowsD, del, frz, frzOb])
  | fail)
      (refine hpan _ _ (PanG.k ([(i, pOb l q')]) (nx) (by simp [hn, hi, hne, getK_append, getK_del, getK_cons, getK] <;> omega) ?_); try simp)
      exact PPost.at_stop (by simp [PR.bind, *])
     | ok v3 q3 =>
      have hb := fun nx' h => exp_ok (hb nx' h) hr3
      obtain ⟨g3a, g3b⟩ := (parse_le hl f).1 _ _ _ _ hr3 g2b
      have hw3 := fun nx' (h : nx ≤ nx') => want1 hl [41] (q := q3) (i := i) (nx := nx') (by omega) g3b
      cases hr4 : wantP l q3 [[41]] with
      | stop pos e =>
       simp only [hr4] at hw3
       refine RetX.runW Tryz.func170 Tryz.ntmps170 rfl (by simp) fun Γ hn hpan => ?_
       repeat' (first
  | (refine V_run rfl ?_; simp [hne, hk, del, Nat.add_assoc])
  | (refine And.intro (by omega) ?_)
  | ((first | refine CallP.f2 rfl (hnx) (by first | simp [hne, hk, del, Nat.add_assoc] <;> rfl | fail) ?_ | refine CallP.f2 rfl (hm1) (by first | simp [hne, hk, del, Nat.add_assoc] <;> rfl | fail) ?_ | refine CallP.f2 rfl (hm2) (by first | simp [hne, hk, del, Nat.add_assoc] <;> rfl | fail) ?_ | fail); simp [hne, hk, del, Nat.add_assoc])
  | (refine CallP.ok1 (hh1 _ (by first | omega | (simp; done) | (simp; omega) | fail)) (by first | (simp [hne, hk, del, Nat.add_assoc, getK_cons, getK, getK_append, getK_del]; done) | fail) (by rfl) (by first | assumption | (simp; done) | fail) (by rfl) (by simp) ?_; (try simp [hne, hk, del, Nat.add_assoc]))
  | (refine CallP.ok1 (hh2 _ (by first | omega | (simp; done) | (simp; omega) | fail)) (by first | (simp [hne, hk, del, Nat.add_assoc, getK_cons, getK, getK_append, getK_del]; done) | fail) (by rfl) (by first | assumption | (simp; done) | fail) (by rfl) (by simp) ?_; (try simp [hne, hk, del, Nat.add_assoc]))
  | (refine CallP.ok1 (hw1 _ (by first | omega | (simp; done) | (simp; omega) | fail)) (by first | (simp [hne, hk, del, Nat.add_assoc, getK_cons, getK, getK_append, getK_del]; done) | fail) (by rfl) (by first | assumption | (simp; done) | fail) (by rfl) (by simp) ?_; (try simp [hne, hk, del, Nat.add_assoc]))
  | (refine CallP.ok1 (ha _ (by first | omega | (simp; done) | (simp; omega) | fail)) (by first | (simp [hne, hk, del, Nat.add_assoc, getK_cons, getK, getK_append, getK_del]; done) | fail) (by rfl) (by first | assumption | (simp; done) | fail) (by rfl) (by simp) ?_; (try simp [hne, hk, del, Nat.add_assoc]))
  | (refine CallP.ok1 (hw2 _ (by first | omega | (simp; done) | (simp; omega) | fail)) (by first | (simp [hne, hk, del, Nat.add_assoc, getK_cons, getK, getK_append, getK_del]; done) | fail) (by rfl) (by first | assumption | (simp; done) | fail) (by rfl) (by simp) ?_; (try simp [hne, hk, del, Nat.add_assoc]))
  | (refine CallP.ok1 (hb _ (by first | omega | (simp; done) | (simp; omega) | fail)) (by first | (simp [hne, hk, del, Nat.add_assoc, getK_cons, getK, getK_append, getK_del]; done) | fail) (by rfl) (by first | assumption | (simp; done) | fail) (by rfl) (by simp) ?_; (try simp [hne, hk, del, Nat.add_assoc]))
  | (refine CallP.pan1 (hw3 _ (by first | omega | (simp; done) | (simp; omega) | fail)) (by first | (simp [hne, hk, del, Nat.add_assoc, getK_cons, getK, getK_append, getK_del]; done) | fail) (by rfl) (by first | assumption | (simp; done) | fail) (by rfl) (by simp) ?_; rintro ob' ⟨q', rfl⟩; refine ⟨_, Wk.refl _, ?_⟩)
  | (refine CallP_frzV (by first | rfl | fail) ?_; simp [hne, hk, del, Nat.add_assoc, frzN, frz1, frz_env, frz_obs, St.frz, St.frzS, frzS, fv, fzVec, fzMap, fzBox, frzObS, frz_entD, frz_rowsD, del, frz, frzOb])
  | fail)
       (refine hpan _ _ (PanG.k ([(i, pOb l q')]) (nx) (by simp [hn, hi, hne, getK_append, getK_del, getK_cons, getK] <;> omega) ?_); try simp)
       exact PPost.at_stop (by simp [PR.bind, *])
      | ok v4 q4 =>
       simp only [hr4] at hw3
       obtain ⟨g4a, g4b⟩ := wantP_le hl _ hr4 g3b
       refine RetX.runW Tryz.func170 Tryz.ntmps170 rfl (by simp) fun Γ hn hpan => ?_
       repeat' (first
  | (refine V_run rfl ?_; simp [hne, hk, del, Nat.add_assoc])
  | (refine And.intro (by omega) ?_)
  | ((first | refine CallP.f2 rfl (hnx) (by first | simp [hne, hk, del, Nat.add_assoc] <;> rfl | fail) ?_ | refine CallP.f2 rfl (hm1) (by first | simp [hne, hk, del, Nat.add_assoc] <;> rfl | fail) ?_ | refine CallP.f2 rfl (hm2) (by first | simp [hne, hk, del, Nat.add_assoc] <;> rfl | fail) ?_ | fail); simp [hne, hk, del, Nat.add_assoc])
  | (refine CallP.ok1 (hh1 _ (by first | omega | (simp; done) | (simp; omega) | fail)) (by first | (simp [hne, hk, del, Nat.add_assoc, getK_cons, getK, getK_append, getK_del]; done) | fail) (by rfl) (by first | assumption | (simp; done) | fail) (by rfl) (by simp) ?_; (try simp [hne, hk, del, Nat.add_assoc]))
  | (refine CallP.ok1 (hh2 _ (by first | omega | (simp; done) | (simp; omega) | fail)) (by first | (simp [hne, hk, del, Nat.add_assoc, getK_cons, getK, getK_append, getK_del]; done) | fail) (by rfl) (by first | assumption | (simp; done) | fail) (by rfl) (by simp) ?_; (try simp [hne, hk, del, Nat.add_assoc]))
  | (refine CallP.ok1 (hw1 _ (by first | omega | (simp; done) | (simp; omega) | fail)) (by first | (simp [hne, hk, del, Nat.add_assoc, getK_cons, getK, getK_append, getK_del]; done) | fail) (by rfl) (by first | assumption | (simp; done) | fail) (by rfl) (by simp) ?_; (try simp [hne, hk, del, Nat.add_assoc]))
  | (refine CallP.ok1 (ha _ (by first | omega | (simp; done) | (simp; omega) | fail)) (by first | (simp [hne, hk, del, Nat.add_assoc, getK_cons, getK, getK_append, getK_del]; done) | fail) (by rfl) (by first | assumption | (simp; done) | fail) (by rfl) (by simp) ?_; (try simp [hne, hk, del, Nat.add_assoc]))
  | (refine CallP.ok1 (hw2 _ (by first | omega | (simp; done) | (simp; omega) | fail)) (by first | (simp [hne, hk, del, Nat.add_assoc, getK_cons, getK, getK_append, getK_del]; done) | fail) (by rfl) (by first | assumption | (simp; done) | fail) (by rfl) (by simp) ?_; (try simp [hne, hk, del, Nat.add_assoc]))
  | (refine CallP.ok1 (hb _ (by first | omega | (simp; done) | (simp; omega) | fail)) (by first | (simp [hne, hk, del, Nat.add_assoc, getK_cons, getK, getK_append, getK_del]; done) | fail) (by rfl) (by first | assumption | (simp; done) | fail) (by rfl) (by simp) ?_; (try simp [hne, hk, del, Nat.add_assoc]))
  | (refine CallP.ok1 (hw3 _ (by first | omega | (simp; done) | (simp; omega) | fail)) (by first | (simp [hne, hk, del, Nat.add_assoc, getK_cons, getK, getK_append, getK_del]; done) | fail) (by rfl) (by first | assumption | (simp; done) | fail) (by rfl) (by simp) ?_; (try simp [hne, hk, del, Nat.add_assoc]))
  | (refine CallP_frzV (by first | rfl | fail) ?_; simp [hne, hk, del, Nat.add_assoc, frzN, frz1, frz_env, frz_obs, St.frz, St.frzS, frzS, fv, fzVec, fzMap, fzBox, frzObS, frz_entD, frz_rowsD, del, frz, frzOb])
  | fail)
       (refine EndW.frzN 1 ?_; simp [del, hne, Nat.add_assoc])
       refine EndW.norm ?_
       simp [St.norm, normOb, normD, normU, norm1, hne, Nat.add_assoc]
       (refine EndW.z ([(i, pOb l q4)]) (N := nx) Tryz.results170 (by simp [hne, hi] <;> omega) ?_; simp [hne, hi])
       exact PPost.at_ok (by simp [PR.bind, *]; rfl) (by simp [Exp.row_eq, Exp.op, Exp.n, Exp.unit, Exp.s, Exp.args]) rfl
theorem primary_max {l : List Tok} (hl : TokOK l) {f p : Nat} (hE : ExpOK l f) (hf : 4 * (l.length - p) ≤ f) {t : Tok} (ht : l[p]? = some t) (hk : ¬ t.kind = 2) (h1 : isB l p [116, 114, 117, 101] = false) (h2 : isB l p [102, 97, 108, 115, 101] = false)
  (h3 : isB l p [109, 105, 110] = false) (h4 : isB l p [109, 97, 120] = true) {i nx : Nat} (hi : i < nx) :
  RetX Tryz.prog 170 [.ptr i 0] [(i, pOb l p)] nx (PPost l i nx expD (primaryP l (f + 1) p)) := primary_mm hl hE hf ht hk h1 h2 (.inl ⟨h3, h4⟩) hi
end Go.Proofs.YtkdhmbhbbciedaaGreatDoor
