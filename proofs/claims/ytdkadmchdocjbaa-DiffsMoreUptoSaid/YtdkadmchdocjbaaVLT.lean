/- Calculus: the library's functions that write a slice of ints in place (the sort, Compact, Reverse), by their contracts. -/
import Derived.Test.YtdkadmchdocjbaaVLS
import Derived.Sort.OwnSortedInts
import Derived.Test.YtdkadmchdocjbaaVLP
set_option linter.all false
set_option maxRecDepth 100000
set_option maxHeartbeats 8000000
namespace Go.VL
open Go Go.Sort Go.Proofs
def intR (zs : List Int) : List (List D) := zs.map fun z => [.u (.int .i64 z)]
theorem intR_rows (zs : List Int) : rowsD (zs.map fun z => [U.int .i64 z]) = intR zs := by simp [rowsD, intR]
/-- What a contract in the sort's words says of a slice of ints that the call owns. -/
theorem Ret.ofRow {P : Program} {f : FuncId} {t : Nat} {zs zs' : List Int} {d : D} {ret : Option Addr → Nat → Value} {j nx : Nat} (hj : j < nx) (hl : zs'.length = zs.length) (hmax : zs.length ≤ maxLen)
    (hc : ∀ (blk cap : Nat) (w : World), Holds (Value.int .i64) w blk 0 zs.toArray → blk < w.heap.size → zs.length ≤ cap → zs ≠ [] → Calls P f #[.slice (some ⟨blk, 0, none⟩) zs.length cap] w fun e w' =>
      e = .returned (ret (some ⟨blk, 0, none⟩) cap) ∧ ∃ n os, w' = grow (putRow (Value.int .i64) (Sort.ahead w n) blk 0 zs'.toArray) os)
    (h0 : zs = [] → ∀ (p : Option Addr) (cap : Nat) (w : World), Calls P f #[.slice p 0 cap] w fun e w' => e = .returned (ret p cap) ∧ w' = w)
    (hret : (d = .tup [] ∧ ∀ a c, ret a c = .tuple #[]) ∨ ∃ m, d = .vec j m ∧ ∀ a c, ret a c = .slice a m c) :
    Ret P f [.vec j zs.length] [(j, .vec t 1 (intR zs))] nx fun d' obs nx' => d' = d ∧ obs = [(j, .vec t 1 (intR zs'))] ∧ nx' = nx := by
  intro k own w vs hsat hhdr hown hrep
  obtain ⟨h, xs, hh, hrow, _, _, hcell, hblk⟩ := (hsat.ob j (.vec t 1 (intR zs)) (by simp [getK])).vec
  have hlen : (intR zs).length = zs.length := by simp [intR]
  rw [hlen] at hrow
  have hvs : vs = #[headVal h zs.length] := by
    obtain ⟨h1, h2⟩ := hrep
    have h3 := h2 0 _ rfl
    obtain ⟨h', hh', e⟩ := rep_vec h3
    rw [hh] at hh'
    cases hh'
    have hs1 : vs.size = 1 := by simpa using h1
    apply Array.ext_getElem?
    intro i
    match i with
    | 0 =>
      have h4 : 0 < vs.size := by omega
      rw [← e]
      simp [h4]
    | i + 1 => rw [Array.getElem?_eq_none (by omega), Array.getElem?_eq_none (by simp)]
  have hd : ∀ h', k.hdr j = some h' → Rep k d (ret (h'.1.map fun b => ⟨b, 0, none⟩) h'.2) := fun h' e => by
    rcases hret with ⟨rfl, hr⟩ | ⟨m, rfl, hr⟩
    · rw [hr]; exact .tup [] [] rfl (fun j d hj => by simp at hj)
    · rw [hr]; exact .vec j m h' e
  subst hvs
  by_cases hz : zs = []
  · subst hz
    obtain rfl : zs' = [] := List.eq_nil_of_length_eq_zero (by simpa using hl)
    refine (h0 rfl _ _ w).mono ?_
    rintro e w' ⟨rfl, rfl⟩
    exact ⟨_, d, _, nx, k, rfl, ⟨.refl _, hhdr, fun _ _ _ e => .inl e, hown, rfl, rfl, rfl, Nat.le_refl _, fun _ _ => rfl⟩, hsat, hhdr, Nat.le_refl _, hd h hh, rfl, rfl, rfl⟩
  · rcases hrow with ⟨hxl, ⟨hv, hn⟩ | ⟨g, cap, cur, hv, hb, hg, hn, hcap, hsz, htk⟩⟩
    · exact absurd (List.eq_nil_of_length_eq_zero hn) hz
    · have hh1 : h.1 = some g ∧ h.2 = cap := by
        simp only [headVal, Value.slice.injEq, Option.map_eq_some_iff] at hv
        obtain ⟨⟨b, hb, e⟩, _, e2⟩ := hv
        simp only [Addr.mk.injEq] at e
        exact ⟨by rw [hb, e.1], e2⟩
      rw [hv]
      have hxs : xs = zs.map (Value.int .i64) := by
        apply List.ext_getElem?
        intro i
        by_cases hj : i < zs.length
        · have h1 := (hcell i [.u (.int .i64 zs[i])] (by simp [intR, hj]) 0 (.u (.int .i64 zs[i])) rfl).2
          have h2 := rep_int h1
          have h3 : i < xs.length := by omega
          simp [h3] at h2
          simp [h3, hj, h2]
        · rw [List.getElem?_eq_none (by omega), List.getElem?_eq_none (by simpa using hj)]
      rw [hxs] at htk
      have hgl : g < w.heap.size := (Array.getElem?_eq_some_iff.1 hg).1
      refine (hc g cap w (holds_of_blockI hg (by simpa using htk)) hgl hn hz).mono ?_
      rintro e w' ⟨rfl, n, os, rfl⟩
      have hgr : w.grownBy (grow (putRow (Value.int .i64) (Sort.ahead w n) g 0 zs'.toArray) os) (some g) := grownBy_sortedI _
      have hin0 : In (.of own k nx w) k w := ⟨.refl _, hhdr, fun _ _ _ e => .inl e, hown, rfl, rfl, rfl, Nat.le_refl _, fun _ _ => rfl⟩
      have hin := hin0.grown hgr (fun b e => by cases e; exact (hblk g hh1.1).1)
      have hold : ∀ b, b < w.heap.size → b ≠ g → (grow (putRow (Value.int .i64) (Sort.ahead w n) g 0 zs'.toArray) os).heap[b]? = w.heap[b]? := fun b hb hne => hgr.block b hb (fun e => hne (by cases e; rfl))
      refine ⟨_, d, [(j, .vec t 1 (intR zs'))], nx, k, rfl, hin, ?_, hhdr, Nat.le_refl _, ?_, rfl, rfl, rfl⟩
      · have hown2 := ownsRow_sortedI (w := w) (n := n) (os := os) hl hb hg hn hcap hsz
        refine ⟨fun b o v hm => ?_, fun i ob hi => ?_, fun i i' x y g1 g2 b hi hj hij => ?_⟩
        · have hlt := hsat.memLt hm
          have hne : b ≠ g := fun e => by subst e; have := (hblk b hh1.1).2 o; rw [hm] at this; cases this
          rw [cell_of_heap (hold b hlt hne)]
          exact hsat.mem b o v hm
        · simp only [getK] at hi
          split at hi
          · rename_i hi0
            subst hi0
            cases hi
            refine ⟨h, hh, hblk, _, (?_ : World.ownsRow _ 0 t 1 (headVal h (intR zs').length) (intR zs').length (zs'.map (Value.int .i64))), Nat.one_pos, fun r hr => ?_, fun i r hi q d hq => ?_⟩
            · have e : (intR zs').length = zs.length := by simp [intR, hl]
              rw [e, hv]
              exact hown2
            · obtain ⟨z, _, rfl⟩ := List.mem_map.1 hr
              rfl
            · simp only [intR, List.getElem?_map, Option.map_eq_some_iff] at hi
              obtain ⟨z, hz', rfl⟩ := hi
              match q, hq with
              | 0, hq =>
                cases hq
                have h3 : i < zs'.length := (List.getElem?_eq_some_iff.1 hz').1
                have h4 : zs'[i] = z := (List.getElem?_eq_some_iff.1 hz').2
                have : (zs'.map (Value.int .i64)).getD (i * 1 + 0) undef = .int .i64 z := by simp [h3, h4]
                rw [this]
                exact ⟨rfl, .u _ _ (.int _ _)⟩
          · cases hi
        · simp only [getK] at hi hj
          split at hi
          · split at hj
            · omega
            · cases hj
          · cases hi
      · have := hd h hh
        rw [hh1.1, hh1.2] at this
        exact this
/-- A call that is handed nothing of the caller's own; one that is handed one object. -/
theorem CallP.ret0 {P : Program} {Γ : Ctx} {s : St} {k : St → Prop} {dst : Option Tmp} {fop : Operand} {args : List Operand} {f caps} {ds : List D} {post : D → List (Nat × Ob) → Nat → Prop} (hret : Ret P f ds [] s.next post)
    (hf : calleeOf (opd s fop) = some (f, caps)) (hc : callable P f = true) (hds : args.map (opd s) ++ caps = ds) (hp : putOK dst s)
    (hk : ∀ d o1 nx', s.next ≤ nx' → post d o1 nx' → k (({ s with obs := s.obs ++ o1, next := nx' } : St).put dst d)) : CallP P Γ fop args dst s k :=
  CallP.retF s.obs [] hret (fun i => by simp) (fun i ob _ => rfl) hf hc hds hp hk
theorem CallP.ret1 {P : Program} {Γ : Ctx} {s : St} {k : St → Prop} {dst : Option Tmp} {fop : Operand} {args : List Operand} {f caps} {ds : List D} {post : D → List (Nat × Ob) → Nat → Prop} {j : Nat} {ob : Ob} (hret : Ret P f ds [(j, ob)] s.next post)
    (hj : getK s.obs j = some ob) (hf : calleeOf (opd s fop) = some (f, caps)) (hc : callable P f = true) (hds : args.map (opd s) ++ caps = ds) (hp : putOK dst s)
    (hk : ∀ d o1 nx', s.next ≤ nx' → post d o1 nx' → k (({ s with obs := del s.obs j ++ o1, next := nx' } : St).put dst d)) : CallP P Γ fop args dst s k :=
  CallP.retF (del s.obs j) [(j, ob)] hret (fun i => by
    rw [getK_append, getK_del]
    by_cases h : i = j
    · subst h; simp [hj, getK]
    · simp only [if_neg h, getK]
      cases getK s.obs i <;> rfl) (fun i o hi => by
    rw [getK_del] at hi
    by_cases h : i = j
    · rw [if_pos h] at hi; cases hi
    · simp [getK, h]) hf hc hds hp hk
end Go.VL
