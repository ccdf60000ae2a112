/- Layer 17: shares of amounts: the plain law. -/
import Derived.Test.YtfcopibncpkdoaaDoorK6
set_option linter.all false
set_option maxRecDepth 100000
set_option maxHeartbeats 8000000
set_option linter.all false
namespace Go.Proofs.YtfcopibncpkdoaaDoor
open Go Go.VL
theorem valL_numE {vars : List Var} {n u : Int} (hn : inC n) : valL [] (gF (gV vars)) 0 (numE n u) [] = (.ok n, []) := by
  unfold inC at hn
  have k : ∀ m, 0 ≤ m → m ≤ 1099511627776 → keptX m = .ok m := fun m h1 h2 => by unfold keptX; rw [if_neg (by omega)]
  unfold numE
  split
  · rename_i h
    rw [valL_num rfl]
    show (keptX n, _) = _
    rw [k n h hn.2]
  · rename_i h
    have h0 : valL [] (gF (gV vars)) 0 (.mk 0 0 u [] []) [] = (.ok 0, []) := by rw [valL_num rfl]; rfl
    have h1 : valL [] (gF (gV vars)) 0 (.mk 0 (-n) u [] []) [] = (.ok (-n), []) := by
      rw [valL_num rfl]
      show (keptX (-n), _) = _
      rw [k (-n) (by omega) (by omega)]
    rw [valL_bin (e := .mk 3 0 0 [] [.mk 0 0 u [] [], .mk 0 (-n) u [] []]) ⟨by show (2:Int) ≤ 3; omega, by show (3:Int) ≤ 9; omega⟩ rfl h0 h1]
    show (keptX (0 - -n), _) = _
    have : keptX (0 - -n) = .ok n := by unfold keptX; rw [if_neg (by omega)]; congr 1; omega
    rw [this]
theorem right_num {d : Nat} {n u : Int} (hu : 1 ≤ u ∧ u < 5) (hn : inC n) : rightB (d + 2) (numE n u) = true := by
  unfold inC at hn
  have lit : ∀ (d : Nat) m, 0 ≤ m → m ≤ 1099511627776 → rightB (d + 1) (.mk 0 m u [] []) = true := fun d m h1 h2 => by
    have hu0 : ¬ u = 0 := by omega
    have hb : numB (.mk 0 m u [] []) = true := by simp [numB, Exp.s, Exp.unit, Exp.n, hu0, h1, h2, show 0 ≤ u by omega, show u < 5 by omega]
    rw [rightB, hb]
    rfl
  unfold numE
  split
  · exact lit _ _ (by assumption) hn.2
  · have h1 := lit d 0 (by omega) (by omega)
    have h2 := lit d (-n) (by omega) (by omega)
    rw [rightB]
    simp only [Exp.args, Exp.op, operandsI, Exp.s, Exp.unit, Exp.n, List.any_cons, List.any_nil, h1, h2]
    simp
theorem share_num {n : Int} (h0 : 0 ≤ n) (hn : n ≤ 1099511627776) : shareP [] (numE n 4) = true := by
  have hr : rightB 12 (numE n 4) = true := right_num (by decide) ⟨by omega, hn⟩
  unfold shareP rightAll
  rw [hr]
  unfold numE
  rw [if_pos h0, shareS_eq]
  rfl
theorem prodX_small {a b : Int} (h : (a * b).natAbs ≤ 1099511627776000) : prodX a b 1000 = keptX (floorX (a * b) 1000) := by
  unfold prodX
  rw [if_neg]
  rintro ⟨ha, hh⟩
  have hm : (max a (-a)).natAbs = a.natAbs := by omega
  have hM : 0 < max a (-a) := by omega
  have hb : b.natAbs ≤ (1099511627777 * 1000 : Int).natAbs / a.natAbs := by
    rw [Nat.le_div_iff_mul_le (by omega)]
    rw [Int.natAbs_mul, Nat.mul_comm] at h
    omega
  have h1 : ((1099511627777 * 1000 : Int).tdiv (max a (-a))).natAbs = (1099511627777 * 1000 : Int).natAbs / a.natAbs := by rw [Int.natAbs_tdiv, hm]; rfl
  have h2 : ((-(1099511627777 * 1000 : Int)).tdiv (max a (-a))).natAbs = (1099511627777 * 1000 : Int).natAbs / a.natAbs := by rw [Int.natAbs_tdiv, hm, Int.natAbs_neg]; rfl
  have h3 : 0 ≤ (1099511627777 * 1000 : Int).tdiv (max a (-a)) := Int.tdiv_nonneg (by omega) (by omega)
  have h4 : (-(1099511627777 * 1000 : Int)).tdiv (max a (-a)) ≤ 0 := by
    rw [Int.neg_tdiv]
    omega
  generalize (1099511627777 * 1000 : Int).natAbs / a.natAbs = q at *
  generalize (1099511627777 * 1000 : Int).tdiv (max a (-a)) = q1 at *
  generalize (-(1099511627777 * 1000 : Int)).tdiv (max a (-a)) = q2 at *
  omega
theorem floorX_1000 (p : Int) : floorX p 1000 = p / 1000 := by
  have := floorX_pos (a := p) (b := 1000) (by omega)
  omega
theorem kept_1000 {p : Int} (h : p.natAbs ≤ 1099511627776000) : keptX (floorX p 1000) = .ok (p / 1000) := by
  rw [floorX_1000]
  unfold keptX
  rw [if_neg (by omega)]
theorem value_scaled {a b u1 u2 : Int} (h1 : 1 ≤ u1 ∧ u1 < 5) (h2 : 1 ≤ u2 ∧ u2 < 5) (ha : inC a) (hb : inC b) (hs : (shareP [] (numE a u1) || shareP [] (numE b u2)) = true) (hp : (a * b).natAbs ≤ 1099511627776000) :
    valueP [] [] (.mk 4 0 0 [] [numE a u1, numE b u2]) = (a * b / 1000, 0) := by
  have hr : rightB 12 (.mk 4 0 0 [] [numE a u1, numE b u2]) = true := by
    have q1 : rightB 11 (numE a u1) = true := right_num h1 ha
    have q2 : rightB 11 (numE b u2) = true := right_num h2 hb
    rw [rightB]
    simp only [Exp.args, Exp.op, operandsI, Exp.s, Exp.unit, Exp.n, List.any_cons, List.any_nil, q1, q2]
    simp
  rw [valueP_op (vars := []) (op := 4) (a := a) (b := b) (by decide) rfl hr rfl (valL_numE ha) (valL_numE hb), hs]
  have : binX 4 true a b = .ok (a * b / 1000) := by
    show prodX a b 1000 = _
    rw [prodX_small hp, kept_1000 hp]
  rw [this]
  rfl
end Go.Proofs.YtfcopibncpkdoaaDoor
