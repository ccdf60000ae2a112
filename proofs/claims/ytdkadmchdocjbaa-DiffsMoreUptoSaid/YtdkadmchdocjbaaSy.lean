/- The library's Compact at ints, told in the calculus. -/
import Derived.Test.YtdkadmchdocjbaaSx
import Derived.Lib.RowBridge
set_option linter.all false
set_option maxRecDepth 100000
set_option maxHeartbeats 8000000
set_option linter.all false
namespace Go.Proofs.Ytdkadmchdocjbaa
open Go Go.VL Go.Proofs
def compS (zs : List Int) : List Int := Lib.compact zs ++ List.replicate (zs.length - (Lib.compact zs).length) 0
theorem compS_len (zs : List Int) : (compS zs).length = zs.length := by
  have := Lib.compact_length_le zs
  simp only [compS, List.length_append, List.length_replicate]
  omega
theorem compact_ret (t j nx : Nat) (hj : j < nx) (zs : List Int) (hz : zs.length ≤ 1099511627776) : Ret Try.prog 36 [.vec j zs.length] [(j, .vec t 1 (intR zs))] nx
    fun d obs nx' => d = .vec j (Lib.compact zs).length ∧ obs = [(j, .vec t 1 (intR (compS zs)))] ∧ nx' = nx :=
  Ret.ofRow (ret := fun a c => .slice a (Lib.compact zs).length c) hj (compS_len zs) (by simp only [maxLen]; omega)
    (fun blk cap w hH hb hc _ => (Try.slices_Compact_int blk 0 cap zs w hH (by omega) hc).mono fun e w' ⟨h1, q, h2⟩ => ⟨h1, q, #[], by rw [h2, Go.Sort.grow_empty]; rfl⟩)
    (fun h0 p cap w => by subst h0; exact Try.slices_Compact_int_empty p cap w) (.inr ⟨_, rfl, fun _ _ => rfl⟩)
end Go.Proofs.Ytdkadmchdocjbaa
