/- The library's sort and Compact at ints, told in the calculus. -/
import Derived.Test.YtdkadmchdocjbaaSh
import Derived.Test.YtdkadmchdocjbaaVLT
set_option linter.all false
set_option maxRecDepth 100000
set_option maxHeartbeats 8000000
set_option linter.all false
namespace Go.Proofs.Ytdkadmchdocjbaa
open Go Go.VL Go.Proofs
def sortS (zs : List Int) : List Int := zs.mergeSort fun x y => decide (x ≤ y)
theorem sort_ret (t j nx : Nat) (hj : j < nx) (zs : List Int) (hz : zs.length ≤ 1099511627776) : Ret Try.prog 35 [.vec j zs.length] [(j, .vec t 1 (intR zs))] nx
    fun d obs nx' => d = .tup [] ∧ obs = [(j, .vec t 1 (intR (sortS zs)))] ∧ nx' = nx :=
  Ret.ofRow (ret := fun _ _ => .tuple #[]) hj (by simp [sortS]) (by simp only [maxLen]; omega) (fun blk cap w hH hb _ _ => Try.slices_Sort_int blk 0 cap zs w hH hb (by omega)) (fun _ p cap w => Try.slices_Sort_int_none p cap w) (.inl ⟨rfl, fun _ _ => rfl⟩)
end Go.Proofs.Ytdkadmchdocjbaa
