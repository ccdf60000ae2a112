/- From a function told by value to the given statement of the second form (the arguments' bulk is bounded). -/
import Derived.Test.YtdkadmchdocjbaaVLP
import Derived.JoinedCond
set_option linter.all false
set_option maxRecDepth 100000
set_option maxHeartbeats 8000000
set_option linter.all false
namespace Go.VL
open Go Go.ChangeShapes Go.WideShapes Go.ChangeAt Go.RowKit Go.Deep
open Go.Proofs.Ytdkadmchdocjbaa.Rows (uptoBulk uptoBulkAll)
theorem law_lifted_upto {H : Type} {enc : TypeId × Value → H} {C : Checked} {os : Os} {f : FuncId} {fn : Func} {s : ChangeSpec} {conds : List PathCond} {apart fresh handsOn again : Bool} {tb : TypeId} {F : Stop.Interp}
    (own : ownKnob C.prog.godebug = none) (started : os.Started) (noInit : C.prog.inits.idxOf? f = none) (hfn : C.prog.funcs[f]? = some fn)
    (witness : ∃ (w : World) (tape : Tape) (i : Input), w.os = os ∧ (w.forCall tape i).Shaped C.prog ∧ i.vars = [] ∧ Input.okWide C.prog (w.forCall tape i) .any w.heap.size f i ∧
      (Go.Proofs.Ytdkadmchdocjbaa.Rows.OpenSpec.upto s).pre6 enc C.prog fn conds apart (w.forCall tape i).memory i.args ∧ (({} : Assume)).holds C.prog (lone (Frame.enter C.prog f i.args .normal) [] (w.forCall tape i)))
    (hl : laidOutB C.prog = true) (hseq : seqAll C.prog = true) (hpar : (fn.params.toList.all fun t => C.prog.readableRec t && decide (t < C.prog.types.size)) = true)
    (hvars : s.vars = []) (hspec : ∀ ds : List (DataW H), ds.length = fn.params.size → s.fn H ds = { results := [.lit (.bool true)], args := ds })
    (hres : fn.resultTypes = #[tb]) (htb : C.prog.underlying tb = some .bool)
    (hfun : ∀ us : List U, ArgsU C.prog fn.params.toList us → (us.map szU).sum ≤ 1048576 → Fun C.prog f (us.map .u) (· = .u (.bool true))) (hglob : globs = []) :
    ReturnsInHanded {} C os f .any ((Go.Proofs.Ytdkadmchdocjbaa.Rows.OpenSpec.upto s).pre6 enc C.prog fn conds apart) (((Go.Proofs.Ytdkadmchdocjbaa.Rows.OpenSpec.upto s).at F).post enc C.prog fn apart fresh handsOn again) := by
  refine returnsInHanded_of_cond (C := C) (s := Go.Proofs.Ytdkadmchdocjbaa.Rows.OpenSpec.upto s) (k := Go.Proofs.Ytdkadmchdocjbaa.Rows.uptoSmall) rfl own started noInit hfn witness ?_
  intro W base args ds gs before hval hW _ hk _
  have hb : uptoBulkAll (ds ++ gs) ≤ 1048576 := of_decide_eq_true hk
  exact law_contract hl hseq hpar hvars hspec hres htb hglob W base args ds gs before hval hW fun us h hz => hfun us h (Nat.le_trans hz hb)
theorem sz_sl {rows : List (List U)} : rows.length ≤ szU (.sl rows) := by
  rw [szU_sl]
  induction rows with
  | nil => simp
  | cons r rows ih => simp only [List.map_cons, List.sum_cons, List.length_cons]; omega
end Go.VL
