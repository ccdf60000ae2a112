/-
  NARROWER THAN 'FOR EVERY INPUT', by the rows' own cells (each row's printed sentence says how): EvalLets: loops, laid · EvalShort: loops, laid · EvalInts: laid · EvalShares: laid · EvalTells: loops, laid · EvalTyped: loops, laid.
  DERIVED. THE GIVEN ROWS OF THIS SEAT. 6 by the template 'for every input the law returns true; each argument reads behind the call as it read before'; 0 by the template 'total and deterministic' (their statements: YtfcopibncpkdoaaDoorTotals.lean).
  GIVEN WITH THE SEED: the statements are not yours to turn. If you find one false, say at which input.
  Laid BY PROGRAM, IN A SANDBOX (cutbox-rows.mjs): the forced cells as the released guide's own fill.sh prints them over the translation 532ece1f98c9927c… (all of the seat's roots in one cut). By AI agents, Wed Nov 11 2026. No macro, syntax, notation, axiom, sorry.
-/
import Derived.Test.YtfcopibncpkdoaaDoorChecked
import GoSem.Claim
import GoSem.ClaimJoined
import GoSem.ClaimMapViews
import Derived.JoinedTies
import Derived.KernelRfl
namespace Go.Proofs.YtfcopibncpkdoaaDoor
/- THE CELL 'sum', in the pinned program and in every row, IS THE sha256 OF THE DUMP (.gsa) THAT YtfcopibncpkdoaaDoorProg.lean LOADS. Nothing in Lean hashes anything: it is a label: what it is worth is what the hold of that sum in a sandbox is worth. -/
noncomputable def Tryd.pinned : Pinned := { name := "ytfcopibncpkdoaadoor", sum := "532ece1f98c9927cf7581edb9451fac6021d74e248bee218d2622c7c6fb88359", checked := Tryd.checked }
namespace Rows
def none {H : Type} : Left H := { results := [], args := [] }

/- WHAT THE LISTED PACKAGE-LEVEL VARIABLES READ AS WHEN THE CALL BEGINS. Each datum BY PROGRAM (the guide's laid-datum.mjs) off the statement by which the dump's own 'gosem.cut.vars' lays the variable. In a bare row this is a premise. The card (YtfcopibncpkdoaaDoorCards.lean) ties it to the program's text. -/
def laid_stokvel_lex_signs {H : Type} : DataW H := .agg [.lit (.string [61, 61]), .lit (.string [59]), .lit (.string [44]), .lit (.string [61]), .lit (.string [60]), .lit (.string [43]), .lit (.string [45]), .lit (.string [42]), .lit (.string [47]), .lit (.string [40]), .lit (.string [41])]

/-- 'stokvellaw17.EvalLets': WHATEVER THE INPUT: true; the input reads as it did. -/
def evalLetsSpec : ChangeSpec := { name := "evalLets", fn := fun _ => fun
  | [d1, d2, d3, d4, d5] => { results := [.lit (.bool true)], args := [d1, d2, d3, d4, d5] }
  | _ => none }
def evalLetsRow : OpenClaim := { program := "ytfcopibncpkdoaadoor", sum := "532ece1f98c9927cf7581edb9451fac6021d74e248bee218d2622c7c6fb88359", func := "stokvel/stokvellaw17.EvalLets", spec := "evalLets", unfollowed := true, recurses := true, named := ["stokvel/lex.signs"], loops := true, apart := false, laid := [("stokvel/lex.signs", laid_stokvel_lex_signs)] }
def EvalLetsSaid : Prop := evalLetsRow.holds Tryd.pinned (OpenSpec.ofChange evalLetsSpec)

/-- ITS FALSE NEIGHBOUR: 'it returns false'. Refute it at one input. -/
def evalLetsWrong : ChangeSpec := { name := "evalLets", fn := fun _ => fun
  | [d1, d2, d3, d4, d5] => { results := [.lit (.bool false)], args := [d1, d2, d3, d4, d5] }
  | _ => none }
def EvalLetsWrongFalsely : Prop := evalLetsRow.holds Tryd.pinned (OpenSpec.ofChange evalLetsWrong)

/-- 'stokvellaw17.EvalShort': WHATEVER THE INPUT: true; the input reads as it did. -/
def evalShortSpec : ChangeSpec := { name := "evalShort", fn := fun _ => fun
  | [d1, d2, d3] => { results := [.lit (.bool true)], args := [d1, d2, d3] }
  | _ => none }
def evalShortRow : OpenClaim := { program := "ytfcopibncpkdoaadoor", sum := "532ece1f98c9927cf7581edb9451fac6021d74e248bee218d2622c7c6fb88359", func := "stokvel/stokvellaw17.EvalShort", spec := "evalShort", unfollowed := true, recurses := true, named := ["stokvel/lex.signs"], loops := true, apart := false, laid := [("stokvel/lex.signs", laid_stokvel_lex_signs)] }
def EvalShortSaid : Prop := evalShortRow.holds Tryd.pinned (OpenSpec.ofChange evalShortSpec)

/-- ITS FALSE NEIGHBOUR: 'it returns false'. Refute it at one input. -/
def evalShortWrong : ChangeSpec := { name := "evalShort", fn := fun _ => fun
  | [d1, d2, d3] => { results := [.lit (.bool false)], args := [d1, d2, d3] }
  | _ => none }
def EvalShortWrongFalsely : Prop := evalShortRow.holds Tryd.pinned (OpenSpec.ofChange evalShortWrong)

/-- 'stokvellaw17.EvalInts': WHATEVER THE INPUT: true; the input reads as it did. -/
def evalIntsSpec : ChangeSpec := { name := "evalInts", fn := fun _ => fun
  | [d1, d2] => { results := [.lit (.bool true)], args := [d1, d2] }
  | _ => none }
def evalIntsRow : OpenClaim := { program := "ytfcopibncpkdoaadoor", sum := "532ece1f98c9927cf7581edb9451fac6021d74e248bee218d2622c7c6fb88359", func := "stokvel/stokvellaw17.EvalInts", spec := "evalInts", unfollowed := true, recurses := true, named := ["stokvel/lex.signs"], apart := false, laid := [("stokvel/lex.signs", laid_stokvel_lex_signs)] }
def EvalIntsSaid : Prop := evalIntsRow.holds Tryd.pinned (OpenSpec.ofChange evalIntsSpec)

/-- ITS FALSE NEIGHBOUR: 'it returns false'. Refute it at one input. -/
def evalIntsWrong : ChangeSpec := { name := "evalInts", fn := fun _ => fun
  | [d1, d2] => { results := [.lit (.bool false)], args := [d1, d2] }
  | _ => none }
def EvalIntsWrongFalsely : Prop := evalIntsRow.holds Tryd.pinned (OpenSpec.ofChange evalIntsWrong)

/-- 'stokvellaw17.EvalShares': WHATEVER THE INPUT: true; the input reads as it did. -/
def evalSharesSpec : ChangeSpec := { name := "evalShares", fn := fun _ => fun
  | [d1, d2] => { results := [.lit (.bool true)], args := [d1, d2] }
  | _ => none }
def evalSharesRow : OpenClaim := { program := "ytfcopibncpkdoaadoor", sum := "532ece1f98c9927cf7581edb9451fac6021d74e248bee218d2622c7c6fb88359", func := "stokvel/stokvellaw17.EvalShares", spec := "evalShares", unfollowed := true, recurses := true, named := ["stokvel/lex.signs"], apart := false, laid := [("stokvel/lex.signs", laid_stokvel_lex_signs)] }
def EvalSharesSaid : Prop := evalSharesRow.holds Tryd.pinned (OpenSpec.ofChange evalSharesSpec)

/-- ITS FALSE NEIGHBOUR: 'it returns false'. Refute it at one input. -/
def evalSharesWrong : ChangeSpec := { name := "evalShares", fn := fun _ => fun
  | [d1, d2] => { results := [.lit (.bool false)], args := [d1, d2] }
  | _ => none }
def EvalSharesWrongFalsely : Prop := evalSharesRow.holds Tryd.pinned (OpenSpec.ofChange evalSharesWrong)

/-- 'stokvellaw17.EvalTells': WHATEVER THE INPUT: true; the input reads as it did. -/
def evalTellsSpec : ChangeSpec := { name := "evalTells", fn := fun _ => fun
  | [d1, d2, d3, d4, d5] => { results := [.lit (.bool true)], args := [d1, d2, d3, d4, d5] }
  | _ => none }
def evalTellsRow : OpenClaim := { program := "ytfcopibncpkdoaadoor", sum := "532ece1f98c9927cf7581edb9451fac6021d74e248bee218d2622c7c6fb88359", func := "stokvel/stokvellaw17.EvalTells", spec := "evalTells", unfollowed := true, recurses := true, named := ["stokvel/lex.signs"], loops := true, apart := false, laid := [("stokvel/lex.signs", laid_stokvel_lex_signs)] }
def EvalTellsSaid : Prop := evalTellsRow.holds Tryd.pinned (OpenSpec.ofChange evalTellsSpec)

/-- ITS FALSE NEIGHBOUR: 'it returns false'. Refute it at one input. -/
def evalTellsWrong : ChangeSpec := { name := "evalTells", fn := fun _ => fun
  | [d1, d2, d3, d4, d5] => { results := [.lit (.bool false)], args := [d1, d2, d3, d4, d5] }
  | _ => none }
def EvalTellsWrongFalsely : Prop := evalTellsRow.holds Tryd.pinned (OpenSpec.ofChange evalTellsWrong)

/-- 'stokvellaw17.EvalTyped': WHATEVER THE INPUT: true; the input reads as it did. -/
def evalTypedSpec : ChangeSpec := { name := "evalTyped", fn := fun _ => fun
  | [d1, d2, d3] => { results := [.lit (.bool true)], args := [d1, d2, d3] }
  | _ => none }
def evalTypedRow : OpenClaim := { program := "ytfcopibncpkdoaadoor", sum := "532ece1f98c9927cf7581edb9451fac6021d74e248bee218d2622c7c6fb88359", func := "stokvel/stokvellaw17.EvalTyped", spec := "evalTyped", unfollowed := true, recurses := true, named := ["stokvel/lex.signs"], loops := true, apart := false, laid := [("stokvel/lex.signs", laid_stokvel_lex_signs)] }
def EvalTypedSaid : Prop := evalTypedRow.holds Tryd.pinned (OpenSpec.ofChange evalTypedSpec)

/-- ITS FALSE NEIGHBOUR: 'it returns false'. Refute it at one input. -/
def evalTypedWrong : ChangeSpec := { name := "evalTyped", fn := fun _ => fun
  | [d1, d2, d3] => { results := [.lit (.bool false)], args := [d1, d2, d3] }
  | _ => none }
def EvalTypedWrongFalsely : Prop := evalTypedRow.holds Tryd.pinned (OpenSpec.ofChange evalTypedWrong)

/- THE SECOND FORM. 'bulk': how many values and letters a reading holds, each counted each time it is reached (what is shared counts as often as it is met; a slice's spare places count too). A statement '..UptoSaid' is the law's where the arguments, and the package variables that the reading takes, are together of bulk at most 1048576: NARROWER than '..Said'. Prove '..Said' where nothing that the law and all that it calls make is longer than what came in: it says more and counts as full. Else prove '..UptoSaid'. A law counts once. -/
mutual
def uptoBulk {H : Type} : DataW H → Nat
  | .lit (.string bytes) => bytes.length + 1
  | .lit _ => 1
  | .nil => 1
  | .ptr d => uptoBulk d + 1
  | .slice elems spare => uptoBulkAll elems + uptoBulkAll spare + 1
  | .agg parts => uptoBulkAll parts + 1
  | .iface _ d => uptoBulk d + 1
  | .map entries => uptoBulkEntries entries + 1
  | .held _ => 1
def uptoBulkAll {H : Type} : List (DataW H) → Nat
  | [] => 0
  | d :: r => uptoBulk d + uptoBulkAll r
def uptoBulkEntries {H : Type} : List (Lit × DataW H) → Nat
  | [] => 0
  | x :: r => uptoBulkEntry x + uptoBulkEntries r
def uptoBulkEntry {H : Type} : Lit × DataW H → Nat
  | (.string bytes, d) => bytes.length + uptoBulk d + 1
  | (_, d) => uptoBulk d + 1
 end
def uptoSmall : (H : Type) → List (DataW H) → Bool := fun _ ds => decide (uptoBulkAll ds ≤ 1048576)
def OpenSpec.upto (s : _root_.Go.ChangeSpec) : _root_.Go.OpenSpec := { _root_.Go.OpenSpec.ofChange s with cond := some uptoSmall }

/-- 'stokvellaw17.EvalLets', WHERE WHAT IT READS IS OF BULK AT MOST 1048576: true; the input reads as it did. -/
def evalLetsUptoRow : OpenClaim := { program := "ytfcopibncpkdoaadoor", sum := "532ece1f98c9927cf7581edb9451fac6021d74e248bee218d2622c7c6fb88359", func := "stokvel/stokvellaw17.EvalLets", spec := "evalLets", unfollowed := true, recurses := true, named := ["stokvel/lex.signs"], loops := true, apart := false, laid := [("stokvel/lex.signs", laid_stokvel_lex_signs)], narrowed := true }
def EvalLetsUptoSaid : Prop := evalLetsUptoRow.holds Tryd.pinned (OpenSpec.upto evalLetsSpec)

/-- 'stokvellaw17.EvalShort', WHERE WHAT IT READS IS OF BULK AT MOST 1048576: true; the input reads as it did. -/
def evalShortUptoRow : OpenClaim := { program := "ytfcopibncpkdoaadoor", sum := "532ece1f98c9927cf7581edb9451fac6021d74e248bee218d2622c7c6fb88359", func := "stokvel/stokvellaw17.EvalShort", spec := "evalShort", unfollowed := true, recurses := true, named := ["stokvel/lex.signs"], loops := true, apart := false, laid := [("stokvel/lex.signs", laid_stokvel_lex_signs)], narrowed := true }
def EvalShortUptoSaid : Prop := evalShortUptoRow.holds Tryd.pinned (OpenSpec.upto evalShortSpec)

/-- 'stokvellaw17.EvalInts', WHERE WHAT IT READS IS OF BULK AT MOST 1048576: true; the input reads as it did. -/
def evalIntsUptoRow : OpenClaim := { program := "ytfcopibncpkdoaadoor", sum := "532ece1f98c9927cf7581edb9451fac6021d74e248bee218d2622c7c6fb88359", func := "stokvel/stokvellaw17.EvalInts", spec := "evalInts", unfollowed := true, recurses := true, named := ["stokvel/lex.signs"], apart := false, laid := [("stokvel/lex.signs", laid_stokvel_lex_signs)], narrowed := true }
def EvalIntsUptoSaid : Prop := evalIntsUptoRow.holds Tryd.pinned (OpenSpec.upto evalIntsSpec)

/-- 'stokvellaw17.EvalShares', WHERE WHAT IT READS IS OF BULK AT MOST 1048576: true; the input reads as it did. -/
def evalSharesUptoRow : OpenClaim := { program := "ytfcopibncpkdoaadoor", sum := "532ece1f98c9927cf7581edb9451fac6021d74e248bee218d2622c7c6fb88359", func := "stokvel/stokvellaw17.EvalShares", spec := "evalShares", unfollowed := true, recurses := true, named := ["stokvel/lex.signs"], apart := false, laid := [("stokvel/lex.signs", laid_stokvel_lex_signs)], narrowed := true }
def EvalSharesUptoSaid : Prop := evalSharesUptoRow.holds Tryd.pinned (OpenSpec.upto evalSharesSpec)

/-- 'stokvellaw17.EvalTells', WHERE WHAT IT READS IS OF BULK AT MOST 1048576: true; the input reads as it did. -/
def evalTellsUptoRow : OpenClaim := { program := "ytfcopibncpkdoaadoor", sum := "532ece1f98c9927cf7581edb9451fac6021d74e248bee218d2622c7c6fb88359", func := "stokvel/stokvellaw17.EvalTells", spec := "evalTells", unfollowed := true, recurses := true, named := ["stokvel/lex.signs"], loops := true, apart := false, laid := [("stokvel/lex.signs", laid_stokvel_lex_signs)], narrowed := true }
def EvalTellsUptoSaid : Prop := evalTellsUptoRow.holds Tryd.pinned (OpenSpec.upto evalTellsSpec)

/-- 'stokvellaw17.EvalTyped', WHERE WHAT IT READS IS OF BULK AT MOST 1048576: true; the input reads as it did. -/
def evalTypedUptoRow : OpenClaim := { program := "ytfcopibncpkdoaadoor", sum := "532ece1f98c9927cf7581edb9451fac6021d74e248bee218d2622c7c6fb88359", func := "stokvel/stokvellaw17.EvalTyped", spec := "evalTyped", unfollowed := true, recurses := true, named := ["stokvel/lex.signs"], loops := true, apart := false, laid := [("stokvel/lex.signs", laid_stokvel_lex_signs)], narrowed := true }
def EvalTypedUptoSaid : Prop := evalTypedUptoRow.holds Tryd.pinned (OpenSpec.upto evalTypedSpec)

end Rows
end Go.Proofs.YtfcopibncpkdoaaDoor
