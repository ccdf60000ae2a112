/-
  NARROWER THAN 'FOR EVERY INPUT', by the rows' own cells (each row's printed sentence says how): CertExposure: loops, laid · CertRoom: loops, laid.
  DERIVED. THE GIVEN ROWS OF THIS SEAT. 2 by the template 'for every input the law returns true; each argument reads behind the call as it read before'; 0 by the template 'total and deterministic' (their statements: YtmlpcgkaonifcaaGreatDoorTotals.lean).
  GIVEN WITH THE SEED: the statements are not yours to turn. If you find one false, say at which input.
  Laid BY PROGRAM, IN A SANDBOX (cutbox-rows.mjs): the forced cells as the released guide's own fill.sh prints them over the translation 45b8dfdd48512734… (all of the seat's roots in one cut). By AI agents, Wed Nov 11 2026. No macro, syntax, notation, axiom, sorry.
-/
import Derived.Test.YtmlpcgkaonifcaaGreatDoorChecked
import GoSem.Claim
import GoSem.ClaimJoined
import GoSem.ClaimMapViews
import Derived.JoinedTies
import Derived.KernelRfl
namespace Go.Proofs.YtmlpcgkaonifcaaGreatDoor
/- THE CELL 'sum', in the pinned program and in every row, IS THE sha256 OF THE DUMP (.gsa) THAT YtmlpcgkaonifcaaGreatDoorProg.lean LOADS. Nothing in Lean hashes anything: it is a label: what it is worth is what the hold of that sum in a sandbox is worth. -/
noncomputable def Tryz.pinned : Pinned := { name := "ytmlpcgkaonifcaagreatdoor", sum := "45b8dfdd4851273491dcc5cf6858c81a74c10e6f5c346bb62ca5f860f2879560", checked := Tryz.checked }
namespace Rows
def none {H : Type} : Left H := { results := [], args := [] }

/- WHAT THE LISTED PACKAGE-LEVEL VARIABLES READ AS WHEN THE CALL BEGINS. Each datum BY PROGRAM (the guide's laid-datum.mjs) off the statement by which the dump's own 'gosem.cut.vars' lays the variable. In a bare row this is a premise. The card (YtmlpcgkaonifcaaGreatDoorCards.lean) ties it to the program's text. -/
def laid_stokvel_lex_signs {H : Type} : DataW H := .agg [.lit (.string [61, 61]), .lit (.string [59]), .lit (.string [44]), .lit (.string [61]), .lit (.string [60]), .lit (.string [43]), .lit (.string [45]), .lit (.string [42]), .lit (.string [47]), .lit (.string [40]), .lit (.string [41])]

/-- 'stokvellaw22.CertExposure': WHATEVER THE INPUT: true; the input reads as it did. -/
def certExposureSpec : ChangeSpec := { name := "certExposure", fn := fun _ => fun
  | [d1, d2, d3, d4] => { results := [.lit (.bool true)], args := [d1, d2, d3, d4] }
  | _ => none }
def certExposureRow : OpenClaim := { program := "ytmlpcgkaonifcaagreatdoor", sum := "45b8dfdd4851273491dcc5cf6858c81a74c10e6f5c346bb62ca5f860f2879560", func := "stokvel/stokvellaw22.CertExposure", spec := "certExposure", unfollowed := true, recurses := true, named := ["stokvel/lex.signs"], loops := true, apart := false, laid := [("stokvel/lex.signs", laid_stokvel_lex_signs)] }
def CertExposureSaid : Prop := certExposureRow.holds Tryz.pinned (OpenSpec.ofChange certExposureSpec)

/-- ITS FALSE NEIGHBOUR: 'it returns false'. Refute it at one input. -/
def certExposureWrong : ChangeSpec := { name := "certExposure", fn := fun _ => fun
  | [d1, d2, d3, d4] => { results := [.lit (.bool false)], args := [d1, d2, d3, d4] }
  | _ => none }
def CertExposureWrongFalsely : Prop := certExposureRow.holds Tryz.pinned (OpenSpec.ofChange certExposureWrong)

/-- 'stokvellaw22.CertRoom': WHATEVER THE INPUT: true; the input reads as it did. -/
def certRoomSpec : ChangeSpec := { name := "certRoom", fn := fun _ => fun
  | [d1, d2, d3] => { results := [.lit (.bool true)], args := [d1, d2, d3] }
  | _ => none }
def certRoomRow : OpenClaim := { program := "ytmlpcgkaonifcaagreatdoor", sum := "45b8dfdd4851273491dcc5cf6858c81a74c10e6f5c346bb62ca5f860f2879560", func := "stokvel/stokvellaw22.CertRoom", spec := "certRoom", unfollowed := true, recurses := true, named := ["stokvel/lex.signs"], loops := true, apart := false, laid := [("stokvel/lex.signs", laid_stokvel_lex_signs)] }
def CertRoomSaid : Prop := certRoomRow.holds Tryz.pinned (OpenSpec.ofChange certRoomSpec)

/-- ITS FALSE NEIGHBOUR: 'it returns false'. Refute it at one input. -/
def certRoomWrong : ChangeSpec := { name := "certRoom", fn := fun _ => fun
  | [d1, d2, d3] => { results := [.lit (.bool false)], args := [d1, d2, d3] }
  | _ => none }
def CertRoomWrongFalsely : Prop := certRoomRow.holds Tryz.pinned (OpenSpec.ofChange certRoomWrong)

/- THE SECOND FORM. 'bulk': how many values and letters a reading holds, each counted each time it is reached (what is shared counts as often as it is met; a slice's spare places count too). A statement '..UptoSaid' is the law's where the arguments, and the package variables that the reading takes, are together of bulk at most 1048576: NARROWER than '..Said'. Prove '..Said' where nothing that the law and all that it calls make is longer than what came in: it says more and counts as full. Else prove '..UptoSaid'. A law counts once. -/
mutual
def uptoBulk {H : Type} : DataW H → Nat
  | .lit (.string bytes) => bytes.length + 1
  | .lit _ => 1
  | .nil => 1
  | .ptr d => uptoBulk d + 1
  | .slice elems spare => uptoBulkAll elems + uptoBulkAll spare + 1
  | .agg parts => uptoBulkAll parts + 1
  | .iface _ d => uptoBulk d + 1
  | .map entries => uptoBulkEntries entries + 1
  | .held _ => 1
def uptoBulkAll {H : Type} : List (DataW H) → Nat
  | [] => 0
  | d :: r => uptoBulk d + uptoBulkAll r
def uptoBulkEntries {H : Type} : List (Lit × DataW H) → Nat
  | [] => 0
  | x :: r => uptoBulkEntry x + uptoBulkEntries r
def uptoBulkEntry {H : Type} : Lit × DataW H → Nat
  | (.string bytes, d) => bytes.length + uptoBulk d + 1
  | (_, d) => uptoBulk d + 1
 end
def uptoSmall : (H : Type) → List (DataW H) → Bool := fun _ ds => decide (uptoBulkAll ds ≤ 1048576)
def OpenSpec.upto (s : _root_.Go.ChangeSpec) : _root_.Go.OpenSpec := { _root_.Go.OpenSpec.ofChange s with cond := some uptoSmall }

/-- 'stokvellaw22.CertExposure', WHERE WHAT IT READS IS OF BULK AT MOST 1048576: true; the input reads as it did. -/
def certExposureUptoRow : OpenClaim := { program := "ytmlpcgkaonifcaagreatdoor", sum := "45b8dfdd4851273491dcc5cf6858c81a74c10e6f5c346bb62ca5f860f2879560", func := "stokvel/stokvellaw22.CertExposure", spec := "certExposure", unfollowed := true, recurses := true, named := ["stokvel/lex.signs"], loops := true, apart := false, laid := [("stokvel/lex.signs", laid_stokvel_lex_signs)], narrowed := true }
def CertExposureUptoSaid : Prop := certExposureUptoRow.holds Tryz.pinned (OpenSpec.upto certExposureSpec)

/-- 'stokvellaw22.CertRoom', WHERE WHAT IT READS IS OF BULK AT MOST 1048576: true; the input reads as it did. -/
def certRoomUptoRow : OpenClaim := { program := "ytmlpcgkaonifcaagreatdoor", sum := "45b8dfdd4851273491dcc5cf6858c81a74c10e6f5c346bb62ca5f860f2879560", func := "stokvel/stokvellaw22.CertRoom", spec := "certRoom", unfollowed := true, recurses := true, named := ["stokvel/lex.signs"], loops := true, apart := false, laid := [("stokvel/lex.signs", laid_stokvel_lex_signs)], narrowed := true }
def CertRoomUptoSaid : Prop := certRoomUptoRow.holds Tryz.pinned (OpenSpec.upto certRoomSpec)

end Rows
end Go.Proofs.YtmlpcgkaonifcaaGreatDoor
