/-
  NARROWER THAN 'FOR EVERY INPUT', by the rows' own cells (each row's printed sentence says how): RulesTells: laid · RulesForce: laid · RulesSides: laid · RulesVoted: laid · RulesChecked: laid · ClaimsStory: loops, laid · ClaimsVoices: loops, laid · ClaimsCover: loops, laid.
  DERIVED. THE GIVEN ROWS OF THIS SEAT. 8 by the template 'for every input the law returns true; each argument reads behind the call as it read before'; 0 by the template 'total and deterministic' (their statements: YtepiegcjnaohjaaGreatDoorTotals.lean).
  GIVEN WITH THE SEED: the statements are not yours to turn. If you find one false, say at which input.
  Laid BY PROGRAM, IN A SANDBOX (cutbox-rows.mjs): the forced cells as the released guide's own fill.sh prints them over the translation cae8be09be8778c1… (all of the seat's roots in one cut). By AI agents, Wed Nov 11 2026. No macro, syntax, notation, axiom, sorry.
-/
import Derived.Test.YtepiegcjnaohjaaGreatDoorChecked
import GoSem.Claim
import GoSem.ClaimJoined
import GoSem.ClaimMapViews
import Derived.JoinedTies
import Derived.KernelRfl
namespace Go.Proofs.YtepiegcjnaohjaaGreatDoor
/- THE CELL 'sum', in the pinned program and in every row, IS THE sha256 OF THE DUMP (.gsa) THAT YtepiegcjnaohjaaGreatDoorProg.lean LOADS. Nothing in Lean hashes anything: it is a label: what it is worth is what the hold of that sum in a sandbox is worth. -/
noncomputable def Tryz.pinned : Pinned := { name := "ytepiegcjnaohjaagreatdoor", sum := "cae8be09be8778c1cba61bc3261ad6a8f9cc221c30f1cff7863ee65f27a8b397", checked := Tryz.checked }
namespace Rows
def none {H : Type} : Left H := { results := [], args := [] }

/- WHAT THE LISTED PACKAGE-LEVEL VARIABLES READ AS WHEN THE CALL BEGINS. Each datum BY PROGRAM (the guide's laid-datum.mjs) off the statement by which the dump's own 'gosem.cut.vars' lays the variable. In a bare row this is a premise. The card (YtepiegcjnaohjaaGreatDoorCards.lean) ties it to the program's text. -/
def laid_stokvel_lex_signs {H : Type} : DataW H := .agg [.lit (.string [61, 61]), .lit (.string [59]), .lit (.string [44]), .lit (.string [61]), .lit (.string [60]), .lit (.string [43]), .lit (.string [45]), .lit (.string [42]), .lit (.string [47]), .lit (.string [40]), .lit (.string [41])]
def laid_math_bits_deBruijn32tab {H : Type} : DataW H := .agg [.lit (.int .u8 0), .lit (.int .u8 1), .lit (.int .u8 28), .lit (.int .u8 2), .lit (.int .u8 29), .lit (.int .u8 14), .lit (.int .u8 24), .lit (.int .u8 3), .lit (.int .u8 30), .lit (.int .u8 22), .lit (.int .u8 20), .lit (.int .u8 15), .lit (.int .u8 25), .lit (.int .u8 17), .lit (.int .u8 4), .lit (.int .u8 8), .lit (.int .u8 31), .lit (.int .u8 27), .lit (.int .u8 13), .lit (.int .u8 23), .lit (.int .u8 21), .lit (.int .u8 19), .lit (.int .u8 16), .lit (.int .u8 7), .lit (.int .u8 26), .lit (.int .u8 12), .lit (.int .u8 18), .lit (.int .u8 6), .lit (.int .u8 11), .lit (.int .u8 5), .lit (.int .u8 10), .lit (.int .u8 9)]
def laid_math_bits_deBruijn64tab {H : Type} : DataW H := .agg [.lit (.int .u8 0), .lit (.int .u8 1), .lit (.int .u8 56), .lit (.int .u8 2), .lit (.int .u8 57), .lit (.int .u8 49), .lit (.int .u8 28), .lit (.int .u8 3), .lit (.int .u8 61), .lit (.int .u8 58), .lit (.int .u8 42), .lit (.int .u8 50), .lit (.int .u8 38), .lit (.int .u8 29), .lit (.int .u8 17), .lit (.int .u8 4), .lit (.int .u8 62), .lit (.int .u8 47), .lit (.int .u8 59), .lit (.int .u8 36), .lit (.int .u8 45), .lit (.int .u8 43), .lit (.int .u8 51), .lit (.int .u8 22), .lit (.int .u8 53), .lit (.int .u8 39), .lit (.int .u8 33), .lit (.int .u8 30), .lit (.int .u8 24), .lit (.int .u8 18), .lit (.int .u8 12), .lit (.int .u8 5), .lit (.int .u8 63), .lit (.int .u8 55), .lit (.int .u8 48), .lit (.int .u8 27), .lit (.int .u8 60), .lit (.int .u8 41), .lit (.int .u8 37), .lit (.int .u8 16), .lit (.int .u8 46), .lit (.int .u8 35), .lit (.int .u8 44), .lit (.int .u8 21), .lit (.int .u8 52), .lit (.int .u8 32), .lit (.int .u8 23), .lit (.int .u8 11), .lit (.int .u8 54), .lit (.int .u8 26), .lit (.int .u8 40), .lit (.int .u8 15), .lit (.int .u8 34), .lit (.int .u8 20), .lit (.int .u8 31), .lit (.int .u8 10), .lit (.int .u8 25), .lit (.int .u8 14), .lit (.int .u8 19), .lit (.int .u8 9), .lit (.int .u8 13), .lit (.int .u8 8), .lit (.int .u8 7), .lit (.int .u8 6)]
def laid_internal_strconv_uint64pow10 {H : Type} : DataW H := .agg [.lit (.int .u64 1), .lit (.int .u64 10), .lit (.int .u64 100), .lit (.int .u64 1000), .lit (.int .u64 10000), .lit (.int .u64 100000), .lit (.int .u64 1000000), .lit (.int .u64 10000000), .lit (.int .u64 100000000), .lit (.int .u64 1000000000), .lit (.int .u64 10000000000), .lit (.int .u64 100000000000), .lit (.int .u64 1000000000000), .lit (.int .u64 10000000000000), .lit (.int .u64 100000000000000), .lit (.int .u64 1000000000000000), .lit (.int .u64 10000000000000000), .lit (.int .u64 100000000000000000), .lit (.int .u64 1000000000000000000), .lit (.int .u64 10000000000000000000)]
def laid_stokvel_entry_uses {H : Type} : DataW H := .agg [.lit (.string [107, 116]), .lit (.string [99]), .lit (.string [99]), .lit (.string [99, 119, 110, 109]), .lit (.string [110, 114]), .lit (.string [119, 115]), .lit (.string [119, 109, 115]), .lit (.string [99, 119, 109, 114, 115]), .lit (.string [99, 110, 109, 114]), .lit (.string [110, 114]), .lit (.string [99, 110, 109, 116]), .lit (.string [114, 116]), .lit (.string [110, 114]), .lit (.string [114]), .lit (.string [99, 116]), .lit (.string [119, 110]), .lit (.string [99, 109]), .lit (.string [99, 107]), .lit (.string [110, 109, 114]), .lit (.string [110, 109, 114]), .lit (.string [110, 109, 114])]

/-- 'stokvellaw34.RulesTells': WHATEVER THE INPUT: true; the input reads as it did. -/
def rulesTellsSpec : ChangeSpec := { name := "rulesTells", fn := fun _ => fun
  | [d1, d2, d3, d4] => { results := [.lit (.bool true)], args := [d1, d2, d3, d4] }
  | _ => none }
def rulesTellsRow : OpenClaim := { program := "ytepiegcjnaohjaagreatdoor", sum := "cae8be09be8778c1cba61bc3261ad6a8f9cc221c30f1cff7863ee65f27a8b397", func := "stokvel/stokvellaw34.RulesTells", spec := "rulesTells", unfollowed := true, recurses := true, named := ["stokvel/lex.signs"], apart := false, laid := [("stokvel/lex.signs", laid_stokvel_lex_signs)] }
def RulesTellsSaid : Prop := rulesTellsRow.holds Tryz.pinned (OpenSpec.ofChange rulesTellsSpec)

/-- ITS FALSE NEIGHBOUR: 'it returns false'. Refute it at one input. -/
def rulesTellsWrong : ChangeSpec := { name := "rulesTells", fn := fun _ => fun
  | [d1, d2, d3, d4] => { results := [.lit (.bool false)], args := [d1, d2, d3, d4] }
  | _ => none }
def RulesTellsWrongFalsely : Prop := rulesTellsRow.holds Tryz.pinned (OpenSpec.ofChange rulesTellsWrong)

/-- 'stokvellaw34.RulesForce': WHATEVER THE INPUT: true; the input reads as it did. -/
def rulesForceSpec : ChangeSpec := { name := "rulesForce", fn := fun _ => fun
  | [d1, d2] => { results := [.lit (.bool true)], args := [d1, d2] }
  | _ => none }
def rulesForceRow : OpenClaim := { program := "ytepiegcjnaohjaagreatdoor", sum := "cae8be09be8778c1cba61bc3261ad6a8f9cc221c30f1cff7863ee65f27a8b397", func := "stokvel/stokvellaw34.RulesForce", spec := "rulesForce", unfollowed := true, recurses := true, named := ["stokvel/lex.signs"], apart := false, laid := [("stokvel/lex.signs", laid_stokvel_lex_signs)] }
def RulesForceSaid : Prop := rulesForceRow.holds Tryz.pinned (OpenSpec.ofChange rulesForceSpec)

/-- ITS FALSE NEIGHBOUR: 'it returns false'. Refute it at one input. -/
def rulesForceWrong : ChangeSpec := { name := "rulesForce", fn := fun _ => fun
  | [d1, d2] => { results := [.lit (.bool false)], args := [d1, d2] }
  | _ => none }
def RulesForceWrongFalsely : Prop := rulesForceRow.holds Tryz.pinned (OpenSpec.ofChange rulesForceWrong)

/-- 'stokvellaw34.RulesSides': WHATEVER THE INPUT: true; the input reads as it did. -/
def rulesSidesSpec : ChangeSpec := { name := "rulesSides", fn := fun _ => fun
  | [d1, d2, d3, d4] => { results := [.lit (.bool true)], args := [d1, d2, d3, d4] }
  | _ => none }
def rulesSidesRow : OpenClaim := { program := "ytepiegcjnaohjaagreatdoor", sum := "cae8be09be8778c1cba61bc3261ad6a8f9cc221c30f1cff7863ee65f27a8b397", func := "stokvel/stokvellaw34.RulesSides", spec := "rulesSides", unfollowed := true, recurses := true, named := ["stokvel/lex.signs"], apart := false, laid := [("stokvel/lex.signs", laid_stokvel_lex_signs)] }
def RulesSidesSaid : Prop := rulesSidesRow.holds Tryz.pinned (OpenSpec.ofChange rulesSidesSpec)

/-- ITS FALSE NEIGHBOUR: 'it returns false'. Refute it at one input. -/
def rulesSidesWrong : ChangeSpec := { name := "rulesSides", fn := fun _ => fun
  | [d1, d2, d3, d4] => { results := [.lit (.bool false)], args := [d1, d2, d3, d4] }
  | _ => none }
def RulesSidesWrongFalsely : Prop := rulesSidesRow.holds Tryz.pinned (OpenSpec.ofChange rulesSidesWrong)

/-- 'stokvellaw34.RulesVoted': WHATEVER THE INPUT: true; the input reads as it did. -/
def rulesVotedSpec : ChangeSpec := { name := "rulesVoted", fn := fun _ => fun
  | [d1, d2, d3, d4] => { results := [.lit (.bool true)], args := [d1, d2, d3, d4] }
  | _ => none }
def rulesVotedRow : OpenClaim := { program := "ytepiegcjnaohjaagreatdoor", sum := "cae8be09be8778c1cba61bc3261ad6a8f9cc221c30f1cff7863ee65f27a8b397", func := "stokvel/stokvellaw34.RulesVoted", spec := "rulesVoted", unfollowed := true, recurses := true, named := ["stokvel/lex.signs"], apart := false, laid := [("stokvel/lex.signs", laid_stokvel_lex_signs)] }
def RulesVotedSaid : Prop := rulesVotedRow.holds Tryz.pinned (OpenSpec.ofChange rulesVotedSpec)

/-- ITS FALSE NEIGHBOUR: 'it returns false'. Refute it at one input. -/
def rulesVotedWrong : ChangeSpec := { name := "rulesVoted", fn := fun _ => fun
  | [d1, d2, d3, d4] => { results := [.lit (.bool false)], args := [d1, d2, d3, d4] }
  | _ => none }
def RulesVotedWrongFalsely : Prop := rulesVotedRow.holds Tryz.pinned (OpenSpec.ofChange rulesVotedWrong)

/-- 'stokvellaw34.RulesChecked': WHATEVER THE INPUT: true; the input reads as it did. -/
def rulesCheckedSpec : ChangeSpec := { name := "rulesChecked", fn := fun _ => fun
  | [d1, d2, d3] => { results := [.lit (.bool true)], args := [d1, d2, d3] }
  | _ => none }
def rulesCheckedRow : OpenClaim := { program := "ytepiegcjnaohjaagreatdoor", sum := "cae8be09be8778c1cba61bc3261ad6a8f9cc221c30f1cff7863ee65f27a8b397", func := "stokvel/stokvellaw34.RulesChecked", spec := "rulesChecked", inPlace := ["internal/abi.NoEscape", "internal/bytealg.MakeNoZero"], unfollowed := true, recurses := true, named := ["stokvel/lex.signs", "internal/strconv.uint64pow10", "math/bits.deBruijn32tab", "math/bits.deBruijn64tab", "math/bits.divideError", "math/bits.overflowError"], apart := false, laid := [("math/bits.deBruijn32tab", laid_math_bits_deBruijn32tab), ("math/bits.deBruijn64tab", laid_math_bits_deBruijn64tab), ("internal/strconv.uint64pow10", laid_internal_strconv_uint64pow10), ("stokvel/lex.signs", laid_stokvel_lex_signs)] }
def RulesCheckedSaid : Prop := rulesCheckedRow.holds Tryz.pinned (OpenSpec.ofChange rulesCheckedSpec)

/-- ITS FALSE NEIGHBOUR: 'it returns false'. Refute it at one input. -/
def rulesCheckedWrong : ChangeSpec := { name := "rulesChecked", fn := fun _ => fun
  | [d1, d2, d3] => { results := [.lit (.bool false)], args := [d1, d2, d3] }
  | _ => none }
def RulesCheckedWrongFalsely : Prop := rulesCheckedRow.holds Tryz.pinned (OpenSpec.ofChange rulesCheckedWrong)

/-- 'stokvellaw36.ClaimsStory': WHATEVER THE INPUT: true; the input reads as it did. -/
def claimsStorySpec : ChangeSpec := { name := "claimsStory", fn := fun _ => fun
  | [d1, d2, d3, d4, d5, d6] => { results := [.lit (.bool true)], args := [d1, d2, d3, d4, d5, d6] }
  | _ => none }
def claimsStoryRow : OpenClaim := { program := "ytepiegcjnaohjaagreatdoor", sum := "cae8be09be8778c1cba61bc3261ad6a8f9cc221c30f1cff7863ee65f27a8b397", func := "stokvel/stokvellaw36.ClaimsStory", spec := "claimsStory", inPlace := ["internal/bytealg.IndexByteString", "internal/bytealg.IndexString"], unfollowed := true, recurses := true, named := ["stokvel/lex.signs", "stokvel/entry.uses", "internal/bytealg.MaxLen"], loops := true, apart := false, laid := [("stokvel/lex.signs", laid_stokvel_lex_signs), ("stokvel/entry.uses", laid_stokvel_entry_uses)] }
def ClaimsStorySaid : Prop := claimsStoryRow.holds Tryz.pinned (OpenSpec.ofChange claimsStorySpec)

/-- ITS FALSE NEIGHBOUR: 'it returns false'. Refute it at one input. -/
def claimsStoryWrong : ChangeSpec := { name := "claimsStory", fn := fun _ => fun
  | [d1, d2, d3, d4, d5, d6] => { results := [.lit (.bool false)], args := [d1, d2, d3, d4, d5, d6] }
  | _ => none }
def ClaimsStoryWrongFalsely : Prop := claimsStoryRow.holds Tryz.pinned (OpenSpec.ofChange claimsStoryWrong)

/-- 'stokvellaw36.ClaimsVoices': WHATEVER THE INPUT: true; the input reads as it did. -/
def claimsVoicesSpec : ChangeSpec := { name := "claimsVoices", fn := fun _ => fun
  | [d1, d2, d3, d4, d5] => { results := [.lit (.bool true)], args := [d1, d2, d3, d4, d5] }
  | _ => none }
def claimsVoicesRow : OpenClaim := { program := "ytepiegcjnaohjaagreatdoor", sum := "cae8be09be8778c1cba61bc3261ad6a8f9cc221c30f1cff7863ee65f27a8b397", func := "stokvel/stokvellaw36.ClaimsVoices", spec := "claimsVoices", inPlace := ["internal/bytealg.IndexByteString", "internal/bytealg.IndexString"], unfollowed := true, recurses := true, named := ["stokvel/lex.signs", "stokvel/entry.uses", "internal/bytealg.MaxLen"], loops := true, apart := false, laid := [("stokvel/lex.signs", laid_stokvel_lex_signs), ("stokvel/entry.uses", laid_stokvel_entry_uses)] }
def ClaimsVoicesSaid : Prop := claimsVoicesRow.holds Tryz.pinned (OpenSpec.ofChange claimsVoicesSpec)

/-- ITS FALSE NEIGHBOUR: 'it returns false'. Refute it at one input. -/
def claimsVoicesWrong : ChangeSpec := { name := "claimsVoices", fn := fun _ => fun
  | [d1, d2, d3, d4, d5] => { results := [.lit (.bool false)], args := [d1, d2, d3, d4, d5] }
  | _ => none }
def ClaimsVoicesWrongFalsely : Prop := claimsVoicesRow.holds Tryz.pinned (OpenSpec.ofChange claimsVoicesWrong)

/-- 'stokvellaw36.ClaimsCover': WHATEVER THE INPUT: true; the input reads as it did. -/
def claimsCoverSpec : ChangeSpec := { name := "claimsCover", fn := fun _ => fun
  | [d1, d2, d3, d4, d5, d6] => { results := [.lit (.bool true)], args := [d1, d2, d3, d4, d5, d6] }
  | _ => none }
def claimsCoverRow : OpenClaim := { program := "ytepiegcjnaohjaagreatdoor", sum := "cae8be09be8778c1cba61bc3261ad6a8f9cc221c30f1cff7863ee65f27a8b397", func := "stokvel/stokvellaw36.ClaimsCover", spec := "claimsCover", inPlace := ["internal/bytealg.IndexByteString", "internal/bytealg.IndexString"], unfollowed := true, recurses := true, named := ["stokvel/lex.signs", "stokvel/entry.uses", "internal/bytealg.MaxLen"], loops := true, apart := false, laid := [("stokvel/lex.signs", laid_stokvel_lex_signs), ("stokvel/entry.uses", laid_stokvel_entry_uses)] }
def ClaimsCoverSaid : Prop := claimsCoverRow.holds Tryz.pinned (OpenSpec.ofChange claimsCoverSpec)

/-- ITS FALSE NEIGHBOUR: 'it returns false'. Refute it at one input. -/
def claimsCoverWrong : ChangeSpec := { name := "claimsCover", fn := fun _ => fun
  | [d1, d2, d3, d4, d5, d6] => { results := [.lit (.bool false)], args := [d1, d2, d3, d4, d5, d6] }
  | _ => none }
def ClaimsCoverWrongFalsely : Prop := claimsCoverRow.holds Tryz.pinned (OpenSpec.ofChange claimsCoverWrong)

/- THE SECOND FORM. 'bulk': how many values and letters a reading holds, each counted each time it is reached (what is shared counts as often as it is met; a slice's spare places count too). A statement '..UptoSaid' is the law's where the arguments, and the package variables that the reading takes, are together of bulk at most 1048576: NARROWER than '..Said'. Prove '..Said' where nothing that the law and all that it calls make is longer than what came in: it says more and counts as full. Else prove '..UptoSaid'. A law counts once. -/
mutual
def uptoBulk {H : Type} : DataW H → Nat
  | .lit (.string bytes) => bytes.length + 1
  | .lit _ => 1
  | .nil => 1
  | .ptr d => uptoBulk d + 1
  | .slice elems spare => uptoBulkAll elems + uptoBulkAll spare + 1
  | .agg parts => uptoBulkAll parts + 1
  | .iface _ d => uptoBulk d + 1
  | .map entries => uptoBulkEntries entries + 1
  | .held _ => 1
def uptoBulkAll {H : Type} : List (DataW H) → Nat
  | [] => 0
  | d :: r => uptoBulk d + uptoBulkAll r
def uptoBulkEntries {H : Type} : List (Lit × DataW H) → Nat
  | [] => 0
  | x :: r => uptoBulkEntry x + uptoBulkEntries r
def uptoBulkEntry {H : Type} : Lit × DataW H → Nat
  | (.string bytes, d) => bytes.length + uptoBulk d + 1
  | (_, d) => uptoBulk d + 1
 end
def uptoSmall : (H : Type) → List (DataW H) → Bool := fun _ ds => decide (uptoBulkAll ds ≤ 1048576)
def OpenSpec.upto (s : _root_.Go.ChangeSpec) : _root_.Go.OpenSpec := { _root_.Go.OpenSpec.ofChange s with cond := some uptoSmall }

/-- 'stokvellaw34.RulesTells', WHERE WHAT IT READS IS OF BULK AT MOST 1048576: true; the input reads as it did. -/
def rulesTellsUptoRow : OpenClaim := { program := "ytepiegcjnaohjaagreatdoor", sum := "cae8be09be8778c1cba61bc3261ad6a8f9cc221c30f1cff7863ee65f27a8b397", func := "stokvel/stokvellaw34.RulesTells", spec := "rulesTells", unfollowed := true, recurses := true, named := ["stokvel/lex.signs"], apart := false, laid := [("stokvel/lex.signs", laid_stokvel_lex_signs)], narrowed := true }
def RulesTellsUptoSaid : Prop := rulesTellsUptoRow.holds Tryz.pinned (OpenSpec.upto rulesTellsSpec)

/-- 'stokvellaw34.RulesForce', WHERE WHAT IT READS IS OF BULK AT MOST 1048576: true; the input reads as it did. -/
def rulesForceUptoRow : OpenClaim := { program := "ytepiegcjnaohjaagreatdoor", sum := "cae8be09be8778c1cba61bc3261ad6a8f9cc221c30f1cff7863ee65f27a8b397", func := "stokvel/stokvellaw34.RulesForce", spec := "rulesForce", unfollowed := true, recurses := true, named := ["stokvel/lex.signs"], apart := false, laid := [("stokvel/lex.signs", laid_stokvel_lex_signs)], narrowed := true }
def RulesForceUptoSaid : Prop := rulesForceUptoRow.holds Tryz.pinned (OpenSpec.upto rulesForceSpec)

/-- 'stokvellaw34.RulesSides', WHERE WHAT IT READS IS OF BULK AT MOST 1048576: true; the input reads as it did. -/
def rulesSidesUptoRow : OpenClaim := { program := "ytepiegcjnaohjaagreatdoor", sum := "cae8be09be8778c1cba61bc3261ad6a8f9cc221c30f1cff7863ee65f27a8b397", func := "stokvel/stokvellaw34.RulesSides", spec := "rulesSides", unfollowed := true, recurses := true, named := ["stokvel/lex.signs"], apart := false, laid := [("stokvel/lex.signs", laid_stokvel_lex_signs)], narrowed := true }
def RulesSidesUptoSaid : Prop := rulesSidesUptoRow.holds Tryz.pinned (OpenSpec.upto rulesSidesSpec)

/-- 'stokvellaw34.RulesVoted', WHERE WHAT IT READS IS OF BULK AT MOST 1048576: true; the input reads as it did. -/
def rulesVotedUptoRow : OpenClaim := { program := "ytepiegcjnaohjaagreatdoor", sum := "cae8be09be8778c1cba61bc3261ad6a8f9cc221c30f1cff7863ee65f27a8b397", func := "stokvel/stokvellaw34.RulesVoted", spec := "rulesVoted", unfollowed := true, recurses := true, named := ["stokvel/lex.signs"], apart := false, laid := [("stokvel/lex.signs", laid_stokvel_lex_signs)], narrowed := true }
def RulesVotedUptoSaid : Prop := rulesVotedUptoRow.holds Tryz.pinned (OpenSpec.upto rulesVotedSpec)

/-- 'stokvellaw34.RulesChecked', WHERE WHAT IT READS IS OF BULK AT MOST 1048576: true; the input reads as it did. -/
def rulesCheckedUptoRow : OpenClaim := { program := "ytepiegcjnaohjaagreatdoor", sum := "cae8be09be8778c1cba61bc3261ad6a8f9cc221c30f1cff7863ee65f27a8b397", func := "stokvel/stokvellaw34.RulesChecked", spec := "rulesChecked", inPlace := ["internal/abi.NoEscape", "internal/bytealg.MakeNoZero"], unfollowed := true, recurses := true, named := ["stokvel/lex.signs", "internal/strconv.uint64pow10", "math/bits.deBruijn32tab", "math/bits.deBruijn64tab", "math/bits.divideError", "math/bits.overflowError"], apart := false, laid := [("math/bits.deBruijn32tab", laid_math_bits_deBruijn32tab), ("math/bits.deBruijn64tab", laid_math_bits_deBruijn64tab), ("internal/strconv.uint64pow10", laid_internal_strconv_uint64pow10), ("stokvel/lex.signs", laid_stokvel_lex_signs)], narrowed := true }
def RulesCheckedUptoSaid : Prop := rulesCheckedUptoRow.holds Tryz.pinned (OpenSpec.upto rulesCheckedSpec)

/-- 'stokvellaw36.ClaimsStory', WHERE WHAT IT READS IS OF BULK AT MOST 1048576: true; the input reads as it did. -/
def claimsStoryUptoRow : OpenClaim := { program := "ytepiegcjnaohjaagreatdoor", sum := "cae8be09be8778c1cba61bc3261ad6a8f9cc221c30f1cff7863ee65f27a8b397", func := "stokvel/stokvellaw36.ClaimsStory", spec := "claimsStory", inPlace := ["internal/bytealg.IndexByteString", "internal/bytealg.IndexString"], unfollowed := true, recurses := true, named := ["stokvel/lex.signs", "stokvel/entry.uses", "internal/bytealg.MaxLen"], loops := true, apart := false, laid := [("stokvel/lex.signs", laid_stokvel_lex_signs), ("stokvel/entry.uses", laid_stokvel_entry_uses)], narrowed := true }
def ClaimsStoryUptoSaid : Prop := claimsStoryUptoRow.holds Tryz.pinned (OpenSpec.upto claimsStorySpec)

/-- 'stokvellaw36.ClaimsVoices', WHERE WHAT IT READS IS OF BULK AT MOST 1048576: true; the input reads as it did. -/
def claimsVoicesUptoRow : OpenClaim := { program := "ytepiegcjnaohjaagreatdoor", sum := "cae8be09be8778c1cba61bc3261ad6a8f9cc221c30f1cff7863ee65f27a8b397", func := "stokvel/stokvellaw36.ClaimsVoices", spec := "claimsVoices", inPlace := ["internal/bytealg.IndexByteString", "internal/bytealg.IndexString"], unfollowed := true, recurses := true, named := ["stokvel/lex.signs", "stokvel/entry.uses", "internal/bytealg.MaxLen"], loops := true, apart := false, laid := [("stokvel/lex.signs", laid_stokvel_lex_signs), ("stokvel/entry.uses", laid_stokvel_entry_uses)], narrowed := true }
def ClaimsVoicesUptoSaid : Prop := claimsVoicesUptoRow.holds Tryz.pinned (OpenSpec.upto claimsVoicesSpec)

/-- 'stokvellaw36.ClaimsCover', WHERE WHAT IT READS IS OF BULK AT MOST 1048576: true; the input reads as it did. -/
def claimsCoverUptoRow : OpenClaim := { program := "ytepiegcjnaohjaagreatdoor", sum := "cae8be09be8778c1cba61bc3261ad6a8f9cc221c30f1cff7863ee65f27a8b397", func := "stokvel/stokvellaw36.ClaimsCover", spec := "claimsCover", inPlace := ["internal/bytealg.IndexByteString", "internal/bytealg.IndexString"], unfollowed := true, recurses := true, named := ["stokvel/lex.signs", "stokvel/entry.uses", "internal/bytealg.MaxLen"], loops := true, apart := false, laid := [("stokvel/lex.signs", laid_stokvel_lex_signs), ("stokvel/entry.uses", laid_stokvel_entry_uses)], narrowed := true }
def ClaimsCoverUptoSaid : Prop := claimsCoverUptoRow.holds Tryz.pinned (OpenSpec.upto claimsCoverSpec)

end Rows
end Go.Proofs.YtepiegcjnaohjaaGreatDoor
