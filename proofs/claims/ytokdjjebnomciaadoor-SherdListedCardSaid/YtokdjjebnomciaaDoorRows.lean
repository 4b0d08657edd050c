/-
  NARROWER THAN 'FOR EVERY INPUT', by the rows' own cells (each row's printed sentence says how): SherdJoins: laid · SherdPlans: laid · SherdRests: laid · SherdTurns: laid · SherdLeft: laid · SherdTurned: laid · SherdAlike: laid · SherdMore: laid · SherdKnown: laid · SherdListed: laid · SherdOpposite: laid · SherdRest: laid · SherdChecked: laid.
  DERIVED. THE GIVEN ROWS OF THIS SEAT. 13 by the template 'for every input the law returns true; each argument reads behind the call as it read before'; 0 by the template 'total and deterministic' (their statements: YtokdjjebnomciaaDoorTotals.lean).
  GIVEN WITH THE SEED: the statements are not yours to turn. If you find one false, say at which input.
  Laid BY PROGRAM, IN A SANDBOX (cutbox-rows.mjs): the forced cells as the released guide's own fill.sh prints them over the translation 18d652253dc2cb5b… (all of the seat's roots in one cut). By AI agents, Wed Nov 11 2026. No macro, syntax, notation, axiom, sorry.
-/
import Derived.Test.YtokdjjebnomciaaDoorChecked
import GoSem.PinnedTables
import GoSem.Claim
import GoSem.ClaimJoined
import GoSem.ClaimMapViews
import Derived.JoinedTies
import Derived.KernelRfl
namespace Go.Proofs.YtokdjjebnomciaaDoor
/- THE CELL 'sum', in the pinned program and in every row, IS THE sha256 OF THE DUMP (.gsa) THAT YtokdjjebnomciaaDoorProg.lean LOADS. Nothing in Lean hashes anything: it is a label: what it is worth is what the hold of that sum in a sandbox is worth. -/
noncomputable def Tryd.pinned : Pinned := { name := "ytokdjjebnomciaadoor", sum := "18d652253dc2cb5b819990f45c7a440cc056bc7a0541865c8ebcfb5c533853b1", checked := Tryd.checked }
namespace Rows
def none {H : Type} : Left H := { results := [], args := [] }

/- WHAT THE LISTED PACKAGE-LEVEL VARIABLES READ AS WHEN THE CALL BEGINS. Each datum BY PROGRAM (the guide's laid-datum.mjs) off the statement by which the dump's own 'gosem.cut.vars' lays the variable. In a bare row this is a premise. The card (YtokdjjebnomciaaDoorCards.lean) ties it to the program's text. -/
def laid_unicode_utf8_acceptRanges {H : Type} : DataW H := .agg [.agg [.lit (.int .u8 128), .lit (.int .u8 191)], .agg [.lit (.int .u8 160), .lit (.int .u8 191)], .agg [.lit (.int .u8 128), .lit (.int .u8 159)], .agg [.lit (.int .u8 144), .lit (.int .u8 191)], .agg [.lit (.int .u8 128), .lit (.int .u8 143)], .agg [.lit (.int .u8 0), .lit (.int .u8 0)], .agg [.lit (.int .u8 0), .lit (.int .u8 0)], .agg [.lit (.int .u8 0), .lit (.int .u8 0)], .agg [.lit (.int .u8 0), .lit (.int .u8 0)], .agg [.lit (.int .u8 0), .lit (.int .u8 0)], .agg [.lit (.int .u8 0), .lit (.int .u8 0)], .agg [.lit (.int .u8 0), .lit (.int .u8 0)], .agg [.lit (.int .u8 0), .lit (.int .u8 0)], .agg [.lit (.int .u8 0), .lit (.int .u8 0)], .agg [.lit (.int .u8 0), .lit (.int .u8 0)], .agg [.lit (.int .u8 0), .lit (.int .u8 0)]]
def laid_unicode_properties {H : Type} : DataW H := .agg [.lit (.int .u8 1), .lit (.int .u8 1), .lit (.int .u8 1), .lit (.int .u8 1), .lit (.int .u8 1), .lit (.int .u8 1), .lit (.int .u8 1), .lit (.int .u8 1), .lit (.int .u8 1), .lit (.int .u8 1), .lit (.int .u8 1), .lit (.int .u8 1), .lit (.int .u8 1), .lit (.int .u8 1), .lit (.int .u8 1), .lit (.int .u8 1), .lit (.int .u8 1), .lit (.int .u8 1), .lit (.int .u8 1), .lit (.int .u8 1), .lit (.int .u8 1), .lit (.int .u8 1), .lit (.int .u8 1), .lit (.int .u8 1), .lit (.int .u8 1), .lit (.int .u8 1), .lit (.int .u8 1), .lit (.int .u8 1), .lit (.int .u8 1), .lit (.int .u8 1), .lit (.int .u8 1), .lit (.int .u8 1), .lit (.int .u8 144), .lit (.int .u8 130), .lit (.int .u8 130), .lit (.int .u8 130), .lit (.int .u8 136), .lit (.int .u8 130), .lit (.int .u8 130), .lit (.int .u8 130), .lit (.int .u8 130), .lit (.int .u8 130), .lit (.int .u8 130), .lit (.int .u8 136), .lit (.int .u8 130), .lit (.int .u8 130), .lit (.int .u8 130), .lit (.int .u8 130), .lit (.int .u8 132), .lit (.int .u8 132), .lit (.int .u8 132), .lit (.int .u8 132), .lit (.int .u8 132), .lit (.int .u8 132), .lit (.int .u8 132), .lit (.int .u8 132), .lit (.int .u8 132), .lit (.int .u8 132), .lit (.int .u8 130), .lit (.int .u8 130), .lit (.int .u8 136), .lit (.int .u8 136), .lit (.int .u8 136), .lit (.int .u8 130), .lit (.int .u8 130), .lit (.int .u8 160), .lit (.int .u8 160), .lit (.int .u8 160), .lit (.int .u8 160), .lit (.int .u8 160), .lit (.int .u8 160), .lit (.int .u8 160), .lit (.int .u8 160), .lit (.int .u8 160), .lit (.int .u8 160), .lit (.int .u8 160), .lit (.int .u8 160), .lit (.int .u8 160), .lit (.int .u8 160), .lit (.int .u8 160), .lit (.int .u8 160), .lit (.int .u8 160), .lit (.int .u8 160), .lit (.int .u8 160), .lit (.int .u8 160), .lit (.int .u8 160), .lit (.int .u8 160), .lit (.int .u8 160), .lit (.int .u8 160), .lit (.int .u8 160), .lit (.int .u8 160), .lit (.int .u8 130), .lit (.int .u8 130), .lit (.int .u8 130), .lit (.int .u8 136), .lit (.int .u8 130), .lit (.int .u8 136), .lit (.int .u8 192), .lit (.int .u8 192), .lit (.int .u8 192), .lit (.int .u8 192), .lit (.int .u8 192), .lit (.int .u8 192), .lit (.int .u8 192), .lit (.int .u8 192), .lit (.int .u8 192), .lit (.int .u8 192), .lit (.int .u8 192), .lit (.int .u8 192), .lit (.int .u8 192), .lit (.int .u8 192), .lit (.int .u8 192), .lit (.int .u8 192), .lit (.int .u8 192), .lit (.int .u8 192), .lit (.int .u8 192), .lit (.int .u8 192), .lit (.int .u8 192), .lit (.int .u8 192), .lit (.int .u8 192), .lit (.int .u8 192), .lit (.int .u8 192), .lit (.int .u8 192), .lit (.int .u8 130), .lit (.int .u8 136), .lit (.int .u8 130), .lit (.int .u8 136), .lit (.int .u8 1), .lit (.int .u8 1), .lit (.int .u8 1), .lit (.int .u8 1), .lit (.int .u8 1), .lit (.int .u8 1), .lit (.int .u8 1), .lit (.int .u8 1), .lit (.int .u8 1), .lit (.int .u8 1), .lit (.int .u8 1), .lit (.int .u8 1), .lit (.int .u8 1), .lit (.int .u8 1), .lit (.int .u8 1), .lit (.int .u8 1), .lit (.int .u8 1), .lit (.int .u8 1), .lit (.int .u8 1), .lit (.int .u8 1), .lit (.int .u8 1), .lit (.int .u8 1), .lit (.int .u8 1), .lit (.int .u8 1), .lit (.int .u8 1), .lit (.int .u8 1), .lit (.int .u8 1), .lit (.int .u8 1), .lit (.int .u8 1), .lit (.int .u8 1), .lit (.int .u8 1), .lit (.int .u8 1), .lit (.int .u8 1), .lit (.int .u8 16), .lit (.int .u8 130), .lit (.int .u8 136), .lit (.int .u8 136), .lit (.int .u8 136), .lit (.int .u8 136), .lit (.int .u8 136), .lit (.int .u8 130), .lit (.int .u8 136), .lit (.int .u8 136), .lit (.int .u8 224), .lit (.int .u8 130), .lit (.int .u8 136), .lit (.int .u8 0), .lit (.int .u8 136), .lit (.int .u8 136), .lit (.int .u8 136), .lit (.int .u8 136), .lit (.int .u8 132), .lit (.int .u8 132), .lit (.int .u8 136), .lit (.int .u8 192), .lit (.int .u8 130), .lit (.int .u8 130), .lit (.int .u8 136), .lit (.int .u8 132), .lit (.int .u8 224), .lit (.int .u8 130), .lit (.int .u8 132), .lit (.int .u8 132), .lit (.int .u8 132), .lit (.int .u8 130), .lit (.int .u8 160), .lit (.int .u8 160), .lit (.int .u8 160), .lit (.int .u8 160), .lit (.int .u8 160), .lit (.int .u8 160), .lit (.int .u8 160), .lit (.int .u8 160), .lit (.int .u8 160), .lit (.int .u8 160), .lit (.int .u8 160), .lit (.int .u8 160), .lit (.int .u8 160), .lit (.int .u8 160), .lit (.int .u8 160), .lit (.int .u8 160), .lit (.int .u8 160), .lit (.int .u8 160), .lit (.int .u8 160), .lit (.int .u8 160), .lit (.int .u8 160), .lit (.int .u8 160), .lit (.int .u8 160), .lit (.int .u8 136), .lit (.int .u8 160), .lit (.int .u8 160), .lit (.int .u8 160), .lit (.int .u8 160), .lit (.int .u8 160), .lit (.int .u8 160), .lit (.int .u8 160), .lit (.int .u8 192), .lit (.int .u8 192), .lit (.int .u8 192), .lit (.int .u8 192), .lit (.int .u8 192), .lit (.int .u8 192), .lit (.int .u8 192), .lit (.int .u8 192), .lit (.int .u8 192), .lit (.int .u8 192), .lit (.int .u8 192), .lit (.int .u8 192), .lit (.int .u8 192), .lit (.int .u8 192), .lit (.int .u8 192), .lit (.int .u8 192), .lit (.int .u8 192), .lit (.int .u8 192), .lit (.int .u8 192), .lit (.int .u8 192), .lit (.int .u8 192), .lit (.int .u8 192), .lit (.int .u8 192), .lit (.int .u8 192), .lit (.int .u8 136), .lit (.int .u8 192), .lit (.int .u8 192), .lit (.int .u8 192), .lit (.int .u8 192), .lit (.int .u8 192), .lit (.int .u8 192), .lit (.int .u8 192), .lit (.int .u8 192)]
/-- One of Go's own tables, pinned by name: the form's constant. -/
def laid_unicode_CaseRanges : DataW Unit := Go.Pinned.caseRanges
/-- One of Go's own tables, pinned by name: the form's constant. -/
def laid_unicode_Upper : DataW Unit := Go.Pinned.upper
/-- One of Go's own tables, pinned by name: the form's constant. -/
def laid_unicode_utf8_first : DataW Unit := Go.Pinned.utf8First

/-- 'bellarminelaw05.SherdJoins': WHATEVER THE INPUT: true; the input reads as it did. -/
def sherdJoinsSpec : ChangeSpec := { name := "sherdJoins", fn := fun _ => fun
  | [d1, d2] => { results := [.lit (.bool true)], args := [d1, d2] }
  | _ => none }
def sherdJoinsRow : OpenClaim := { program := "ytokdjjebnomciaadoor", sum := "18d652253dc2cb5b819990f45c7a440cc056bc7a0541865c8ebcfb5c533853b1", func := "bellarmine/bellarminelaw05.SherdJoins", spec := "sherdJoins", inPlace := ["internal/bytealg.IndexByteString", "internal/bytealg.IndexString", "internal/abi.NoEscape", "internal/bytealg.MakeNoZero"], unfollowed := true, recurses := true, named := ["unicode.properties", "unicode.Upper", "unicode.CaseRanges", "unicode/utf8.first", "unicode/utf8.acceptRanges", "internal/bytealg.MaxLen"], plainKeys := false, apart := false, laid := [("unicode/utf8.acceptRanges", laid_unicode_utf8_acceptRanges), ("unicode.properties", laid_unicode_properties), ("unicode.CaseRanges", laid_unicode_CaseRanges), ("unicode.Upper", laid_unicode_Upper), ("unicode/utf8.first", laid_unicode_utf8_first)] }
def SherdJoinsSaid : Prop := sherdJoinsRow.holds Tryd.pinned (OpenSpec.ofChange sherdJoinsSpec)

/-- ITS FALSE NEIGHBOUR: 'it returns false'. Refute it at one input. -/
def sherdJoinsWrong : ChangeSpec := { name := "sherdJoins", fn := fun _ => fun
  | [d1, d2] => { results := [.lit (.bool false)], args := [d1, d2] }
  | _ => none }
def SherdJoinsWrongFalsely : Prop := sherdJoinsRow.holds Tryd.pinned (OpenSpec.ofChange sherdJoinsWrong)

/-- 'bellarminelaw05.SherdPlans': WHATEVER THE INPUT: true; the input reads as it did. -/
def sherdPlansSpec : ChangeSpec := { name := "sherdPlans", fn := fun _ => fun
  | [d] => { results := [.lit (.bool true)], args := [d] }
  | _ => none }
def sherdPlansRow : OpenClaim := { program := "ytokdjjebnomciaadoor", sum := "18d652253dc2cb5b819990f45c7a440cc056bc7a0541865c8ebcfb5c533853b1", func := "bellarmine/bellarminelaw05.SherdPlans", spec := "sherdPlans", inPlace := ["internal/bytealg.IndexByteString", "internal/bytealg.IndexString", "internal/abi.NoEscape", "internal/bytealg.MakeNoZero"], unfollowed := true, recurses := true, named := ["unicode.properties", "unicode.Upper", "unicode.CaseRanges", "unicode/utf8.first", "unicode/utf8.acceptRanges", "internal/bytealg.MaxLen"], plainKeys := false, apart := false, laid := [("unicode/utf8.acceptRanges", laid_unicode_utf8_acceptRanges), ("unicode.properties", laid_unicode_properties), ("unicode.CaseRanges", laid_unicode_CaseRanges), ("unicode.Upper", laid_unicode_Upper), ("unicode/utf8.first", laid_unicode_utf8_first)] }
def SherdPlansSaid : Prop := sherdPlansRow.holds Tryd.pinned (OpenSpec.ofChange sherdPlansSpec)

/-- ITS FALSE NEIGHBOUR: 'it returns false'. Refute it at one input. -/
def sherdPlansWrong : ChangeSpec := { name := "sherdPlans", fn := fun _ => fun
  | [d] => { results := [.lit (.bool false)], args := [d] }
  | _ => none }
def SherdPlansWrongFalsely : Prop := sherdPlansRow.holds Tryd.pinned (OpenSpec.ofChange sherdPlansWrong)

/-- 'bellarminelaw05.SherdRests': WHATEVER THE INPUT: true; the input reads as it did. -/
def sherdRestsSpec : ChangeSpec := { name := "sherdRests", fn := fun _ => fun
  | [d] => { results := [.lit (.bool true)], args := [d] }
  | _ => none }
def sherdRestsRow : OpenClaim := { program := "ytokdjjebnomciaadoor", sum := "18d652253dc2cb5b819990f45c7a440cc056bc7a0541865c8ebcfb5c533853b1", func := "bellarmine/bellarminelaw05.SherdRests", spec := "sherdRests", inPlace := ["internal/bytealg.IndexByteString", "internal/bytealg.IndexString", "internal/abi.NoEscape", "internal/bytealg.MakeNoZero"], unfollowed := true, recurses := true, named := ["unicode.properties", "unicode.Upper", "unicode.CaseRanges", "unicode/utf8.first", "unicode/utf8.acceptRanges", "internal/bytealg.MaxLen"], plainKeys := false, apart := false, laid := [("unicode/utf8.acceptRanges", laid_unicode_utf8_acceptRanges), ("unicode.properties", laid_unicode_properties), ("unicode.CaseRanges", laid_unicode_CaseRanges), ("unicode.Upper", laid_unicode_Upper), ("unicode/utf8.first", laid_unicode_utf8_first)] }
def SherdRestsSaid : Prop := sherdRestsRow.holds Tryd.pinned (OpenSpec.ofChange sherdRestsSpec)

/-- ITS FALSE NEIGHBOUR: 'it returns false'. Refute it at one input. -/
def sherdRestsWrong : ChangeSpec := { name := "sherdRests", fn := fun _ => fun
  | [d] => { results := [.lit (.bool false)], args := [d] }
  | _ => none }
def SherdRestsWrongFalsely : Prop := sherdRestsRow.holds Tryd.pinned (OpenSpec.ofChange sherdRestsWrong)

/-- 'bellarminelaw05.SherdTurns': WHATEVER THE INPUT: true; the input reads as it did. -/
def sherdTurnsSpec : ChangeSpec := { name := "sherdTurns", fn := fun _ => fun
  | [d1, d2, d3] => { results := [.lit (.bool true)], args := [d1, d2, d3] }
  | _ => none }
def sherdTurnsRow : OpenClaim := { program := "ytokdjjebnomciaadoor", sum := "18d652253dc2cb5b819990f45c7a440cc056bc7a0541865c8ebcfb5c533853b1", func := "bellarmine/bellarminelaw05.SherdTurns", spec := "sherdTurns", inPlace := ["internal/bytealg.IndexByteString", "internal/bytealg.IndexString", "internal/abi.NoEscape", "internal/bytealg.MakeNoZero"], unfollowed := true, recurses := true, named := ["unicode.properties", "unicode.Upper", "unicode.CaseRanges", "unicode/utf8.first", "unicode/utf8.acceptRanges", "internal/bytealg.MaxLen"], plainKeys := false, apart := false, laid := [("unicode/utf8.acceptRanges", laid_unicode_utf8_acceptRanges), ("unicode.properties", laid_unicode_properties), ("unicode.CaseRanges", laid_unicode_CaseRanges), ("unicode.Upper", laid_unicode_Upper), ("unicode/utf8.first", laid_unicode_utf8_first)] }
def SherdTurnsSaid : Prop := sherdTurnsRow.holds Tryd.pinned (OpenSpec.ofChange sherdTurnsSpec)

/-- ITS FALSE NEIGHBOUR: 'it returns false'. Refute it at one input. -/
def sherdTurnsWrong : ChangeSpec := { name := "sherdTurns", fn := fun _ => fun
  | [d1, d2, d3] => { results := [.lit (.bool false)], args := [d1, d2, d3] }
  | _ => none }
def SherdTurnsWrongFalsely : Prop := sherdTurnsRow.holds Tryd.pinned (OpenSpec.ofChange sherdTurnsWrong)

/-- 'bellarminelaw05.SherdLeft': WHATEVER THE INPUT: true; the input reads as it did. -/
def sherdLeftSpec : ChangeSpec := { name := "sherdLeft", fn := fun _ => fun
  | [d1, d2] => { results := [.lit (.bool true)], args := [d1, d2] }
  | _ => none }
def sherdLeftRow : OpenClaim := { program := "ytokdjjebnomciaadoor", sum := "18d652253dc2cb5b819990f45c7a440cc056bc7a0541865c8ebcfb5c533853b1", func := "bellarmine/bellarminelaw05.SherdLeft", spec := "sherdLeft", inPlace := ["internal/bytealg.IndexByteString", "internal/bytealg.IndexString", "internal/abi.NoEscape", "internal/bytealg.MakeNoZero"], unfollowed := true, recurses := true, named := ["unicode.properties", "unicode.Upper", "unicode.CaseRanges", "unicode/utf8.first", "unicode/utf8.acceptRanges", "internal/bytealg.MaxLen"], plainKeys := false, apart := false, laid := [("unicode/utf8.acceptRanges", laid_unicode_utf8_acceptRanges), ("unicode.properties", laid_unicode_properties), ("unicode.CaseRanges", laid_unicode_CaseRanges), ("unicode.Upper", laid_unicode_Upper), ("unicode/utf8.first", laid_unicode_utf8_first)] }
def SherdLeftSaid : Prop := sherdLeftRow.holds Tryd.pinned (OpenSpec.ofChange sherdLeftSpec)

/-- ITS FALSE NEIGHBOUR: 'it returns false'. Refute it at one input. -/
def sherdLeftWrong : ChangeSpec := { name := "sherdLeft", fn := fun _ => fun
  | [d1, d2] => { results := [.lit (.bool false)], args := [d1, d2] }
  | _ => none }
def SherdLeftWrongFalsely : Prop := sherdLeftRow.holds Tryd.pinned (OpenSpec.ofChange sherdLeftWrong)

/-- 'bellarminelaw05.SherdTurned': WHATEVER THE INPUT: true; the input reads as it did. -/
def sherdTurnedSpec : ChangeSpec := { name := "sherdTurned", fn := fun _ => fun
  | [d1, d2] => { results := [.lit (.bool true)], args := [d1, d2] }
  | _ => none }
def sherdTurnedRow : OpenClaim := { program := "ytokdjjebnomciaadoor", sum := "18d652253dc2cb5b819990f45c7a440cc056bc7a0541865c8ebcfb5c533853b1", func := "bellarmine/bellarminelaw05.SherdTurned", spec := "sherdTurned", inPlace := ["internal/bytealg.IndexByteString", "internal/bytealg.IndexString", "internal/abi.NoEscape", "internal/bytealg.MakeNoZero"], unfollowed := true, recurses := true, named := ["unicode.properties", "unicode.Upper", "unicode.CaseRanges", "internal/bytealg.MaxLen", "unicode/utf8.first", "unicode/utf8.acceptRanges"], plainKeys := false, apart := false, laid := [("unicode/utf8.acceptRanges", laid_unicode_utf8_acceptRanges), ("unicode.properties", laid_unicode_properties), ("unicode.CaseRanges", laid_unicode_CaseRanges), ("unicode.Upper", laid_unicode_Upper), ("unicode/utf8.first", laid_unicode_utf8_first)] }
def SherdTurnedSaid : Prop := sherdTurnedRow.holds Tryd.pinned (OpenSpec.ofChange sherdTurnedSpec)

/-- ITS FALSE NEIGHBOUR: 'it returns false'. Refute it at one input. -/
def sherdTurnedWrong : ChangeSpec := { name := "sherdTurned", fn := fun _ => fun
  | [d1, d2] => { results := [.lit (.bool false)], args := [d1, d2] }
  | _ => none }
def SherdTurnedWrongFalsely : Prop := sherdTurnedRow.holds Tryd.pinned (OpenSpec.ofChange sherdTurnedWrong)

/-- 'bellarminelaw05.SherdAlike': WHATEVER THE INPUT: true; the input reads as it did. -/
def sherdAlikeSpec : ChangeSpec := { name := "sherdAlike", fn := fun _ => fun
  | [d1, d2, d3, d4, d5, d6] => { results := [.lit (.bool true)], args := [d1, d2, d3, d4, d5, d6] }
  | _ => none }
def sherdAlikeRow : OpenClaim := { program := "ytokdjjebnomciaadoor", sum := "18d652253dc2cb5b819990f45c7a440cc056bc7a0541865c8ebcfb5c533853b1", func := "bellarmine/bellarminelaw05.SherdAlike", spec := "sherdAlike", inPlace := ["internal/bytealg.IndexByteString", "internal/bytealg.IndexString", "internal/abi.NoEscape", "internal/bytealg.MakeNoZero"], unfollowed := true, recurses := true, named := ["unicode.properties", "unicode.Upper", "unicode.CaseRanges", "internal/bytealg.MaxLen", "unicode/utf8.first", "unicode/utf8.acceptRanges"], plainKeys := false, apart := false, laid := [("unicode/utf8.acceptRanges", laid_unicode_utf8_acceptRanges), ("unicode.properties", laid_unicode_properties), ("unicode.CaseRanges", laid_unicode_CaseRanges), ("unicode.Upper", laid_unicode_Upper), ("unicode/utf8.first", laid_unicode_utf8_first)] }
def SherdAlikeSaid : Prop := sherdAlikeRow.holds Tryd.pinned (OpenSpec.ofChange sherdAlikeSpec)

/-- ITS FALSE NEIGHBOUR: 'it returns false'. Refute it at one input. -/
def sherdAlikeWrong : ChangeSpec := { name := "sherdAlike", fn := fun _ => fun
  | [d1, d2, d3, d4, d5, d6] => { results := [.lit (.bool false)], args := [d1, d2, d3, d4, d5, d6] }
  | _ => none }
def SherdAlikeWrongFalsely : Prop := sherdAlikeRow.holds Tryd.pinned (OpenSpec.ofChange sherdAlikeWrong)

/-- 'bellarminelaw05.SherdMore': WHATEVER THE INPUT: true; the input reads as it did. -/
def sherdMoreSpec : ChangeSpec := { name := "sherdMore", fn := fun _ => fun
  | [d1, d2, d3] => { results := [.lit (.bool true)], args := [d1, d2, d3] }
  | _ => none }
def sherdMoreRow : OpenClaim := { program := "ytokdjjebnomciaadoor", sum := "18d652253dc2cb5b819990f45c7a440cc056bc7a0541865c8ebcfb5c533853b1", func := "bellarmine/bellarminelaw05.SherdMore", spec := "sherdMore", inPlace := ["internal/bytealg.IndexByteString", "internal/bytealg.IndexString", "internal/abi.NoEscape", "internal/bytealg.MakeNoZero"], unfollowed := true, recurses := true, named := ["unicode.properties", "unicode.Upper", "unicode.CaseRanges", "unicode/utf8.first", "unicode/utf8.acceptRanges", "internal/bytealg.MaxLen"], plainKeys := false, apart := false, laid := [("unicode/utf8.acceptRanges", laid_unicode_utf8_acceptRanges), ("unicode.properties", laid_unicode_properties), ("unicode.CaseRanges", laid_unicode_CaseRanges), ("unicode.Upper", laid_unicode_Upper), ("unicode/utf8.first", laid_unicode_utf8_first)] }
def SherdMoreSaid : Prop := sherdMoreRow.holds Tryd.pinned (OpenSpec.ofChange sherdMoreSpec)

/-- ITS FALSE NEIGHBOUR: 'it returns false'. Refute it at one input. -/
def sherdMoreWrong : ChangeSpec := { name := "sherdMore", fn := fun _ => fun
  | [d1, d2, d3] => { results := [.lit (.bool false)], args := [d1, d2, d3] }
  | _ => none }
def SherdMoreWrongFalsely : Prop := sherdMoreRow.holds Tryd.pinned (OpenSpec.ofChange sherdMoreWrong)

/-- 'bellarminelaw05.SherdKnown': WHATEVER THE INPUT: true; the input reads as it did. -/
def sherdKnownSpec : ChangeSpec := { name := "sherdKnown", fn := fun _ => fun
  | [] => { results := [.lit (.bool true)], args := [] }
  | _ => none }
def sherdKnownRow : OpenClaim := { program := "ytokdjjebnomciaadoor", sum := "18d652253dc2cb5b819990f45c7a440cc056bc7a0541865c8ebcfb5c533853b1", func := "bellarmine/bellarminelaw05.SherdKnown", spec := "sherdKnown", inPlace := ["internal/bytealg.IndexByteString", "internal/bytealg.IndexString", "internal/abi.NoEscape", "internal/bytealg.MakeNoZero"], unfollowed := true, recurses := true, named := ["unicode.properties", "unicode.Upper", "unicode.CaseRanges", "internal/bytealg.MaxLen", "unicode/utf8.first", "unicode/utf8.acceptRanges"], plainKeys := false, apart := false, laid := [("unicode/utf8.acceptRanges", laid_unicode_utf8_acceptRanges), ("unicode.properties", laid_unicode_properties), ("unicode.CaseRanges", laid_unicode_CaseRanges), ("unicode.Upper", laid_unicode_Upper), ("unicode/utf8.first", laid_unicode_utf8_first)] }
def SherdKnownSaid : Prop := sherdKnownRow.holds Tryd.pinned (OpenSpec.ofChange sherdKnownSpec)

/-- ITS FALSE NEIGHBOUR: 'it returns false'. Refute it at one input. -/
def sherdKnownWrong : ChangeSpec := { name := "sherdKnown", fn := fun _ => fun
  | [] => { results := [.lit (.bool false)], args := [] }
  | _ => none }
def SherdKnownWrongFalsely : Prop := sherdKnownRow.holds Tryd.pinned (OpenSpec.ofChange sherdKnownWrong)

/-- 'bellarminelaw05.SherdListed': WHATEVER THE INPUT: true; the input reads as it did. -/
def sherdListedSpec : ChangeSpec := { name := "sherdListed", fn := fun _ => fun
  | [d] => { results := [.lit (.bool true)], args := [d] }
  | _ => none }
def sherdListedRow : OpenClaim := { program := "ytokdjjebnomciaadoor", sum := "18d652253dc2cb5b819990f45c7a440cc056bc7a0541865c8ebcfb5c533853b1", func := "bellarmine/bellarminelaw05.SherdListed", spec := "sherdListed", inPlace := ["internal/bytealg.IndexByteString", "internal/bytealg.IndexString", "internal/abi.NoEscape", "internal/bytealg.MakeNoZero"], unfollowed := true, recurses := true, named := ["unicode.properties", "unicode.Upper", "unicode.CaseRanges", "unicode/utf8.first", "unicode/utf8.acceptRanges", "internal/bytealg.MaxLen"], plainKeys := false, apart := false, laid := [("unicode/utf8.acceptRanges", laid_unicode_utf8_acceptRanges), ("unicode.properties", laid_unicode_properties), ("unicode.CaseRanges", laid_unicode_CaseRanges), ("unicode.Upper", laid_unicode_Upper), ("unicode/utf8.first", laid_unicode_utf8_first)] }
def SherdListedSaid : Prop := sherdListedRow.holds Tryd.pinned (OpenSpec.ofChange sherdListedSpec)

/-- ITS FALSE NEIGHBOUR: 'it returns false'. Refute it at one input. -/
def sherdListedWrong : ChangeSpec := { name := "sherdListed", fn := fun _ => fun
  | [d] => { results := [.lit (.bool false)], args := [d] }
  | _ => none }
def SherdListedWrongFalsely : Prop := sherdListedRow.holds Tryd.pinned (OpenSpec.ofChange sherdListedWrong)

/-- 'bellarminelaw05.SherdOpposite': WHATEVER THE INPUT: true; the input reads as it did. -/
def sherdOppositeSpec : ChangeSpec := { name := "sherdOpposite", fn := fun _ => fun
  | [d1, d2] => { results := [.lit (.bool true)], args := [d1, d2] }
  | _ => none }
def sherdOppositeRow : OpenClaim := { program := "ytokdjjebnomciaadoor", sum := "18d652253dc2cb5b819990f45c7a440cc056bc7a0541865c8ebcfb5c533853b1", func := "bellarmine/bellarminelaw05.SherdOpposite", spec := "sherdOpposite", inPlace := ["internal/bytealg.IndexByteString", "internal/bytealg.IndexString", "internal/abi.NoEscape", "internal/bytealg.MakeNoZero"], unfollowed := true, recurses := true, named := ["unicode/utf8.first", "unicode/utf8.acceptRanges", "unicode.properties", "unicode.Upper", "unicode.CaseRanges", "internal/bytealg.MaxLen"], plainKeys := false, apart := false, laid := [("unicode/utf8.acceptRanges", laid_unicode_utf8_acceptRanges), ("unicode.properties", laid_unicode_properties), ("unicode.CaseRanges", laid_unicode_CaseRanges), ("unicode.Upper", laid_unicode_Upper), ("unicode/utf8.first", laid_unicode_utf8_first)] }
def SherdOppositeSaid : Prop := sherdOppositeRow.holds Tryd.pinned (OpenSpec.ofChange sherdOppositeSpec)

/-- ITS FALSE NEIGHBOUR: 'it returns false'. Refute it at one input. -/
def sherdOppositeWrong : ChangeSpec := { name := "sherdOpposite", fn := fun _ => fun
  | [d1, d2] => { results := [.lit (.bool false)], args := [d1, d2] }
  | _ => none }
def SherdOppositeWrongFalsely : Prop := sherdOppositeRow.holds Tryd.pinned (OpenSpec.ofChange sherdOppositeWrong)

/-- 'bellarminelaw05.SherdRest': WHATEVER THE INPUT: true; the input reads as it did. -/
def sherdRestSpec : ChangeSpec := { name := "sherdRest", fn := fun _ => fun
  | [d1, d2, d3] => { results := [.lit (.bool true)], args := [d1, d2, d3] }
  | _ => none }
def sherdRestRow : OpenClaim := { program := "ytokdjjebnomciaadoor", sum := "18d652253dc2cb5b819990f45c7a440cc056bc7a0541865c8ebcfb5c533853b1", func := "bellarmine/bellarminelaw05.SherdRest", spec := "sherdRest", inPlace := ["internal/bytealg.IndexByteString", "internal/bytealg.IndexString", "internal/abi.NoEscape", "internal/bytealg.MakeNoZero"], unfollowed := true, recurses := true, named := ["unicode.properties", "unicode.Upper", "unicode.CaseRanges", "unicode/utf8.first", "unicode/utf8.acceptRanges", "internal/bytealg.MaxLen"], plainKeys := false, apart := false, laid := [("unicode/utf8.acceptRanges", laid_unicode_utf8_acceptRanges), ("unicode.properties", laid_unicode_properties), ("unicode.CaseRanges", laid_unicode_CaseRanges), ("unicode.Upper", laid_unicode_Upper), ("unicode/utf8.first", laid_unicode_utf8_first)] }
def SherdRestSaid : Prop := sherdRestRow.holds Tryd.pinned (OpenSpec.ofChange sherdRestSpec)

/-- ITS FALSE NEIGHBOUR: 'it returns false'. Refute it at one input. -/
def sherdRestWrong : ChangeSpec := { name := "sherdRest", fn := fun _ => fun
  | [d1, d2, d3] => { results := [.lit (.bool false)], args := [d1, d2, d3] }
  | _ => none }
def SherdRestWrongFalsely : Prop := sherdRestRow.holds Tryd.pinned (OpenSpec.ofChange sherdRestWrong)

/-- 'bellarminelaw05.SherdChecked': WHATEVER THE INPUT: true; the input reads as it did. -/
def sherdCheckedSpec : ChangeSpec := { name := "sherdChecked", fn := fun _ => fun
  | [d1, d2, d3] => { results := [.lit (.bool true)], args := [d1, d2, d3] }
  | _ => none }
def sherdCheckedRow : OpenClaim := { program := "ytokdjjebnomciaadoor", sum := "18d652253dc2cb5b819990f45c7a440cc056bc7a0541865c8ebcfb5c533853b1", func := "bellarmine/bellarminelaw05.SherdChecked", spec := "sherdChecked", inPlace := ["internal/bytealg.IndexByteString", "internal/bytealg.IndexString", "internal/abi.NoEscape", "internal/bytealg.MakeNoZero"], unfollowed := true, recurses := true, named := ["unicode.properties", "unicode.Upper", "unicode.CaseRanges", "unicode/utf8.first", "unicode/utf8.acceptRanges", "internal/bytealg.MaxLen"], plainKeys := false, apart := false, laid := [("unicode/utf8.acceptRanges", laid_unicode_utf8_acceptRanges), ("unicode.properties", laid_unicode_properties), ("unicode.CaseRanges", laid_unicode_CaseRanges), ("unicode.Upper", laid_unicode_Upper), ("unicode/utf8.first", laid_unicode_utf8_first)] }
def SherdCheckedSaid : Prop := sherdCheckedRow.holds Tryd.pinned (OpenSpec.ofChange sherdCheckedSpec)

/-- ITS FALSE NEIGHBOUR: 'it returns false'. Refute it at one input. -/
def sherdCheckedWrong : ChangeSpec := { name := "sherdChecked", fn := fun _ => fun
  | [d1, d2, d3] => { results := [.lit (.bool false)], args := [d1, d2, d3] }
  | _ => none }
def SherdCheckedWrongFalsely : Prop := sherdCheckedRow.holds Tryd.pinned (OpenSpec.ofChange sherdCheckedWrong)

/- THE SECOND FORM. 'bulk': how many values and letters a reading holds, each counted each time it is reached (what is shared counts as often as it is met; a slice's spare places count too). A statement '..UptoSaid' is the law's where the arguments, and the package variables that the reading takes, are together of bulk at most 1048576: NARROWER than '..Said'. Prove '..Said' where nothing that the law and all that it calls make is longer than what came in: it says more and counts as full. Else prove '..UptoSaid'. A law counts once. -/
mutual
def uptoBulk {H : Type} : DataW H → Nat
  | .lit (.string bytes) => bytes.length + 1
  | .lit _ => 1
  | .nil => 1
  | .ptr d => uptoBulk d + 1
  | .slice elems spare => uptoBulkAll elems + uptoBulkAll spare + 1
  | .agg parts => uptoBulkAll parts + 1
  | .iface _ d => uptoBulk d + 1
  | .map entries => uptoBulkEntries entries + 1
  | .held _ => 1
def uptoBulkAll {H : Type} : List (DataW H) → Nat
  | [] => 0
  | d :: r => uptoBulk d + uptoBulkAll r
def uptoBulkEntries {H : Type} : List (Lit × DataW H) → Nat
  | [] => 0
  | x :: r => uptoBulkEntry x + uptoBulkEntries r
def uptoBulkEntry {H : Type} : Lit × DataW H → Nat
  | (.string bytes, d) => bytes.length + uptoBulk d + 1
  | (_, d) => uptoBulk d + 1
 end
def uptoSmall : (H : Type) → List (DataW H) → Bool := fun _ ds => decide (uptoBulkAll ds ≤ 1048576)
def OpenSpec.upto (s : _root_.Go.ChangeSpec) : _root_.Go.OpenSpec := { _root_.Go.OpenSpec.ofChange s with cond := some uptoSmall }

/-- 'bellarminelaw05.SherdJoins', WHERE WHAT IT READS IS OF BULK AT MOST 1048576: true; the input reads as it did. -/
def sherdJoinsUptoRow : OpenClaim := { program := "ytokdjjebnomciaadoor", sum := "18d652253dc2cb5b819990f45c7a440cc056bc7a0541865c8ebcfb5c533853b1", func := "bellarmine/bellarminelaw05.SherdJoins", spec := "sherdJoins", inPlace := ["internal/bytealg.IndexByteString", "internal/bytealg.IndexString", "internal/abi.NoEscape", "internal/bytealg.MakeNoZero"], unfollowed := true, recurses := true, named := ["unicode.properties", "unicode.Upper", "unicode.CaseRanges", "unicode/utf8.first", "unicode/utf8.acceptRanges", "internal/bytealg.MaxLen"], plainKeys := false, apart := false, laid := [("unicode/utf8.acceptRanges", laid_unicode_utf8_acceptRanges), ("unicode.properties", laid_unicode_properties), ("unicode.CaseRanges", laid_unicode_CaseRanges), ("unicode.Upper", laid_unicode_Upper), ("unicode/utf8.first", laid_unicode_utf8_first)], narrowed := true }
def SherdJoinsUptoSaid : Prop := sherdJoinsUptoRow.holds Tryd.pinned (OpenSpec.upto sherdJoinsSpec)

/-- 'bellarminelaw05.SherdPlans', WHERE WHAT IT READS IS OF BULK AT MOST 1048576: true; the input reads as it did. -/
def sherdPlansUptoRow : OpenClaim := { program := "ytokdjjebnomciaadoor", sum := "18d652253dc2cb5b819990f45c7a440cc056bc7a0541865c8ebcfb5c533853b1", func := "bellarmine/bellarminelaw05.SherdPlans", spec := "sherdPlans", inPlace := ["internal/bytealg.IndexByteString", "internal/bytealg.IndexString", "internal/abi.NoEscape", "internal/bytealg.MakeNoZero"], unfollowed := true, recurses := true, named := ["unicode.properties", "unicode.Upper", "unicode.CaseRanges", "unicode/utf8.first", "unicode/utf8.acceptRanges", "internal/bytealg.MaxLen"], plainKeys := false, apart := false, laid := [("unicode/utf8.acceptRanges", laid_unicode_utf8_acceptRanges), ("unicode.properties", laid_unicode_properties), ("unicode.CaseRanges", laid_unicode_CaseRanges), ("unicode.Upper", laid_unicode_Upper), ("unicode/utf8.first", laid_unicode_utf8_first)], narrowed := true }
def SherdPlansUptoSaid : Prop := sherdPlansUptoRow.holds Tryd.pinned (OpenSpec.upto sherdPlansSpec)

/-- 'bellarminelaw05.SherdRests', WHERE WHAT IT READS IS OF BULK AT MOST 1048576: true; the input reads as it did. -/
def sherdRestsUptoRow : OpenClaim := { program := "ytokdjjebnomciaadoor", sum := "18d652253dc2cb5b819990f45c7a440cc056bc7a0541865c8ebcfb5c533853b1", func := "bellarmine/bellarminelaw05.SherdRests", spec := "sherdRests", inPlace := ["internal/bytealg.IndexByteString", "internal/bytealg.IndexString", "internal/abi.NoEscape", "internal/bytealg.MakeNoZero"], unfollowed := true, recurses := true, named := ["unicode.properties", "unicode.Upper", "unicode.CaseRanges", "unicode/utf8.first", "unicode/utf8.acceptRanges", "internal/bytealg.MaxLen"], plainKeys := false, apart := false, laid := [("unicode/utf8.acceptRanges", laid_unicode_utf8_acceptRanges), ("unicode.properties", laid_unicode_properties), ("unicode.CaseRanges", laid_unicode_CaseRanges), ("unicode.Upper", laid_unicode_Upper), ("unicode/utf8.first", laid_unicode_utf8_first)], narrowed := true }
def SherdRestsUptoSaid : Prop := sherdRestsUptoRow.holds Tryd.pinned (OpenSpec.upto sherdRestsSpec)

/-- 'bellarminelaw05.SherdTurns', WHERE WHAT IT READS IS OF BULK AT MOST 1048576: true; the input reads as it did. -/
def sherdTurnsUptoRow : OpenClaim := { program := "ytokdjjebnomciaadoor", sum := "18d652253dc2cb5b819990f45c7a440cc056bc7a0541865c8ebcfb5c533853b1", func := "bellarmine/bellarminelaw05.SherdTurns", spec := "sherdTurns", inPlace := ["internal/bytealg.IndexByteString", "internal/bytealg.IndexString", "internal/abi.NoEscape", "internal/bytealg.MakeNoZero"], unfollowed := true, recurses := true, named := ["unicode.properties", "unicode.Upper", "unicode.CaseRanges", "unicode/utf8.first", "unicode/utf8.acceptRanges", "internal/bytealg.MaxLen"], plainKeys := false, apart := false, laid := [("unicode/utf8.acceptRanges", laid_unicode_utf8_acceptRanges), ("unicode.properties", laid_unicode_properties), ("unicode.CaseRanges", laid_unicode_CaseRanges), ("unicode.Upper", laid_unicode_Upper), ("unicode/utf8.first", laid_unicode_utf8_first)], narrowed := true }
def SherdTurnsUptoSaid : Prop := sherdTurnsUptoRow.holds Tryd.pinned (OpenSpec.upto sherdTurnsSpec)

/-- 'bellarminelaw05.SherdLeft', WHERE WHAT IT READS IS OF BULK AT MOST 1048576: true; the input reads as it did. -/
def sherdLeftUptoRow : OpenClaim := { program := "ytokdjjebnomciaadoor", sum := "18d652253dc2cb5b819990f45c7a440cc056bc7a0541865c8ebcfb5c533853b1", func := "bellarmine/bellarminelaw05.SherdLeft", spec := "sherdLeft", inPlace := ["internal/bytealg.IndexByteString", "internal/bytealg.IndexString", "internal/abi.NoEscape", "internal/bytealg.MakeNoZero"], unfollowed := true, recurses := true, named := ["unicode.properties", "unicode.Upper", "unicode.CaseRanges", "unicode/utf8.first", "unicode/utf8.acceptRanges", "internal/bytealg.MaxLen"], plainKeys := false, apart := false, laid := [("unicode/utf8.acceptRanges", laid_unicode_utf8_acceptRanges), ("unicode.properties", laid_unicode_properties), ("unicode.CaseRanges", laid_unicode_CaseRanges), ("unicode.Upper", laid_unicode_Upper), ("unicode/utf8.first", laid_unicode_utf8_first)], narrowed := true }
def SherdLeftUptoSaid : Prop := sherdLeftUptoRow.holds Tryd.pinned (OpenSpec.upto sherdLeftSpec)

/-- 'bellarminelaw05.SherdTurned', WHERE WHAT IT READS IS OF BULK AT MOST 1048576: true; the input reads as it did. -/
def sherdTurnedUptoRow : OpenClaim := { program := "ytokdjjebnomciaadoor", sum := "18d652253dc2cb5b819990f45c7a440cc056bc7a0541865c8ebcfb5c533853b1", func := "bellarmine/bellarminelaw05.SherdTurned", spec := "sherdTurned", inPlace := ["internal/bytealg.IndexByteString", "internal/bytealg.IndexString", "internal/abi.NoEscape", "internal/bytealg.MakeNoZero"], unfollowed := true, recurses := true, named := ["unicode.properties", "unicode.Upper", "unicode.CaseRanges", "internal/bytealg.MaxLen", "unicode/utf8.first", "unicode/utf8.acceptRanges"], plainKeys := false, apart := false, laid := [("unicode/utf8.acceptRanges", laid_unicode_utf8_acceptRanges), ("unicode.properties", laid_unicode_properties), ("unicode.CaseRanges", laid_unicode_CaseRanges), ("unicode.Upper", laid_unicode_Upper), ("unicode/utf8.first", laid_unicode_utf8_first)], narrowed := true }
def SherdTurnedUptoSaid : Prop := sherdTurnedUptoRow.holds Tryd.pinned (OpenSpec.upto sherdTurnedSpec)

/-- 'bellarminelaw05.SherdAlike', WHERE WHAT IT READS IS OF BULK AT MOST 1048576: true; the input reads as it did. -/
def sherdAlikeUptoRow : OpenClaim := { program := "ytokdjjebnomciaadoor", sum := "18d652253dc2cb5b819990f45c7a440cc056bc7a0541865c8ebcfb5c533853b1", func := "bellarmine/bellarminelaw05.SherdAlike", spec := "sherdAlike", inPlace := ["internal/bytealg.IndexByteString", "internal/bytealg.IndexString", "internal/abi.NoEscape", "internal/bytealg.MakeNoZero"], unfollowed := true, recurses := true, named := ["unicode.properties", "unicode.Upper", "unicode.CaseRanges", "internal/bytealg.MaxLen", "unicode/utf8.first", "unicode/utf8.acceptRanges"], plainKeys := false, apart := false, laid := [("unicode/utf8.acceptRanges", laid_unicode_utf8_acceptRanges), ("unicode.properties", laid_unicode_properties), ("unicode.CaseRanges", laid_unicode_CaseRanges), ("unicode.Upper", laid_unicode_Upper), ("unicode/utf8.first", laid_unicode_utf8_first)], narrowed := true }
def SherdAlikeUptoSaid : Prop := sherdAlikeUptoRow.holds Tryd.pinned (OpenSpec.upto sherdAlikeSpec)

/-- 'bellarminelaw05.SherdMore', WHERE WHAT IT READS IS OF BULK AT MOST 1048576: true; the input reads as it did. -/
def sherdMoreUptoRow : OpenClaim := { program := "ytokdjjebnomciaadoor", sum := "18d652253dc2cb5b819990f45c7a440cc056bc7a0541865c8ebcfb5c533853b1", func := "bellarmine/bellarminelaw05.SherdMore", spec := "sherdMore", inPlace := ["internal/bytealg.IndexByteString", "internal/bytealg.IndexString", "internal/abi.NoEscape", "internal/bytealg.MakeNoZero"], unfollowed := true, recurses := true, named := ["unicode.properties", "unicode.Upper", "unicode.CaseRanges", "unicode/utf8.first", "unicode/utf8.acceptRanges", "internal/bytealg.MaxLen"], plainKeys := false, apart := false, laid := [("unicode/utf8.acceptRanges", laid_unicode_utf8_acceptRanges), ("unicode.properties", laid_unicode_properties), ("unicode.CaseRanges", laid_unicode_CaseRanges), ("unicode.Upper", laid_unicode_Upper), ("unicode/utf8.first", laid_unicode_utf8_first)], narrowed := true }
def SherdMoreUptoSaid : Prop := sherdMoreUptoRow.holds Tryd.pinned (OpenSpec.upto sherdMoreSpec)

/-- 'bellarminelaw05.SherdKnown', WHERE WHAT IT READS IS OF BULK AT MOST 1048576: true; the input reads as it did. -/
def sherdKnownUptoRow : OpenClaim := { program := "ytokdjjebnomciaadoor", sum := "18d652253dc2cb5b819990f45c7a440cc056bc7a0541865c8ebcfb5c533853b1", func := "bellarmine/bellarminelaw05.SherdKnown", spec := "sherdKnown", inPlace := ["internal/bytealg.IndexByteString", "internal/bytealg.IndexString", "internal/abi.NoEscape", "internal/bytealg.MakeNoZero"], unfollowed := true, recurses := true, named := ["unicode.properties", "unicode.Upper", "unicode.CaseRanges", "internal/bytealg.MaxLen", "unicode/utf8.first", "unicode/utf8.acceptRanges"], plainKeys := false, apart := false, laid := [("unicode/utf8.acceptRanges", laid_unicode_utf8_acceptRanges), ("unicode.properties", laid_unicode_properties), ("unicode.CaseRanges", laid_unicode_CaseRanges), ("unicode.Upper", laid_unicode_Upper), ("unicode/utf8.first", laid_unicode_utf8_first)], narrowed := true }
def SherdKnownUptoSaid : Prop := sherdKnownUptoRow.holds Tryd.pinned (OpenSpec.upto sherdKnownSpec)

/-- 'bellarminelaw05.SherdListed', WHERE WHAT IT READS IS OF BULK AT MOST 1048576: true; the input reads as it did. -/
def sherdListedUptoRow : OpenClaim := { program := "ytokdjjebnomciaadoor", sum := "18d652253dc2cb5b819990f45c7a440cc056bc7a0541865c8ebcfb5c533853b1", func := "bellarmine/bellarminelaw05.SherdListed", spec := "sherdListed", inPlace := ["internal/bytealg.IndexByteString", "internal/bytealg.IndexString", "internal/abi.NoEscape", "internal/bytealg.MakeNoZero"], unfollowed := true, recurses := true, named := ["unicode.properties", "unicode.Upper", "unicode.CaseRanges", "unicode/utf8.first", "unicode/utf8.acceptRanges", "internal/bytealg.MaxLen"], plainKeys := false, apart := false, laid := [("unicode/utf8.acceptRanges", laid_unicode_utf8_acceptRanges), ("unicode.properties", laid_unicode_properties), ("unicode.CaseRanges", laid_unicode_CaseRanges), ("unicode.Upper", laid_unicode_Upper), ("unicode/utf8.first", laid_unicode_utf8_first)], narrowed := true }
def SherdListedUptoSaid : Prop := sherdListedUptoRow.holds Tryd.pinned (OpenSpec.upto sherdListedSpec)

/-- 'bellarminelaw05.SherdOpposite', WHERE WHAT IT READS IS OF BULK AT MOST 1048576: true; the input reads as it did. -/
def sherdOppositeUptoRow : OpenClaim := { program := "ytokdjjebnomciaadoor", sum := "18d652253dc2cb5b819990f45c7a440cc056bc7a0541865c8ebcfb5c533853b1", func := "bellarmine/bellarminelaw05.SherdOpposite", spec := "sherdOpposite", inPlace := ["internal/bytealg.IndexByteString", "internal/bytealg.IndexString", "internal/abi.NoEscape", "internal/bytealg.MakeNoZero"], unfollowed := true, recurses := true, named := ["unicode/utf8.first", "unicode/utf8.acceptRanges", "unicode.properties", "unicode.Upper", "unicode.CaseRanges", "internal/bytealg.MaxLen"], plainKeys := false, apart := false, laid := [("unicode/utf8.acceptRanges", laid_unicode_utf8_acceptRanges), ("unicode.properties", laid_unicode_properties), ("unicode.CaseRanges", laid_unicode_CaseRanges), ("unicode.Upper", laid_unicode_Upper), ("unicode/utf8.first", laid_unicode_utf8_first)], narrowed := true }
def SherdOppositeUptoSaid : Prop := sherdOppositeUptoRow.holds Tryd.pinned (OpenSpec.upto sherdOppositeSpec)

/-- 'bellarminelaw05.SherdRest', WHERE WHAT IT READS IS OF BULK AT MOST 1048576: true; the input reads as it did. -/
def sherdRestUptoRow : OpenClaim := { program := "ytokdjjebnomciaadoor", sum := "18d652253dc2cb5b819990f45c7a440cc056bc7a0541865c8ebcfb5c533853b1", func := "bellarmine/bellarminelaw05.SherdRest", spec := "sherdRest", inPlace := ["internal/bytealg.IndexByteString", "internal/bytealg.IndexString", "internal/abi.NoEscape", "internal/bytealg.MakeNoZero"], unfollowed := true, recurses := true, named := ["unicode.properties", "unicode.Upper", "unicode.CaseRanges", "unicode/utf8.first", "unicode/utf8.acceptRanges", "internal/bytealg.MaxLen"], plainKeys := false, apart := false, laid := [("unicode/utf8.acceptRanges", laid_unicode_utf8_acceptRanges), ("unicode.properties", laid_unicode_properties), ("unicode.CaseRanges", laid_unicode_CaseRanges), ("unicode.Upper", laid_unicode_Upper), ("unicode/utf8.first", laid_unicode_utf8_first)], narrowed := true }
def SherdRestUptoSaid : Prop := sherdRestUptoRow.holds Tryd.pinned (OpenSpec.upto sherdRestSpec)

/-- 'bellarminelaw05.SherdChecked', WHERE WHAT IT READS IS OF BULK AT MOST 1048576: true; the input reads as it did. -/
def sherdCheckedUptoRow : OpenClaim := { program := "ytokdjjebnomciaadoor", sum := "18d652253dc2cb5b819990f45c7a440cc056bc7a0541865c8ebcfb5c533853b1", func := "bellarmine/bellarminelaw05.SherdChecked", spec := "sherdChecked", inPlace := ["internal/bytealg.IndexByteString", "internal/bytealg.IndexString", "internal/abi.NoEscape", "internal/bytealg.MakeNoZero"], unfollowed := true, recurses := true, named := ["unicode.properties", "unicode.Upper", "unicode.CaseRanges", "unicode/utf8.first", "unicode/utf8.acceptRanges", "internal/bytealg.MaxLen"], plainKeys := false, apart := false, laid := [("unicode/utf8.acceptRanges", laid_unicode_utf8_acceptRanges), ("unicode.properties", laid_unicode_properties), ("unicode.CaseRanges", laid_unicode_CaseRanges), ("unicode.Upper", laid_unicode_Upper), ("unicode/utf8.first", laid_unicode_utf8_first)], narrowed := true }
def SherdCheckedUptoSaid : Prop := sherdCheckedUptoRow.holds Tryd.pinned (OpenSpec.upto sherdCheckedSpec)

end Rows
end Go.Proofs.YtokdjjebnomciaaDoor
