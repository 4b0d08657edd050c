/-
  No cell of these rows narrows 'for every input' (looked for: loops, veiled, ifaces, maps, wideKeys, modest, calm, conditions, laid).
  DERIVED. THE GIVEN ROWS OF THIS SEAT. 12 by the template 'for every input the law returns true; each argument reads behind the call as it read before'; 0 by the template 'total and deterministic' (their statements: YtjhimoeodkaihaaTotals.lean).
  GIVEN WITH THE SEED: the statements are not yours to turn. If you find one false, say at which input.
  Laid BY PROGRAM, IN A SANDBOX (cutbox-rows.mjs): the forced cells as the released guide's own fill.sh prints them over the translation 76494fc649f405d7… (all of the seat's roots in one cut). By AI agents, Wed Nov 11 2026. No macro, syntax, notation, axiom, sorry.
-/
import Derived.Test.YtjhimoeodkaihaaChecked
import GoSem.Claim
import GoSem.ClaimJoined
import GoSem.ClaimMapViews
import Derived.JoinedTies
import Derived.KernelRfl
namespace Go.Proofs.Ytjhimoeodkaihaa
/- THE CELL 'sum', in the pinned program and in every row, IS THE sha256 OF THE DUMP (.gsa) THAT YtjhimoeodkaihaaProg.lean LOADS. Nothing in Lean hashes anything: it is a label: what it is worth is what the hold of that sum in a sandbox is worth. -/
noncomputable def Try.pinned : Pinned := { name := "ytjhimoeodkaihaa", sum := "76494fc649f405d7bdf473dff2554579cb4fd814f99df138e8eed4658b50a1a1", checked := Try.checked }
namespace Rows
def none {H : Type} : Left H := { results := [], args := [] }

/-- 'bellarminelaw01.EbbFalls': WHATEVER THE INPUT: true; the input reads as it did. -/
def ebbFallsSpec : ChangeSpec := { name := "ebbFalls", fn := fun _ => fun
  | [d1, d2] => { results := [.lit (.bool true)], args := [d1, d2] }
  | _ => none }
def ebbFallsRow : OpenClaim := { program := "ytjhimoeodkaihaa", sum := "76494fc649f405d7bdf473dff2554579cb4fd814f99df138e8eed4658b50a1a1", func := "bellarmine/bellarminelaw01.EbbFalls", spec := "ebbFalls", unfollowed := true, recurses := true, apart := false }
def EbbFallsSaid : Prop := ebbFallsRow.holds Try.pinned (OpenSpec.ofChange ebbFallsSpec)

/-- ITS FALSE NEIGHBOUR: 'it returns false'. Refute it at one input. -/
def ebbFallsWrong : ChangeSpec := { name := "ebbFalls", fn := fun _ => fun
  | [d1, d2] => { results := [.lit (.bool false)], args := [d1, d2] }
  | _ => none }
def EbbFallsWrongFalsely : Prop := ebbFallsRow.holds Try.pinned (OpenSpec.ofChange ebbFallsWrong)

/-- 'bellarminelaw01.EbbHours': WHATEVER THE INPUT: true; the input reads as it did. -/
def ebbHoursSpec : ChangeSpec := { name := "ebbHours", fn := fun _ => fun
  | [d1, d2, d3] => { results := [.lit (.bool true)], args := [d1, d2, d3] }
  | _ => none }
def ebbHoursRow : OpenClaim := { program := "ytjhimoeodkaihaa", sum := "76494fc649f405d7bdf473dff2554579cb4fd814f99df138e8eed4658b50a1a1", func := "bellarmine/bellarminelaw01.EbbHours", spec := "ebbHours", unfollowed := true, recurses := true, apart := false }
def EbbHoursSaid : Prop := ebbHoursRow.holds Try.pinned (OpenSpec.ofChange ebbHoursSpec)

/-- ITS FALSE NEIGHBOUR: 'it returns false'. Refute it at one input. -/
def ebbHoursWrong : ChangeSpec := { name := "ebbHours", fn := fun _ => fun
  | [d1, d2, d3] => { results := [.lit (.bool false)], args := [d1, d2, d3] }
  | _ => none }
def EbbHoursWrongFalsely : Prop := ebbHoursRow.holds Try.pinned (OpenSpec.ofChange ebbHoursWrong)

/-- 'bellarminelaw01.EbbWays': WHATEVER THE INPUT: true; the input reads as it did. -/
def ebbWaysSpec : ChangeSpec := { name := "ebbWays", fn := fun _ => fun
  | [d1, d2, d3, d4] => { results := [.lit (.bool true)], args := [d1, d2, d3, d4] }
  | _ => none }
def ebbWaysRow : OpenClaim := { program := "ytjhimoeodkaihaa", sum := "76494fc649f405d7bdf473dff2554579cb4fd814f99df138e8eed4658b50a1a1", func := "bellarmine/bellarminelaw01.EbbWays", spec := "ebbWays", unfollowed := true, recurses := true, apart := false }
def EbbWaysSaid : Prop := ebbWaysRow.holds Try.pinned (OpenSpec.ofChange ebbWaysSpec)

/-- ITS FALSE NEIGHBOUR: 'it returns false'. Refute it at one input. -/
def ebbWaysWrong : ChangeSpec := { name := "ebbWays", fn := fun _ => fun
  | [d1, d2, d3, d4] => { results := [.lit (.bool false)], args := [d1, d2, d3, d4] }
  | _ => none }
def EbbWaysWrongFalsely : Prop := ebbWaysRow.holds Try.pinned (OpenSpec.ofChange ebbWaysWrong)

/-- 'bellarminelaw01.EbbTrees': WHATEVER THE INPUT: true; the input reads as it did. -/
def ebbTreesSpec : ChangeSpec := { name := "ebbTrees", fn := fun _ => fun
  | [d1, d2, d3] => { results := [.lit (.bool true)], args := [d1, d2, d3] }
  | _ => none }
def ebbTreesRow : OpenClaim := { program := "ytjhimoeodkaihaa", sum := "76494fc649f405d7bdf473dff2554579cb4fd814f99df138e8eed4658b50a1a1", func := "bellarmine/bellarminelaw01.EbbTrees", spec := "ebbTrees", unfollowed := true, recurses := true, apart := false }
def EbbTreesSaid : Prop := ebbTreesRow.holds Try.pinned (OpenSpec.ofChange ebbTreesSpec)

/-- ITS FALSE NEIGHBOUR: 'it returns false'. Refute it at one input. -/
def ebbTreesWrong : ChangeSpec := { name := "ebbTrees", fn := fun _ => fun
  | [d1, d2, d3] => { results := [.lit (.bool false)], args := [d1, d2, d3] }
  | _ => none }
def EbbTreesWrongFalsely : Prop := ebbTreesRow.holds Try.pinned (OpenSpec.ofChange ebbTreesWrong)

/-- 'bellarminelaw01.EbbBarred': WHATEVER THE INPUT: true; the input reads as it did. -/
def ebbBarredSpec : ChangeSpec := { name := "ebbBarred", fn := fun _ => fun
  | [d1, d2, d3] => { results := [.lit (.bool true)], args := [d1, d2, d3] }
  | _ => none }
def ebbBarredRow : OpenClaim := { program := "ytjhimoeodkaihaa", sum := "76494fc649f405d7bdf473dff2554579cb4fd814f99df138e8eed4658b50a1a1", func := "bellarmine/bellarminelaw01.EbbBarred", spec := "ebbBarred", unfollowed := true, recurses := true, apart := false }
def EbbBarredSaid : Prop := ebbBarredRow.holds Try.pinned (OpenSpec.ofChange ebbBarredSpec)

/-- ITS FALSE NEIGHBOUR: 'it returns false'. Refute it at one input. -/
def ebbBarredWrong : ChangeSpec := { name := "ebbBarred", fn := fun _ => fun
  | [d1, d2, d3] => { results := [.lit (.bool false)], args := [d1, d2, d3] }
  | _ => none }
def EbbBarredWrongFalsely : Prop := ebbBarredRow.holds Try.pinned (OpenSpec.ofChange ebbBarredWrong)

/-- 'bellarminelaw01.EbbLower': WHATEVER THE INPUT: true; the input reads as it did. -/
def ebbLowerSpec : ChangeSpec := { name := "ebbLower", fn := fun _ => fun
  | [d1, d2, d3, d4, d5] => { results := [.lit (.bool true)], args := [d1, d2, d3, d4, d5] }
  | _ => none }
def ebbLowerRow : OpenClaim := { program := "ytjhimoeodkaihaa", sum := "76494fc649f405d7bdf473dff2554579cb4fd814f99df138e8eed4658b50a1a1", func := "bellarmine/bellarminelaw01.EbbLower", spec := "ebbLower", unfollowed := true, recurses := true, apart := false }
def EbbLowerSaid : Prop := ebbLowerRow.holds Try.pinned (OpenSpec.ofChange ebbLowerSpec)

/-- ITS FALSE NEIGHBOUR: 'it returns false'. Refute it at one input. -/
def ebbLowerWrong : ChangeSpec := { name := "ebbLower", fn := fun _ => fun
  | [d1, d2, d3, d4, d5] => { results := [.lit (.bool false)], args := [d1, d2, d3, d4, d5] }
  | _ => none }
def EbbLowerWrongFalsely : Prop := ebbLowerRow.holds Try.pinned (OpenSpec.ofChange ebbLowerWrong)

/-- 'bellarminelaw01.EbbMirrored': WHATEVER THE INPUT: true; the input reads as it did. -/
def ebbMirroredSpec : ChangeSpec := { name := "ebbMirrored", fn := fun _ => fun
  | [d1, d2] => { results := [.lit (.bool true)], args := [d1, d2] }
  | _ => none }
def ebbMirroredRow : OpenClaim := { program := "ytjhimoeodkaihaa", sum := "76494fc649f405d7bdf473dff2554579cb4fd814f99df138e8eed4658b50a1a1", func := "bellarmine/bellarminelaw01.EbbMirrored", spec := "ebbMirrored", unfollowed := true, recurses := true, apart := false }
def EbbMirroredSaid : Prop := ebbMirroredRow.holds Try.pinned (OpenSpec.ofChange ebbMirroredSpec)

/-- ITS FALSE NEIGHBOUR: 'it returns false'. Refute it at one input. -/
def ebbMirroredWrong : ChangeSpec := { name := "ebbMirrored", fn := fun _ => fun
  | [d1, d2] => { results := [.lit (.bool false)], args := [d1, d2] }
  | _ => none }
def EbbMirroredWrongFalsely : Prop := ebbMirroredRow.holds Try.pinned (OpenSpec.ofChange ebbMirroredWrong)

/-- 'bellarminelaw01.EbbHour': WHATEVER THE INPUT: true; the input reads as it did. -/
def ebbHourSpec : ChangeSpec := { name := "ebbHour", fn := fun _ => fun
  | [d1, d2, d3, d4] => { results := [.lit (.bool true)], args := [d1, d2, d3, d4] }
  | _ => none }
def ebbHourRow : OpenClaim := { program := "ytjhimoeodkaihaa", sum := "76494fc649f405d7bdf473dff2554579cb4fd814f99df138e8eed4658b50a1a1", func := "bellarmine/bellarminelaw01.EbbHour", spec := "ebbHour", unfollowed := true, recurses := true, apart := false }
def EbbHourSaid : Prop := ebbHourRow.holds Try.pinned (OpenSpec.ofChange ebbHourSpec)

/-- ITS FALSE NEIGHBOUR: 'it returns false'. Refute it at one input. -/
def ebbHourWrong : ChangeSpec := { name := "ebbHour", fn := fun _ => fun
  | [d1, d2, d3, d4] => { results := [.lit (.bool false)], args := [d1, d2, d3, d4] }
  | _ => none }
def EbbHourWrongFalsely : Prop := ebbHourRow.holds Try.pinned (OpenSpec.ofChange ebbHourWrong)

/-- 'bellarminelaw01.EbbKnown': WHATEVER THE INPUT: true; the input reads as it did. -/
def ebbKnownSpec : ChangeSpec := { name := "ebbKnown", fn := fun _ => fun
  | [] => { results := [.lit (.bool true)], args := [] }
  | _ => none }
def ebbKnownRow : OpenClaim := { program := "ytjhimoeodkaihaa", sum := "76494fc649f405d7bdf473dff2554579cb4fd814f99df138e8eed4658b50a1a1", func := "bellarmine/bellarminelaw01.EbbKnown", spec := "ebbKnown", unfollowed := true, recurses := true, apart := false }
def EbbKnownSaid : Prop := ebbKnownRow.holds Try.pinned (OpenSpec.ofChange ebbKnownSpec)

/-- ITS FALSE NEIGHBOUR: 'it returns false'. Refute it at one input. -/
def ebbKnownWrong : ChangeSpec := { name := "ebbKnown", fn := fun _ => fun
  | [] => { results := [.lit (.bool false)], args := [] }
  | _ => none }
def EbbKnownWrongFalsely : Prop := ebbKnownRow.holds Try.pinned (OpenSpec.ofChange ebbKnownWrong)

/-- 'bellarminelaw01.EbbTree': WHATEVER THE INPUT: true; the input reads as it did. -/
def ebbTreeSpec : ChangeSpec := { name := "ebbTree", fn := fun _ => fun
  | [d] => { results := [.lit (.bool true)], args := [d] }
  | _ => none }
def ebbTreeRow : OpenClaim := { program := "ytjhimoeodkaihaa", sum := "76494fc649f405d7bdf473dff2554579cb4fd814f99df138e8eed4658b50a1a1", func := "bellarmine/bellarminelaw01.EbbTree", spec := "ebbTree", unfollowed := true, recurses := true, apart := false }
def EbbTreeSaid : Prop := ebbTreeRow.holds Try.pinned (OpenSpec.ofChange ebbTreeSpec)

/-- ITS FALSE NEIGHBOUR: 'it returns false'. Refute it at one input. -/
def ebbTreeWrong : ChangeSpec := { name := "ebbTree", fn := fun _ => fun
  | [d] => { results := [.lit (.bool false)], args := [d] }
  | _ => none }
def EbbTreeWrongFalsely : Prop := ebbTreeRow.holds Try.pinned (OpenSpec.ofChange ebbTreeWrong)

/-- 'bellarminelaw01.EbbProved': WHATEVER THE INPUT: true; the input reads as it did. -/
def ebbProvedSpec : ChangeSpec := { name := "ebbProved", fn := fun _ => fun
  | [d1, d2] => { results := [.lit (.bool true)], args := [d1, d2] }
  | _ => none }
def ebbProvedRow : OpenClaim := { program := "ytjhimoeodkaihaa", sum := "76494fc649f405d7bdf473dff2554579cb4fd814f99df138e8eed4658b50a1a1", func := "bellarmine/bellarminelaw01.EbbProved", spec := "ebbProved", unfollowed := true, recurses := true, apart := false }
def EbbProvedSaid : Prop := ebbProvedRow.holds Try.pinned (OpenSpec.ofChange ebbProvedSpec)

/-- ITS FALSE NEIGHBOUR: 'it returns false'. Refute it at one input. -/
def ebbProvedWrong : ChangeSpec := { name := "ebbProved", fn := fun _ => fun
  | [d1, d2] => { results := [.lit (.bool false)], args := [d1, d2] }
  | _ => none }
def EbbProvedWrongFalsely : Prop := ebbProvedRow.holds Try.pinned (OpenSpec.ofChange ebbProvedWrong)

/-- 'bellarminelaw01.EbbPools': WHATEVER THE INPUT: true; the input reads as it did. -/
def ebbPoolsSpec : ChangeSpec := { name := "ebbPools", fn := fun _ => fun
  | [d1, d2] => { results := [.lit (.bool true)], args := [d1, d2] }
  | _ => none }
def ebbPoolsRow : OpenClaim := { program := "ytjhimoeodkaihaa", sum := "76494fc649f405d7bdf473dff2554579cb4fd814f99df138e8eed4658b50a1a1", func := "bellarmine/bellarminelaw01.EbbPools", spec := "ebbPools", unfollowed := true, recurses := true, apart := false }
def EbbPoolsSaid : Prop := ebbPoolsRow.holds Try.pinned (OpenSpec.ofChange ebbPoolsSpec)

/-- ITS FALSE NEIGHBOUR: 'it returns false'. Refute it at one input. -/
def ebbPoolsWrong : ChangeSpec := { name := "ebbPools", fn := fun _ => fun
  | [d1, d2] => { results := [.lit (.bool false)], args := [d1, d2] }
  | _ => none }
def EbbPoolsWrongFalsely : Prop := ebbPoolsRow.holds Try.pinned (OpenSpec.ofChange ebbPoolsWrong)

/- THE SECOND FORM. 'bulk': how many values and letters a reading holds, each counted each time it is reached (what is shared counts as often as it is met; a slice's spare places count too). A statement '..UptoSaid' is the law's where the arguments, and the package variables that the reading takes, are together of bulk at most 1048576: NARROWER than '..Said'. Prove '..Said' where nothing that the law and all that it calls make is longer than what came in: it says more and counts as full. Else prove '..UptoSaid'. A law counts once. -/
mutual
def uptoBulk {H : Type} : DataW H → Nat
  | .lit (.string bytes) => bytes.length + 1
  | .lit _ => 1
  | .nil => 1
  | .ptr d => uptoBulk d + 1
  | .slice elems spare => uptoBulkAll elems + uptoBulkAll spare + 1
  | .agg parts => uptoBulkAll parts + 1
  | .iface _ d => uptoBulk d + 1
  | .map entries => uptoBulkEntries entries + 1
  | .held _ => 1
def uptoBulkAll {H : Type} : List (DataW H) → Nat
  | [] => 0
  | d :: r => uptoBulk d + uptoBulkAll r
def uptoBulkEntries {H : Type} : List (Lit × DataW H) → Nat
  | [] => 0
  | x :: r => uptoBulkEntry x + uptoBulkEntries r
def uptoBulkEntry {H : Type} : Lit × DataW H → Nat
  | (.string bytes, d) => bytes.length + uptoBulk d + 1
  | (_, d) => uptoBulk d + 1
 end
def uptoSmall : (H : Type) → List (DataW H) → Bool := fun _ ds => decide (uptoBulkAll ds ≤ 1048576)
def OpenSpec.upto (s : _root_.Go.ChangeSpec) : _root_.Go.OpenSpec := { _root_.Go.OpenSpec.ofChange s with cond := some uptoSmall }

/-- 'bellarminelaw01.EbbFalls', WHERE WHAT IT READS IS OF BULK AT MOST 1048576: true; the input reads as it did. -/
def ebbFallsUptoRow : OpenClaim := { program := "ytjhimoeodkaihaa", sum := "76494fc649f405d7bdf473dff2554579cb4fd814f99df138e8eed4658b50a1a1", func := "bellarmine/bellarminelaw01.EbbFalls", spec := "ebbFalls", unfollowed := true, recurses := true, apart := false, narrowed := true }
def EbbFallsUptoSaid : Prop := ebbFallsUptoRow.holds Try.pinned (OpenSpec.upto ebbFallsSpec)

/-- 'bellarminelaw01.EbbHours', WHERE WHAT IT READS IS OF BULK AT MOST 1048576: true; the input reads as it did. -/
def ebbHoursUptoRow : OpenClaim := { program := "ytjhimoeodkaihaa", sum := "76494fc649f405d7bdf473dff2554579cb4fd814f99df138e8eed4658b50a1a1", func := "bellarmine/bellarminelaw01.EbbHours", spec := "ebbHours", unfollowed := true, recurses := true, apart := false, narrowed := true }
def EbbHoursUptoSaid : Prop := ebbHoursUptoRow.holds Try.pinned (OpenSpec.upto ebbHoursSpec)

/-- 'bellarminelaw01.EbbWays', WHERE WHAT IT READS IS OF BULK AT MOST 1048576: true; the input reads as it did. -/
def ebbWaysUptoRow : OpenClaim := { program := "ytjhimoeodkaihaa", sum := "76494fc649f405d7bdf473dff2554579cb4fd814f99df138e8eed4658b50a1a1", func := "bellarmine/bellarminelaw01.EbbWays", spec := "ebbWays", unfollowed := true, recurses := true, apart := false, narrowed := true }
def EbbWaysUptoSaid : Prop := ebbWaysUptoRow.holds Try.pinned (OpenSpec.upto ebbWaysSpec)

/-- 'bellarminelaw01.EbbTrees', WHERE WHAT IT READS IS OF BULK AT MOST 1048576: true; the input reads as it did. -/
def ebbTreesUptoRow : OpenClaim := { program := "ytjhimoeodkaihaa", sum := "76494fc649f405d7bdf473dff2554579cb4fd814f99df138e8eed4658b50a1a1", func := "bellarmine/bellarminelaw01.EbbTrees", spec := "ebbTrees", unfollowed := true, recurses := true, apart := false, narrowed := true }
def EbbTreesUptoSaid : Prop := ebbTreesUptoRow.holds Try.pinned (OpenSpec.upto ebbTreesSpec)

/-- 'bellarminelaw01.EbbBarred', WHERE WHAT IT READS IS OF BULK AT MOST 1048576: true; the input reads as it did. -/
def ebbBarredUptoRow : OpenClaim := { program := "ytjhimoeodkaihaa", sum := "76494fc649f405d7bdf473dff2554579cb4fd814f99df138e8eed4658b50a1a1", func := "bellarmine/bellarminelaw01.EbbBarred", spec := "ebbBarred", unfollowed := true, recurses := true, apart := false, narrowed := true }
def EbbBarredUptoSaid : Prop := ebbBarredUptoRow.holds Try.pinned (OpenSpec.upto ebbBarredSpec)

/-- 'bellarminelaw01.EbbLower', WHERE WHAT IT READS IS OF BULK AT MOST 1048576: true; the input reads as it did. -/
def ebbLowerUptoRow : OpenClaim := { program := "ytjhimoeodkaihaa", sum := "76494fc649f405d7bdf473dff2554579cb4fd814f99df138e8eed4658b50a1a1", func := "bellarmine/bellarminelaw01.EbbLower", spec := "ebbLower", unfollowed := true, recurses := true, apart := false, narrowed := true }
def EbbLowerUptoSaid : Prop := ebbLowerUptoRow.holds Try.pinned (OpenSpec.upto ebbLowerSpec)

/-- 'bellarminelaw01.EbbMirrored', WHERE WHAT IT READS IS OF BULK AT MOST 1048576: true; the input reads as it did. -/
def ebbMirroredUptoRow : OpenClaim := { program := "ytjhimoeodkaihaa", sum := "76494fc649f405d7bdf473dff2554579cb4fd814f99df138e8eed4658b50a1a1", func := "bellarmine/bellarminelaw01.EbbMirrored", spec := "ebbMirrored", unfollowed := true, recurses := true, apart := false, narrowed := true }
def EbbMirroredUptoSaid : Prop := ebbMirroredUptoRow.holds Try.pinned (OpenSpec.upto ebbMirroredSpec)

/-- 'bellarminelaw01.EbbHour', WHERE WHAT IT READS IS OF BULK AT MOST 1048576: true; the input reads as it did. -/
def ebbHourUptoRow : OpenClaim := { program := "ytjhimoeodkaihaa", sum := "76494fc649f405d7bdf473dff2554579cb4fd814f99df138e8eed4658b50a1a1", func := "bellarmine/bellarminelaw01.EbbHour", spec := "ebbHour", unfollowed := true, recurses := true, apart := false, narrowed := true }
def EbbHourUptoSaid : Prop := ebbHourUptoRow.holds Try.pinned (OpenSpec.upto ebbHourSpec)

/-- 'bellarminelaw01.EbbKnown', WHERE WHAT IT READS IS OF BULK AT MOST 1048576: true; the input reads as it did. -/
def ebbKnownUptoRow : OpenClaim := { program := "ytjhimoeodkaihaa", sum := "76494fc649f405d7bdf473dff2554579cb4fd814f99df138e8eed4658b50a1a1", func := "bellarmine/bellarminelaw01.EbbKnown", spec := "ebbKnown", unfollowed := true, recurses := true, apart := false, narrowed := true }
def EbbKnownUptoSaid : Prop := ebbKnownUptoRow.holds Try.pinned (OpenSpec.upto ebbKnownSpec)

/-- 'bellarminelaw01.EbbTree', WHERE WHAT IT READS IS OF BULK AT MOST 1048576: true; the input reads as it did. -/
def ebbTreeUptoRow : OpenClaim := { program := "ytjhimoeodkaihaa", sum := "76494fc649f405d7bdf473dff2554579cb4fd814f99df138e8eed4658b50a1a1", func := "bellarmine/bellarminelaw01.EbbTree", spec := "ebbTree", unfollowed := true, recurses := true, apart := false, narrowed := true }
def EbbTreeUptoSaid : Prop := ebbTreeUptoRow.holds Try.pinned (OpenSpec.upto ebbTreeSpec)

/-- 'bellarminelaw01.EbbProved', WHERE WHAT IT READS IS OF BULK AT MOST 1048576: true; the input reads as it did. -/
def ebbProvedUptoRow : OpenClaim := { program := "ytjhimoeodkaihaa", sum := "76494fc649f405d7bdf473dff2554579cb4fd814f99df138e8eed4658b50a1a1", func := "bellarmine/bellarminelaw01.EbbProved", spec := "ebbProved", unfollowed := true, recurses := true, apart := false, narrowed := true }
def EbbProvedUptoSaid : Prop := ebbProvedUptoRow.holds Try.pinned (OpenSpec.upto ebbProvedSpec)

/-- 'bellarminelaw01.EbbPools', WHERE WHAT IT READS IS OF BULK AT MOST 1048576: true; the input reads as it did. -/
def ebbPoolsUptoRow : OpenClaim := { program := "ytjhimoeodkaihaa", sum := "76494fc649f405d7bdf473dff2554579cb4fd814f99df138e8eed4658b50a1a1", func := "bellarmine/bellarminelaw01.EbbPools", spec := "ebbPools", unfollowed := true, recurses := true, apart := false, narrowed := true }
def EbbPoolsUptoSaid : Prop := ebbPoolsUptoRow.holds Try.pinned (OpenSpec.upto ebbPoolsSpec)

end Rows
end Go.Proofs.Ytjhimoeodkaihaa
