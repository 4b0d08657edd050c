/-
  No cell of these rows narrows 'for every input' (looked for: loops, veiled, ifaces, maps, wideKeys, modest, calm, conditions, laid).
  DERIVED. THE GIVEN ROWS OF THIS SEAT. 11 by the template 'for every input the law returns true; each argument reads behind the call as it read before'; 0 by the template 'total and deterministic' (their statements: YtjmpojoimcljoaaTotals.lean).
  GIVEN WITH THE SEED: the statements are not yours to turn. If you find one false, say at which input.
  Laid BY PROGRAM, IN A SANDBOX (cutbox-rows.mjs): the forced cells as the released guide's own fill.sh prints them over the translation f5ede38a29ef7e26… (all of the seat's roots in one cut). By AI agents, Wed Nov 11 2026. No macro, syntax, notation, axiom, sorry.
-/
import Derived.Test.YtjmpojoimcljoaaChecked
import GoSem.Claim
import GoSem.ClaimJoined
import GoSem.ClaimMapViews
import Derived.JoinedTies
import Derived.KernelRfl
namespace Go.Proofs.Ytjmpojoimcljoaa
/- THE CELL 'sum', in the pinned program and in every row, IS THE sha256 OF THE DUMP (.gsa) THAT YtjmpojoimcljoaaProg.lean LOADS. Nothing in Lean hashes anything: it is a label: what it is worth is what the hold of that sum in a sandbox is worth. -/
noncomputable def Try.pinned : Pinned := { name := "ytjmpojoimcljoaa", sum := "f5ede38a29ef7e26fcce50524b83c88a875a09ae7e6d6e258850921e7adb226f", checked := Try.checked }
namespace Rows
def none {H : Type} : Left H := { results := [], args := [] }

/-- 'bellarminelaw03.StyleFits': WHATEVER THE INPUT: true; the input reads as it did. -/
def styleFitsSpec : ChangeSpec := { name := "styleFits", fn := fun _ => fun
  | [d] => { results := [.lit (.bool true)], args := [d] }
  | _ => none }
def styleFitsRow : OpenClaim := { program := "ytjmpojoimcljoaa", sum := "f5ede38a29ef7e26fcce50524b83c88a875a09ae7e6d6e258850921e7adb226f", func := "bellarmine/bellarminelaw03.StyleFits", spec := "styleFits", unfollowed := true, recurses := true, apart := false }
def StyleFitsSaid : Prop := styleFitsRow.holds Try.pinned (OpenSpec.ofChange styleFitsSpec)

/-- ITS FALSE NEIGHBOUR: 'it returns false'. Refute it at one input. -/
def styleFitsWrong : ChangeSpec := { name := "styleFits", fn := fun _ => fun
  | [d] => { results := [.lit (.bool false)], args := [d] }
  | _ => none }
def StyleFitsWrongFalsely : Prop := styleFitsRow.holds Try.pinned (OpenSpec.ofChange styleFitsWrong)

/-- 'bellarminelaw03.StyleWhys': WHATEVER THE INPUT: true; the input reads as it did. -/
def styleWhysSpec : ChangeSpec := { name := "styleWhys", fn := fun _ => fun
  | [d1, d2, d3, d4] => { results := [.lit (.bool true)], args := [d1, d2, d3, d4] }
  | _ => none }
def styleWhysRow : OpenClaim := { program := "ytjmpojoimcljoaa", sum := "f5ede38a29ef7e26fcce50524b83c88a875a09ae7e6d6e258850921e7adb226f", func := "bellarmine/bellarminelaw03.StyleWhys", spec := "styleWhys", unfollowed := true, recurses := true, apart := false }
def StyleWhysSaid : Prop := styleWhysRow.holds Try.pinned (OpenSpec.ofChange styleWhysSpec)

/-- ITS FALSE NEIGHBOUR: 'it returns false'. Refute it at one input. -/
def styleWhysWrong : ChangeSpec := { name := "styleWhys", fn := fun _ => fun
  | [d1, d2, d3, d4] => { results := [.lit (.bool false)], args := [d1, d2, d3, d4] }
  | _ => none }
def StyleWhysWrongFalsely : Prop := styleWhysRow.holds Try.pinned (OpenSpec.ofChange styleWhysWrong)

/-- 'bellarminelaw03.StyleLeaves': WHATEVER THE INPUT: true; the input reads as it did. -/
def styleLeavesSpec : ChangeSpec := { name := "styleLeaves", fn := fun _ => fun
  | [d] => { results := [.lit (.bool true)], args := [d] }
  | _ => none }
def styleLeavesRow : OpenClaim := { program := "ytjmpojoimcljoaa", sum := "f5ede38a29ef7e26fcce50524b83c88a875a09ae7e6d6e258850921e7adb226f", func := "bellarmine/bellarminelaw03.StyleLeaves", spec := "styleLeaves", unfollowed := true, recurses := true, apart := false }
def StyleLeavesSaid : Prop := styleLeavesRow.holds Try.pinned (OpenSpec.ofChange styleLeavesSpec)

/-- ITS FALSE NEIGHBOUR: 'it returns false'. Refute it at one input. -/
def styleLeavesWrong : ChangeSpec := { name := "styleLeaves", fn := fun _ => fun
  | [d] => { results := [.lit (.bool false)], args := [d] }
  | _ => none }
def StyleLeavesWrongFalsely : Prop := styleLeavesRow.holds Try.pinned (OpenSpec.ofChange styleLeavesWrong)

/-- 'bellarminelaw03.StyleOrders': WHATEVER THE INPUT: true; the input reads as it did. -/
def styleOrdersSpec : ChangeSpec := { name := "styleOrders", fn := fun _ => fun
  | [d1, d2] => { results := [.lit (.bool true)], args := [d1, d2] }
  | _ => none }
def styleOrdersRow : OpenClaim := { program := "ytjmpojoimcljoaa", sum := "f5ede38a29ef7e26fcce50524b83c88a875a09ae7e6d6e258850921e7adb226f", func := "bellarmine/bellarminelaw03.StyleOrders", spec := "styleOrders", unfollowed := true, recurses := true, apart := false }
def StyleOrdersSaid : Prop := styleOrdersRow.holds Try.pinned (OpenSpec.ofChange styleOrdersSpec)

/-- ITS FALSE NEIGHBOUR: 'it returns false'. Refute it at one input. -/
def styleOrdersWrong : ChangeSpec := { name := "styleOrders", fn := fun _ => fun
  | [d1, d2] => { results := [.lit (.bool false)], args := [d1, d2] }
  | _ => none }
def StyleOrdersWrongFalsely : Prop := styleOrdersRow.holds Try.pinned (OpenSpec.ofChange styleOrdersWrong)

/-- 'bellarminelaw03.StyleKnown': WHATEVER THE INPUT: true; the input reads as it did. -/
def styleKnownSpec : ChangeSpec := { name := "styleKnown", fn := fun _ => fun
  | [] => { results := [.lit (.bool true)], args := [] }
  | _ => none }
def styleKnownRow : OpenClaim := { program := "ytjmpojoimcljoaa", sum := "f5ede38a29ef7e26fcce50524b83c88a875a09ae7e6d6e258850921e7adb226f", func := "bellarmine/bellarminelaw03.StyleKnown", spec := "styleKnown", unfollowed := true, recurses := true, apart := false }
def StyleKnownSaid : Prop := styleKnownRow.holds Try.pinned (OpenSpec.ofChange styleKnownSpec)

/-- ITS FALSE NEIGHBOUR: 'it returns false'. Refute it at one input. -/
def styleKnownWrong : ChangeSpec := { name := "styleKnown", fn := fun _ => fun
  | [] => { results := [.lit (.bool false)], args := [] }
  | _ => none }
def StyleKnownWrongFalsely : Prop := styleKnownRow.holds Try.pinned (OpenSpec.ofChange styleKnownWrong)

/-- 'bellarminelaw03.StyleTucker': WHATEVER THE INPUT: true; the input reads as it did. -/
def styleTuckerSpec : ChangeSpec := { name := "styleTucker", fn := fun _ => fun
  | [d] => { results := [.lit (.bool true)], args := [d] }
  | _ => none }
def styleTuckerRow : OpenClaim := { program := "ytjmpojoimcljoaa", sum := "f5ede38a29ef7e26fcce50524b83c88a875a09ae7e6d6e258850921e7adb226f", func := "bellarmine/bellarminelaw03.StyleTucker", spec := "styleTucker", unfollowed := true, recurses := true, apart := false }
def StyleTuckerSaid : Prop := styleTuckerRow.holds Try.pinned (OpenSpec.ofChange styleTuckerSpec)

/-- ITS FALSE NEIGHBOUR: 'it returns false'. Refute it at one input. -/
def styleTuckerWrong : ChangeSpec := { name := "styleTucker", fn := fun _ => fun
  | [d] => { results := [.lit (.bool false)], args := [d] }
  | _ => none }
def StyleTuckerWrongFalsely : Prop := styleTuckerRow.holds Try.pinned (OpenSpec.ofChange styleTuckerWrong)

/-- 'bellarminelaw03.StyleLeft': WHATEVER THE INPUT: true; the input reads as it did. -/
def styleLeftSpec : ChangeSpec := { name := "styleLeft", fn := fun _ => fun
  | [d] => { results := [.lit (.bool true)], args := [d] }
  | _ => none }
def styleLeftRow : OpenClaim := { program := "ytjmpojoimcljoaa", sum := "f5ede38a29ef7e26fcce50524b83c88a875a09ae7e6d6e258850921e7adb226f", func := "bellarmine/bellarminelaw03.StyleLeft", spec := "styleLeft", unfollowed := true, recurses := true, apart := false }
def StyleLeftSaid : Prop := styleLeftRow.holds Try.pinned (OpenSpec.ofChange styleLeftSpec)

/-- ITS FALSE NEIGHBOUR: 'it returns false'. Refute it at one input. -/
def styleLeftWrong : ChangeSpec := { name := "styleLeft", fn := fun _ => fun
  | [d] => { results := [.lit (.bool false)], args := [d] }
  | _ => none }
def StyleLeftWrongFalsely : Prop := styleLeftRow.holds Try.pinned (OpenSpec.ofChange styleLeftWrong)

/-- 'bellarminelaw03.StyleBeside': WHATEVER THE INPUT: true; the input reads as it did. -/
def styleBesideSpec : ChangeSpec := { name := "styleBeside", fn := fun _ => fun
  | [d] => { results := [.lit (.bool true)], args := [d] }
  | _ => none }
def styleBesideRow : OpenClaim := { program := "ytjmpojoimcljoaa", sum := "f5ede38a29ef7e26fcce50524b83c88a875a09ae7e6d6e258850921e7adb226f", func := "bellarmine/bellarminelaw03.StyleBeside", spec := "styleBeside", unfollowed := true, recurses := true, apart := false }
def StyleBesideSaid : Prop := styleBesideRow.holds Try.pinned (OpenSpec.ofChange styleBesideSpec)

/-- ITS FALSE NEIGHBOUR: 'it returns false'. Refute it at one input. -/
def styleBesideWrong : ChangeSpec := { name := "styleBeside", fn := fun _ => fun
  | [d] => { results := [.lit (.bool false)], args := [d] }
  | _ => none }
def StyleBesideWrongFalsely : Prop := styleBesideRow.holds Try.pinned (OpenSpec.ofChange styleBesideWrong)

/-- 'bellarminelaw03.StyleMore': WHATEVER THE INPUT: true; the input reads as it did. -/
def styleMoreSpec : ChangeSpec := { name := "styleMore", fn := fun _ => fun
  | [d1, d2] => { results := [.lit (.bool true)], args := [d1, d2] }
  | _ => none }
def styleMoreRow : OpenClaim := { program := "ytjmpojoimcljoaa", sum := "f5ede38a29ef7e26fcce50524b83c88a875a09ae7e6d6e258850921e7adb226f", func := "bellarmine/bellarminelaw03.StyleMore", spec := "styleMore", unfollowed := true, recurses := true, apart := false }
def StyleMoreSaid : Prop := styleMoreRow.holds Try.pinned (OpenSpec.ofChange styleMoreSpec)

/-- ITS FALSE NEIGHBOUR: 'it returns false'. Refute it at one input. -/
def styleMoreWrong : ChangeSpec := { name := "styleMore", fn := fun _ => fun
  | [d1, d2] => { results := [.lit (.bool false)], args := [d1, d2] }
  | _ => none }
def StyleMoreWrongFalsely : Prop := styleMoreRow.holds Try.pinned (OpenSpec.ofChange styleMoreWrong)

/-- 'bellarminelaw03.StyleGaps': WHATEVER THE INPUT: true; the input reads as it did. -/
def styleGapsSpec : ChangeSpec := { name := "styleGaps", fn := fun _ => fun
  | [d1, d2] => { results := [.lit (.bool true)], args := [d1, d2] }
  | _ => none }
def styleGapsRow : OpenClaim := { program := "ytjmpojoimcljoaa", sum := "f5ede38a29ef7e26fcce50524b83c88a875a09ae7e6d6e258850921e7adb226f", func := "bellarmine/bellarminelaw03.StyleGaps", spec := "styleGaps", unfollowed := true, recurses := true, apart := false }
def StyleGapsSaid : Prop := styleGapsRow.holds Try.pinned (OpenSpec.ofChange styleGapsSpec)

/-- ITS FALSE NEIGHBOUR: 'it returns false'. Refute it at one input. -/
def styleGapsWrong : ChangeSpec := { name := "styleGaps", fn := fun _ => fun
  | [d1, d2] => { results := [.lit (.bool false)], args := [d1, d2] }
  | _ => none }
def StyleGapsWrongFalsely : Prop := styleGapsRow.holds Try.pinned (OpenSpec.ofChange styleGapsWrong)

/-- 'bellarminelaw03.StyleNamed': WHATEVER THE INPUT: true; the input reads as it did. -/
def styleNamedSpec : ChangeSpec := { name := "styleNamed", fn := fun _ => fun
  | [d1, d2] => { results := [.lit (.bool true)], args := [d1, d2] }
  | _ => none }
def styleNamedRow : OpenClaim := { program := "ytjmpojoimcljoaa", sum := "f5ede38a29ef7e26fcce50524b83c88a875a09ae7e6d6e258850921e7adb226f", func := "bellarmine/bellarminelaw03.StyleNamed", spec := "styleNamed", unfollowed := true, recurses := true, apart := false }
def StyleNamedSaid : Prop := styleNamedRow.holds Try.pinned (OpenSpec.ofChange styleNamedSpec)

/-- ITS FALSE NEIGHBOUR: 'it returns false'. Refute it at one input. -/
def styleNamedWrong : ChangeSpec := { name := "styleNamed", fn := fun _ => fun
  | [d1, d2] => { results := [.lit (.bool false)], args := [d1, d2] }
  | _ => none }
def StyleNamedWrongFalsely : Prop := styleNamedRow.holds Try.pinned (OpenSpec.ofChange styleNamedWrong)

/- THE SECOND FORM. 'bulk': how many values and letters a reading holds, each counted each time it is reached (what is shared counts as often as it is met; a slice's spare places count too). A statement '..UptoSaid' is the law's where the arguments, and the package variables that the reading takes, are together of bulk at most 1048576: NARROWER than '..Said'. Prove '..Said' where nothing that the law and all that it calls make is longer than what came in: it says more and counts as full. Else prove '..UptoSaid'. A law counts once. -/
mutual
def uptoBulk {H : Type} : DataW H → Nat
  | .lit (.string bytes) => bytes.length + 1
  | .lit _ => 1
  | .nil => 1
  | .ptr d => uptoBulk d + 1
  | .slice elems spare => uptoBulkAll elems + uptoBulkAll spare + 1
  | .agg parts => uptoBulkAll parts + 1
  | .iface _ d => uptoBulk d + 1
  | .map entries => uptoBulkEntries entries + 1
  | .held _ => 1
def uptoBulkAll {H : Type} : List (DataW H) → Nat
  | [] => 0
  | d :: r => uptoBulk d + uptoBulkAll r
def uptoBulkEntries {H : Type} : List (Lit × DataW H) → Nat
  | [] => 0
  | x :: r => uptoBulkEntry x + uptoBulkEntries r
def uptoBulkEntry {H : Type} : Lit × DataW H → Nat
  | (.string bytes, d) => bytes.length + uptoBulk d + 1
  | (_, d) => uptoBulk d + 1
 end
def uptoSmall : (H : Type) → List (DataW H) → Bool := fun _ ds => decide (uptoBulkAll ds ≤ 1048576)
def OpenSpec.upto (s : _root_.Go.ChangeSpec) : _root_.Go.OpenSpec := { _root_.Go.OpenSpec.ofChange s with cond := some uptoSmall }

/-- 'bellarminelaw03.StyleFits', WHERE WHAT IT READS IS OF BULK AT MOST 1048576: true; the input reads as it did. -/
def styleFitsUptoRow : OpenClaim := { program := "ytjmpojoimcljoaa", sum := "f5ede38a29ef7e26fcce50524b83c88a875a09ae7e6d6e258850921e7adb226f", func := "bellarmine/bellarminelaw03.StyleFits", spec := "styleFits", unfollowed := true, recurses := true, apart := false, narrowed := true }
def StyleFitsUptoSaid : Prop := styleFitsUptoRow.holds Try.pinned (OpenSpec.upto styleFitsSpec)

/-- 'bellarminelaw03.StyleWhys', WHERE WHAT IT READS IS OF BULK AT MOST 1048576: true; the input reads as it did. -/
def styleWhysUptoRow : OpenClaim := { program := "ytjmpojoimcljoaa", sum := "f5ede38a29ef7e26fcce50524b83c88a875a09ae7e6d6e258850921e7adb226f", func := "bellarmine/bellarminelaw03.StyleWhys", spec := "styleWhys", unfollowed := true, recurses := true, apart := false, narrowed := true }
def StyleWhysUptoSaid : Prop := styleWhysUptoRow.holds Try.pinned (OpenSpec.upto styleWhysSpec)

/-- 'bellarminelaw03.StyleLeaves', WHERE WHAT IT READS IS OF BULK AT MOST 1048576: true; the input reads as it did. -/
def styleLeavesUptoRow : OpenClaim := { program := "ytjmpojoimcljoaa", sum := "f5ede38a29ef7e26fcce50524b83c88a875a09ae7e6d6e258850921e7adb226f", func := "bellarmine/bellarminelaw03.StyleLeaves", spec := "styleLeaves", unfollowed := true, recurses := true, apart := false, narrowed := true }
def StyleLeavesUptoSaid : Prop := styleLeavesUptoRow.holds Try.pinned (OpenSpec.upto styleLeavesSpec)

/-- 'bellarminelaw03.StyleOrders', WHERE WHAT IT READS IS OF BULK AT MOST 1048576: true; the input reads as it did. -/
def styleOrdersUptoRow : OpenClaim := { program := "ytjmpojoimcljoaa", sum := "f5ede38a29ef7e26fcce50524b83c88a875a09ae7e6d6e258850921e7adb226f", func := "bellarmine/bellarminelaw03.StyleOrders", spec := "styleOrders", unfollowed := true, recurses := true, apart := false, narrowed := true }
def StyleOrdersUptoSaid : Prop := styleOrdersUptoRow.holds Try.pinned (OpenSpec.upto styleOrdersSpec)

/-- 'bellarminelaw03.StyleKnown', WHERE WHAT IT READS IS OF BULK AT MOST 1048576: true; the input reads as it did. -/
def styleKnownUptoRow : OpenClaim := { program := "ytjmpojoimcljoaa", sum := "f5ede38a29ef7e26fcce50524b83c88a875a09ae7e6d6e258850921e7adb226f", func := "bellarmine/bellarminelaw03.StyleKnown", spec := "styleKnown", unfollowed := true, recurses := true, apart := false, narrowed := true }
def StyleKnownUptoSaid : Prop := styleKnownUptoRow.holds Try.pinned (OpenSpec.upto styleKnownSpec)

/-- 'bellarminelaw03.StyleTucker', WHERE WHAT IT READS IS OF BULK AT MOST 1048576: true; the input reads as it did. -/
def styleTuckerUptoRow : OpenClaim := { program := "ytjmpojoimcljoaa", sum := "f5ede38a29ef7e26fcce50524b83c88a875a09ae7e6d6e258850921e7adb226f", func := "bellarmine/bellarminelaw03.StyleTucker", spec := "styleTucker", unfollowed := true, recurses := true, apart := false, narrowed := true }
def StyleTuckerUptoSaid : Prop := styleTuckerUptoRow.holds Try.pinned (OpenSpec.upto styleTuckerSpec)

/-- 'bellarminelaw03.StyleLeft', WHERE WHAT IT READS IS OF BULK AT MOST 1048576: true; the input reads as it did. -/
def styleLeftUptoRow : OpenClaim := { program := "ytjmpojoimcljoaa", sum := "f5ede38a29ef7e26fcce50524b83c88a875a09ae7e6d6e258850921e7adb226f", func := "bellarmine/bellarminelaw03.StyleLeft", spec := "styleLeft", unfollowed := true, recurses := true, apart := false, narrowed := true }
def StyleLeftUptoSaid : Prop := styleLeftUptoRow.holds Try.pinned (OpenSpec.upto styleLeftSpec)

/-- 'bellarminelaw03.StyleBeside', WHERE WHAT IT READS IS OF BULK AT MOST 1048576: true; the input reads as it did. -/
def styleBesideUptoRow : OpenClaim := { program := "ytjmpojoimcljoaa", sum := "f5ede38a29ef7e26fcce50524b83c88a875a09ae7e6d6e258850921e7adb226f", func := "bellarmine/bellarminelaw03.StyleBeside", spec := "styleBeside", unfollowed := true, recurses := true, apart := false, narrowed := true }
def StyleBesideUptoSaid : Prop := styleBesideUptoRow.holds Try.pinned (OpenSpec.upto styleBesideSpec)

/-- 'bellarminelaw03.StyleMore', WHERE WHAT IT READS IS OF BULK AT MOST 1048576: true; the input reads as it did. -/
def styleMoreUptoRow : OpenClaim := { program := "ytjmpojoimcljoaa", sum := "f5ede38a29ef7e26fcce50524b83c88a875a09ae7e6d6e258850921e7adb226f", func := "bellarmine/bellarminelaw03.StyleMore", spec := "styleMore", unfollowed := true, recurses := true, apart := false, narrowed := true }
def StyleMoreUptoSaid : Prop := styleMoreUptoRow.holds Try.pinned (OpenSpec.upto styleMoreSpec)

/-- 'bellarminelaw03.StyleGaps', WHERE WHAT IT READS IS OF BULK AT MOST 1048576: true; the input reads as it did. -/
def styleGapsUptoRow : OpenClaim := { program := "ytjmpojoimcljoaa", sum := "f5ede38a29ef7e26fcce50524b83c88a875a09ae7e6d6e258850921e7adb226f", func := "bellarmine/bellarminelaw03.StyleGaps", spec := "styleGaps", unfollowed := true, recurses := true, apart := false, narrowed := true }
def StyleGapsUptoSaid : Prop := styleGapsUptoRow.holds Try.pinned (OpenSpec.upto styleGapsSpec)

/-- 'bellarminelaw03.StyleNamed', WHERE WHAT IT READS IS OF BULK AT MOST 1048576: true; the input reads as it did. -/
def styleNamedUptoRow : OpenClaim := { program := "ytjmpojoimcljoaa", sum := "f5ede38a29ef7e26fcce50524b83c88a875a09ae7e6d6e258850921e7adb226f", func := "bellarmine/bellarminelaw03.StyleNamed", spec := "styleNamed", unfollowed := true, recurses := true, apart := false, narrowed := true }
def StyleNamedUptoSaid : Prop := styleNamedUptoRow.holds Try.pinned (OpenSpec.upto styleNamedSpec)

end Rows
end Go.Proofs.Ytjmpojoimcljoaa
