/-
  No cell of these rows narrows 'for every input' (looked for: loops, veiled, ifaces, maps, wideKeys, modest, calm, conditions, laid).
  DERIVED. THE GIVEN ROWS OF THIS SEAT. 12 by the template 'for every input the law returns true; each argument reads behind the call as it read before'; 0 by the template 'total and deterministic' (their statements: YtjbcpggikaeleaaTotals.lean).
  GIVEN WITH THE SEED: the statements are not yours to turn. If you find one false, say at which input.
  Laid BY PROGRAM, IN A SANDBOX (cutbox-rows.mjs): the forced cells as the released guide's own fill.sh prints them over the translation e8fad3ea7e23b109… (all of the seat's roots in one cut). By AI agents, Wed Nov 11 2026. No macro, syntax, notation, axiom, sorry.
-/
import Derived.Test.YtjbcpggikaeleaaChecked
import GoSem.Claim
import GoSem.ClaimJoined
import GoSem.ClaimMapViews
import Derived.JoinedTies
import Derived.KernelRfl
namespace Go.Proofs.Ytjbcpggikaeleaa
/- THE CELL 'sum', in the pinned program and in every row, IS THE sha256 OF THE DUMP (.gsa) THAT YtjbcpggikaeleaaProg.lean LOADS. Nothing in Lean hashes anything: it is a label: what it is worth is what the hold of that sum in a sandbox is worth. -/
noncomputable def Try.pinned : Pinned := { name := "ytjbcpggikaeleaa", sum := "e8fad3ea7e23b109f874ca3eecf2e0a319929f06e7716c49134af464b3b2b783", checked := Try.checked }
namespace Rows
def none {H : Type} : Left H := { results := [], args := [] }

/-- 'bellarminelaw10.TasteShows': WHATEVER THE INPUT: true; the input reads as it did. -/
def tasteShowsSpec : ChangeSpec := { name := "tasteShows", fn := fun _ => fun
  | [d1, d2, d3, d4] => { results := [.lit (.bool true)], args := [d1, d2, d3, d4] }
  | _ => none }
def tasteShowsRow : OpenClaim := { program := "ytjbcpggikaeleaa", sum := "e8fad3ea7e23b109f874ca3eecf2e0a319929f06e7716c49134af464b3b2b783", func := "bellarmine/bellarminelaw10.TasteShows", spec := "tasteShows", unfollowed := true, recurses := true, apart := false }
def TasteShowsSaid : Prop := tasteShowsRow.holds Try.pinned (OpenSpec.ofChange tasteShowsSpec)

/-- ITS FALSE NEIGHBOUR: 'it returns false'. Refute it at one input. -/
def tasteShowsWrong : ChangeSpec := { name := "tasteShows", fn := fun _ => fun
  | [d1, d2, d3, d4] => { results := [.lit (.bool false)], args := [d1, d2, d3, d4] }
  | _ => none }
def TasteShowsWrongFalsely : Prop := tasteShowsRow.holds Try.pinned (OpenSpec.ofChange tasteShowsWrong)

/-- 'bellarminelaw10.TasteRings': WHATEVER THE INPUT: true; the input reads as it did. -/
def tasteRingsSpec : ChangeSpec := { name := "tasteRings", fn := fun _ => fun
  | [d1, d2, d3, d4, d5] => { results := [.lit (.bool true)], args := [d1, d2, d3, d4, d5] }
  | _ => none }
def tasteRingsRow : OpenClaim := { program := "ytjbcpggikaeleaa", sum := "e8fad3ea7e23b109f874ca3eecf2e0a319929f06e7716c49134af464b3b2b783", func := "bellarmine/bellarminelaw10.TasteRings", spec := "tasteRings", unfollowed := true, recurses := true, apart := false }
def TasteRingsSaid : Prop := tasteRingsRow.holds Try.pinned (OpenSpec.ofChange tasteRingsSpec)

/-- ITS FALSE NEIGHBOUR: 'it returns false'. Refute it at one input. -/
def tasteRingsWrong : ChangeSpec := { name := "tasteRings", fn := fun _ => fun
  | [d1, d2, d3, d4, d5] => { results := [.lit (.bool false)], args := [d1, d2, d3, d4, d5] }
  | _ => none }
def TasteRingsWrongFalsely : Prop := tasteRingsRow.holds Try.pinned (OpenSpec.ofChange tasteRingsWrong)

/-- 'bellarminelaw10.TasteNumbers': WHATEVER THE INPUT: true; the input reads as it did. -/
def tasteNumbersSpec : ChangeSpec := { name := "tasteNumbers", fn := fun _ => fun
  | [d1, d2, d3, d4] => { results := [.lit (.bool true)], args := [d1, d2, d3, d4] }
  | _ => none }
def tasteNumbersRow : OpenClaim := { program := "ytjbcpggikaeleaa", sum := "e8fad3ea7e23b109f874ca3eecf2e0a319929f06e7716c49134af464b3b2b783", func := "bellarmine/bellarminelaw10.TasteNumbers", spec := "tasteNumbers", unfollowed := true, recurses := true, apart := false }
def TasteNumbersSaid : Prop := tasteNumbersRow.holds Try.pinned (OpenSpec.ofChange tasteNumbersSpec)

/-- ITS FALSE NEIGHBOUR: 'it returns false'. Refute it at one input. -/
def tasteNumbersWrong : ChangeSpec := { name := "tasteNumbers", fn := fun _ => fun
  | [d1, d2, d3, d4] => { results := [.lit (.bool false)], args := [d1, d2, d3, d4] }
  | _ => none }
def TasteNumbersWrongFalsely : Prop := tasteNumbersRow.holds Try.pinned (OpenSpec.ofChange tasteNumbersWrong)

/-- 'bellarminelaw10.TasteWrong': WHATEVER THE INPUT: true; the input reads as it did. -/
def tasteWrongSpec : ChangeSpec := { name := "tasteWrong", fn := fun _ => fun
  | [d1, d2] => { results := [.lit (.bool true)], args := [d1, d2] }
  | _ => none }
def tasteWrongRow : OpenClaim := { program := "ytjbcpggikaeleaa", sum := "e8fad3ea7e23b109f874ca3eecf2e0a319929f06e7716c49134af464b3b2b783", func := "bellarmine/bellarminelaw10.TasteWrong", spec := "tasteWrong", unfollowed := true, recurses := true, apart := false }
def TasteWrongSaid : Prop := tasteWrongRow.holds Try.pinned (OpenSpec.ofChange tasteWrongSpec)

/-- ITS FALSE NEIGHBOUR: 'it returns false'. Refute it at one input. -/
def tasteWrongWrong : ChangeSpec := { name := "tasteWrong", fn := fun _ => fun
  | [d1, d2] => { results := [.lit (.bool false)], args := [d1, d2] }
  | _ => none }
def TasteWrongWrongFalsely : Prop := tasteWrongRow.holds Try.pinned (OpenSpec.ofChange tasteWrongWrong)

/-- 'bellarminelaw10.TasteKnown': WHATEVER THE INPUT: true; the input reads as it did. -/
def tasteKnownSpec : ChangeSpec := { name := "tasteKnown", fn := fun _ => fun
  | [] => { results := [.lit (.bool true)], args := [] }
  | _ => none }
def tasteKnownRow : OpenClaim := { program := "ytjbcpggikaeleaa", sum := "e8fad3ea7e23b109f874ca3eecf2e0a319929f06e7716c49134af464b3b2b783", func := "bellarmine/bellarminelaw10.TasteKnown", spec := "tasteKnown", unfollowed := true, recurses := true, apart := false }
def TasteKnownSaid : Prop := tasteKnownRow.holds Try.pinned (OpenSpec.ofChange tasteKnownSpec)

/-- ITS FALSE NEIGHBOUR: 'it returns false'. Refute it at one input. -/
def tasteKnownWrong : ChangeSpec := { name := "tasteKnown", fn := fun _ => fun
  | [] => { results := [.lit (.bool false)], args := [] }
  | _ => none }
def TasteKnownWrongFalsely : Prop := tasteKnownRow.holds Try.pinned (OpenSpec.ofChange tasteKnownWrong)

/-- 'bellarminelaw10.TasteAfriat': WHATEVER THE INPUT: true; the input reads as it did. -/
def tasteAfriatSpec : ChangeSpec := { name := "tasteAfriat", fn := fun _ => fun
  | [d1, d2, d3] => { results := [.lit (.bool true)], args := [d1, d2, d3] }
  | _ => none }
def tasteAfriatRow : OpenClaim := { program := "ytjbcpggikaeleaa", sum := "e8fad3ea7e23b109f874ca3eecf2e0a319929f06e7716c49134af464b3b2b783", func := "bellarmine/bellarminelaw10.TasteAfriat", spec := "tasteAfriat", unfollowed := true, recurses := true, apart := false }
def TasteAfriatSaid : Prop := tasteAfriatRow.holds Try.pinned (OpenSpec.ofChange tasteAfriatSpec)

/-- ITS FALSE NEIGHBOUR: 'it returns false'. Refute it at one input. -/
def tasteAfriatWrong : ChangeSpec := { name := "tasteAfriat", fn := fun _ => fun
  | [d1, d2, d3] => { results := [.lit (.bool false)], args := [d1, d2, d3] }
  | _ => none }
def TasteAfriatWrongFalsely : Prop := tasteAfriatRow.holds Try.pinned (OpenSpec.ofChange tasteAfriatWrong)

/-- 'bellarminelaw10.TasteRinged': WHATEVER THE INPUT: true; the input reads as it did. -/
def tasteRingedSpec : ChangeSpec := { name := "tasteRinged", fn := fun _ => fun
  | [d] => { results := [.lit (.bool true)], args := [d] }
  | _ => none }
def tasteRingedRow : OpenClaim := { program := "ytjbcpggikaeleaa", sum := "e8fad3ea7e23b109f874ca3eecf2e0a319929f06e7716c49134af464b3b2b783", func := "bellarmine/bellarminelaw10.TasteRinged", spec := "tasteRinged", unfollowed := true, recurses := true, apart := false }
def TasteRingedSaid : Prop := tasteRingedRow.holds Try.pinned (OpenSpec.ofChange tasteRingedSpec)

/-- ITS FALSE NEIGHBOUR: 'it returns false'. Refute it at one input. -/
def tasteRingedWrong : ChangeSpec := { name := "tasteRinged", fn := fun _ => fun
  | [d] => { results := [.lit (.bool false)], args := [d] }
  | _ => none }
def TasteRingedWrongFalsely : Prop := tasteRingedRow.holds Try.pinned (OpenSpec.ofChange tasteRingedWrong)

/-- 'bellarminelaw10.TasteShown': WHATEVER THE INPUT: true; the input reads as it did. -/
def tasteShownSpec : ChangeSpec := { name := "tasteShown", fn := fun _ => fun
  | [d1, d2, d3] => { results := [.lit (.bool true)], args := [d1, d2, d3] }
  | _ => none }
def tasteShownRow : OpenClaim := { program := "ytjbcpggikaeleaa", sum := "e8fad3ea7e23b109f874ca3eecf2e0a319929f06e7716c49134af464b3b2b783", func := "bellarmine/bellarminelaw10.TasteShown", spec := "tasteShown", unfollowed := true, recurses := true, apart := false }
def TasteShownSaid : Prop := tasteShownRow.holds Try.pinned (OpenSpec.ofChange tasteShownSpec)

/-- ITS FALSE NEIGHBOUR: 'it returns false'. Refute it at one input. -/
def tasteShownWrong : ChangeSpec := { name := "tasteShown", fn := fun _ => fun
  | [d1, d2, d3] => { results := [.lit (.bool false)], args := [d1, d2, d3] }
  | _ => none }
def TasteShownWrongFalsely : Prop := tasteShownRow.holds Try.pinned (OpenSpec.ofChange tasteShownWrong)

/-- 'bellarminelaw10.TasteLeft': WHATEVER THE INPUT: true; the input reads as it did. -/
def tasteLeftSpec : ChangeSpec := { name := "tasteLeft", fn := fun _ => fun
  | [d] => { results := [.lit (.bool true)], args := [d] }
  | _ => none }
def tasteLeftRow : OpenClaim := { program := "ytjbcpggikaeleaa", sum := "e8fad3ea7e23b109f874ca3eecf2e0a319929f06e7716c49134af464b3b2b783", func := "bellarmine/bellarminelaw10.TasteLeft", spec := "tasteLeft", unfollowed := true, recurses := true, apart := false }
def TasteLeftSaid : Prop := tasteLeftRow.holds Try.pinned (OpenSpec.ofChange tasteLeftSpec)

/-- ITS FALSE NEIGHBOUR: 'it returns false'. Refute it at one input. -/
def tasteLeftWrong : ChangeSpec := { name := "tasteLeft", fn := fun _ => fun
  | [d] => { results := [.lit (.bool false)], args := [d] }
  | _ => none }
def TasteLeftWrongFalsely : Prop := tasteLeftRow.holds Try.pinned (OpenSpec.ofChange tasteLeftWrong)

/-- 'bellarminelaw10.TasteRanked': WHATEVER THE INPUT: true; the input reads as it did. -/
def tasteRankedSpec : ChangeSpec := { name := "tasteRanked", fn := fun _ => fun
  | [d] => { results := [.lit (.bool true)], args := [d] }
  | _ => none }
def tasteRankedRow : OpenClaim := { program := "ytjbcpggikaeleaa", sum := "e8fad3ea7e23b109f874ca3eecf2e0a319929f06e7716c49134af464b3b2b783", func := "bellarmine/bellarminelaw10.TasteRanked", spec := "tasteRanked", unfollowed := true, recurses := true, apart := false }
def TasteRankedSaid : Prop := tasteRankedRow.holds Try.pinned (OpenSpec.ofChange tasteRankedSpec)

/-- ITS FALSE NEIGHBOUR: 'it returns false'. Refute it at one input. -/
def tasteRankedWrong : ChangeSpec := { name := "tasteRanked", fn := fun _ => fun
  | [d] => { results := [.lit (.bool false)], args := [d] }
  | _ => none }
def TasteRankedWrongFalsely : Prop := tasteRankedRow.holds Try.pinned (OpenSpec.ofChange tasteRankedWrong)

/-- 'bellarminelaw10.TasteNamed': WHATEVER THE INPUT: true; the input reads as it did. -/
def tasteNamedSpec : ChangeSpec := { name := "tasteNamed", fn := fun _ => fun
  | [d1, d2, d3] => { results := [.lit (.bool true)], args := [d1, d2, d3] }
  | _ => none }
def tasteNamedRow : OpenClaim := { program := "ytjbcpggikaeleaa", sum := "e8fad3ea7e23b109f874ca3eecf2e0a319929f06e7716c49134af464b3b2b783", func := "bellarmine/bellarminelaw10.TasteNamed", spec := "tasteNamed", unfollowed := true, recurses := true, apart := false }
def TasteNamedSaid : Prop := tasteNamedRow.holds Try.pinned (OpenSpec.ofChange tasteNamedSpec)

/-- ITS FALSE NEIGHBOUR: 'it returns false'. Refute it at one input. -/
def tasteNamedWrong : ChangeSpec := { name := "tasteNamed", fn := fun _ => fun
  | [d1, d2, d3] => { results := [.lit (.bool false)], args := [d1, d2, d3] }
  | _ => none }
def TasteNamedWrongFalsely : Prop := tasteNamedRow.holds Try.pinned (OpenSpec.ofChange tasteNamedWrong)

/-- 'bellarminelaw10.TasteMore': WHATEVER THE INPUT: true; the input reads as it did. -/
def tasteMoreSpec : ChangeSpec := { name := "tasteMore", fn := fun _ => fun
  | [d1, d2] => { results := [.lit (.bool true)], args := [d1, d2] }
  | _ => none }
def tasteMoreRow : OpenClaim := { program := "ytjbcpggikaeleaa", sum := "e8fad3ea7e23b109f874ca3eecf2e0a319929f06e7716c49134af464b3b2b783", func := "bellarmine/bellarminelaw10.TasteMore", spec := "tasteMore", unfollowed := true, recurses := true, apart := false }
def TasteMoreSaid : Prop := tasteMoreRow.holds Try.pinned (OpenSpec.ofChange tasteMoreSpec)

/-- ITS FALSE NEIGHBOUR: 'it returns false'. Refute it at one input. -/
def tasteMoreWrong : ChangeSpec := { name := "tasteMore", fn := fun _ => fun
  | [d1, d2] => { results := [.lit (.bool false)], args := [d1, d2] }
  | _ => none }
def TasteMoreWrongFalsely : Prop := tasteMoreRow.holds Try.pinned (OpenSpec.ofChange tasteMoreWrong)

/- THE SECOND FORM. 'bulk': how many values and letters a reading holds, each counted each time it is reached (what is shared counts as often as it is met; a slice's spare places count too). A statement '..UptoSaid' is the law's where the arguments, and the package variables that the reading takes, are together of bulk at most 1048576: NARROWER than '..Said'. Prove '..Said' where nothing that the law and all that it calls make is longer than what came in: it says more and counts as full. Else prove '..UptoSaid'. A law counts once. -/
mutual
def uptoBulk {H : Type} : DataW H → Nat
  | .lit (.string bytes) => bytes.length + 1
  | .lit _ => 1
  | .nil => 1
  | .ptr d => uptoBulk d + 1
  | .slice elems spare => uptoBulkAll elems + uptoBulkAll spare + 1
  | .agg parts => uptoBulkAll parts + 1
  | .iface _ d => uptoBulk d + 1
  | .map entries => uptoBulkEntries entries + 1
  | .held _ => 1
def uptoBulkAll {H : Type} : List (DataW H) → Nat
  | [] => 0
  | d :: r => uptoBulk d + uptoBulkAll r
def uptoBulkEntries {H : Type} : List (Lit × DataW H) → Nat
  | [] => 0
  | x :: r => uptoBulkEntry x + uptoBulkEntries r
def uptoBulkEntry {H : Type} : Lit × DataW H → Nat
  | (.string bytes, d) => bytes.length + uptoBulk d + 1
  | (_, d) => uptoBulk d + 1
 end
def uptoSmall : (H : Type) → List (DataW H) → Bool := fun _ ds => decide (uptoBulkAll ds ≤ 1048576)
def OpenSpec.upto (s : _root_.Go.ChangeSpec) : _root_.Go.OpenSpec := { _root_.Go.OpenSpec.ofChange s with cond := some uptoSmall }

/-- 'bellarminelaw10.TasteShows', WHERE WHAT IT READS IS OF BULK AT MOST 1048576: true; the input reads as it did. -/
def tasteShowsUptoRow : OpenClaim := { program := "ytjbcpggikaeleaa", sum := "e8fad3ea7e23b109f874ca3eecf2e0a319929f06e7716c49134af464b3b2b783", func := "bellarmine/bellarminelaw10.TasteShows", spec := "tasteShows", unfollowed := true, recurses := true, apart := false, narrowed := true }
def TasteShowsUptoSaid : Prop := tasteShowsUptoRow.holds Try.pinned (OpenSpec.upto tasteShowsSpec)

/-- 'bellarminelaw10.TasteRings', WHERE WHAT IT READS IS OF BULK AT MOST 1048576: true; the input reads as it did. -/
def tasteRingsUptoRow : OpenClaim := { program := "ytjbcpggikaeleaa", sum := "e8fad3ea7e23b109f874ca3eecf2e0a319929f06e7716c49134af464b3b2b783", func := "bellarmine/bellarminelaw10.TasteRings", spec := "tasteRings", unfollowed := true, recurses := true, apart := false, narrowed := true }
def TasteRingsUptoSaid : Prop := tasteRingsUptoRow.holds Try.pinned (OpenSpec.upto tasteRingsSpec)

/-- 'bellarminelaw10.TasteNumbers', WHERE WHAT IT READS IS OF BULK AT MOST 1048576: true; the input reads as it did. -/
def tasteNumbersUptoRow : OpenClaim := { program := "ytjbcpggikaeleaa", sum := "e8fad3ea7e23b109f874ca3eecf2e0a319929f06e7716c49134af464b3b2b783", func := "bellarmine/bellarminelaw10.TasteNumbers", spec := "tasteNumbers", unfollowed := true, recurses := true, apart := false, narrowed := true }
def TasteNumbersUptoSaid : Prop := tasteNumbersUptoRow.holds Try.pinned (OpenSpec.upto tasteNumbersSpec)

/-- 'bellarminelaw10.TasteWrong', WHERE WHAT IT READS IS OF BULK AT MOST 1048576: true; the input reads as it did. -/
def tasteWrongUptoRow : OpenClaim := { program := "ytjbcpggikaeleaa", sum := "e8fad3ea7e23b109f874ca3eecf2e0a319929f06e7716c49134af464b3b2b783", func := "bellarmine/bellarminelaw10.TasteWrong", spec := "tasteWrong", unfollowed := true, recurses := true, apart := false, narrowed := true }
def TasteWrongUptoSaid : Prop := tasteWrongUptoRow.holds Try.pinned (OpenSpec.upto tasteWrongSpec)

/-- 'bellarminelaw10.TasteKnown', WHERE WHAT IT READS IS OF BULK AT MOST 1048576: true; the input reads as it did. -/
def tasteKnownUptoRow : OpenClaim := { program := "ytjbcpggikaeleaa", sum := "e8fad3ea7e23b109f874ca3eecf2e0a319929f06e7716c49134af464b3b2b783", func := "bellarmine/bellarminelaw10.TasteKnown", spec := "tasteKnown", unfollowed := true, recurses := true, apart := false, narrowed := true }
def TasteKnownUptoSaid : Prop := tasteKnownUptoRow.holds Try.pinned (OpenSpec.upto tasteKnownSpec)

/-- 'bellarminelaw10.TasteAfriat', WHERE WHAT IT READS IS OF BULK AT MOST 1048576: true; the input reads as it did. -/
def tasteAfriatUptoRow : OpenClaim := { program := "ytjbcpggikaeleaa", sum := "e8fad3ea7e23b109f874ca3eecf2e0a319929f06e7716c49134af464b3b2b783", func := "bellarmine/bellarminelaw10.TasteAfriat", spec := "tasteAfriat", unfollowed := true, recurses := true, apart := false, narrowed := true }
def TasteAfriatUptoSaid : Prop := tasteAfriatUptoRow.holds Try.pinned (OpenSpec.upto tasteAfriatSpec)

/-- 'bellarminelaw10.TasteRinged', WHERE WHAT IT READS IS OF BULK AT MOST 1048576: true; the input reads as it did. -/
def tasteRingedUptoRow : OpenClaim := { program := "ytjbcpggikaeleaa", sum := "e8fad3ea7e23b109f874ca3eecf2e0a319929f06e7716c49134af464b3b2b783", func := "bellarmine/bellarminelaw10.TasteRinged", spec := "tasteRinged", unfollowed := true, recurses := true, apart := false, narrowed := true }
def TasteRingedUptoSaid : Prop := tasteRingedUptoRow.holds Try.pinned (OpenSpec.upto tasteRingedSpec)

/-- 'bellarminelaw10.TasteShown', WHERE WHAT IT READS IS OF BULK AT MOST 1048576: true; the input reads as it did. -/
def tasteShownUptoRow : OpenClaim := { program := "ytjbcpggikaeleaa", sum := "e8fad3ea7e23b109f874ca3eecf2e0a319929f06e7716c49134af464b3b2b783", func := "bellarmine/bellarminelaw10.TasteShown", spec := "tasteShown", unfollowed := true, recurses := true, apart := false, narrowed := true }
def TasteShownUptoSaid : Prop := tasteShownUptoRow.holds Try.pinned (OpenSpec.upto tasteShownSpec)

/-- 'bellarminelaw10.TasteLeft', WHERE WHAT IT READS IS OF BULK AT MOST 1048576: true; the input reads as it did. -/
def tasteLeftUptoRow : OpenClaim := { program := "ytjbcpggikaeleaa", sum := "e8fad3ea7e23b109f874ca3eecf2e0a319929f06e7716c49134af464b3b2b783", func := "bellarmine/bellarminelaw10.TasteLeft", spec := "tasteLeft", unfollowed := true, recurses := true, apart := false, narrowed := true }
def TasteLeftUptoSaid : Prop := tasteLeftUptoRow.holds Try.pinned (OpenSpec.upto tasteLeftSpec)

/-- 'bellarminelaw10.TasteRanked', WHERE WHAT IT READS IS OF BULK AT MOST 1048576: true; the input reads as it did. -/
def tasteRankedUptoRow : OpenClaim := { program := "ytjbcpggikaeleaa", sum := "e8fad3ea7e23b109f874ca3eecf2e0a319929f06e7716c49134af464b3b2b783", func := "bellarmine/bellarminelaw10.TasteRanked", spec := "tasteRanked", unfollowed := true, recurses := true, apart := false, narrowed := true }
def TasteRankedUptoSaid : Prop := tasteRankedUptoRow.holds Try.pinned (OpenSpec.upto tasteRankedSpec)

/-- 'bellarminelaw10.TasteNamed', WHERE WHAT IT READS IS OF BULK AT MOST 1048576: true; the input reads as it did. -/
def tasteNamedUptoRow : OpenClaim := { program := "ytjbcpggikaeleaa", sum := "e8fad3ea7e23b109f874ca3eecf2e0a319929f06e7716c49134af464b3b2b783", func := "bellarmine/bellarminelaw10.TasteNamed", spec := "tasteNamed", unfollowed := true, recurses := true, apart := false, narrowed := true }
def TasteNamedUptoSaid : Prop := tasteNamedUptoRow.holds Try.pinned (OpenSpec.upto tasteNamedSpec)

/-- 'bellarminelaw10.TasteMore', WHERE WHAT IT READS IS OF BULK AT MOST 1048576: true; the input reads as it did. -/
def tasteMoreUptoRow : OpenClaim := { program := "ytjbcpggikaeleaa", sum := "e8fad3ea7e23b109f874ca3eecf2e0a319929f06e7716c49134af464b3b2b783", func := "bellarmine/bellarminelaw10.TasteMore", spec := "tasteMore", unfollowed := true, recurses := true, apart := false, narrowed := true }
def TasteMoreUptoSaid : Prop := tasteMoreUptoRow.holds Try.pinned (OpenSpec.upto tasteMoreSpec)

end Rows
end Go.Proofs.Ytjbcpggikaeleaa
