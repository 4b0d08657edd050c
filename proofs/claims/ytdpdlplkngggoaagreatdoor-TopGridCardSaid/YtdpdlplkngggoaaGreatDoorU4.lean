/-
  WHAT IS PROVED HERE, TEXT BY TEXT (several texts of one prover, joined to one file; the conditions stand in each statement):
  * WHAT IS SAID HERE, WITH PLAIN LAWS: colours of points, found one after another, and rings of an odd number of points: all are tried; what they come to on the maps of six small shores. No program in sight.
  * WHAT IS PROVED HERE: an argument that reads as data is, in the world at the start, a value that stands for a plain list, number, or pair (V of Wk2). Conditions: the types' closed facts, as hypotheses.
  * WHAT IS PROVED HERE: pairs of numbers as they are read at the start. Conditions: the types' closed facts, as hypotheses.
  * WHAT IS PROVED HERE: maps of the call's own, made, read and written: a list of keys with values, in the order in which the keys came. Conditions stand in each statement; they hold over any program.
  * WHAT IS SAID HERE, WITH PLAIN LAWS: the lines of six small shores, numbered in a map, and what lies around each place. No program in sight.
  * WHAT IS PROVED HERE: plain laws of the tree of a small shore, gone through joint by joint: joints with the river are counted, lines are kept. No program in sight.
  * WHAT IS PROVED HERE: plain laws of the lines of a small shore that are taken away, the last one first. No program in sight.
  * WHAT IS PROVED HERE: a struct that is somebody else's variable, loaded whole. The conditions stand in each statement; they hold over any program.
  * DERIVED: THE SHELF's CONTRACTS AT THIS DUMP, IN PLAIN WORDS (tools/lay-plain.mjs out of 'TryzShelf.lean', which tools/lay-shelf.mjs wrote): THE SAME DECLARATIONS UNDER THE SAME NAMES: 'import', 'namespace', 'open', 'def', 'theorem' AND NOTHING ELSE: no command of the shelf's: FOR A HAND-IN. Each laying: the table of numbers ('.._ren') and one theorem, a field a fact of the dump's own or the kernel's comparison; each contract: ONE APPLICATION.
  * WHAT IS SAID HERE: the package's list of other ends reads as the program's text lays it.
  * WHAT IS SAID HERE, WITH PLAIN LAWS: the bits of the points near a point, step by step. No program in sight.
  * WHAT IS SAID HERE, WITH PLAIN LAWS: the search for colours, step by step. No program in sight.
  * WHAT IS SAID HERE, WITH PLAIN LAWS: the search for a ring of so many points, a call at a time. No program in sight.
  * WHAT IS SAID HERE, WITH PLAIN LAWS: things divided between heirs: what one holds is worth to another, who is an enemy, turns. No program in sight.
  * WHAT IS SAID HERE, WITH PLAIN LAWS: turns, and the whole run. No program in sight.
  * WHAT IS SAID HERE, WITH PLAIN LAWS: the example of chapter 9. No program in sight.
  * WHAT IS SAID HERE, WITH PLAIN LAWS: what the statement of TopGrid goes through, step by step. No program in sight.
  * WHAT IS PROVED HERE: a region of all orders, with operations that are carried out just if a guard says so. Nothing here speaks of a program.
  * WHAT IS PROVED HERE: maps of the call's own: what is found, and whether; how many entries. Nothing here speaks of a program.
  * WHAT IS PROVED HERE: what functions hand back, each out of its own code; the conditions stand in each statement.
  * WHAT IS SAID HERE: plain functions: what the functions of layer 3 compute, of the package and of the reference.
  * WHAT IS SAID HERE: plain functions: the first order, pairs of layers, layers reached, three layers apart, the fewest forms to leave out, of layer 3's package.
  * WHAT IS SAID HERE: plain functions: what the functions of layer 3's reference compute.
  * WHAT IS SAID HERE: plain functions: forms left out, of layer 3's reference.
  * WHAT IS SAID HERE: plain functions: finds and orders made by numbers, of the statements that stand without the reference.
  * WHAT IS SAID HERE: plain functions: three layers apart, by labels, and what StyleTucker says of finds.
  * WHAT IS SAID HERE: plain laws of lists that the walks of StyleTucker and of the statements behind it ask for. Conditions stand in each statement.
  * WHAT IS PROVED HERE: what functions hand back, each out of its own code; the conditions stand in each statement.
  * WHAT IS PROVED HERE: what functions hand back, each out of its own code; the conditions stand in each statement.
  * WHAT IS PROVED HERE: what functions hand back, each out of its own code; the conditions stand in each statement.
  * WHAT IS PROVED HERE: what functions hand back, each out of its own code; the conditions stand in each statement.
-/
import Derived.Test.YtdpdlplkngggoaaGreatDoorU3
import Derived.Test.YtdpdlplkngggoaaGreatDoorU1
import Derived.Deep.Slices
import Derived.Deep.Strs
import Derived.Lib.SmallJoins
import Derived.OpenShut
import Derived.Carry
import Derived.ProofKit
import Derived.ChangeMaps5
import Derived.MapKept
import Derived.ChangeMaps4
import Derived.Test.YtdpdlplkngggoaaGreatDoorU2
import Derived.Shelf.Strings.Builder1
import Derived.Shelf.Small.Utf8
import Derived.Shelf.Small.Bits
import Derived.Shelf.Small.Strs
import Derived.Shelf.Strings.BuilderF
import Derived.Shelf.Strings.BuilderK
import Derived.Shelf.Strconv.Itoa0
import Derived.Shelf.Strings.Search1
import Derived.Shelf.Unicode.Latin
import Derived.Shelf.Unicode.Props
import Derived.Shelf.Strings.Runes
import Derived.Shelf.Unicode.Is16White
import Derived.Shelf.Unicode.IsSpaceAny
import Derived.Shelf.Unicode.CaseLookup
import Derived.Shelf.Unicode.CaseConvert
import Derived.Shelf.Unicode.CaseTo
import Derived.Shelf.Unicode.CaseLaid
import Derived.Shelf.Unicode.Is16Any
import Derived.Shelf.Unicode.Is32Any
import Derived.Shelf.Unicode.ExclAny
import Derived.Shelf.Unicode.PredsAny
import Derived.Shelf.Unicode.PredsPay
import Derived.Shelf.SlSortCmp.WholeK
import Derived.Shelf.SlSortCmp.NoneTotal
import Derived.Ground.SlsfProg
import Derived.Test.YtdpdlplkngggoaaGreatDoorProg
import Derived.Laws.BitsAllLaws

set_option linter.unusedVariables false
set_option linter.unusedSimpArgs false

namespace Go.Proofs.YtdpdlplkngggoaaGreatDoor
open Go.Wk Go.RowKit
set_option linter.unusedVariables false
def nearS (t : Tab) (out : List Int) (e : Int) : List Int := out.set (tpF t e).toNat (bits .or .u32 (ix 0 out (tpF t e)) (IntKind.u32.wrap (1 * 2 ^ min (tpF t (ix 0 othL e)).toNat IntKind.u32.bits)))
def nearK (t : Tab) (k : Int) : List Int := (rng 0 k).foldl (nearS t) (List.replicate (tnN t).toNat 0)
def nearV (t : Tab) : List Int := nearK t (teN t)
def bitN (l q : Int) : Bool := decide (bits .and .u32 (l / 2 ^ min q.toNat IntKind.u32.bits) 1 = 1)
def loopV (t : Tab) : Bool := (rng 0 (tnN t)).any fun p => bitN (ix 0 (nearV t) p) p
def clashV (near out : List Int) (p k : Int) : Bool := (rng 0 k).any fun q => decide (ix 0 out q = ix 0 out p) && bitN (ix 0 near p) q
def colR (near : List Int) (pts most : Int) : Nat → Bool → Int → List Int → Option (Option (List Int))
  | 0, _, _, _ => none
  | n + 1, false, p, out => if pts ≤ p then some (some out) else if clashV near out p p = false ∧ ix 0 out p < most then colR near pts most n false (p + 1) out else colR near pts most n true p (out.set p.toNat (ix 0 out p + 1))
  | n + 1, true, p, out => if most ≤ ix 0 out p then (if p - 1 < 0 then some none else colR near pts most n true (p - 1) ((out.set p.toNat 0).set (p - 1).toNat (ix 0 (out.set p.toNat 0) (p - 1) + 1))) else colR near pts most n false p out
def putR (near : List Int) (pts many : Int) : Nat → List Int → Int → Bool
  | 0, _, _ => false
  | n + 1, l, met => if (l.length : Int) = many then bitN (ix 0 near (ix 0 l 0)) (ix 0 l (l.length - 1)) else (rng 0 pts).any fun p => (!(bitN met p) && (decide ((l.length : Int) = 0) || bitN (ix 0 near (ix 0 l (l.length - 1))) p)) && putR near pts many n (l ++ [p]) (bits .or .u32 met (IntKind.u32.wrap (1 * 2 ^ min p.toNat IntKind.u32.bits)))
def oddR (near : List Int) (pts : Int) : Bool := [3, 5, 7].any fun many => decide (many ≤ pts) && putR near pts many 9 [] 0
def colOK (s : Ends) : Bool := (!(loopV (tabV (gridM s.1 s.2))) && decide (2 ≤ tnN (tabV (gridM s.1 s.2)))) && (decide (colR (nearV (tabV (gridM s.1 s.2))) (tnN (tabV (gridM s.1 s.2))) 1 50 false 0 (List.replicate (tnN (tabV (gridM s.1 s.2))).toNat 0) = some none) && ((colR (nearV (tabV (gridM s.1 s.2))) (tnN (tabV (gridM s.1 s.2))) 2 50 false 0 (List.replicate (tnN (tabV (gridM s.1 s.2))).toNat 0)).any (fun r => r.isSome) && !(oddR (nearV (tabV (gridM s.1 s.2))) (tnN (tabV (gridM s.1 s.2))))))
theorem col_ok : sizeL.all colOK = true := by decide +kernel
end Go.Proofs.YtdpdlplkngggoaaGreatDoor

namespace Go.Wk
open Go.RowKit Go.ChangeShapes

section
variable {H : Type} {enc : TypeId × Value → H} {P : Program} {W : World}

theorem inK_of_wf {k : IntKind} {n : Int} (h : (Lit.int k n).wf = true) : InK k n := by
  cases k <;> simp [Lit.wf, IntKind.min, IntKind.max, IntKind.bits, IntKind.signed] at h <;> simp only [InK, lo, hi] <;> omega

structure Rds {α : Type} (enc : TypeId × Value → H) (P : Program) (W : World) (t : Ty α) (e : TypeId) : Prop where
  n : P.cellsOf e = t.n
  pos : 0 < t.n
  get : ∀ fuel cs x, DataW.trod enc P W 0 (fun _ => true) true fuel e cs = some x → ∃ y, t.rep [] W y cs

theorem list_of {α : Type} {p : Nat → α → Prop} : ∀ n : Nat, (∀ i, i < n → ∃ y, p i y) → ∃ ys : List α, ys.length = n ∧ ∀ i y, ys[i]? = some y → p i y
  | 0, _ => ⟨[], rfl, by simp⟩
  | n + 1, h => by
    obtain ⟨ys, h1, h2⟩ := list_of n (fun i hi => h i (by omega))
    obtain ⟨y, hy⟩ := h n (by omega)
    refine ⟨ys ++ [y], by simp [h1], fun i z hz => ?_⟩
    by_cases hi : i < ys.length
    · rw [List.getElem?_append_left hi] at hz; exact h2 i z hz
    · rw [List.getElem?_append_right (by omega)] at hz
      have : i - ys.length = 0 := by
        rcases Nat.eq_zero_or_pos (i - ys.length) with h | h
        · exact h
        · rw [List.getElem?_eq_none (by simp; omega)] at hz; cases hz
      rw [this] at hz
      simp at hz
      subst hz
      have : i = n := by omega
      rw [this]; exact hy

def RdI (enc : TypeId × Value → H) (P : Program) (W : World) (k : IntKind) (m : Nat) (e : TypeId) : Prop :=
  ∀ fuel cs x, DataW.trod enc P W 0 (fun _ => true) true fuel e cs = some x → ∃ zs : List Int, zs.length = m ∧ cs = zs.map (Value.int k) ∧ ∀ z ∈ zs, InK k z
theorem RdI.array {k : IntKind} {n : Nat} {e t : TypeId} (hu : P.underlying t = some (.array n e)) (he : P.underlying e = some (.int k)) (hc : P.cellsOf e = 1) (hn : P.cellsOf t = n) : RdI enc P W k n t := by
  intro fuel cs x h
  obtain ⟨xs, m, _, _, hl, hx, hel⟩ := DataW.trod_array hu h
  rw [hc] at hel
  rw [hn] at hl
  have h1 : ∀ i, i < n → ∃ z, cs[i]? = some (.int k z) ∧ InK k z := by
    intro i hi
    have := hel i hi
    cases hxi : xs[i]? with
    | none => rw [List.getElem?_eq_none_iff] at hxi; omega
    | some y =>
      rw [hxi] at this
      obtain ⟨z, hz, _, hw⟩ := DataW.trod_int he this
      refine ⟨z, ?_, inK_of_wf hw⟩
      have h2 := congrArg (fun l : List Value => l[0]?) hz
      simp only [List.getElem?_take, List.getElem?_drop] at h2
      simpa using h2
  obtain ⟨zs, z1, z2⟩ := list_of (p := fun i z => cs[i]? = some (.int k z) ∧ InK k z) n h1
  refine ⟨zs, z1, List.ext_getElem? fun i => ?_, fun z hz => ?_⟩
  · rw [List.getElem?_map]
    by_cases hi : i < n
    · have hzi : zs[i]? = some zs[i] := List.getElem?_eq_getElem (by omega)
      rw [hzi, (z2 i _ hzi).1]; rfl
    · rw [List.getElem?_eq_none (by omega), List.getElem?_eq_none (by omega)]; rfl
  · obtain ⟨i, hi⟩ := List.getElem?_of_mem hz
    exact (z2 i z hi).2
theorem RdI.v {k : IntKind} {t : TypeId} {m : Nat} {cs : Array Value} {d : DataW H} {p : List MemPlace} (h : RdI enc P W k m t) (hx : DataW.Trod enc P W 0 (fun _ => true) true t (.agg cs) d p) : ∃ zs : List Int, zs.length = m ∧ cs = (zs.map (Value.int k)).toArray ∧ ∀ z ∈ zs, InK k z := by
  obtain ⟨fuel, hf⟩ := hx
  obtain ⟨zs, h1, h2, h3⟩ := h _ _ _ hf
  refine ⟨zs, h1, ?_, h3⟩
  rw [← h2]
  simp [Value.cells]
end
end Go.Wk

namespace Go.Wk
open Go.RowKit Go.ChangeShapes
section
variable {H : Type} {enc : TypeId × Value → H} {P : Program} {W : World}
end
section
variable {P : Program} {σ : Fr} {w : World} {x y : Operand} {ty T T' : TypeId}
end
end Go.Wk

namespace Go.Wk
open Go.RowKit Go.Lib Go.ChangeMaps
set_option linter.unusedVariables false
set_option linter.unusedSimpArgs false
set_option linter.unusedSectionVars false

section
variable {κ ν : Type} [DecidableEq κ]
def mE (f : κ → Value) (g : ν → Value) : List (κ × ν) → Nat → List MapEntry
  | [], _ => []
  | p :: m, i => ⟨f p.1, g p.2, i⟩ :: mE f g m (i + 1)
def mget (z : ν) : List (κ × ν) → κ → ν
  | [], _ => z
  | p :: m, k => if p.1 = k then p.2 else mget z m k
def mput : List (κ × ν) → κ → ν → List (κ × ν)
  | [], k, v => [(k, v)]
  | p :: m, k, v => if p.1 = k then (p.1, v) :: m else p :: mput m k v
def mfind : List (κ × ν) → κ → Nat → Option (Nat × ν)
  | [], _, _ => none
  | p :: m, k, i => if p.1 = k then some (i, p.2) else mfind m k (i + 1)
theorem mget_mput (z : ν) : ∀ (m : List (κ × ν)) (k : κ) (v : ν) (q : κ), mget z (mput m k v) q = if q = k then v else mget z m q
  | [], k, v, q => by
    simp only [mput, mget]
    by_cases h : k = q
    · rw [if_pos h, if_pos h.symm]
    · rw [if_neg h, if_neg fun e => h e.symm]
  | p :: m, k, v, q => by
    rw [mput]
    by_cases h : p.1 = k
    · rw [if_pos h, mget, mget]
      by_cases hq : p.1 = q
      · rw [if_pos hq, if_pos (by rw [← hq]; exact h)]
      · rw [if_neg hq, if_neg (fun e => hq (by rw [e]; exact h)), if_neg hq]
    · rw [if_neg h, mget, mget, mget_mput z m k v q]
      by_cases hq : p.1 = q
      · rw [if_pos hq, if_neg (fun e => h (by rw [← e]; exact hq)), if_pos hq]
      · rw [if_neg hq, if_neg hq]
theorem mfind_get (z : ν) : ∀ (m : List (κ × ν)) (k : κ) (i : Nat), mget z m k = ((mfind m k i).map (·.2)).getD z
  | [], _, _ => rfl
  | p :: m, k, i => by
    rw [mget, mfind]
    split
    · rfl
    · exact mfind_get z m k (i + 1)
theorem mE_len (f : κ → Value) (g : ν → Value) : ∀ (m : List (κ × ν)) (i : Nat), (mE f g m i).length = m.length
  | [], _ => rfl
  | _ :: m, i => by rw [mE, List.length_cons, List.length_cons, mE_len f g m (i + 1)]
theorem mfind_ge : ∀ (m : List (κ × ν)) (k : κ) (i : Nat) (x : Nat × ν), mfind m k i = some x → i ≤ x.1
  | [], _, _, _, h => by cases h
  | p :: m, k, i, x, h => by
    rw [mfind] at h
    split at h
    · cases h; exact Nat.le_refl _
    · have := mfind_ge m k (i + 1) x h; omega
theorem mE_found (f : κ → Value) (g : ν → Value) : ∀ (m : List (κ × ν)) (k : κ) (v : ν) (i j : Nat) (x : Nat × ν), mfind m k j = some x →
    (mE f g m i)[x.1 - j]? = some ⟨f k, g x.2, i + (x.1 - j)⟩ ∧ mE f g (mput m k v) i = (mE f g m i).modify (x.1 - j) (fun e => { e with key := f k, val := g v })
  | [], _, _, _, _, _, h => by cases h
  | p :: m, k, v, i, j, x, h => by
    rw [mfind] at h
    by_cases hp : p.1 = k
    · rw [if_pos hp] at h
      cases h
      rw [mput, if_pos hp, Nat.sub_self, ← hp]
      exact ⟨rfl, by simp [mE]⟩
    · rw [if_neg hp] at h
      have hge := mfind_ge m k (j + 1) x h
      obtain ⟨h1, h2⟩ := mE_found f g m k v (i + 1) (j + 1) x h
      obtain ⟨q, hq⟩ : ∃ q, x.1 = j + 1 + q := ⟨x.1 - (j + 1), by omega⟩
      rw [hq] at h1 h2 ⊢
      rw [show j + 1 + q - j = q + 1 by omega]
      rw [show j + 1 + q - (j + 1) = q by omega] at h1 h2
      refine ⟨?_, ?_⟩
      · rw [mE, List.getElem?_cons_succ, h1, show i + 1 + q = i + (q + 1) by omega]
      · rw [mput, if_neg hp, mE, mE, List.modify_succ_cons, h2]
theorem mE_new (f : κ → Value) (g : ν → Value) : ∀ (m : List (κ × ν)) (k : κ) (v : ν) (i j : Nat), mfind m k j = none →
    mE f g (mput m k v) i = mE f g m i ++ [⟨f k, g v, i + m.length⟩] ∧ (mput m k v).length = m.length + 1
  | [], k, v, i, j, _ => ⟨rfl, rfl⟩
  | p :: m, k, v, i, j, h => by
    rw [mfind] at h
    by_cases hp : p.1 = k
    · rw [if_pos hp] at h; cases h
    · rw [if_neg hp] at h
      obtain ⟨h1, h2⟩ := mE_new f g m k v (i + 1) (j + 1) h
      rw [mput, if_neg hp, mE, mE, h1, List.length_cons, List.length_cons, h2]
      exact ⟨by rw [List.cons_append, show i + (m.length + 1) = i + 1 + m.length by omega], rfl⟩
theorem mput_len : ∀ (m : List (κ × ν)) (k : κ) (v : ν) (j : Nat) (x : Nat × ν), mfind m k j = some x → (mput m k v).length = m.length
  | [], _, _, _, _, h => by cases h
  | p :: m, k, v, j, x, h => by
    rw [mfind] at h
    by_cases hp : p.1 = k
    · rw [mput, if_pos hp]; rfl
    · rw [if_neg hp] at h
      rw [mput, if_neg hp, List.length_cons, List.length_cons, mput_len m k v (j + 1) x h]
theorem mput_le (m : List (κ × ν)) (k : κ) (v : ν) : (mput m k v).length ≤ m.length + 1 := by
  cases h : mfind m k 0 with
  | none => rw [(mE_new (fun _ => .nilFunc) (fun _ => .nilFunc) m k v 0 0 h).2]; exact Nat.le_refl _
  | some x => rw [mput_len m k v 0 x h]; omega

structure KeyD (P : Program) (kt : TypeId) (f : κ → Value) : Prop where
  check : ∀ (b : Bool) (k : κ) (w : World), (Instr.checkKey b 10000 kt (f k)).run P w = .ok () w
  find : ∀ {ν : Type} (g : ν → Value) (m : List (κ × ν)) (k : κ) (i : Nat) (w : World), (Instr.findKey kt (f k) (mE f g m i)).run P w = .ok ((mfind m k 0).map fun x => (x.1, g x.2)) w
  stays : ∀ (k : κ) (w : World), (Instr.keyThatStays (f k) (f k)).run P w = .ok (f k) w
end

theorem findNow_int {ν : Type} {q : IntKind} (g : ν → Value) : ∀ (m : List (Int × ν)) (k : Int) (i j : Nat), Instr.findNow (.int q) (.int q k) (mE (Value.int q) g m i) j = some ((mfind m k j).map fun x => (x.1, g x.2))
  | [], _, _, _ => rfl
  | p :: m, k, i, j => by
    rw [mE, Instr.findNow, mfind]
    simp only [Instr.sameNow, if_true]
    by_cases h : p.1 = k
    · rw [if_pos h, show (k == p.1) = true from beq_iff_eq.2 h.symm]; rfl
    · rw [if_neg h, show (k == p.1) = false from by simpa using fun e => h e.symm]
      exact findNow_int g m k (i + 1) (j + 1)
theorem KeyD.int {P : Program} {kt : TypeId} {q : IntKind} (hd : P.underlying kt = some (.int q)) : KeyD P kt (Value.int q) where
  check := fun b k w => MapKept.run_checkKey (d := .int q) (k := .int q k) hd rfl b 9999
  find := fun g m k i w => MapKept.run_findKey hd (findNow_int g m k i 0)
  stays := fun k w => MapKept.run_keyThatStays (d := .int q) (hk := (rfl : MapKept.IsKey (.int q) (.int q k)))
def pairV (q : IntKind) (p : Int × Int) : Value := .agg #[.int q p.1, .int q p.2]
theorem findAsking_pair {P : Program} {kt e : TypeId} {q : IntKind} {ν : Type} (hu : P.underlying kt = some (.array 2 e)) (he : P.underlying e = some (.int q)) (hsz : ∀ w', (sizeOf e).run P w' = .ok 1 w') (g : ν → Value) :
    ∀ (m : List ((Int × Int) × ν)) (k : Int × Int) (i j : Nat) (w : World), (Instr.findAsking kt (pairV q k) (mE (pairV q) g m i) j).run P w = .ok ((mfind m k j).map fun x => (x.1, g x.2)) w
  | [], _, _, _, _ => rfl
  | p :: m, k, i, j, w => by
    rw [mE, Instr.findAsking, mfind]
    have heq : (Op.equal kt (pairV q k) (pairV q p.1)).run P w = .ok (decide (k.1 = p.1.1) && decide (k.2 = p.1.2)) w := by
      show (Op.equalIn 10000 kt _ _).run P w = _
      rw [show (10000 : Nat) = 9998 + 2 from rfl]
      exact run_equalA2 hu he hsz 9998 w
    simp only [Sem.run_bind, heq, Result.andThen_ok]
    by_cases h : p.1 = k
    · rw [if_pos h, ← h]; simp
    · rw [if_neg h, show (decide (k.1 = p.1.1) && decide (k.2 = p.1.2)) = false from by
        rw [Bool.and_eq_false_iff, decide_eq_false_iff_not, decide_eq_false_iff_not]
        by_cases h1 : k.1 = p.1.1
        · exact .inr fun h2 => h (Prod.ext h1.symm h2.symm)
        · exact .inl h1]
      exact findAsking_pair hu he hsz g m k (i + 1) (j + 1) w
theorem KeyD.pair {P : Program} {kt e : TypeId} {q : IntKind} (hu : P.underlying kt = some (.array 2 e)) (he : P.underlying e = some (.int q)) (hsz : ∀ w', (sizeOf e).run P w' = .ok 1 w') : KeyD P kt (pairV q) where
  check := fun b k w => by
    have hag : ∀ w', (isAgg e).run P w' = .ok false w' := fun w' => by simp [isAgg, run_underlying he]
    rw [show (10000 : Nat) = 9999 + 1 from rfl, pairV]
    unfold Instr.checkKey
    simp only [Sem.run_bind, run_underlying hu, Result.andThen_ok, hsz]
    have hi : ∀ (x : Int) w', (Instr.checkKey b 9999 e (.int q x)).run P w' = .ok () w' := fun x w' => MapKept.run_checkKey (d := .int q) (k := .int q x) he rfl b 9998
    simp [List.range', part, hag, hi, hsz]
  find := fun g m k i w => by
    cases m with
    | nil => simp [mE, Instr.findKey, Instr.findNow, mfind, run_underlying hu]
    | cons p m =>
      have h1 : Instr.findNow (.array 2 e) (pairV q k) (mE (pairV q) g (p :: m) i) 0 = none := rfl
      unfold Instr.findKey
      simp only [Sem.run_bind, run_underlying hu, Result.andThen_ok, h1]
      exact findAsking_pair hu he hsz g (p :: m) k i 0 w
  stays := fun k w => by
    have h : Instr.sameBits 10000 (pairV q k) (pairV q k) = true := by
      rw [show (10000 : Nat) = 9999 + 1 from rfl, pairV, Instr.sameBits]
      simp [Instr.sameBits]
    unfold Instr.keyThatStays
    rw [if_pos h]; rfl

section
variable {P : Program} {n : Nat} {kc : Cont} {σ σ0 : Fr} {w w0 : World} {O : List (Option Nat)} {obs : List Ob} {x y z : Operand} {ty T : TypeId} {l : List (Nat × Value)} {d : Tmp} {pos : String} {af : Array Edge} {ops : Array Oper} {rest : List Oper}
variable {κ ν : Type} [DecidableEq κ] {f : κ → Value} {g : ν → Value} {kt et : TypeId}

theorem Wx.makeMap (hS : St w0 O w obs) (hd : Nat.ble (d + 1) n = true) (h : ∀ b w', Ext w w' → St w0 O w' (.raw b (.map #[] 0) :: obs) → Wx P n ops false rest kc (look ((d, .map (some b)) :: l) σ0) w') :
    Wx P n ops false (⟨some d, .makeMap T none, ty, pos, af, none⟩ :: rest) kc (look l σ0) w := by
  have he : Ext w (w.alloc (.map #[] 0)) := (Below.refl _ _).alloc (Nat.le_refl _) _
  refine Wx.val (v := .map (some w.heap.size)) (w' := w.alloc (.map #[] 0)) ?_ hd (h w.heap.size _ he (hS.push he _ (fun b hb => by simp [Ob.blk] at hb; omega) (fun F _ => ⟨hS.bel.size, heap_alloc_new w _⟩)))
  simp [xop, execOp, Instr.makeMap]
theorem rd_lookup {b c : Nat} {m : List (κ × ν)} {zv : ν} {k : κ} (hS : St w0 O w obs) (i : Nat) (hi : obs[i]? = some (.raw b (.map (mE f g m 0).toArray c))) (hx : ev σ x = .map (some b)) (hy : ev σ y = f k)
    (hu : P.underlying T = some (.map kt et)) (K : KeyD P kt f) (hz : ∀ w', (zeroValue et).run P w' = .ok (g zv) w') : Rd P σ (.lookup T x y false) ty w (g (mget zv m k)) := by
  intro w' hw'
  have hb := (hS.get i hi).2
  have hb' : w'.heap[b]? = some (.map (mE f g m 0).toArray c) := (hw'.block b (Array.getElem?_eq_some_iff.1 hb).1).trans hb
  have hf := K.find g m k 0 w'
  rw [mfind_get zv m k 0]
  simp only [xop, execOp, hx, hy, Instr.lookup, Sem.run_bind, run_underlying hu, MapKept.run_getObj_map hb', Result.andThen_ok, K.check, hf, Sem.run_pure]
  cases mfind m k 0 <;> simp [hz]
theorem Wx.mapUpdate {b : Nat} {m : List (κ × ν)} {k : κ} {v : ν} (hS : St w0 O w obs) (i : Nat) (hi : obs[i]? = some (.raw b (.map (mE f g m 0).toArray m.length))) (hx : ev (look l σ0) x = .map (some b)) (hy : ev (look l σ0) y = f k) (hv : ev (look l σ0) z = g v)
    (hu : P.underlying T = some (.map kt et)) (K : KeyD P kt f)
    (h : ∀ w', w.heap.size ≤ w'.heap.size → St w0 O w' (obs.set i (.raw b (.map (mE f g (mput m k v) 0).toArray (mput m k v).length))) → Wx P n ops false rest kc (look l σ0) w') :
    Wx P n ops false (⟨none, .mapUpdate T x y z, ty, pos, af, none⟩ :: rest) kc (look l σ0) w := by
  have hb := (hS.get i hi).2
  have hbase := (hS.get i hi).1
  have hf := K.find g m k 0 w
  have hrun : (Instr.mapUpdate T (.map (some b)) (f k) (g v)).run P w = .ok () (setBlock w b (.map (mE f g (mput m k v) 0).toArray (mput m k v).length)) := by
    cases hm : mfind m k 0 with
    | none =>
      rw [hm] at hf
      obtain ⟨e1, e2⟩ := mE_new f g m k v 0 0 hm
      rw [e1, e2]
      simp [Instr.mapUpdate, run_underlying hu, MapKept.run_getObj_map hb, K.check, hf, MapKept.run_setObj_map _ hb, Result.andThen, setBlock]
    | some q =>
      rw [hm] at hf
      obtain ⟨e1, e2⟩ := mE_found f g m k v 0 0 q hm
      rw [Nat.sub_zero] at e1 e2
      rw [e2, mput_len m k v 0 q hm]
      simp [Instr.mapUpdate, run_underlying hu, MapKept.run_getObj_map hb, K.check, hf, e1, K.stays, MapKept.run_setObj_map _ hb, Result.andThen, setBlock]
  refine Wx.unit (w' := setBlock w b (.map (mE f g (mput m k v) 0).toArray (mput m k v).length)) ?_ (h _ (by simp [setBlock]) ?_)
  · simp [xop, execOp, hx, hy, hv, hrun]
  · exact hS.turn i hi rfl rfl rfl (by simp [setBlock]) (fun b' _ hb' => heap_setBlock_other hb _ (fun e => hb' (by rw [e]; rfl))) (fun b' hb' => .inl hb') (fun b' hb' => by simpa [setBlock] using (Ob.ok_lt (hS.get i hi) hb').2) (fun F _ => ⟨hbase, heap_setBlock_same hb _⟩)
end
end Go.Wk

namespace Go.Proofs.YtdpdlplkngggoaaGreatDoor
open Go.Wk
set_option linter.unusedVariables false
abbrev NumM := List (Ends × Int)
def num1 (C p : Int) (m : NumM) : NumM := if p % C < C - 1 then mput m (p, p + 1) m.length else m
def num2 (R C p : Int) (m : NumM) : NumM := if p + C < R * C then mput m (p, p + C) m.length else m
def numK (R C k : Int) : NumM := (rng 0 k).foldl (fun m p => num2 R C p (num1 C p m)) []
def numV (R C : Int) : NumM := numK R C (R * C)
theorem num_next {R C k : Int} (k0 : 0 ≤ k) : numK R C (k + 1) = num2 R C k (num1 C k (numK R C k)) := by rw [numK, rng_snoc k0, List.foldl_append]; rfl
def fourE (C p : Int) : List Ends := [(p, p + 1), (p - C, p), (p - 1, p), (p, p + C)]
def rowS (m : NumM) (p : Int) (l : List Int) (x : Ends) : List Int := match mfind m x 0 with
  | some y => if x.1 = p then l ++ [2 * y.2] else l ++ [2 * y.2 + 1]
  | none => l
def rowK (m : NumM) (C p : Int) (k : Nat) : List Int := ((fourE C p).take k).foldl (rowS m p) []
def numOK (s : Ends) : Bool := (decide ((numV s.1 s.2).map (·.1) = lineL s.1 s.2) && decide ((numV s.1 s.2).map (·.2) = rng 0 (lineL s.1 s.2).length)) && ((rng 0 (s.1 * s.2)).all fun p => decide (rowK (numV s.1 s.2) s.2 p 4 = ix [] (gridM s.1 s.2) p)) && decide (((gridM s.1 s.2).length : Int) = s.1 * s.2) && (goodM (gridM s.1 s.2) && decide (s.1 * s.2 ≤ 6 ∧ 2 ≤ s.1 * s.2 ∧ 1 ≤ s.1 ∧ 1 ≤ s.2))
theorem num_ok : sizeL.all numOK = true := by decide +kernel
end Go.Proofs.YtdpdlplkngggoaaGreatDoor

namespace Go.Proofs.YtdpdlplkngggoaaGreatDoor
open Go.Wk
set_option linter.unusedVariables false
set_option linter.unusedSimpArgs false
theorem find_at : ∀ (m : NumM) (i k : Nat), (m.map (·.1)).Nodup → ∀ (hk : k < m.length), mfind m (m[k]).1 i = some (i + k, (m[k]).2)
  | [], _, _, _, hk => absurd hk (Nat.not_lt_zero _)
  | p :: m, i, 0, _, _ => by rw [mfind]; simp
  | p :: m, i, k + 1, hd, hk => by
    rw [List.map_cons] at hd
    obtain ⟨h1, h2⟩ := List.pairwise_cons.1 hd
    have hk' : k < m.length := by simpa using hk
    have hne : ¬ p.1 = (m[k]).1 := h1 _ (List.mem_map.2 ⟨m[k], List.getElem_mem hk', rfl⟩)
    rw [List.getElem_cons_succ, mfind, if_neg hne, find_at m (i + 1) k h2 hk', show i + 1 + k = i + (k + 1) by omega]
structure NumOK (s : Ends) : Prop where
  k : (numV s.1 s.2).map (·.1) = lineL s.1 s.2
  v : (numV s.1 s.2).map (·.2) = rng 0 (lineL s.1 s.2).length
  r : ∀ p, 0 ≤ p → p < s.1 * s.2 → rowK (numV s.1 s.2) s.2 p 4 = ix [] (gridM s.1 s.2) p
  m : ((gridM s.1 s.2).length : Int) = s.1 * s.2
  g : goodM (gridM s.1 s.2) = true
  n : s.1 * s.2 ≤ 6 ∧ 2 ≤ s.1 * s.2 ∧ 1 ≤ s.1 ∧ 1 ≤ s.2
theorem num_is {s : Ends} (hs : s ∈ sizeL) : NumOK s := by
  have h := List.all_eq_true.1 num_ok s hs
  rw [numOK, Bool.and_eq_true, Bool.and_eq_true, Bool.and_eq_true, Bool.and_eq_true, Bool.and_eq_true, decide_eq_true_eq, decide_eq_true_eq, decide_eq_true_eq, decide_eq_true_eq, List.all_eq_true] at h
  exact ⟨h.1.1.1.1, h.1.1.1.2, fun p p0 p1 => of_decide_eq_true (h.1.1.2 p (rng_mem.2 ⟨p0, p1⟩)), h.1.2, h.2.1, h.2.2⟩
theorem line_ok {s : Ends} (hs : s ∈ sizeL) : (lineL s.1 s.2).Nodup ∧ ∀ e ∈ lineL s.1 s.2, (0 ≤ e.1 ∧ e.1 < e.2) ∧ e.2 < s.1 * s.2 := by
  have h3 := List.all_eq_true.1 lines_ok s hs
  rw [lineOK, Bool.and_eq_true, decide_eq_true_eq, List.all_eq_true] at h3
  exact ⟨h3.1, fun e he => of_decide_eq_true (h3.2 e he)⟩
theorem num_len {s : Ends} (hs : s ∈ sizeL) : (numV s.1 s.2).length = (lineL s.1 s.2).length := by rw [← (num_is hs).k, List.length_map]
theorem num_find {s : Ends} (hs : s ∈ sizeL) {k : Nat} (hk : k < (lineL s.1 s.2).length) : mfind (numV s.1 s.2) ((lineL s.1 s.2)[k]) 0 = some (k, (k : Int)) := by
  have hn := num_is hs
  have hl := num_len hs
  have hk' : k < (numV s.1 s.2).length := by omega
  have e1 : ((numV s.1 s.2)[k]).1 = (lineL s.1 s.2)[k] := by
    have : ((numV s.1 s.2).map (·.1))[k]'(by simpa using hk') = (lineL s.1 s.2)[k] := by simp only [hn.k]
    simpa using this
  have e2 : ((numV s.1 s.2)[k]).2 = (k : Int) := by
    have h0 : ((numV s.1 s.2).map (·.2))[k]? = (rng 0 (lineL s.1 s.2).length)[k]? := by rw [hn.v]
    have h1 := rng_get (i := (k : Int)) (n := ((lineL s.1 s.2).length : Int)) (by omega) (by omega)
    rw [Int.toNat_natCast] at h1
    rw [h1, List.getElem?_map, List.getElem?_eq_getElem hk'] at h0
    exact Option.some.inj h0
  have := find_at (numV s.1 s.2) 0 k (by rw [hn.k]; exact (line_ok hs).1) hk'
  rw [e1, e2, Nat.zero_add] at this
  exact this
def TgI (s : Ends) (H : List Int) (i river : Int) (kept : List (Int × Bool)) (alone : List Bool) : Prop :=
  river = (((treeV s.2 H).take i.toNat).filter fun e => decide (e.2 = (H.length : Int))).length ∧ (∀ k : Nat, (hk : k < (lineL s.1 s.2).length) → mget false kept (k : Int) = decide ((lineL s.1 s.2)[k] ∈ (treeV s.2 H).take i.toNat)) ∧
    alone.length = H.length ∧ ∀ p : Int, 0 ≤ p → p < (H.length : Int) → alone.getD p.toNat false = !(((treeV s.2 H).take i.toNat).any fun e => decide (e.2 ≠ (H.length : Int)) && (decide (e.1 = p) || decide (e.2 = p)))
section
variable {s : Ends} {H : List Int} {i river : Int} {kept : List (Int × Bool)} {alone : List Bool}
theorem tg_start {m : Nat} (hm : m = H.length) : TgI s H 0 0 [] (List.replicate m true) := ⟨rfl, fun k hk => by simp [mget], by simp [hm], fun p p0 p1 => by
  rw [List.getD_eq_getElem?_getD, List.getElem?_replicate, if_pos (by omega)]; rfl⟩
theorem tg_at (hk : SOK s.1 s.2 H) (i0 : 0 ≤ i) (i1 : i < (treeV s.2 H).length) : ix (0, 0) (treeV s.2 H) i ∈ treeV s.2 H ∧ ix (0, 0) (treeV s.2 H) i ∉ (treeV s.2 H).take i.toNat := by
  have hg := ix_get (d := ((0, 0) : Ends)) i1 i0
  refine ⟨List.mem_of_getElem? hg, fun hm => ?_⟩
  obtain ⟨q, hq, e⟩ := List.mem_iff_getElem.1 hm
  have hq' : q < i.toNat := by rw [List.length_take] at hq; omega
  rw [List.getElem_take] at e
  have hd := List.pairwise_iff_getElem.1 (treeV_nodup hk) q i.toNat (by omega) (by omega) hq'
  obtain ⟨h1, h2⟩ := List.getElem?_eq_some_iff.1 hg
  rw [h2] at hd
  exact hd e
theorem tg_river (hk : SOK s.1 s.2 H) (hs : s ∈ sizeL) (h : TgI s H i river kept alone) (i0 : 0 ≤ i) (i1 : i < (treeV s.2 H).length) (hr : (ix (0, 0) (treeV s.2 H) i).2 = (H.length : Int)) : TgI s H (i + 1) (river + 1) kept alone := by
  obtain ⟨h1, h2, h3, h4⟩ := h
  have ht := take_ix (d := ((0, 0) : Ends)) i0 i1
  refine ⟨?_, fun k hk' => ?_, h3, fun p p0 p1 => ?_⟩
  · rw [ht, List.filter_append, List.length_append, h1, List.filter_cons_of_pos (by exact decide_eq_true hr)]; simp
  · rw [h2 k hk', ht]
    refine decide_eq_decide.2 ?_
    rw [List.mem_append, List.mem_singleton]
    refine ⟨.inl, fun q => q.elim id fun e => ?_⟩
    have := ((line_ok hs).2 _ (List.getElem_mem hk')).2
    rw [e, hr, hk.e] at this; omega
  · rw [h4 p p0 p1, ht, List.any_append]; simp [hr]
theorem mget_put {m : List (Int × Bool)} {k q : Int} : mget false (mput m k true) q = if q = k then true else mget false m q := mget_mput false m k true q
theorem tg_line (hk : SOK s.1 s.2 H) (hs : s ∈ sizeL) (h : TgI s H i river kept alone) (i0 : 0 ≤ i) (i1 : i < (treeV s.2 H).length) {j : Nat} (hj : j < (lineL s.1 s.2).length) (he : (lineL s.1 s.2)[j] = ix (0, 0) (treeV s.2 H) i) {a b : Int} (ha : a = (ix (0, 0) (treeV s.2 H) i).1) (hb : b = (ix (0, 0) (treeV s.2 H) i).2) :
    mget false kept (j : Int) = false ∧ TgI s H (i + 1) river (mput kept (j : Int) true) ((alone.set a.toNat false).set b.toNat false) := by
  obtain ⟨h1, h2, h3, h4⟩ := h
  have ht := take_ix (d := ((0, 0) : Ends)) i0 i1
  have hl := (line_ok hs).2 _ (List.getElem_mem hj)
  rw [he, ← ha, ← hb] at hl
  have hN : s.1 * s.2 = (H.length : Int) := hk.e.symm
  have hnot := (tg_at hk i0 i1).2
  refine ⟨by rw [h2 j hj, he]; exact decide_eq_false hnot, ?_, fun k hk' => ?_, by rw [List.length_set, List.length_set]; exact h3, fun p p0 p1 => ?_⟩
  · rw [ht, List.filter_append, List.length_append, h1, List.filter_cons_of_neg (by rw [← hb]; simp; omega)]; simp
  · rw [mget_put, h2 k hk', ht]
    by_cases e : (k : Int) = (j : Int)
    · have : k = j := by omega
      subst this
      rw [if_pos rfl, he]
      exact (decide_eq_true (by simp)).symm
    · rw [if_neg e]
      refine decide_eq_decide.2 ?_
      rw [List.mem_append, List.mem_singleton]
      refine ⟨.inl, fun q => q.elim id fun e' => ?_⟩
      rw [← he] at e'
      have := List.pairwise_iff_getElem.1 (line_ok hs).1
      rcases Nat.lt_trichotomy k j with z | z | z
      · exact absurd e' (this k j hk' hj z)
      · omega
      · exact absurd e'.symm (this j k hj hk' z)
  · rw [ht, List.any_append, List.getD_eq_getElem?_getD, List.getElem?_set, List.getElem?_set, List.length_set]
    have hp := h4 p p0 p1
    rw [List.getD_eq_getElem?_getD] at hp
    have hb' : decide (b ≠ (H.length : Int)) = true := decide_eq_true (by omega)
    by_cases e1 : b = p
    · rw [if_pos (by omega), if_pos (by omega)]
      simp only [List.any_cons, List.any_nil, Bool.or_false, ← hb, hb', e1, decide_true, Bool.or_true, Bool.and_true, Bool.not_true, Option.getD_some]
      rw [show decide (p ≠ (H.length : Int)) = true from by rw [← e1]; exact hb']; simp
    · rw [if_neg (by omega)]
      by_cases e2 : a = p
      · rw [if_pos (by omega), if_pos (by omega)]
        simp [← ha, ← hb, e2, show ¬ b = (H.length : Int) by omega]
      · rw [if_neg (by omega), hp]
        simp [← ha, ← hb, e1, e2]
theorem tg_where (hk : SOK s.1 s.2 H) (i0 : 0 ≤ i) (i1 : i < (treeV s.2 H).length) (hn : (ix (0, 0) (treeV s.2 H) i).2 ≠ (H.length : Int)) : ∃ j, ∃ hj : j < (lineL s.1 s.2).length, (lineL s.1 s.2)[j] = ix (0, 0) (treeV s.2 H) i :=
  List.mem_iff_getElem.1 (line_mem hk (tg_at hk i0 i1).1 hn)
theorem tg_end (hk : SOK s.1 s.2 H) (hs : s ∈ sizeL) (h : TgI s H i river kept alone) (hi : ((treeV s.2 H).length : Int) ≤ i) : river = riverN s.2 H ∧ (∀ k : Nat, k < (lineL s.1 s.2).length → mget false kept (k : Int) = (keepL s.2 H (lineL s.1 s.2)).getD k false) ∧
    alone.length = H.length ∧ ((alone.filter id).length = aloneN (s.1 * s.2) (keptL (lineL s.1 s.2) (keepL s.2 H (lineL s.1 s.2)))) := by
  obtain ⟨h1, h2, h3, h4⟩ := h
  have ht : (treeV s.2 H).take i.toNat = treeV s.2 H := List.take_of_length_le (by omega)
  rw [ht] at h1
  refine ⟨h1, fun k hk' => ?_, h3, ?_⟩
  · rw [h2 k hk', ht, keep_get hk', List.getD_eq_getElem?_getD, List.getElem?_eq_getElem hk']; rfl
  · have e : alone = (rng 0 (H.length : Int)).map fun p => !((keptL (lineL s.1 s.2) (keepL s.2 H (lineL s.1 s.2))).any fun e => decide (e.1 = p) || decide (e.2 = p)) := by
      have hr := rng_length (i := 0) (n := (H.length : Int)) (by omega)
      refine List.ext_getElem (by rw [List.length_map]; omega) fun p p1 p2 => ?_
      have hp := h4 (p : Int) (by omega) (by omega)
      rw [Int.toNat_natCast, List.getD_eq_getElem?_getD, List.getElem?_eq_getElem p1, Option.getD_some, ht] at hp
      have hq := rng_get (i := (p : Int)) (n := (H.length : Int)) (by omega) (by omega)
      rw [Int.toNat_natCast, List.getElem?_eq_getElem (by rw [List.length_map] at p2; exact p2)] at hq
      rw [List.getElem_map, Option.some.inj hq, hp]
      congr 1
      rw [Bool.eq_iff_iff, List.any_eq_true, List.any_eq_true]
      constructor
      · rintro ⟨x, hx, hc⟩
        rw [Bool.and_eq_true, decide_eq_true_eq] at hc
        exact ⟨x, kept_mem.2 ⟨line_mem hk hx hc.1, hx⟩, hc.2⟩
      · rintro ⟨x, hx, hc⟩
        obtain ⟨hl, hT⟩ := kept_mem.1 hx
        have := ((line_ok hs).2 x hl).2
        rw [← hk.e] at this
        exact ⟨x, hT, by rw [Bool.and_eq_true, decide_eq_true_eq]; exact ⟨by omega, hc⟩⟩
    rw [e, List.filter_map, List.length_map, aloneN, ← hk.e]; rfl
end
end Go.Proofs.YtdpdlplkngggoaaGreatDoor

namespace Go.Proofs.YtdpdlplkngggoaaGreatDoor
open Go.Wk
set_option linter.unusedVariables false
abbrev kpL (s : Ends) (H : List Int) : List Bool := keepL s.2 H (lineL s.1 s.2)
def TcI (s : Ends) (H : List Int) (k : Nat) (m : Rws) : Prop := k ≤ (lineL s.1 s.2).length ∧ treeB s k m ((kpL s H).drop k) = true
section
variable {s : Ends} {H : List Int} {k : Nat} {m : Rws}
theorem kp_len : (kpL s H).length = (lineL s.1 s.2).length := by rw [kpL, keepL, List.length_map]
theorem tc_start (hs : s ∈ sizeL) : TcI s H (lineL s.1 s.2).length (gridM s.1 s.2) := ⟨Nat.le_refl _, by
  rw [List.drop_of_length_le (by rw [kp_len]; exact Nat.le_refl _)]; exact tree_all hs⟩
theorem kp_drop (hk : k < (lineL s.1 s.2).length) : (kpL s H).drop k = (kpL s H).getD k false :: (kpL s H).drop (k + 1) := by
  have h : k < (kpL s H).length := by rw [kp_len]; exact hk
  rw [List.drop_eq_getElem_cons h, List.getD_eq_getElem?_getD, List.getElem?_eq_getElem h]; rfl
theorem tc_good (h : TcI s H k m) : GoodM m := good_m (tree_good h.2)
theorem tc_keep (h : TcI s H (k + 1) m) (hk : (kpL s H).getD k false = true) : TcI s H k m := by
  refine ⟨by have := h.1; omega, ?_⟩
  rw [kp_drop h.1, hk]; exact tree_keep h.2
theorem tc_cut (h : TcI s H (k + 1) m) (hk : (kpL s H).getD k false = false) : cutG m k = true ∧ TcI s H k (cutV m k) := by
  obtain ⟨h1, h2⟩ := tree_cut h.2
  refine ⟨h1, by have := h.1; omega, ?_⟩
  rw [kp_drop h.1, hk]; exact h2
theorem tc_end (hs : s ∈ sizeL) (hk : SOK s.1 s.2 H) (h : TcI s H 0 m) : partT (tabV m) + aloneN (s.1 * s.2) (keptL (lineL s.1 s.2) (kpL s H)) = riverN s.2 H := by
  have := tree_end h.2
  rw [List.drop_zero] at this
  rw [this, grid_river hs hk]
structure CutOK (m : Rws) (line : Int) : Prop where
  t : TblOK (tabV (m.map (cutL line)))
  a : permB (teN (tabV (m.map (cutL line)))) (arndF (tabV (m.map (cutL line)))) = true
  l : 0 ≤ line ∧ line < teN (tabV m) / 2
theorem cut_ok {line : Int} (h : cutG m line = true) : CutOK m line := by
  rw [cutG, Bool.and_eq_true, Bool.and_eq_true, decide_eq_true_eq] at h
  exact ⟨tbl_ok h.1.1, h.1.2, h.2⟩
end
end Go.Proofs.YtdpdlplkngggoaaGreatDoor

namespace Go.Wk
open Go.RowKit
set_option linter.unusedVariables false
end Go.Wk

namespace Go.Proofs
open Go.Shelf
def Tryz.lays169_ren : Go.Shelf.Ren := ⟨fun | 169 => 79 | n => n, fun | 70 => 125 | 9 => 9 | 0 => 0 | 72 => 127 | 37 => 28 | 127 => 156 | 3 => 3 | 5 => 5 | n => n, fun | n => n⟩
theorem Tryz.lays169 : Go.Proofs.Lays.n169 Tryz.prog Tryz.lays169_ren := {
  mixed := by kernel_rfl
  f169 := Tryz.func79.trans (congrArg some (by kernel_rfl))
  t0 := Tryz.underlying0
  a0 := Tryz.isAgg0
  z0 := Tryz.sizeOf0
  v0 := Tryz.zeroValue0
  t3 := Tryz.underlying3
  a3 := Tryz.isAgg3
  z3 := Tryz.sizeOf3
  v3 := Tryz.zeroValue3
  t9 := Tryz.underlying9
  a9 := Tryz.isAgg9
  z9 := Tryz.sizeOf9
  v9 := Tryz.zeroValue9
  t37 := Tryz.underlying28
  a37 := Tryz.isAgg28
  z37 := Tryz.sizeOf28
  v37 := Tryz.zeroValue28
  t70 := Tryz.underlying125
  a70 := Tryz.isAgg125
  z70 := Tryz.sizeOf125
  v70 := Tryz.zeroValue125
  t72 := Tryz.underlying127
  a72 := Tryz.isAgg127
  z72 := Tryz.sizeOf127
  v72 := Tryz.zeroValue127
  t127 := Tryz.underlying156
  a127 := Tryz.isAgg156
  z127 := Tryz.sizeOf156
  v127 := Tryz.zeroValue156 }
theorem Tryz.Builder_Extra_169 : Builder.Extra Tryz.prog Tryz.lays169_ren := {
  sizeBuilder := by kernel_rfl
  liesBuilder := by kernel_rfl
  t5 := Tryz.underlying5
  a5 := Tryz.isAgg5
  z5 := Tryz.sizeOf5
  v5 := Tryz.zeroValue5
  infoByte := by kernel_rfl
  cellsByte := by kernel_rfl
  sizeByte := by kernel_rfl
  neB5 := by decide }
def Tryz.lays119_ren : Go.Shelf.Ren := ⟨fun | 119 => 102 | n => n, fun | 21 => 21 | 4 => 4 | n => n, fun | n => n⟩
theorem Tryz.lays119 : Go.Proofs.Lays.n119 Tryz.prog Tryz.lays119_ren := {
  mixed := by kernel_rfl
  f119 := Tryz.func102.trans (congrArg some (by kernel_rfl))
  t4 := Tryz.underlying4
  a4 := Tryz.isAgg4
  z4 := Tryz.sizeOf4
  v4 := Tryz.zeroValue4
  t21 := Tryz.underlying21
  a21 := Tryz.isAgg21
  z21 := Tryz.sizeOf21
  v21 := Tryz.zeroValue21 }
theorem Tryz.utf8_ValidRune (r : Int) (w : World) :
    Calls Tryz.prog 102 #[.int .i32 r] w fun e w' => e = .returned (.bool (Lib.validRune r)) ∧ w' = w := Any.utf8_ValidRune Tryz.lays119 r w
def Tryz.lays137_ren : Go.Shelf.Ren := ⟨fun | 137 => 101 | 217 => 108 | 266 => 112 | n => n, fun | 9 => 9 | 5 => 5 | 3 => 3 | n => n, fun | n => n⟩
theorem Tryz.lays137 : Go.Proofs.Lays.n137 Tryz.prog Tryz.lays137_ren := {
  mixed := by kernel_rfl
  f137 := Tryz.func101.trans (congrArg some (by kernel_rfl))
  f217 := Tryz.func108.trans (congrArg some (by kernel_rfl))
  f266 := Tryz.func112.trans (congrArg some (by kernel_rfl))
  t3 := Tryz.underlying3
  a3 := Tryz.isAgg3
  z3 := Tryz.sizeOf3
  v3 := Tryz.zeroValue3
  t5 := Tryz.underlying5
  a5 := Tryz.isAgg5
  z5 := Tryz.sizeOf5
  v5 := Tryz.zeroValue5
  t9 := Tryz.underlying9
  a9 := Tryz.isAgg9
  z9 := Tryz.sizeOf9
  v9 := Tryz.zeroValue9 }
open Go.RowKit in
theorem Tryz.strings_IndexByte (s : ByteArray) (c : Int) (w : World) :
    Calls Tryz.prog 101 #[.string s, .int .u8 c] w fun e w' => e = .returned (.int .i64 (Lib.indexByte s.data.toList c.toNat.toUInt8)) ∧ w' = w := Any.strings_IndexByte Tryz.lays137 s c w
open Go.RowKit in
theorem Tryz.Builder_String_any_f (B b : Nat) (l : List UInt8) (w : World) (h : Lib.IsBuilderF 127 5 B b (Lib.byteCells l) w) (hBw : B ≤ w.heap.size) :
    Calls Tryz.prog 79 #[.pointer (some ⟨b, 0, none⟩)] w fun e w' => e = .returned (.string ⟨l.toArray⟩) ∧ (Lib.IsBuilderF 127 5 B b (Lib.byteCells l) w' ∧ Below B w w') := Any.Builder_String_any_f Tryz.lays169 Tryz.Builder_Extra_169 B b l w h hBw
def Tryz.lays203_ren : Go.Shelf.Ren := ⟨fun | 203 => 111 | 262 => 114 | 313 => 117 | 274 => 118 | 275 => 119 | n => n, fun | 21 => 21 | 4 => 4 | 3 => 3 | 162 => 185 | 203 => 183 | 160 => 188 | 46 => 98 | 0 => 0 | 208 => 194 | 51 => 63 | 206 => 192 | n => n, fun | 13 => 4 | n => n⟩
theorem Tryz.lays203 : Go.Proofs.Lays.n203 Tryz.prog Tryz.lays203_ren := {
  mixed := by kernel_rfl
  f203 := Tryz.func111.trans (congrArg some (by kernel_rfl))
  f262 := Tryz.func114.trans (congrArg some (by kernel_rfl))
  f274 := Tryz.func118.trans (congrArg some (by kernel_rfl))
  f275 := Tryz.func119.trans (congrArg some (by kernel_rfl))
  f313 := Tryz.func117.trans (congrArg some (by kernel_rfl))
  t0 := Tryz.underlying0
  a0 := Tryz.isAgg0
  z0 := Tryz.sizeOf0
  v0 := Tryz.zeroValue0
  t3 := Tryz.underlying3
  a3 := Tryz.isAgg3
  z3 := Tryz.sizeOf3
  v3 := Tryz.zeroValue3
  t4 := Tryz.underlying4
  a4 := Tryz.isAgg4
  z4 := Tryz.sizeOf4
  v4 := Tryz.zeroValue4
  t21 := Tryz.underlying21
  a21 := Tryz.isAgg21
  z21 := Tryz.sizeOf21
  v21 := Tryz.zeroValue21
  t46 := Tryz.underlying98
  a46 := Tryz.isAgg98
  z46 := Tryz.sizeOf98
  v46 := Tryz.zeroValue98
  t51 := Tryz.underlying63
  a51 := Tryz.isAgg63
  z51 := Tryz.sizeOf63
  v51 := Tryz.zeroValue63
  t160 := Tryz.underlying188
  a160 := Tryz.isAgg188
  z160 := Tryz.sizeOf188
  v160 := Tryz.zeroValue188
  t162 := Tryz.underlying185
  a162 := Tryz.isAgg185
  z162 := Tryz.sizeOf185
  v162 := Tryz.zeroValue185
  t203 := Tryz.underlying183
  a203 := Tryz.isAgg183
  z203 := Tryz.sizeOf183
  v203 := Tryz.zeroValue183
  t206 := Tryz.underlying192
  a206 := Tryz.isAgg192
  z206 := Tryz.sizeOf192
  v206 := Tryz.zeroValue192
  t208 := Tryz.underlying194
  a208 := Tryz.isAgg194
  z208 := Tryz.sizeOf194
  v208 := Tryz.zeroValue194
  g13 := by kernel_rfl }
def Tryz.lays204_ren : Go.Shelf.Ren := ⟨fun | 204 => 110 | 262 => 114 | 313 => 117 | 274 => 118 | 275 => 119 | n => n, fun | 21 => 21 | 4 => 4 | 3 => 3 | 162 => 185 | 203 => 183 | 160 => 188 | 46 => 98 | 0 => 0 | 208 => 194 | 51 => 63 | 206 => 192 | n => n, fun | 13 => 4 | n => n⟩
theorem Tryz.lays204 : Go.Proofs.Lays.n204 Tryz.prog Tryz.lays204_ren := {
  mixed := by kernel_rfl
  f204 := Tryz.func110.trans (congrArg some (by kernel_rfl))
  f262 := Tryz.func114.trans (congrArg some (by kernel_rfl))
  f274 := Tryz.func118.trans (congrArg some (by kernel_rfl))
  f275 := Tryz.func119.trans (congrArg some (by kernel_rfl))
  f313 := Tryz.func117.trans (congrArg some (by kernel_rfl))
  t0 := Tryz.underlying0
  a0 := Tryz.isAgg0
  z0 := Tryz.sizeOf0
  v0 := Tryz.zeroValue0
  t3 := Tryz.underlying3
  a3 := Tryz.isAgg3
  z3 := Tryz.sizeOf3
  v3 := Tryz.zeroValue3
  t4 := Tryz.underlying4
  a4 := Tryz.isAgg4
  z4 := Tryz.sizeOf4
  v4 := Tryz.zeroValue4
  t21 := Tryz.underlying21
  a21 := Tryz.isAgg21
  z21 := Tryz.sizeOf21
  v21 := Tryz.zeroValue21
  t46 := Tryz.underlying98
  a46 := Tryz.isAgg98
  z46 := Tryz.sizeOf98
  v46 := Tryz.zeroValue98
  t51 := Tryz.underlying63
  a51 := Tryz.isAgg63
  z51 := Tryz.sizeOf63
  v51 := Tryz.zeroValue63
  t160 := Tryz.underlying188
  a160 := Tryz.isAgg188
  z160 := Tryz.sizeOf188
  v160 := Tryz.zeroValue188
  t162 := Tryz.underlying185
  a162 := Tryz.isAgg185
  z162 := Tryz.sizeOf185
  v162 := Tryz.zeroValue185
  t203 := Tryz.underlying183
  a203 := Tryz.isAgg183
  z203 := Tryz.sizeOf183
  v203 := Tryz.zeroValue183
  t206 := Tryz.underlying192
  a206 := Tryz.isAgg192
  z206 := Tryz.sizeOf192
  v206 := Tryz.zeroValue192
  t208 := Tryz.underlying194
  a208 := Tryz.isAgg194
  z208 := Tryz.sizeOf194
  v208 := Tryz.zeroValue194
  g13 := by kernel_rfl }
def Tryz.lays201_ren : Go.Shelf.Ren := ⟨fun | 201 => 109 | 261 => 113 | 311 => 115 | 312 => 116 | n => n, fun | 21 => 21 | 4 => 4 | 51 => 63 | 5 => 5 | 119 => 168 | 0 => 0 | 141 => 170 | 196 => 175 | 193 => 172 | 3 => 3 | 198 => 178 | 49 => 176 | 194 => 173 | 201 => 181 | 226 => 186 | 46 => 98 | 227 => 187 | n => n, fun | 7 => 2 | 9 => 3 | n => n⟩
theorem Tryz.lays201 : Go.Proofs.Lays.n201 Tryz.prog Tryz.lays201_ren := {
  mixed := by kernel_rfl
  f201 := Tryz.func109.trans (congrArg some (by kernel_rfl))
  f261 := Tryz.func113.trans (congrArg some (by kernel_rfl))
  f311 := Tryz.func115.trans (congrArg some (by kernel_rfl))
  f312 := Tryz.func116.trans (congrArg some (by kernel_rfl))
  t0 := Tryz.underlying0
  a0 := Tryz.isAgg0
  z0 := Tryz.sizeOf0
  v0 := Tryz.zeroValue0
  t3 := Tryz.underlying3
  a3 := Tryz.isAgg3
  z3 := Tryz.sizeOf3
  v3 := Tryz.zeroValue3
  t4 := Tryz.underlying4
  a4 := Tryz.isAgg4
  z4 := Tryz.sizeOf4
  v4 := Tryz.zeroValue4
  t5 := Tryz.underlying5
  a5 := Tryz.isAgg5
  z5 := Tryz.sizeOf5
  v5 := Tryz.zeroValue5
  t21 := Tryz.underlying21
  a21 := Tryz.isAgg21
  z21 := Tryz.sizeOf21
  v21 := Tryz.zeroValue21
  t46 := Tryz.underlying98
  a46 := Tryz.isAgg98
  z46 := Tryz.sizeOf98
  v46 := Tryz.zeroValue98
  t49 := Tryz.underlying176
  a49 := Tryz.isAgg176
  z49 := Tryz.sizeOf176
  v49 := Tryz.zeroValue176
  t51 := Tryz.underlying63
  a51 := Tryz.isAgg63
  z51 := Tryz.sizeOf63
  v51 := Tryz.zeroValue63
  t119 := Tryz.underlying168
  a119 := Tryz.isAgg168
  z119 := Tryz.sizeOf168
  t141 := Tryz.underlying170
  a141 := Tryz.isAgg170
  z141 := Tryz.sizeOf170
  v141 := Tryz.zeroValue170
  t193 := Tryz.underlying172
  a193 := Tryz.isAgg172
  z193 := Tryz.sizeOf172
  v193 := Tryz.zeroValue172
  t194 := Tryz.underlying173
  a194 := Tryz.isAgg173
  z194 := Tryz.sizeOf173
  v194 := Tryz.zeroValue173
  t196 := Tryz.underlying175
  a196 := Tryz.isAgg175
  z196 := Tryz.sizeOf175
  v196 := Tryz.zeroValue175
  t198 := Tryz.underlying178
  a198 := Tryz.isAgg178
  z198 := Tryz.sizeOf178
  v198 := Tryz.zeroValue178
  t201 := Tryz.underlying181
  a201 := Tryz.isAgg181
  z201 := Tryz.sizeOf181
  v201 := Tryz.zeroValue181
  t226 := Tryz.underlying186
  a226 := Tryz.isAgg186
  z226 := Tryz.sizeOf186
  v226 := Tryz.zeroValue186
  t227 := Tryz.underlying187
  a227 := Tryz.isAgg187
  z227 := Tryz.sizeOf187
  v227 := Tryz.zeroValue187
  g7 := by kernel_rfl
  g9 := by kernel_rfl }
def Tryz.lays151_ren : Go.Shelf.Ren := ⟨fun | 151 => 76 | 152 => 94 | 137 => 101 | 119 => 102 | 224 => 103 | 225 => 104 | 217 => 108 | 266 => 112 | n => n, fun | 9 => 9 | 21 => 21 | 4 => 4 | 3 => 3 | 5 => 5 | 0 => 0 | 46 => 98 | n => n, fun | n => n⟩
theorem Tryz.lays151 : Go.Proofs.Lays.n151 Tryz.prog Tryz.lays151_ren := {
  mixed := by kernel_rfl
  f119 := Tryz.func102.trans (congrArg some (by kernel_rfl))
  f137 := Tryz.func101.trans (congrArg some (by kernel_rfl))
  f151 := Tryz.func76.trans (congrArg some (by kernel_rfl))
  f152 := Tryz.func94.trans (congrArg some (by kernel_rfl))
  f217 := Tryz.func108.trans (congrArg some (by kernel_rfl))
  f224 := Tryz.func103.trans (congrArg some (by kernel_rfl))
  f225 := Tryz.func104.trans (congrArg some (by kernel_rfl))
  f266 := Tryz.func112.trans (congrArg some (by kernel_rfl))
  t0 := Tryz.underlying0
  a0 := Tryz.isAgg0
  z0 := Tryz.sizeOf0
  v0 := Tryz.zeroValue0
  t3 := Tryz.underlying3
  a3 := Tryz.isAgg3
  z3 := Tryz.sizeOf3
  v3 := Tryz.zeroValue3
  t4 := Tryz.underlying4
  a4 := Tryz.isAgg4
  z4 := Tryz.sizeOf4
  v4 := Tryz.zeroValue4
  t5 := Tryz.underlying5
  a5 := Tryz.isAgg5
  z5 := Tryz.sizeOf5
  v5 := Tryz.zeroValue5
  t9 := Tryz.underlying9
  a9 := Tryz.isAgg9
  z9 := Tryz.sizeOf9
  v9 := Tryz.zeroValue9
  t21 := Tryz.underlying21
  a21 := Tryz.isAgg21
  z21 := Tryz.sizeOf21
  v21 := Tryz.zeroValue21
  t46 := Tryz.underlying98
  a46 := Tryz.isAgg98
  z46 := Tryz.sizeOf98
  v46 := Tryz.zeroValue98 }
open Go.RowKit Go.Lib in
theorem Tryz.strings_ContainsRune_ascii (s : ByteArray) (r : Int) (w : World) (h0 : 0 ≤ r) (h1 : r < 128) :
    Calls Tryz.prog 76 #[.string s, .int .i32 r] w fun e w' => e = .returned (.bool (decide (0 ≤ Lib.indexByte s.data.toList r.toNat.toUInt8))) ∧ w' = w := Any.strings_ContainsRune_ascii Tryz.lays151 s r w h0 h1
def Tryz.lays261_ren : Go.Shelf.Ren := ⟨fun | 261 => 113 | 311 => 115 | 312 => 116 | n => n, fun | 141 => 170 | 21 => 21 | 4 => 4 | 0 => 0 | 196 => 175 | 193 => 172 | 3 => 3 | 51 => 63 | 198 => 178 | 49 => 176 | 194 => 173 | 201 => 181 | 226 => 186 | 46 => 98 | 227 => 187 | n => n, fun | n => n⟩
theorem Tryz.lays261 : Go.Proofs.Lays.n261 Tryz.prog Tryz.lays261_ren := {
  mixed := by kernel_rfl
  f261 := Tryz.func113.trans (congrArg some (by kernel_rfl))
  f311 := Tryz.func115.trans (congrArg some (by kernel_rfl))
  f312 := Tryz.func116.trans (congrArg some (by kernel_rfl))
  t0 := Tryz.underlying0
  a0 := Tryz.isAgg0
  z0 := Tryz.sizeOf0
  v0 := Tryz.zeroValue0
  t3 := Tryz.underlying3
  a3 := Tryz.isAgg3
  z3 := Tryz.sizeOf3
  v3 := Tryz.zeroValue3
  t4 := Tryz.underlying4
  a4 := Tryz.isAgg4
  z4 := Tryz.sizeOf4
  v4 := Tryz.zeroValue4
  t21 := Tryz.underlying21
  a21 := Tryz.isAgg21
  z21 := Tryz.sizeOf21
  v21 := Tryz.zeroValue21
  t46 := Tryz.underlying98
  a46 := Tryz.isAgg98
  z46 := Tryz.sizeOf98
  v46 := Tryz.zeroValue98
  t49 := Tryz.underlying176
  a49 := Tryz.isAgg176
  z49 := Tryz.sizeOf176
  v49 := Tryz.zeroValue176
  t51 := Tryz.underlying63
  a51 := Tryz.isAgg63
  z51 := Tryz.sizeOf63
  v51 := Tryz.zeroValue63
  t141 := Tryz.underlying170
  a141 := Tryz.isAgg170
  z141 := Tryz.sizeOf170
  v141 := Tryz.zeroValue170
  t193 := Tryz.underlying172
  a193 := Tryz.isAgg172
  z193 := Tryz.sizeOf172
  v193 := Tryz.zeroValue172
  t194 := Tryz.underlying173
  a194 := Tryz.isAgg173
  z194 := Tryz.sizeOf173
  v194 := Tryz.zeroValue173
  t196 := Tryz.underlying175
  a196 := Tryz.isAgg175
  z196 := Tryz.sizeOf175
  v196 := Tryz.zeroValue175
  t198 := Tryz.underlying178
  a198 := Tryz.isAgg178
  z198 := Tryz.sizeOf178
  v198 := Tryz.zeroValue178
  t201 := Tryz.underlying181
  a201 := Tryz.isAgg181
  z201 := Tryz.sizeOf181
  v201 := Tryz.zeroValue181
  t226 := Tryz.underlying186
  a226 := Tryz.isAgg186
  z226 := Tryz.sizeOf186
  v226 := Tryz.zeroValue186
  t227 := Tryz.underlying187
  a227 := Tryz.isAgg187
  z227 := Tryz.sizeOf187
  v227 := Tryz.zeroValue187 }
def Tryz.lays262_ren : Go.Shelf.Ren := ⟨fun | 262 => 114 | 313 => 117 | 274 => 118 | 275 => 119 | n => n, fun | 3 => 3 | 21 => 21 | 162 => 185 | 203 => 183 | 4 => 4 | 160 => 188 | 46 => 98 | 0 => 0 | 208 => 194 | 51 => 63 | 206 => 192 | n => n, fun | 13 => 4 | n => n⟩
theorem Tryz.lays262 : Go.Proofs.Lays.n262 Tryz.prog Tryz.lays262_ren := {
  mixed := by kernel_rfl
  f262 := Tryz.func114.trans (congrArg some (by kernel_rfl))
  f274 := Tryz.func118.trans (congrArg some (by kernel_rfl))
  f275 := Tryz.func119.trans (congrArg some (by kernel_rfl))
  f313 := Tryz.func117.trans (congrArg some (by kernel_rfl))
  t0 := Tryz.underlying0
  a0 := Tryz.isAgg0
  z0 := Tryz.sizeOf0
  v0 := Tryz.zeroValue0
  t3 := Tryz.underlying3
  a3 := Tryz.isAgg3
  z3 := Tryz.sizeOf3
  v3 := Tryz.zeroValue3
  t4 := Tryz.underlying4
  a4 := Tryz.isAgg4
  z4 := Tryz.sizeOf4
  v4 := Tryz.zeroValue4
  t21 := Tryz.underlying21
  a21 := Tryz.isAgg21
  z21 := Tryz.sizeOf21
  v21 := Tryz.zeroValue21
  t46 := Tryz.underlying98
  a46 := Tryz.isAgg98
  z46 := Tryz.sizeOf98
  v46 := Tryz.zeroValue98
  t51 := Tryz.underlying63
  a51 := Tryz.isAgg63
  z51 := Tryz.sizeOf63
  v51 := Tryz.zeroValue63
  t160 := Tryz.underlying188
  a160 := Tryz.isAgg188
  z160 := Tryz.sizeOf188
  v160 := Tryz.zeroValue188
  t162 := Tryz.underlying185
  a162 := Tryz.isAgg185
  z162 := Tryz.sizeOf185
  v162 := Tryz.zeroValue185
  t203 := Tryz.underlying183
  a203 := Tryz.isAgg183
  z203 := Tryz.sizeOf183
  v203 := Tryz.zeroValue183
  t206 := Tryz.underlying192
  a206 := Tryz.isAgg192
  z206 := Tryz.sizeOf192
  v206 := Tryz.zeroValue192
  t208 := Tryz.underlying194
  a208 := Tryz.isAgg194
  z208 := Tryz.sizeOf194
  v208 := Tryz.zeroValue194
  g13 := by kernel_rfl }
open Go.RowKit Go.Lib in
theorem Tryz.unicode_ToLower_laid (r : Int) (w : World) (hV : CaseVar 4 caseA w) :
    Calls Tryz.prog 110 #[.int .i32 r] w fun e w' => e = .returned (.int .i32 (toLowerU r)) ∧ ∃ q, w' = w.drewN q := Any.unicode_ToLower_laid Tryz.lays204 r w hV
open Go.RowKit Go.Lib in
theorem Tryz.unicode_ToUpper_laid (r : Int) (w : World) (hV : CaseVar 4 caseA w) :
    Calls Tryz.prog 111 #[.int .i32 r] w fun e w' => e = .returned (.int .i32 (toUpperU r)) ∧ ∃ q, w' = w.drewN q := Any.unicode_ToUpper_laid Tryz.lays203 r w hV
open Go.RowKit Go.Lib in
theorem Tryz.unicode_IsUpper_all (r : Int) (w : World) (hlo : -2147483648 ≤ r) (hhi : r ≤ 2147483647) (htab : Lib.TabIs Tryz.prog w "unicode.properties" .u8 Lib.propertiesTab) (hV : RVar 3 upperT w) :
    Calls Tryz.prog 109 #[.int .i32 r] w fun e w' => e = .returned (.bool (isUpperU r)) ∧ Below w.heap.size w w' := Any.unicode_IsUpper_all Tryz.lays201 (by kernel_rfl) r w hlo hhi htab hV
def Tryz.lays167_ren : Go.Shelf.Ren := ⟨fun | 167 => 78 | 240 => 96 | 276 => 106 | n => n, fun | 0 => 0 | 4 => 4 | 5 => 5 | 9 => 9 | 20 => 20 | 37 => 28 | 70 => 125 | 72 => 127 | 75 => 131 | 80 => 133 | 164 => 165 | n => n, fun | n => n⟩
theorem Tryz.lays167 : Go.Proofs.Lays.n167 Tryz.prog Tryz.lays167_ren := {
  mixed := by kernel_rfl
  f167 := Tryz.func78.trans (congrArg some (by kernel_rfl))
  f240 := Tryz.func96.trans (congrArg some (by kernel_rfl))
  f276 := Tryz.func106.trans (congrArg some (by kernel_rfl))
  t0 := Tryz.underlying0
  a0 := Tryz.isAgg0
  z0 := Tryz.sizeOf0
  v0 := Tryz.zeroValue0
  t4 := Tryz.underlying4
  a4 := Tryz.isAgg4
  z4 := Tryz.sizeOf4
  v4 := Tryz.zeroValue4
  t5 := Tryz.underlying5
  a5 := Tryz.isAgg5
  z5 := Tryz.sizeOf5
  v5 := Tryz.zeroValue5
  t9 := Tryz.underlying9
  a9 := Tryz.isAgg9
  z9 := Tryz.sizeOf9
  v9 := Tryz.zeroValue9
  t20 := Tryz.underlying20
  a20 := Tryz.isAgg20
  z20 := Tryz.sizeOf20
  v20 := Tryz.zeroValue20
  t37 := Tryz.underlying28
  a37 := Tryz.isAgg28
  z37 := Tryz.sizeOf28
  v37 := Tryz.zeroValue28
  t70 := Tryz.underlying125
  a70 := Tryz.isAgg125
  z70 := Tryz.sizeOf125
  v70 := Tryz.zeroValue125
  t72 := Tryz.underlying127
  a72 := Tryz.isAgg127
  z72 := Tryz.sizeOf127
  v72 := Tryz.zeroValue127
  t75 := Tryz.underlying131
  a75 := Tryz.isAgg131
  z75 := Tryz.sizeOf131
  v75 := Tryz.zeroValue131
  t164 := Tryz.underlying165
  a164 := Tryz.isAgg165
  z164 := Tryz.sizeOf165
  v164 := Tryz.zeroValue165 }

theorem Tryz.Builder_Extra_167 : Builder.Extra Tryz.prog Tryz.lays167_ren := {
  sizeBuilder := by kernel_rfl
  liesBuilder := by kernel_rfl
  t5 := Tryz.underlying5
  a5 := Tryz.isAgg5
  z5 := Tryz.sizeOf5
  v5 := Tryz.zeroValue5
  infoByte := by kernel_rfl
  cellsByte := by kernel_rfl
  sizeByte := by kernel_rfl
  neB5 := by decide }
open Go.RowKit in
theorem Tryz.Builder_WriteByte_k (B b : Nat) (bs : List Value) (c : Int) (w : World) (h : Lib.IsBuilderF 127 5 B b bs w) (hlen : bs.length + 1 ≤ 140737488355328) (hBw : B ≤ w.heap.size) :
    Calls Tryz.prog 78 #[.pointer (some ⟨b, 0, none⟩), .int .u8 c] w fun e w' => e = .returned .nilIface ∧ (Lib.BuilderAtF 127 5 B b (.pointer (some ⟨b, 0, none⟩)) (bs ++ [.int .u8 c]) w' ∧ Below B w w' ∧ Lib.OthersKept 5 (some b) w w') := Any.Builder_WriteByte_k Tryz.lays167 Tryz.Builder_Extra_167 B b bs c w h hlen hBw

def Tryz.laysSlF06_f39_ren : Go.Shelf.Ren := ⟨fun | 6 => 39 | 15 => 50 | 14 => 49 | 28 => 71 | 29 => 72 | 20 => 63 | 21 => 64 | 22 => 65 | 23 => 66 | 24 => 67 | 25 => 68 | 26 => 69 | 27 => 70 | 46 => 86 | 47 => 87 | 48 => 88 | 49 => 89 | 50 => 90 | 57 => 100 | n => n, fun | 22 => 66 | 24 => 70 | 25 => 88 | 3 => 3 | 39 => 98 | 0 => 0 | 53 => 63 | 55 => 119 | 4 => 4 | 46 => 112 | 45 => 111 | 50 => 33 | 5 => 5 | 9 => 9 | 66 => 144 | 70 => 148 | 76 => 159 | 77 => 122 | n => n, fun | n => n⟩
theorem Tryz.laysSlF06_f39 : Go.Proofs.SlLaysF0.n6 Tryz.prog Tryz.laysSlF06_f39_ren := {
  mixed := by kernel_rfl
  f6 := ⟨Tryz.f39.name, by decide, Tryz.func39.trans (congrArg some (by kernel_rfl))⟩
  f14 := ⟨Tryz.f49.name, by decide, Tryz.func49.trans (congrArg some (by kernel_rfl))⟩
  f15 := Tryz.func50.trans (congrArg some (by kernel_rfl))
  f20 := ⟨Tryz.f63.name, by decide, Tryz.func63.trans (congrArg some (by kernel_rfl))⟩
  f21 := ⟨Tryz.f64.name, by decide, Tryz.func64.trans (congrArg some (by kernel_rfl))⟩
  f22 := ⟨Tryz.f65.name, by decide, Tryz.func65.trans (congrArg some (by kernel_rfl))⟩
  f23 := ⟨Tryz.f66.name, by decide, Tryz.func66.trans (congrArg some (by kernel_rfl))⟩
  f24 := ⟨Tryz.f67.name, by decide, Tryz.func67.trans (congrArg some (by kernel_rfl))⟩
  f25 := ⟨Tryz.f68.name, by decide, Tryz.func68.trans (congrArg some (by kernel_rfl))⟩
  f26 := ⟨Tryz.f69.name, by decide, Tryz.func69.trans (congrArg some (by kernel_rfl))⟩
  f27 := ⟨Tryz.f70.name, by decide, Tryz.func70.trans (congrArg some (by kernel_rfl))⟩
  f28 := Tryz.func71.trans (congrArg some (by kernel_rfl))
  f29 := Tryz.func72.trans (congrArg some (by kernel_rfl))
  f46 := ⟨Tryz.f86.name, by decide, Tryz.func86.trans (congrArg some (by kernel_rfl))⟩
  f47 := Tryz.func87.trans (congrArg some (by kernel_rfl))
  f48 := Tryz.func88.trans (congrArg some (by kernel_rfl))
  f49 := ⟨Tryz.f89.name, by decide, Tryz.func89.trans (congrArg some (by kernel_rfl))⟩
  f50 := ⟨Tryz.f90.name, by decide, Tryz.func90.trans (congrArg some (by kernel_rfl))⟩
  f57 := ⟨Tryz.f100.name, by decide, Tryz.func100.trans (congrArg some (by kernel_rfl))⟩
  t0 := Tryz.underlying0
  a0 := Tryz.isAgg0
  z0 := Tryz.sizeOf0
  v0 := Tryz.zeroValue0
  t3 := Tryz.underlying3
  a3 := Tryz.isAgg3
  z3 := Tryz.sizeOf3
  v3 := Tryz.zeroValue3
  t4 := Tryz.underlying4
  a4 := Tryz.isAgg4
  z4 := Tryz.sizeOf4
  v4 := Tryz.zeroValue4
  t5 := Tryz.underlying5
  a5 := Tryz.isAgg5
  z5 := Tryz.sizeOf5
  v5 := Tryz.zeroValue5
  t9 := Tryz.underlying9
  a9 := Tryz.isAgg9
  z9 := Tryz.sizeOf9
  v9 := Tryz.zeroValue9
  t22 := Tryz.underlying66
  a22 := Tryz.isAgg66
  z22 := Tryz.sizeOf66
  v22 := Tryz.zeroValue66
  t25 := Tryz.underlying88
  a25 := Tryz.isAgg88
  z25 := Tryz.sizeOf88
  v25 := Tryz.zeroValue88
  t39 := Tryz.underlying98
  a39 := Tryz.isAgg98
  z39 := Tryz.sizeOf98
  v39 := Tryz.zeroValue98
  t45 := Tryz.underlying111
  a45 := Tryz.isAgg111
  z45 := Tryz.sizeOf111
  v45 := Tryz.zeroValue111
  t46 := Tryz.underlying112
  a46 := Tryz.isAgg112
  z46 := Tryz.sizeOf112
  v46 := Tryz.zeroValue112
  t50 := Tryz.underlying33
  a50 := Tryz.isAgg33
  z50 := Tryz.sizeOf33
  v50 := Tryz.zeroValue33
  t53 := Tryz.underlying63
  a53 := Tryz.isAgg63
  z53 := Tryz.sizeOf63
  v53 := Tryz.zeroValue63
  t55 := Tryz.underlying119
  a55 := Tryz.isAgg119
  z55 := Tryz.sizeOf119
  v55 := Tryz.zeroValue119
  t66 := Tryz.underlying144
  a66 := Tryz.isAgg144
  z66 := Tryz.sizeOf144
  v66 := Tryz.zeroValue144
  t70 := Tryz.underlying148
  a70 := Tryz.isAgg148
  z70 := Tryz.sizeOf148
  v70 := Tryz.zeroValue148
  t76 := Tryz.underlying159
  a76 := Tryz.isAgg159
  z76 := Tryz.sizeOf159
  v76 := Tryz.zeroValue159
  t77 := Tryz.underlying122
  a77 := Tryz.isAgg122
  z77 := Tryz.sizeOf122
  v77 := Tryz.zeroValue122 }

end Go.Proofs

namespace Go.Proofs.YtdpdlplkngggoaaGreatDoor
open Go.Wk Go.RowKit Go.Lib Go.Proofs
set_option linter.unusedVariables false
structure Laid (w : World) : Prop where
  oth : ∃ e fz, w.heap[0]? = some (.cells (othL.map (Value.int .i64)).toArray e fz)
  props : TabIs Tryz.prog w "unicode.properties" .u8 propertiesTab
  upper : RVar 3 upperT w
  cases : CaseVar 4 caseA w
theorem cell_ext {w w' : World} (h : Ext w w') {a : Addr} {v : Value} (hc : w.cell? a = some v) : w'.cell? a = some v :=
  (World.cell?_of_block (h.block a.block (World.block_lt_of_cell? w a hc))).trans hc
theorem rgTab_ext {w w' : World} (h : Ext w w') {k : IntKind} {R o : Nat} {T : Array Rg} (ht : RgTab k R o T w) : RgTab k R o T w' := fun i hi => by
  have := ht i hi
  exact ⟨cell_ext h this.1, cell_ext h this.2.1, cell_ext h this.2.2⟩
theorem Laid.ext {w w' : World} (hG : Laid w) (h : Ext w w') : Laid w' := by
  obtain ⟨e, fz, hh⟩ := hG.oth
  refine ⟨⟨e, fz, by rw [h.block 0 (Array.getElem?_eq_some_iff.1 hh).1]; exact hh⟩, ?_, ?_, ?_⟩
  · have hp := hG.props
    unfold TabIs World.var? at hp ⊢
    cases hg : Tryz.prog.globalNamed "unicode.properties" with
    | none => rw [hg] at hp; cases hp
    | some g =>
      rw [hg] at hp
      simp only [Option.bind_some] at hp ⊢
      cases hq : w.heap[g]? with
      | none => rw [hq] at hp; cases hp
      | some o => rw [hq] at hp; rw [h.block g (Array.getElem?_eq_some_iff.1 hq).1, hq]; exact hp
  · obtain ⟨Tb, oT, h1, a16, a32, R16, o16, c16, R32, o32, c32, g1, g2, g3, g4, g5, g6, g7, g8⟩ := hG.upper
    exact ⟨Tb, oT, cell_ext h h1, a16, a32, R16, o16, c16, R32, o32, c32, cell_ext h g1, cell_ext h g2, cell_ext h g3, g4, g5, rgTab_ext h g6, rgTab_ext h g7, g8⟩
  · obtain ⟨R, oR, cap, h1, h2⟩ := hG.cases
    exact ⟨R, oR, cap, cell_ext h h1, fun i hi => by
      have := h2 i hi
      exact ⟨cell_ext h this.1, cell_ext h this.2.1, cell_ext h this.2.2.1, cell_ext h this.2.2.2.1, cell_ext h this.2.2.2.2⟩⟩
theorem oth_bd {e : Int} (h0 : 0 ≤ e) (h1 : e < 16) : 0 ≤ ix 0 othL e ∧ ix 0 othL e < 16 := by
  have h : ∀ k < 16, 0 ≤ ix 0 othL (k : Nat) ∧ ix 0 othL (k : Nat) < 16 := by decide
  have := h e.toNat (by omega)
  rwa [Int.toNat_of_nonneg h0] at this
theorem oth_in {m e : Int} (h2 : m % 2 = 0) (hm : m ≤ 16) (h0 : 0 ≤ e) (h1 : e < m) : 0 ≤ ix 0 othL e ∧ ix 0 othL e < m := by
  have h : ∀ m < 17, m % 2 = 0 → ∀ k < m, 0 ≤ ix 0 othL (k : Nat) ∧ ix 0 othL (k : Nat) < (m : Nat) := by decide
  have := h m.toNat (by omega) (by omega) e.toNat (by omega)
  rw [Int.toNat_of_nonneg h0] at this
  omega
theorem cyc_len (f : Int → Int) : ∀ (l : List Int) (s : Rws), (l.foldl (cycS f) s).length ≤ s.length + l.length
  | [], s => by simp
  | x :: l, s => by
    have h := cyc_len f l (cycS f s x)
    rw [List.foldl_cons, List.length_cons]
    have : (cycS f s x).length ≤ s.length + 1 := by
      rw [cycS]; split
      · omega
      · rw [List.length_append]; simp
    omega
theorem cycV_len {n : Int} (h : 0 ≤ n) (f : Int → Int) : ((cycV n f).length : Int) ≤ n := by
  have := cyc_len f (rng 0 n) []
  have hr := rng_length h
  simp only [List.length_nil] at this
  show ((List.foldl (cycS f) [] (rng 0 n)).length : Int) ≤ n
  omega
theorem oth_len : (othL.length : Int) = 16 := rfl
end Go.Proofs.YtdpdlplkngggoaaGreatDoor

namespace Go.Proofs.YtdpdlplkngggoaaGreatDoor
open Go.Wk Go.RowKit
set_option linter.unusedVariables false
theorem nrb_next {t : Tab} {k : Int} (h : 0 ≤ k) : nearK t (k + 1) = nearS t (nearK t k) k := by rw [nearK, rng_snoc h, List.foldl_append]; rfl
theorem nrb_len {t : Tab} (k : Int) : (nearK t k).length = (tnN t).toNat := by
  have h : ∀ (l : List Int) (s : List Int), (l.foldl (nearS t) s).length = s.length := by
    intro l
    induction l with
    | nil => intro s; rfl
    | cons x l ih => intro s; rw [List.foldl_cons, ih, nearS, List.length_set]
  rw [nearK, h, List.length_replicate]
theorem clash_next {near out : List Int} {p k : Int} (h : 0 ≤ k) : clashV near out p (k + 1) = (clashV near out p k || (decide (ix 0 out k = ix 0 out p) && bitN (ix 0 near p) k)) := by rw [clashV, rng_snoc h, List.any_append]; simp [clashV]
theorem any_next {f : Int → Bool} {k : Int} (h : 0 ≤ k) (hp : (rng 0 k).any f = false) (hk : f k = false) : (rng 0 (k + 1)).any f = false := by rw [rng_snoc h, List.any_append, hp]; simp [hk]
theorem any_hit {f : Int → Bool} {k n : Int} (h : 0 ≤ k) (hn : k < n) (hk : f k = true) : (rng 0 n).any f = true := List.any_eq_true.2 ⟨k, rng_mem.2 ⟨h, hn⟩, hk⟩
end Go.Proofs.YtdpdlplkngggoaaGreatDoor

namespace Go.Proofs.YtdpdlplkngggoaaGreatDoor
open Go.Wk Go.RowKit
set_option linter.unusedVariables false
def colO (t : Tab) (most : Int) : List Int := match colR (nearV t) (tnN t) most 50 false 0 (List.replicate (tnN t).toNat 0) with | some (some o) => o | _ => []
structure ColI (t : Tab) (most : Int) (r : Option (List Int)) (m : Bool) (n : Nat) (p : Int) (out : List Int) : Prop where
  l : (out.length : Int) = tnN t
  p0 : 0 ≤ p
  p1 : p ≤ tnN t
  p2 : m = true → p < tnN t
  b : ∀ q, 0 ≤ q → q < tnN t → 0 ≤ ix 0 out q ∧ ix 0 out q ≤ most ∧ ((m = false ∨ q ≠ p) → ix 0 out q < most)
  g : colR (nearV t) (tnN t) most n m p out = some r
variable {t : Tab} {most p : Int} {r : Option (List Int)} {n : Nat} {out : List Int}
theorem col_start (h0 : 0 ≤ tnN t) (hm : 1 ≤ most) (h : colR (nearV t) (tnN t) most 50 false 0 (List.replicate (tnN t).toNat 0) = some r) : ColI t most r false 50 0 (List.replicate (tnN t).toNat 0) := by
  refine ⟨by rw [List.length_replicate]; omega, Int.le_refl _, h0, (fun h => by cases h), fun q q0 q1 => ?_, h⟩
  have : ix 0 (List.replicate (tnN t).toNat (0 : Int)) q = 0 := by
    rw [ix, List.getD_eq_getElem?_getD, List.getElem?_replicate]; split <;> rfl
  omega
theorem col_done (h : ColI t most r false n p out) (hp : tnN t ≤ p) : r = some out := by
  have hg := h.g
  cases n with
  | zero => exact absurd hg (by simp [colR])
  | succ n =>
    rw [colR, if_pos hp] at hg
    exact (Option.some.inj hg).symm
theorem col_skip (h : ColI t most r false n p out) (hp : p < tnN t) (hc : clashV (nearV t) out p p = false ∧ ix 0 out p < most) : ColI t most r false (n - 1) (p + 1) out ∧ 0 < n := by
  have hg := h.g
  cases n with
  | zero => exact absurd hg (by simp [colR])
  | succ n =>
    rw [colR, if_neg (by omega), if_pos hc] at hg
    exact ⟨⟨h.l, by have := h.p0; omega, by omega, (fun h => by cases h), fun q q0 q1 => ⟨(h.b q q0 q1).1, (h.b q q0 q1).2.1, fun _ => (h.b q q0 q1).2.2 (.inl rfl)⟩, hg⟩, by omega⟩
theorem col_up (h : ColI t most r false n p out) (hp : p < tnN t) (hc : ¬ (clashV (nearV t) out p p = false ∧ ix 0 out p < most)) : ColI t most r true (n - 1) p (out.set p.toNat (ix 0 out p + 1)) ∧ 0 < n := by
  have hg := h.g
  cases n with
  | zero => exact absurd hg (by simp [colR])
  | succ n =>
    rw [colR, if_neg (by omega), if_neg hc] at hg
    have hp0 := h.p0
    have hl := h.l
    refine ⟨⟨by rw [List.length_set]; exact hl, hp0, h.p1, (fun _ => hp), fun q q0 q1 => ?_, hg⟩, by omega⟩
    rw [ix_set0 hp0 (by omega) q0]
    have hq := h.b q q0 q1
    have hpp := h.b p hp0 hp
    have h1 := hpp.2.2 (.inl rfl)
    split
    · refine ⟨by omega, by omega, fun hx => ?_⟩
      rcases hx with hx | hx
      · cases hx
      · omega
    · exact ⟨hq.1, hq.2.1, fun _ => hq.2.2 (.inl rfl)⟩
theorem col_more (h : ColI t most r true n p out) (hc : ¬ ix 0 out p ≥ most) : ColI t most r false (n - 1) p out ∧ 0 < n := by
  have hg := h.g
  cases n with
  | zero => exact absurd hg (by simp [colR])
  | succ n =>
    rw [colR, if_neg (by omega)] at hg
    refine ⟨⟨h.l, h.p0, h.p1, (fun h => by cases h), fun q q0 q1 => ?_, hg⟩, by omega⟩
    have hq := h.b q q0 q1
    refine ⟨hq.1, hq.2.1, fun _ => ?_⟩
    by_cases hqp : q = p
    · subst hqp; omega
    · exact hq.2.2 (.inr hqp)
theorem col_none (h : ColI t most r true n p out) (hc : ix 0 out p ≥ most) (hp : p - 1 < 0) : r = none := by
  have hg := h.g
  cases n with
  | zero => exact absurd hg (by simp [colR])
  | succ n =>
    rw [colR, if_pos (by omega), if_pos hp] at hg
    exact (Option.some.inj hg).symm
theorem col_back (h : ColI t most r true n p out) (hc : ix 0 out p ≥ most) (hp : ¬ p - 1 < 0) (hm : 1 ≤ most) : ColI t most r true (n - 1) (p - 1) ((out.set p.toNat 0).set (p - 1).toNat (ix 0 (out.set p.toNat 0) (p - 1) + 1)) ∧ 0 < n := by
  have hg := h.g
  cases n with
  | zero => exact absurd hg (by simp [colR])
  | succ n =>
    rw [colR, if_pos (by omega), if_neg hp] at hg
    have hp0 := h.p0
    have hp2 := h.p2 rfl
    have hl := h.l
    refine ⟨⟨by rw [List.length_set, List.length_set]; exact hl, by omega, by omega, (fun _ => by omega), fun q q0 q1 => ?_, hg⟩, by omega⟩
    rw [ix_set0 (by omega) (by rw [List.length_set]; omega) q0, ix_set0 hp0 (by omega) q0, ix_set0 hp0 (by omega) (show 0 ≤ p - 1 by omega)]
    have hq := h.b q q0 q1
    have hpp := h.b (p - 1) (by omega) (by omega)
    have h1 := hpp.2.2 (.inr (by omega))
    by_cases e1 : q = p - 1
    · rw [if_pos e1, if_neg (by omega)]
      refine ⟨by omega, by omega, fun hx => ?_⟩
      rcases hx with hx | hx
      · cases hx
      · omega
    · rw [if_neg e1]
      by_cases e2 : q = p
      · rw [if_pos e2]; exact ⟨by omega, by omega, fun _ => by omega⟩
      · rw [if_neg e2]; exact ⟨hq.1, hq.2.1, fun _ => hq.2.2 (.inr e2)⟩
theorem colO_ne (hn : 1 ≤ tnN t) (h : ColI t most r false n p out) (hp : tnN t ≤ p) (hr : colR (nearV t) (tnN t) most 50 false 0 (List.replicate (tnN t).toNat 0) = some r) : colO t most = out ∧ out ≠ [] := by
  refine ⟨?_, fun hx => ?_⟩
  · rw [colO, hr, col_done h hp]
  · have := h.l; rw [hx] at this; simp at this; omega
theorem colO_none (h : colR (nearV t) (tnN t) most 50 false 0 (List.replicate (tnN t).toNat 0) = some r) (hr : r = none) : colO t most = [] := by rw [colO, h, hr]
end Go.Proofs.YtdpdlplkngggoaaGreatDoor

namespace Go.Proofs.YtdpdlplkngggoaaGreatDoor
open Go.Wk Go.RowKit
set_option linter.unusedVariables false
def putS (near : List Int) (pts many : Int) (n : Nat) (l : List Int) (met p : Int) : Bool := (!(bitN met p) && (decide ((l.length : Int) = 0) || bitN (ix 0 near (ix 0 l (l.length - 1))) p)) && putR near pts many n (l ++ [p]) (bits .or .u32 met (IntKind.u32.wrap (1 * 2 ^ min p.toNat IntKind.u32.bits)))
variable {near l : List Int} {pts many met p : Int} {n : Nat}
theorem put_last (h : (l.length : Int) = many) : putR near pts many (n + 1) l met = bitN (ix 0 near (ix 0 l 0)) (ix 0 l (l.length - 1)) := by rw [putR, if_pos h]
theorem put_more (h : ¬ (l.length : Int) = many) : putR near pts many (n + 1) l met = (rng 0 pts).any (putS near pts many n l met) := by rw [putR, if_neg h]; rfl
theorem bit_zero (hm : 0 ≤ met ∧ met < 4294967296) : bitN met p = !(decide (bits .and .u32 (met / 2 ^ min p.toNat IntKind.u32.bits) 1 = 0)) := by
  have h2 : (0 : Int) < 2 ^ min p.toNat IntKind.u32.bits := Int.pow_pos (by decide)
  have hd0 : 0 ≤ met / 2 ^ min p.toNat IntKind.u32.bits := Int.ediv_nonneg hm.1 (Int.le_of_lt h2)
  have hd1 : met / 2 ^ min p.toNat IntKind.u32.bits < 4294967296 := Int.lt_of_le_of_lt (Int.ediv_le_self _ hm.1) hm.2
  have hb := Go.u32_and (met / 2 ^ min p.toNat IntKind.u32.bits) 1 hd0 hd1 (by decide) (by decide)
  rw [bitN, hb]
  have h1 : ((1 : Int).toNat) = 1 := rfl
  rw [h1, Nat.and_one_is_mod]
  have := Nat.mod_two_eq_zero_or_one (met / 2 ^ min p.toNat IntKind.u32.bits).toNat
  rcases this with h | h <;> rw [h] <;> rfl
theorem putS_a (hm : 0 ≤ met ∧ met < 4294967296) (h : ¬ bits .and .u32 (met / 2 ^ min p.toNat IntKind.u32.bits) 1 = 0) : putS near pts many n l met p = false := by
  rw [putS, bit_zero hm, decide_eq_false h]; rfl
theorem putS_b (hm : 0 ≤ met ∧ met < 4294967296) (h : bits .and .u32 (met / 2 ^ min p.toNat IntKind.u32.bits) 1 = 0) (hl : (l.length : Int) = 0) : putS near pts many n l met p = putR near pts many n (l ++ [p]) (bits .or .u32 met (IntKind.u32.wrap (1 * 2 ^ min p.toNat IntKind.u32.bits))) := by
  rw [putS, bit_zero hm, decide_eq_true h, decide_eq_true hl]; rfl
theorem putS_c (hm : 0 ≤ met ∧ met < 4294967296) (h : bits .and .u32 (met / 2 ^ min p.toNat IntKind.u32.bits) 1 = 0) (hl : ¬ (l.length : Int) = 0) (hb : bits .and .u32 (ix 0 near (ix 0 l (l.length - 1)) / 2 ^ min p.toNat IntKind.u32.bits) 1 = 1) :
    putS near pts many n l met p = putR near pts many n (l ++ [p]) (bits .or .u32 met (IntKind.u32.wrap (1 * 2 ^ min p.toNat IntKind.u32.bits))) := by
  rw [putS, bit_zero hm, decide_eq_true h, decide_eq_false hl, bitN, decide_eq_true hb]; rfl
theorem putS_d (hm : 0 ≤ met ∧ met < 4294967296) (h : bits .and .u32 (met / 2 ^ min p.toNat IntKind.u32.bits) 1 = 0) (hl : ¬ (l.length : Int) = 0) (hb : ¬ bits .and .u32 (ix 0 near (ix 0 l (l.length - 1)) / 2 ^ min p.toNat IntKind.u32.bits) 1 = 1) :
    putS near pts many n l met p = false := by
  rw [putS, bit_zero hm, decide_eq_true h, decide_eq_false hl, bitN, decide_eq_false hb]; rfl
theorem odd_no (h : oddR near pts = false) (h0 : 3 ≤ many) (h1 : many % 2 = 1) (h2 : many ≤ pts) (h3 : pts ≤ 8) : putR near pts many 9 [] 0 = false := by
  rw [oddR, List.any_eq_false] at h
  have := h many (by rcases (show many = 3 ∨ many = 5 ∨ many = 7 by omega) with rfl | rfl | rfl <;> decide)
  rw [decide_eq_true h2, Bool.true_and] at this
  simpa using this
theorem snoc_rng {l : List Int} {p m : Int} (h : ∀ x ∈ l, 0 ≤ x ∧ x < m) (hp : 0 ≤ p ∧ p < m) : ∀ x ∈ l ++ [p], 0 ≤ x ∧ x < m := fun x hx => by
  rcases List.mem_append.1 hx with hx | hx
  · exact h x hx
  · rw [List.mem_singleton.1 hx]; exact hp
end Go.Proofs.YtdpdlplkngggoaaGreatDoor

namespace Go.Proofs.YtdpdlplkngggoaaGreatDoor
open Go.Wk Go.RowKit
set_option linter.unusedVariables false
structure DvOK (vs : List (List Int)) (m : Int) : Prop where
  n : 1 ≤ (vs.length : Int) ∧ (vs.length : Int) ≤ 4
  m6 : 0 ≤ m ∧ m ≤ 6
  l : ∀ r ∈ vs, (r.length : Int) = m
  b : ∀ r ∈ vs, ∀ z ∈ r, 0 ≤ z ∧ z ≤ 20
def shS (row ow : List Int) (h : Int) (s : Int × Int) (x : Int) : Int × Int := if ix 0 ow x = h then (s.1 + ix 0 row x, max s.2 (ix 0 row x)) else s
def shK (row ow : List Int) (h k : Int) : Int × Int := (rng 0 k).foldl (shS row ow h) (0, 0)
def shV (vs : List (List Int)) (ow : List Int) (i h : Int) : Int × Int := shK (ix [] vs i) ow h ow.length
def envV (vs : List (List Int)) (ow : List Int) (i h : Int) : Int := (shV vs ow i h).1 - (shV vs ow i i).1
def enmV (vs : List (List Int)) (ow : List Int) (h : Int) : Int := ((rng 0 vs.length).find? fun j => decide (0 < envV vs ow j h)).getD (-1)
def calV (vs : List (List Int)) (ow : List Int) : Int := ((rng 0 vs.length).find? fun i => decide (enmV vs ow i = -1)).getD (-1)
def wlkR (vs : List (List Int)) (ow : List Int) : Nat → List Int → Int → Option (List Int)
  | 0, _, _ => none
  | n + 1, l, i => if hasL l i = true then some l else wlkR vs ow n (l ++ [i]) (enmV vs ow i)
def eqI (n : Int) : Int → Bool := fun y => decide (y = n)
def rinV (vs : List (List Int)) (ow l : List Int) : List Int := l.drop (idxP (eqI (enmV vs ow (ix 0 l (l.length - 1)))) 0 l).toNat
def turM (r : List Int) (h : Int) : Int := if 0 ≤ idxP (eqI h) 0 r then ix 0 r ((idxP (eqI h) 0 r + 1) % r.length) else h
def turV (vs : List (List Int)) (ow l : List Int) : List Int := ow.map (turM (rinV vs ow l))
def rgR (vs : List (List Int)) (m : Int) : Nat → Int → List Int → Option (List Int)
  | 0, _, _ => none
  | n + 1, x, ow => if m ≤ x then some ow else if calV vs ow = -1 then (match wlkR vs ow 9 [] 0 with | some l => if 0 ≤ idxP (eqI (enmV vs ow (ix 0 l (l.length - 1)))) 0 l then rgR vs m n x (turV vs ow l) else none | none => none) else rgR vs m n (x + 1) (ow.set x.toNat (calV vs ow))
variable {vs : List (List Int)} {ow row l r : List Int} {i h k x m n : Int}
theorem sh_next (h0 : 0 ≤ k) : shK row ow h (k + 1) = shS row ow h (shK row ow h k) k := by rw [shK, rng_snoc h0, List.foldl_append]; rfl
theorem sh_bd (hb : ∀ z ∈ row, 0 ≤ z ∧ z ≤ 20) : ∀ (n : Nat), 0 ≤ (shK row ow h n).1 ∧ (shK row ow h n).1 ≤ 20 * n ∧ 0 ≤ (shK row ow h n).2 ∧ (shK row ow h n).2 ≤ 20
  | 0 => by rw [shK, show ((0 : Nat) : Int) = 0 from rfl, rng_nil (Int.le_refl 0)]; simp
  | n + 1 => by
    have ih := sh_bd hb n
    have hz : 0 ≤ ix 0 row n ∧ ix 0 row n ≤ 20 := by
      rcases Int.lt_or_le (n : Int) row.length with hl | hl
      · exact hb _ (List.mem_of_getElem? (ix_get (d := 0) hl (by omega)))
      · have : ix 0 row n = 0 := by rw [ix, List.getD_eq_getElem?_getD, List.getElem?_eq_none (by omega)]; rfl
        omega
    have hc : ((n + 1 : Nat) : Int) = (n : Int) + 1 := by omega
    rw [hc, sh_next (by omega), shS]
    split
    · refine ⟨by simp only; omega, by simp only; omega, ?_, ?_⟩ <;> simp only [Int.max_def] <;> split <;> omega
    · omega
theorem shk_bd (hb : ∀ z ∈ row, 0 ≤ z ∧ z ≤ 20) (h0 : 0 ≤ k) (h1 : k ≤ 6) : 0 ≤ (shK row ow h k).1 ∧ (shK row ow h k).1 ≤ 120 ∧ 0 ≤ (shK row ow h k).2 ∧ (shK row ow h k).2 ≤ 20 := by
  have := sh_bd (ow := ow) (h := h) hb k.toNat
  rw [Int.toNat_of_nonneg h0] at this
  omega
theorem row_mem (hk : DvOK vs m) (h0 : 0 ≤ i) (h1 : i < vs.length) : ix [] vs i ∈ vs := List.mem_of_getElem? (ix_get (d := []) h1 h0)
theorem shv_bd (hk : DvOK vs ow.length) (h0 : 0 ≤ i) (h1 : i < vs.length) (h : Int) : 0 ≤ (shV vs ow i h).1 ∧ (shV vs ow i h).1 ≤ 120 ∧ 0 ≤ (shV vs ow i h).2 ∧ (shV vs ow i h).2 ≤ 20 := shk_bd (hk.b _ (row_mem hk h0 h1)) hk.m6.1 hk.m6.2
theorem fnd_next {f : Int → Bool} (h0 : 0 ≤ k) (hp : (rng 0 k).find? f = none) (hf : f k = false) : (rng 0 (k + 1)).find? f = none := by
  rw [rng_snoc h0, List.find?_append, hp]; simp [hf]
theorem fnd_none {f : Int → Bool} (hp : (rng 0 k).find? f = none) (hk : k = n) : ((rng 0 n).find? f).getD (-1) = -1 := by rw [← hk, hp]; rfl
theorem fnd_hit {f : Int → Bool} (h0 : 0 ≤ k) (hk : k < n) (hp : (rng 0 k).find? f = none) (hf : f k = true) : ((rng 0 n).find? f).getD (-1) = k := by
  have h1 : rng 0 n = rng 0 (k + 1) ++ rng (k + 1) n := by
    have : ∀ (d : Nat) (a : Int), 0 ≤ a → rng 0 (a + d) = rng 0 a ++ rng a (a + d) := by
      intro d
      induction d with
      | zero => intro a ha; rw [show a + ((0 : Nat) : Int) = a by omega, rng_nil (Int.le_refl a), List.append_nil]
      | succ d ih =>
        intro a ha
        rw [show a + ((d + 1 : Nat) : Int) = (a + d) + 1 by omega, rng_snoc (by omega), rng_snoc (i := a) (by omega), ih a ha, List.append_assoc]
    have h2 := this (n - (k + 1)).toNat (k + 1) (by omega)
    rw [show k + 1 + ((n - (k + 1)).toNat : Int) = n by omega] at h2
    exact h2
  rw [h1, rng_snoc h0, List.find?_append, List.find?_append, hp]
  simp [hf]
end Go.Proofs.YtdpdlplkngggoaaGreatDoor

namespace Go.Proofs.YtdpdlplkngggoaaGreatDoor
open Go.Wk Go.RowKit
set_option linter.unusedVariables false
variable {vs : List (List Int)} {ow ow2 row l l2 res : List Int} {i h k x m : Int} {n : Nat}
theorem wlk_end (h : wlkR vs ow n l2 i = some l) (hc : hasL l2 i = true) : l2 = l := by
  cases n with
  | zero => cases h
  | succ n => rw [wlkR, if_pos hc] at h; exact Option.some.inj h
theorem wlk_next (h : wlkR vs ow n l2 i = some l) (hc : hasL l2 i = false) : wlkR vs ow (n - 1) (l2 ++ [i]) (enmV vs ow i) = some l ∧ 0 < n := by
  cases n with
  | zero => cases h
  | succ n => rw [wlkR, if_neg (by rw [hc]; decide)] at h; exact ⟨h, by omega⟩
theorem wlk_pos' : ∀ (n : Nat) (l2 : List Int) (i : Int), wlkR vs ow n l2 i = some l → l2.length ≤ l.length ∧ (l2 = [] → 0 < l.length)
  | 0, _, _, h => by cases h
  | n + 1, l2, i, h => by
    rw [wlkR] at h
    split at h
    · rename_i hc
      cases Option.some.inj h
      refine ⟨Nat.le_refl _, fun he => ?_⟩
      subst he; cases hc
    · have := wlk_pos' n _ _ h
      rw [List.length_append] at this
      simp only [List.length_cons, List.length_nil] at this
      exact ⟨by omega, fun _ => by omega⟩
theorem wlk_pos (h : wlkR vs ow n [] i = some l) : 0 < l.length := (wlk_pos' n _ _ h).2 rfl
theorem enm_bd (hk : DvOK vs m) (h : Int) : -1 ≤ enmV vs ow h ∧ enmV vs ow h ≤ 4 := by
  have hn := hk.n
  rw [enmV]
  cases hf : (rng 0 vs.length).find? fun j => decide (0 < envV vs ow j h) with
  | none => simp only [Option.getD_none]; omega
  | some j =>
    have := rng_mem.1 (List.mem_of_find?_eq_some hf)
    simp only [Option.getD_some]; omega
theorem idx_lt' {P : Int → Bool} : ∀ (l : List Int) (i : Int), 0 ≤ i → 0 ≤ idxP P i l → idxP P i l < i + l.length
  | [], i, hi, h => by simp [idxP] at h
  | x :: l, i, hi, h => by
    rw [idxP] at h ⊢
    rw [List.length_cons]
    split
    · omega
    · rename_i hx
      rw [if_neg hx] at h
      have := idx_lt' l (i + 1) (by omega) h
      omega
theorem idx_lt {P : Int → Bool} {l : List Int} (h : 0 ≤ idxP P 0 l) : idxP P 0 l < l.length := by
  have := idx_lt' l 0 (Int.le_refl 0) h
  omega
theorem cal_bd (hk : DvOK vs m) : -1 ≤ calV vs ow ∧ calV vs ow ≤ 4 := by
  have hn := hk.n
  rw [calV]
  cases hf : (rng 0 vs.length).find? fun i => decide (enmV vs ow i = -1) with
  | none => simp only [Option.getD_none]; omega
  | some j =>
    have := rng_mem.1 (List.mem_of_find?_eq_some hf)
    simp only [Option.getD_some]; omega
def mpK (f : Int → Int) (ow : List Int) (k : Int) : List Int := (ow.take k.toNat).map f ++ ow.drop k.toNat
theorem mp_len (f : Int → Int) (ow : List Int) (k : Int) : (mpK f ow k).length = ow.length := by rw [mpK, List.length_append, List.length_map, List.length_take, List.length_drop]; omega
theorem mp_at {f : Int → Int} (h0 : 0 ≤ k) (h1 : k < ow.length) : ix 0 (mpK f ow k) k = ix 0 ow k := by
  have hl : ((ow.take k.toNat).map f).length = k.toNat := by rw [List.length_map, List.length_take]; omega
  rw [ix, ix, mpK, List.getD_eq_getElem?_getD, List.getD_eq_getElem?_getD, List.getElem?_append_right (by omega), hl, List.getElem?_drop]
  congr 2
  omega
theorem mp_set {f : Int → Int} (h0 : 0 ≤ k) (h1 : k < ow.length) : (mpK f ow k).set k.toNat (f (ix 0 ow k)) = mpK f ow (k + 1) := by
  have hl : ((ow.take k.toNat).map f).length = k.toNat := by rw [List.length_map, List.length_take]; omega
  have e : (k + 1).toNat = k.toNat + 1 := by omega
  have hd : ow.drop k.toNat = ix 0 ow k :: ow.drop (k.toNat + 1) := by
    rw [List.drop_eq_getElem_cons (by omega)]
    congr 1
    have := ix_get (d := (0 : Int)) h1 h0
    rw [List.getElem?_eq_getElem (by omega)] at this
    exact Option.some.inj this
  have ht : ow.take (k.toNat + 1) = ow.take k.toNat ++ [ix 0 ow k] := by
    rw [List.take_add_one]
    congr 1
    rw [ix_get (d := (0 : Int)) h1 h0]; rfl
  rw [mpK, mpK, e, List.set_append_right _ _ (by omega), hl, Nat.sub_self, hd, List.set_cons_zero, ht, List.map_append, List.append_assoc]
  rfl
theorem mp_keep {f : Int → Int} (h0 : 0 ≤ k) (h1 : k < ow.length) (hf : f (ix 0 ow k) = ix 0 ow k) : mpK f ow k = mpK f ow (k + 1) := by
  rw [← mp_set h0 h1, hf]
  refine (List.ext_getElem? fun j => ?_)
  rw [List.getElem?_set]
  split
  · rename_i hj
    subst hj
    have := mp_at (f := f) h0 h1
    rw [if_pos (by rw [mp_len]; omega), ← this, ix_get (d := (0 : Int)) (by rw [mp_len]; exact h1) h0]
  · rfl
theorem mp_end {f : Int → Int} (h : (ow.length : Int) ≤ k) : mpK f ow k = ow.map f := by rw [mpK, List.take_of_length_le (by omega), List.drop_eq_nil_of_le (by omega), List.append_nil]
theorem rg_end (h : rgR vs m n x ow = some res) (hx : m ≤ x) : ow = res := by
  cases n with
  | zero => cases h
  | succ n => rw [rgR, if_pos hx] at h; exact Option.some.inj h
theorem rg_turn (h : rgR vs m n x ow = some res) (hx : x < m) (hc : calV vs ow = -1) :
    ∃ l, wlkR vs ow 9 [] 0 = some l ∧ 0 ≤ idxP (eqI (enmV vs ow (ix 0 l (l.length - 1)))) 0 l ∧ rgR vs m (n - 1) x (turV vs ow l) = some res ∧ 0 < n := by
  cases n with
  | zero => cases h
  | succ n =>
    rw [rgR, if_neg (by omega), if_pos hc] at h
    cases hw : wlkR vs ow 9 [] 0 with
    | none => rw [hw] at h; cases h
    | some l =>
      rw [hw] at h
      simp only at h
      split at h
      · rename_i hi; exact ⟨l, rfl, hi, h, by omega⟩
      · cases h
theorem rg_put (h : rgR vs m n x ow = some res) (hx : x < m) (hc : ¬ calV vs ow = -1) : rgR vs m (n - 1) (x + 1) (ow.set x.toNat (calV vs ow)) = some res ∧ 0 < n := by
  cases n with
  | zero => cases h
  | succ n => rw [rgR, if_neg (by omega), if_neg hc] at h; exact ⟨h, by omega⟩
theorem tur_len (l : List Int) : (turV vs ow l).length = ow.length := by rw [turV, List.length_map]
def vs0 : List (List Int) := [[1, 5, 2], [5, 1, 2]]
theorem rg_0 : rgR vs0 3 50 0 (List.replicate (3 : Int).toNat (-1)) = some [1, 0, 0] := by decide +kernel
theorem dv_0 : DvOK vs0 3 := by
  refine ⟨by decide, by decide, ?_, ?_⟩
  · decide
  · decide
end Go.Proofs.YtdpdlplkngggoaaGreatDoor

namespace Go.Proofs.YtdpdlplkngggoaaGreatDoor
open Go.Wk
theorem good_0 : GoodM [[0, 2, 1, 3]] := good_m (by decide +kernel)
theorem gen_0 : (0 ≤ partT (tabV [[0, 2, 1, 3]]) ∧ partT (tabV [[0, 2, 1, 3]]) ≤ 100) ∧ 0 ≤ tnN (tabV [[0, 2, 1, 3]]) - teN (tabV [[0, 2, 1, 3]]) / 2 + (cycV (teN (tabV [[0, 2, 1, 3]])) (alngF (tabV [[0, 2, 1, 3]]))).length := by decide +kernel
end Go.Proofs.YtdpdlplkngggoaaGreatDoor

namespace Go.Proofs.YtdpdlplkngggoaaGreatDoor
open Go.Wk Go.RowKit
set_option linter.unusedVariables false
abbrev gM (s : Ends) : Rws := gridM s.1 s.2
def zOK (s : Ends) : Bool := decide (0 ≤ tnN (tabV (gM s)) - teN (tabV (gM s)) / 2 + (cycV (teN (tabV (gM s))) (alngF (tabV (gM s)))).length) && decide (colO (tabV (gM s)) 2 ≠ [])
theorem z_ok : sizeL.all zOK = true := by decide +kernel
structure GridF (s : Ends) : Prop where
  good : GoodM (gM s)
  gen : genT (tabV (gM s)) = 0
  par : partT (tabV (gM s)) = 1
  fac : ((cycV (teN (tabV (gM s))) (alngF (tabV (gM s)))).length : Int) = (s.1 - 1) * (s.2 - 1) + 1
  z : 0 ≤ tnN (tabV (gM s)) - teN (tabV (gM s)) / 2 + (cycV (teN (tabV (gM s))) (alngF (tabV (gM s)))).length
  lp : loopV (tabV (gM s)) = false
  n1 : 1 ≤ tnN (tabV (gM s))
  c1 : colR (nearV (tabV (gM s))) (tnN (tabV (gM s))) 1 50 false 0 (List.replicate (tnN (tabV (gM s))).toNat 0) = some none
  c2 : ∃ o, colR (nearV (tabV (gM s))) (tnN (tabV (gM s))) 2 50 false 0 (List.replicate (tnN (tabV (gM s))).toNat 0) = some (some o)
  c3 : colO (tabV (gM s)) 2 ≠ []
  od : oddR (nearV (tabV (gM s))) (tnN (tabV (gM s))) = false
theorem grid_is {s : Ends} (hs : s ∈ sizeL) : GridF s := by
  have h1 := List.all_eq_true.1 grid_ok s hs
  have h2 := List.all_eq_true.1 col_ok s hs
  have h3 := List.all_eq_true.1 z_ok s hs
  rw [gridOK, Bool.and_eq_true, Bool.and_eq_true, decide_eq_true_eq, decide_eq_true_eq, decide_eq_true_eq] at h1
  rw [colOK, Bool.and_eq_true, Bool.and_eq_true, Bool.and_eq_true, Bool.and_eq_true, decide_eq_true_eq, decide_eq_true_eq, Bool.not_eq_true', Bool.not_eq_true'] at h2
  rw [zOK, Bool.and_eq_true, decide_eq_true_eq, decide_eq_true_eq] at h3
  refine ⟨good_m (num_is hs).g, h1.1.1, h1.1.2, h1.2, h3.1, h2.1.1, Int.le_trans (by decide) h2.1.2, h2.2.1, ?_, h3.2, h2.2.2.2⟩
  have h4 := h2.2.2.1
  cases hc : colR (nearV (tabV (gridM s.1 s.2))) (tnN (tabV (gridM s.1 s.2))) 2 50 false 0 (List.replicate (tnN (tabV (gridM s.1 s.2))).toNat 0) with
  | none => rw [hc] at h4; cases h4
  | some r =>
    cases r with
    | none => rw [hc] at h4; cases h4
    | some o => exact ⟨o, rfl⟩
theorem size_in {i : Int} (h0 : 0 ≤ i) (h1 : i < 6) : ix (0, 0) sizeL i ∈ sizeL := List.mem_of_getElem? (ix_get (d := ((0, 0) : Ends)) (by show i < 6; exact h1) h0)
theorem size_le {s : Ends} (hs : s ∈ sizeL) : s.1 ≤ 6 ∧ s.2 ≤ 6 := by
  simp only [sizeL, List.mem_cons, List.not_mem_nil, or_false] at hs
  rcases hs with rfl | rfl | rfl | rfl | rfl | rfl <;> decide
theorem fac_bd {s : Ends} (hs : s ∈ sizeL) : 0 ≤ (s.1 - 1) * (s.2 - 1) ∧ (s.1 - 1) * (s.2 - 1) ≤ 25 := by
  simp only [sizeL, List.mem_cons, List.not_mem_nil, or_false] at hs
  rcases hs with rfl | rfl | rfl | rfl | rfl | rfl <;> decide
def hgtV (zs : List Int) (k : Int) : List Int := (zs.take k.toNat).map fun z => z % 31
theorem hgt_next {zs : List Int} {k : Int} (h0 : 0 ≤ k) (h1 : k < zs.length) : hgtV zs (k + 1) = hgtV zs k ++ [ix 0 zs k % 31] := by rw [hgtV, take_ix (d := (0 : Int)) h0 h1, List.map_append]; rfl
theorem hgt_len {zs : List Int} {k : Int} (h0 : 0 ≤ k) (h1 : k ≤ zs.length) : ((hgtV zs k).length : Int) = k := by rw [hgtV, List.length_map, List.length_take]; omega
theorem hgt_chk {s : Ends} {zs : List Int} (hs : s ∈ sizeL) (hl : zs.length = 7) (hz : ∀ z ∈ zs, InK .u8 z) : checkS s.1 s.2 (hgtV zs (s.1 * s.2)) = 0 := by
  have hn := (num_is hs).n
  have hsz : s.1 ≤ 6 ∧ s.2 ≤ 6 := by
    simp only [sizeL, List.mem_cons, List.not_mem_nil, or_false] at hs
    rcases hs with rfl | rfl | rfl | rfl | rfl | rfl <;> decide
  rw [check_any ⟨⟨hn.2.2.1, hsz.1⟩, hn.2.2.2, hsz.2⟩ (hgt_len (by omega) (by omega)), if_neg]
  rw [Bool.not_eq_true, List.any_eq_false]
  intro x hx
  rw [hgtV, List.mem_map] at hx
  obtain ⟨z, hz1, rfl⟩ := hx
  have hb := bd_u8 (hz z (List.mem_of_mem_take hz1))
  rw [Bool.not_eq_true, badH_iff]
  omega
theorem row_hit {m : NumM} {p : Int} {l : List Int} {x : Ends} (h : (mfind m x 0).isSome = true) : rowS m p l x = if x.1 = p then l ++ [2 * mget 0 m x] else l ++ [2 * mget 0 m x + 1] := by
  rw [rowS, mfind_get 0 m x 0]
  cases hm : mfind m x 0 with
  | none => rw [hm] at h; cases h
  | some y => rfl
theorem row_miss {m : NumM} {p : Int} {l : List Int} {x : Ends} (h : (mfind m x 0).isSome = false) : rowS m p l x = l := by
  rw [rowS]
  cases hm : mfind m x 0 with
  | none => rfl
  | some y => rw [hm] at h; cases h
theorem row_next {m : NumM} {C p j : Int} (h0 : 0 ≤ j) (h1 : j < 4) : rowK m C p (j + 1).toNat = rowS m p (rowK m C p j.toNat) (ix (0, 0) (fourE C p) j) := by
  have ht := take_ix (d := ((0, 0) : Ends)) (xs := fourE C p) h0 (show j < ((fourE C p).length : Int) from h1)
  rw [rowK, ht, List.foldl_append]; rfl
theorem num_bd {R C : Int} (k : Int) (h0 : 0 ≤ k) : ((numK R C k).length : Int) ≤ 2 * k := by
  have h : ∀ (l : List Int) (m : NumM), (l.foldl (fun m p => num2 R C p (num1 C p m)) m).length ≤ m.length + 2 * l.length := by
    intro l
    induction l with
    | nil => intro m; simp
    | cons p l ih =>
      intro m
      have h1 := ih (num2 R C p (num1 C p m))
      have h2 : (num1 C p m).length ≤ m.length + 1 := by
        rw [num1]; split
        · exact mput_le _ _ _
        · omega
      have h3 : (num2 R C p (num1 C p m)).length ≤ (num1 C p m).length + 1 := by
        rw [num2]; split
        · exact mput_le _ _ _
        · omega
      rw [List.foldl_cons, List.length_cons]; omega
  have h1 := h (rng 0 k) []
  have h2 := rng_length h0
  simp only [List.length_nil] at h1
  show ((List.foldl (fun m p => num2 R C p (num1 C p m)) [] (rng 0 k)).length : Int) ≤ 2 * k
  omega
theorem mget_in {m : NumM} {lo hi : Int} (h : ∀ e ∈ m, lo ≤ e.2 ∧ e.2 ≤ hi) (h0 : lo ≤ 0 ∧ 0 ≤ hi) (x : Ends) : lo ≤ mget 0 m x ∧ mget 0 m x ≤ hi := by
  induction m with
  | nil => exact h0
  | cons p m ih =>
    rw [mget]
    split
    · exact h p (List.mem_cons_self ..)
    · exact ih fun e he => h e (List.mem_cons_of_mem _ he)
theorem num_val {s : Ends} (hs : s ∈ sizeL) (x : Ends) : 0 ≤ mget 0 (numV s.1 s.2) x ∧ mget 0 (numV s.1 s.2) x ≤ 12 := by
  have hn := num_is hs
  have hl := num_len hs
  have hb := num_bd (R := s.1) (C := s.2) (s.1 * s.2) (by have := hn.n; omega)
  refine mget_in (fun e he => ?_) (by decide) x
  have : e.2 ∈ (numV s.1 s.2).map (·.2) := List.mem_map.2 ⟨e, he, rfl⟩
  rw [hn.v, rng_mem] at this
  have hb' : ((numV s.1 s.2).length : Int) ≤ 2 * (s.1 * s.2) := hb
  have := hn.n
  omega
theorem rep_set {n k : Int} (h0 : 0 ≤ k) (h1 : k < n) : (List.replicate k.toNat true ++ List.replicate (n - k).toNat false).set k.toNat true = List.replicate (k + 1).toNat true ++ List.replicate (n - (k + 1)).toNat false := by
  have e1 : (n - k).toNat = (n - (k + 1)).toNat + 1 := by omega
  have e2 : (k + 1).toNat = k.toNat + 1 := by omega
  rw [List.set_append_right _ _ (by rw [List.length_replicate]; exact Nat.le_refl _), List.length_replicate, Nat.sub_self, e1, List.replicate_succ, List.set_cons_zero, e2, List.replicate_succ', List.append_assoc]
  rfl
theorem tree_bank {R C : Int} {H : List Int} (hk : SOK R C H) {e : Ends} (he : e ∈ treeV C H) (hn : e.2 = (H.length : Int)) : (H.length : Int) - C ≤ e.1 ∧ e.1 < (H.length : Int) := by
  obtain ⟨⟨⟨h1, h2⟩, h3, h4⟩, h5⟩ := treeV_mem hk he
  rw [nearB, if_pos (.inr hn), Bool.and_eq_true, decide_eq_true_eq, decide_eq_true_eq] at h5
  have := h5.2
  rw [hn, Int.min_def] at this
  split at this <;> omega
section
variable {s : Ends} {H : List Int} {m : Rws} {k : Int}
theorem tci_start (hs : s ∈ sizeL) : TcI s H (((numV s.1 s.2).length : Int) - 1 + 1).toNat (gM s) := by
  rw [show (((numV s.1 s.2).length : Int) - 1 + 1).toNat = (lineL s.1 s.2).length by rw [num_len hs]; omega]; exact tc_start hs
theorem tci_keep (k0 : 0 ≤ k) (h : TcI s H (k + 1).toNat m) (hk : (kpL s H).getD k.toNat false = true) : TcI s H (k - 1 + 1).toNat m := by
  rw [show (k + 1).toNat = k.toNat + 1 by omega] at h
  rw [show (k - 1 + 1).toNat = k.toNat by omega]
  exact tc_keep h hk
theorem tci_cut (k0 : 0 ≤ k) (h : TcI s H (k + 1).toNat m) (hk : (kpL s H).getD k.toNat false = false) : CutOK m k ∧ TcI s H (k - 1 + 1).toNat (cutV m k) := by
  rw [show (k + 1).toNat = k.toNat + 1 by omega] at h
  rw [show (k - 1 + 1).toNat = k.toNat by omega]
  have := tc_cut h hk
  rw [Int.toNat_of_nonneg k0] at this
  exact ⟨cut_ok this.1, this.2⟩
theorem tci_end (hs : s ∈ sizeL) (hk : SOK s.1 s.2 H) (h : TcI s H (k + 1).toNat m) (hk1 : k < 0) : partT (tabV m) + aloneN (s.1 * s.2) (keptL (lineL s.1 s.2) (kpL s H)) = riverN s.2 H := by
  rw [show (k + 1).toNat = 0 by omega] at h
  exact tc_end hs hk h
theorem tci_good (h : TcI s H k.toNat m) : GoodM m := tc_good h
end
theorem cnt_next {al : List Bool} {k : Int} (h0 : 0 ≤ k) (h1 : k < al.length) : (((al.take (k + 1).toNat).filter id).length : Int) = ((al.take k.toNat).filter id).length + if ix false al k = true then 1 else 0 := by
  rw [take_ix (d := false) h0 h1, List.filter_append, List.length_append]
  cases ix false al k <;> simp
end Go.Proofs.YtdpdlplkngggoaaGreatDoor

namespace Go.Wk
open Go.RowKit Go.Lib
set_option linter.unusedVariables false
variable {P : Program} {n : Nat} {kn kr k : Cont} {ke : List (Nat × Cont)} {σ : Fr} {w : World} {ops : Array Oper} {S : World → Prop}

theorem Wz.gyes (i : Nat) {f : Nat} {listed : Array Bool} {d : Tmp} {op : Op} {ty : TypeId} {pos : String} {af : Array Edge} {v : Value} {l : List (Nat × Value)} {σ0 : Fr} {j dj : Nat} {b : Bool}
    (hi : ops[i]? = some ⟨some d, op, ty, pos, af, some (j, b)⟩) (hB : (Region.noSelect ops && Region.free .any ops listed i && (Region.ready .any ops listed).contains i) = true) (hS : S w)
    (hj : gdst ops j = some dj) (hn : Nat.ble (dj + 1) n = true) (hv : look l σ0 dj = .bool b)
    (hr : ∀ w', S w' → Rd P (look l σ0) op ty w' v) (hd : Nat.ble (d + 1) n = true) (h : Wz P n ops S f (listed.setIfInBounds i true) k (look ((d, v) :: l) σ0) w) : Wz P n ops S (f + 1) listed k (look l σ0) w := by
  intro T hT
  simp only [Bool.and_eq_true] at hB
  have hw := wanted_of (o := ⟨some d, op, ty, pos, af, some (j, b)⟩) hT rfl hj hn
  have hb : isB (look l σ0 dj) b = true := by rw [hv]; cases b <;> rfl
  rw [hb] at hw
  obtain ⟨T', hT', hF⟩ := hT.put (some d) v hd []
  rw [look_cons] at h
  refine wpAnyH_take (v := v) hi hB.1.1 hB.1.2 hB.2 (fun c a w h => h.elim) (.inl ⟨hw, fun w' hw' => ?_⟩) hS ?_
  · rw [hT.eval, execOp_xop]
    exact hr w' hw' w' (Ext.refl _)
  · rw [hT']
    exact h T' hF
theorem Wz.gno (i : Nat) {f : Nat} {listed : Array Bool} {d : Tmp} {op : Op} {ty : TypeId} {pos : String} {af : Array Edge} {l : List (Nat × Value)} {σ0 : Fr} {j dj : Nat} {b : Bool}
    (hi : ops[i]? = some ⟨some d, op, ty, pos, af, some (j, b)⟩) (hB : (Region.noSelect ops && Region.free .any ops listed i && (Region.ready .any ops listed).contains i) = true) (hS : S w)
    (hj : gdst ops j = some dj) (hn : Nat.ble (dj + 1) n = true) (hv : isB (look l σ0 dj) b = false) (hd : Nat.ble (d + 1) n = true)
    (h : Wz P n ops S f (listed.setIfInBounds i true) k (look ((d, undef) :: l) σ0) w) : Wz P n ops S (f + 1) listed k (look l σ0) w := by
  intro T hT
  simp only [Bool.and_eq_true] at hB
  have hw := wanted_of (o := ⟨some d, op, ty, pos, af, some (j, b)⟩) hT rfl hj hn
  rw [hv] at hw
  obtain ⟨T', hT', hF⟩ := hT.put (some d) undef hd []
  rw [look_cons] at h
  refine wpAnyH_take (v := undef) hi hB.1.1 hB.1.2 hB.2 (fun c a w h => h.elim) (.inr ⟨hw, rfl⟩) hS ?_
  rw [hT']
  exact h T' hF
theorem Wz.gnoB (i : Nat) {f : Nat} {listed : Array Bool} {d : Tmp} {op : Op} {ty : TypeId} {pos : String} {af : Array Edge} {l : List (Nat × Value)} {σ0 : Fr} {j dj : Nat} {b c : Bool}
    (hi : ops[i]? = some ⟨some d, op, ty, pos, af, some (j, b)⟩) (hB : (Region.noSelect ops && Region.free .any ops listed i && (Region.ready .any ops listed).contains i) = true) (hS : S w)
    (hj : gdst ops j = some dj) (hn : Nat.ble (dj + 1) n = true) (hv : look l σ0 dj = .bool c) (hc : (c == b) = false) (hd : Nat.ble (d + 1) n = true)
    (h : Wz P n ops S f (listed.setIfInBounds i true) k (look ((d, undef) :: l) σ0) w) : Wz P n ops S (f + 1) listed k (look l σ0) w :=
  Wz.gno i hi hB hS hj hn (by rw [hv]; exact isB_ne hc) hd h
end Go.Wk

namespace Go.Wk
open Go.RowKit Go.Lib Go.Maps
set_option linter.unusedVariables false
section
variable {P : Program} {n : Nat} {kc : Cont} {σ σ0 : Fr} {w w0 : World} {O : List (Option Nat)} {obs : List Ob} {x y z : Operand} {ty T : TypeId}
variable {κ ν : Type} [DecidableEq κ] {f : κ → Value} {g : ν → Value} {kt et : TypeId}
theorem rd_lookupOk {b c : Nat} {m : List (κ × ν)} {zv : ν} {k : κ} (hS : St w0 O w obs) (i : Nat) (hi : obs[i]? = some (.raw b (.map (mE f g m 0).toArray c))) (hx : ev σ x = .map (some b)) (hy : ev σ y = f k)
    (hu : P.underlying T = some (.map kt et)) (K : KeyD P kt f) (hz : ∀ w', (zeroValue et).run P w' = .ok (g zv) w') : Rd P σ (.lookup T x y true) ty w (.tuple #[g (mget zv m k), .bool (mfind m k 0).isSome]) := by
  intro w' hw'
  have hb := (hS.get i hi).2
  have hb' : w'.heap[b]? = some (.map (mE f g m 0).toArray c) := (hw'.block b (Array.getElem?_eq_some_iff.1 hb).1).trans hb
  have hf := K.find g m k 0 w'
  rw [mfind_get zv m k 0]
  simp only [xop, execOp, hx, hy, Instr.lookup, Sem.run_bind, run_underlying hu, MapKept.run_getObj_map hb', Result.andThen_ok, K.check, hf, Sem.run_pure]
  cases mfind m k 0 <;> simp [hz]
theorem rd_lenM {b c : Nat} {m : List (κ × ν)} (hS : St w0 O w obs) (i : Nat) (hi : obs[i]? = some (.raw b (.map (mE f g m 0).toArray c))) (hx : ev σ x = .map (some b))
    (hu : P.underlying T = some (.map kt et)) : Rd P σ (.call { callee := .builtin .len, args := #[x], argTypes := #[T] }) ty w (.int .i64 m.length) := by
  intro w' hw'
  have hb := (hS.get i hi).2
  have hb' : w'.heap[b]? = some (.map (mE f g m 0).toArray c) := (hw'.block b (Array.getElem?_eq_some_iff.1 hb).1).trans hb
  simp [xop, execOp, resolve, invoke, builtin, hx, Builtin.len_, run_underlying hu, MapKept.run_getObj_map hb', mE_len, goInt]
end
end Go.Wk

namespace Go.Proofs.YtdpdlplkngggoaaGreatDoor
open Go.Wk Go.RowKit Go.Lib
set_option linter.unusedVariables false
set_option linter.unusedSimpArgs false
theorem mixedVa_ : Tryz.prog.follows .mixedOrders = true := by kernel_rfl

theorem F34 {xv : Value} {xs : List Int} {Fr_xv : List (Option Nat)} {yv : Value} {ys : List Int} {Fr_yv : List (Option Nat)} {w : World} (h_xv : V (tSl (tI .i64)) xs xv Fr_xv w) (h_yv : V (tSl (tI .i64)) ys yv Fr_yv w) : Calls Tryz.prog 34 #[xv, yv] w (Ret w (fun r _ => r = .bool (decide (xs = ys)))) := by
  have a_xv := h_xv.any
  have l_xv := h_xv.len63
  have a_yv := h_yv.any
  have l_yv := h_yv.len63
  have hS := St.start0 w
  refine enterR Tryz.func34 rfl Tryz.ntmps34 Tryz.results34 rfl ?_
  refine W.seq ?_
  refine W.reg ?_
  refine Wx.rd (v := .bool false) (rd_assign rfl) rfl ?_
  refine Wx.nil ?_
  refine W.seq ?_
  refine W.seq ?_
  refine W.reg ?_
  refine Wx.rd (v := xv) (rd_move rfl) rfl ?_
  refine Wx.rd (v := .int .i64 (xs.length : Int)) (rd_lenV rfl (hS.arg a_xv) Tryz.underlying25) rfl ?_
  refine Wx.rd (v := yv) (rd_move rfl) rfl ?_
  refine Wx.rd (v := .int .i64 (ys.length : Int)) (rd_lenV rfl (hS.arg a_yv) Tryz.underlying25) rfl ?_
  refine Wx.rd (v := .bool (decide ((xs.length : Int) ≠ (ys.length : Int)))) (rd_neq rfl rfl) rfl ?_
  refine Wx.nil ?_
  refine W.condD rfl (fun c0 => ?_) (fun c0 => ?_)
  · -- yes
    refine W.seq ?_
    refine W.reg ?_
    refine Wx.rd (v := .bool false) (rd_assign rfl) rfl ?_
    refine Wx.nil ?_
    have e0_0 : (decide (xs = ys)) = false := by exact decide_eq_false (fun h : xs = ys => c0 (by rw [h]))
    exact W.ret ⟨.bool false, ResIs.one, hS.bel, (by rw [e0_0])⟩
  · -- no
    refine W.skip ?_
    refine W.seq ?_
    refine W.seq ?_
    refine W.reg ?_
    refine Wx.rd (v := xv) (rd_move rfl) rfl ?_
    refine Wx.rd (v := .int .i64 (xs.length : Int)) (rd_lenV rfl (hS.arg a_xv) Tryz.underlying25) rfl ?_
    refine Wx.rd (v := .int .i64 0) (rd_move rfl) rfl ?_
    refine Wx.nil ?_
    refine W.block ?_
    refine W.loop [4, 5, 13, 14, 15, 16, 17, 18, 19, 20, 21, 22, 23, 24, 25] (fun (k : Int) => [(13, .int .i64 k)]) (fun (k : Int) w' => St w [] w' [] ∧ 0 ≤ k ∧ k ≤ xs.length ∧ decide (xs.drop k.toNat = ys.drop k.toNat) = decide (xs = ys)) (fun (k : Int) => (xs.length - k).toNat) 0 ⟨rfl, trivial⟩ ⟨hS, (by first | omega | simp), (by first | omega | simp), (by simp)⟩ ?_
    rintro k u_2 w_1 ⟨hS, h0, h1, h2⟩
    refine W.seq ?_
    refine W.reg ?_
    refine Wx.rd (v := .bool (decide (k < (xs.length : Int)))) (rd_lss rfl rfl) rfl ?_
    refine Wx.nil ?_
    refine W.seq ?_
    refine W.condD rfl (fun c1 => ?_) (fun c1 => ?_)
    · -- yes
      refine W.skip ?_
      refine W.seq ?_
      refine W.block ?_
      refine W.seq ?_
      refine W.reg ?_
      refine Wx.rd (v := .int .i64 k) (rd_move rfl) rfl ?_
      refine Wx.rd (v := .int .i64 k) (rd_assign rfl) rfl ?_
      refine Wx.nil ?_
      refine W.seq ?_
      refine W.regQ mixedVa_ (by kernel_rfl) ?_
      refine Wx.rd (v := xv) (rd_move rfl) rfl ?_
      refine Wx.rd (v := .int .i64 k) (rd_move rfl) rfl ?_
      refine Wx.ex (rd_index 0 (hS.arg a_xv) rfl rfl Tryz.underlying25 Tryz.sizeOf3 (by first | omega | (simp only [List.length_set, List.length_append, List.length_cons, List.length_nil, List.length_replicate]; omega)) (by first | omega | (simp only [List.length_set, List.length_append, List.length_cons, List.length_nil, List.length_replicate]; omega))) rfl (fun p_3 hp_4 => ?_)
      refine Wx.rd (v := .int .i64 (ix 0 xs k)) (rd_loadI hp_4 rfl Tryz.isAgg3 Tryz.sizeOf3) rfl ?_
      have bd_5 := bd_i64 hp_4.inK
      refine Wx.rd (v := yv) (rd_move rfl) rfl ?_
      refine Wx.rd (v := .int .i64 k) (rd_move rfl) rfl ?_
      refine Wx.ex (rd_index 0 (hS.arg a_yv) rfl rfl Tryz.underlying25 Tryz.sizeOf3 (by first | omega | (simp only [List.length_set, List.length_append, List.length_cons, List.length_nil, List.length_replicate]; omega)) (by first | omega | (simp only [List.length_set, List.length_append, List.length_cons, List.length_nil, List.length_replicate]; omega))) rfl (fun p_6 hp_7 => ?_)
      refine Wx.rd (v := .int .i64 (ix 0 ys k)) (rd_loadI hp_7 rfl Tryz.isAgg3 Tryz.sizeOf3) rfl ?_
      have bd_8 := bd_i64 hp_7.inK
      refine Wx.rd (v := .bool (decide ((ix 0 xs k) ≠ (ix 0 ys k)))) (rd_neq rfl rfl) rfl ?_
      refine Wx.nilQ (fun w_9 hx_10 => ?_)
      have hS := hS.ext hx_10
      refine W.condD rfl (fun c2 => ?_) (fun c2 => ?_)
      · -- yes
        refine W.seq ?_
        refine W.reg ?_
        refine Wx.rd (v := .bool false) (rd_assign rfl) rfl ?_
        refine Wx.nil ?_
        have he : ¬ ix 0 xs k = ix 0 ys k := fun hh => by rw [hh] at c2; omega
        have e1_0 : (decide (xs = ys)) = false := by rw [← h2, drop_ix (d := 0) h0 c1, drop_ix (d := 0) (xs := ys) h0 (by omega)]; simp [he]
        exact W.ret ⟨.bool false, ResIs.one, hS.bel, (by rw [e1_0])⟩
      · -- no
        refine W.skip ?_
        refine W.reg ?_
        refine Wx.rd (v := .int .i64 (k + 1)) (rd_add rfl rfl (in_i64 (by omega) (by omega))) rfl ?_
        refine Wx.rd (v := .int .i64 (k + 1)) (rd_move rfl) rfl ?_
        refine Wx.nil ?_
        have he : ix 0 xs k = ix 0 ys k := by omega
        refine ⟨k + 1, (by show (xs.length - (k + 1)).toNat < (xs.length - k).toNat; omega), ?_, ?_, Out.look rfl Out.self⟩
        · exact ⟨hS, (by first | omega | assumption), (by first | omega | assumption), (by rw [← h2, drop_ix (d := 0) h0 c1, drop_ix (d := 0) (xs := ys) h0 (by omega)]; simp [he])⟩
        · exact ⟨rfl, trivial⟩
    · -- no
      refine W.exit rfl ?_
      refine W.seq ?_
      refine W.reg ?_
      refine Wx.rd (v := .bool true) (rd_assign rfl) rfl ?_
      refine Wx.nil ?_
      have e2_0 : (decide (xs = ys)) = true := by rw [← h2, drop_end (by omega), drop_end (xs := ys) (by omega)]; simp
      exact W.ret ⟨.bool true, ResIs.one, hS.bel, (by rw [e2_0])⟩

theorem F35 {lv : Value} {l : List Int} {O : List (Option Nat)} {w : World} (h_lv : V (tSl (tI .i64)) l lv O w) (hO : ∀ b, some b ∈ O → b < w.heap.size) : Calls Tryz.prog 35 #[lv] w (Ret w (fun r w' => ∃ rv, r = rv ∧ V (tSl (tI .i64)) l rv O w')) := by
  have a_lv := h_lv
  have l_lv := h_lv.len63
  have hS := St.start w O hO
  refine enterR Tryz.func35 rfl Tryz.ntmps35 Tryz.results35 rfl ?_
  refine W.seq ?_
  refine W.reg ?_
  refine Wx.rd (v := (.slice none 0 0)) (rd_assign rfl) rfl ?_
  refine Wx.nil ?_
  refine W.seq ?_
  refine W.reg ?_
  refine Wx.rd (v := lv) (rd_move rfl) rfl ?_
  refine Wx.rd (v := lv) (rd_assign rfl) rfl ?_
  refine Wx.nil ?_
  exact W.ret ⟨lv, ResIs.one, hS.bel, ⟨lv, rfl, (V.mv (hS.arg a_lv) (.less (fun _ h => List.mem_append.2 (.inr h))))⟩⟩
end Go.Proofs.YtdpdlplkngggoaaGreatDoor

namespace Go.Proofs.YtdpdlplkngggoaaGreatDoor.C3
open Go.Wk

/-! ### both -/
def hasL : List Int → Int → Bool
  | [], _ => false
  | x :: xs, n => if x = n then true else hasL xs n

def numE (L : Int) : Int → List Int → Int
  | _, [] => 0
  | last, n :: ns => if n < 0 ∨ L ≤ n then 2 else if n ≤ last then 7 else numE L n ns
def formE (L : Int) (f : List Int) : Int := if f.length = 0 then 4 else numE L (-1) f
def formsE (L : Int) : List (List Int) → Int
  | [] => 0
  | f :: fs => if formE L f = 0 then formsE L fs else formE L f
def checkE (L : Int) (fs : List (List Int)) : Int := if L < 1 ∨ 7 < L then 1 else if 10 < (fs.length : Int) then 3 else formsE L fs

/-! ### the package -/
def withS (s n : Int) : Int := bits .or .u8 s (IntKind.u8.wrap (1 * 2 ^ min n.toNat IntKind.u8.bits))
def hasS (s n : Int) : Bool := decide (bits .and .u8 (s / 2 ^ min n.toNat IntKind.u8.bits) 1 = 1)
def setF : Int → List Int → Int
  | s, [] => s
  | s, n :: ns => setF (withS s n) ns
def setsF (fs : List (List Int)) : List Int := fs.map (setF 0)
def openL (L : Int) (fs : List (List Int)) : Int := if checkE L fs = 0 then L else 0
def openS (L : Int) (fs : List (List Int)) : List Int := if checkE L fs = 0 then setsF fs else []

theorem setF_snoc : ∀ (ns : List Int) (s n : Int), setF s (ns ++ [n]) = withS (setF s ns) n
  | [], _, _ => rfl
  | m :: ns, s, n => by simp [setF, setF_snoc ns]

theorem withS_in (s n : Int) : InK .u8 (withS s n) := wrap_inK _ _
/-! ### the statements' own -/
/-! ### the package: which layer may follow, and in how many ways -/
def badS (p n f : Int) : Bool := (decide (bits .and .u8 f p ≠ 0) && decide (bits .andNot .u8 f p ≠ 0)) && !hasS f n
def idxL (P : Int → Bool) : Int → List Int → Int
  | _, [] => -1
  | i, f :: fs => if P f = true then i else idxL P (i + 1) fs
theorem idxL_any (P : Int → Bool) : ∀ (fs : List Int) (i : Int), 0 ≤ i → decide (0 ≤ idxL P i fs) = fs.any P
  | [], _, _ => by simp [idxL]
  | f :: fs, i, hi => by
    rw [idxL]
    split
    · rename_i h; simp [h, hi]
    · rename_i h; rw [idxL_any P fs (i + 1) (by omega)]; simp [h]
def mayB (fs : List Int) (p n : Int) : Bool := !hasS p n && !fs.any (badS p n)
def orI (p n : Int) : Int := bits .or .i64 p (IntKind.i64.wrap (1 * 2 ^ min n.toNat IntKind.i64.bits))
def powI (L : Int) : Int := 2 ^ L.toNat
def popN (q : Nat) : Nat := q % 2 + q / 2 % 2 + q / 4 % 2 + q / 8 % 2 + q / 16 % 2 + q / 32 % 2 + q / 64 % 2
def sumW : Nat → (Int → Int) → Int
  | 0, _ => 0
  | k + 1, f => sumW k f + f k
def ways (L : Nat) (fs : List Int) : Nat → Int → Int
  | 0, _ => 1
  | m + 1, q => sumW L fun n => if mayB fs q n = true then ways L fs m (orI q n) else 0
def endE (L : Nat) (fs : List Int) (q : Int) : Int := ways L fs (L - popN q.toNat) q
def sumE (L : Nat) (fs : List Int) (p : Int) (k : Nat) : Int := sumW k fun n => if mayB fs p n = true then endE L fs (orI p n) else 0
def fillE (L : Nat) (fs : List Int) (p : Int) : List Int := (List.range (2 ^ L)).map fun (q : Nat) => if p < (q : Int) then endE L fs q else 0
def endT (L : Int) (fs : List Int) : List Int := fillE L.toNat fs (-1)
def countT (L : Int) (fs : List Int) : Int := endE L.toNat fs 0

theorem powI_bd {L : Int} (h0 : 1 ≤ L) (h1 : L ≤ 7) : 2 ≤ powI L ∧ powI L ≤ 128 := by
  have : L = 1 ∨ L = 2 ∨ L = 3 ∨ L = 4 ∨ L = 5 ∨ L = 6 ∨ L = 7 := by omega
  rcases this with h | h | h | h | h | h | h <;> subst h <;> exact ⟨by decide, by decide⟩
theorem shl_powI {L : Int} (h0 : 0 ≤ L) (h1 : L ≤ 10) : IntKind.i64.wrap (1 * 2 ^ min L.toNat IntKind.i64.bits) = powI L := by
  have : L = 0 ∨ L = 1 ∨ L = 2 ∨ L = 3 ∨ L = 4 ∨ L = 5 ∨ L = 6 ∨ L = 7 ∨ L = 8 ∨ L = 9 ∨ L = 10 := by omega
  rcases this with h | h | h | h | h | h | h | h | h | h | h <;> subst h <;> decide +kernel
theorem powI_nat (L : Int) : powI L = ((2 ^ L.toNat : Nat) : Int) := by simp [powI]
theorem fillE_len (L : Nat) (fs : List Int) (p : Int) : (fillE L fs p).length = 2 ^ L := by simp [fillE]
theorem fillE_ix {L : Nat} {fs : List Int} {p q : Int} (h0 : 0 ≤ q) (h1 : q < 2 ^ L) : ix 0 (fillE L fs p) q = if p < q then endE L fs q else 0 := by
  have hq : q.toNat < 2 ^ L := by
    have : ((2 ^ L : Nat) : Int) = (2 : Int) ^ L := by simp
    omega
  have e : ((q.toNat : Nat) : Int) = q := by omega
  simp [ix, fillE, List.getD_eq_getElem?_getD, hq, e]

theorem or_facts : ∀ p < 128, ∀ n < 7, hasS (p : Nat) (n : Nat) = false → (p : Int) < orI (p : Nat) (n : Nat) ∧ orI (p : Nat) (n : Nat) < 128 ∧ popN (orI (p : Nat) (n : Nat)).toNat = popN p + 1 := by decide +kernel
theorem or_lt : ∀ L < 8, ∀ p < 2 ^ L, ∀ n < L, orI (p : Nat) (n : Nat) < ((2 ^ L : Nat) : Int) := by decide +kernel
theorem pop_lt : ∀ L < 8, ∀ p < 2 ^ L, p + 1 < 2 ^ L → popN p < L := by decide +kernel
theorem pop_full : ∀ L < 8, popN (2 ^ L - 1) = L := by decide +kernel

theorem mayB_not {fs : List Int} {p n : Int} (h : mayB fs p n = true) : hasS p n = false := by
  simp only [mayB, Bool.and_eq_true, Bool.not_eq_true'] at h
  exact h.1
theorem orI_facts {p n : Int} (h0 : 0 ≤ p) (h1 : p < 128) (h2 : 0 ≤ n) (h3 : n < 7) (h : hasS p n = false) : p < orI p n ∧ orI p n < 128 ∧ popN (orI p n).toNat = popN p.toNat + 1 := by
  obtain ⟨p, rfl⟩ := Int.eq_ofNat_of_zero_le h0
  obtain ⟨n, rfl⟩ := Int.eq_ofNat_of_zero_le h2
  exact or_facts p (by omega) n (by omega) h
theorem orI_lt {L p n : Int} (hL0 : 1 ≤ L) (hL : L ≤ 7) (h0 : 0 ≤ p) (h1 : p < powI L) (h2 : 0 ≤ n) (h3 : n < L) : orI p n < powI L := by
  obtain ⟨p, rfl⟩ := Int.eq_ofNat_of_zero_le h0
  obtain ⟨n, rfl⟩ := Int.eq_ofNat_of_zero_le h2
  rw [powI_nat] at h1 ⊢
  exact or_lt L.toNat (by omega) p (by omega) n (by omega)

theorem sumW_congr {f g : Int → Int} : ∀ (k : Nat), (∀ n : Nat, n < k → f n = g n) → sumW k f = sumW k g
  | 0, _ => rfl
  | k + 1, h => by rw [sumW, sumW, sumW_congr k (fun n hn => h n (by omega)), h k (by omega)]
theorem sumW_bd {f : Int → Int} {B : Int} : ∀ (k : Nat), (∀ n : Nat, n < k → 0 ≤ f n ∧ f n ≤ B) → 0 ≤ sumW k f ∧ sumW k f ≤ k * B
  | 0, _ => by simp [sumW]
  | k + 1, h => by
    have h1 := sumW_bd k (fun n hn => h n (by omega))
    have h2 := h k (by omega)
    rw [sumW]
    have : ((k + 1 : Nat) : Int) * B = k * B + B := by rw [Int.natCast_add, Int.add_mul]; simp
    omega
theorem ways_bd {L : Nat} {fs : List Int} (hL : L ≤ 7) : ∀ (m : Nat) (q : Int), 0 ≤ ways L fs m q ∧ ways L fs m q ≤ 7 ^ m
  | 0, _ => by simp [ways]
  | m + 1, q => by
    have h7 : (0 : Int) ≤ 7 ^ m := Int.pow_nonneg (by decide)
    have := sumW_bd (f := fun n => if mayB fs q n = true then ways L fs m (orI q n) else 0) (B := 7 ^ m) L (fun n _ => by
      have := ways_bd (fs := fs) hL m (orI q n)
      split <;> omega)
    rw [ways]
    refine ⟨this.1, Int.le_trans this.2 ?_⟩
    rw [Int.pow_succ, Int.mul_comm]
    exact Int.mul_le_mul_of_nonneg_left (by omega) h7
theorem pow7 : ∀ m ≤ 7, (7 : Int) ^ m ≤ 823543 := by decide +kernel
theorem endE_bd {L : Nat} {fs : List Int} (hL : L ≤ 7) (q : Int) : 0 ≤ endE L fs q ∧ endE L fs q ≤ 823543 := by
  have := ways_bd (fs := fs) hL (L - popN q.toNat) q
  have h7 := pow7 (L - popN q.toNat) (by omega)
  exact ⟨this.1, Int.le_trans this.2 h7⟩
theorem sumE_bd {L : Nat} {fs : List Int} (hL : L ≤ 7) (p : Int) {k : Nat} (hk : k ≤ 7) : 0 ≤ sumE L fs p k ∧ sumE L fs p k ≤ 5764801 := by
  have := sumW_bd (f := fun n => if mayB fs p n = true then endE L fs (orI p n) else 0) (B := 823543) k (fun n _ => by
    have := endE_bd (fs := fs) hL (orI p n)
    split <;> omega)
  unfold sumE
  omega
theorem endE_full {L : Nat} {fs : List Int} (hL : L ≤ 7) : endE L fs ((2 ^ L : Nat) - 1) = 1 := by
  have h2 : 1 ≤ 2 ^ L := Nat.one_le_two_pow
  rw [endE, show ((((2 ^ L : Nat) : Int) - 1)).toNat = 2 ^ L - 1 by omega, pop_full L (by omega), Nat.sub_self, ways]
theorem endE_step {L : Nat} {fs : List Int} (hL : L ≤ 7) {p : Int} (h0 : 0 ≤ p) (h1 : p + 1 < (2 ^ L : Nat)) : endE L fs p = sumE L fs p L := by
  have h2 : 2 ^ L ≤ 128 := Nat.pow_le_pow_right (n := 2) (i := L) (j := 7) (by decide) hL
  have hp := pop_lt L (by omega) p.toNat (by omega) (by omega)
  obtain ⟨m, hm⟩ : ∃ m, L - popN p.toNat = m + 1 := ⟨L - popN p.toNat - 1, by omega⟩
  rw [endE, hm, ways, sumE]
  refine sumW_congr L fun n hn => ?_
  split
  · rename_i hmay
    have hf := orI_facts h0 (by omega) (Int.natCast_nonneg n) (by omega) (mayB_not hmay)
    rw [endE, hf.2.2, show L - (popN p.toNat + 1) = m by omega]
  · rfl

theorem set_ix_self {xs : List Int} {p s : Int} (h0 : 0 ≤ p) (h1 : p < xs.length) : ix 0 (xs.set p.toNat s) p = s := by
  simp [ix, List.getD_eq_getElem?_getD, (by omega : p.toNat < xs.length)]
theorem set_ix_ne {xs : List Int} {p q s : Int} (h0 : 0 ≤ p) (h1 : 0 ≤ q) (h : p ≠ q) : ix 0 (xs.set p.toNat s) q = ix 0 xs q := by
  rw [ix, ix, List.getD_eq_getElem?_getD, List.getD_eq_getElem?_getD, List.getElem?_set_ne (by omega)]

theorem fill_start {L : Nat} {fs : List Int} (hL : L ≤ 7) {m : Int} (h : m = (2 ^ L : Nat) - 1) : (List.replicate (2 ^ L) 0).set m.toNat 1 = fillE L fs (m - 1) := by
  have h2 : 1 ≤ 2 ^ L := Nat.one_le_two_pow
  refine List.ext_getElem (by simp [fillE]) fun i h1 _ => ?_
  have hi : i < 2 ^ L := by simpa using h1
  rw [List.getElem_set]
  simp only [fillE, List.getElem_map, List.getElem_range, List.getElem_replicate]
  by_cases hm : m.toNat = i
  · have : (i : Int) = (2 ^ L : Nat) - 1 := by omega
    rw [if_pos hm, if_pos (by omega), this, endE_full hL]
  · rw [if_neg hm, if_neg (by omega)]
theorem fill_next {L : Nat} {fs : List Int} (hL : L ≤ 7) {p : Int} (h0 : 0 ≤ p) (h1 : p + 1 < (2 ^ L : Nat)) : (fillE L fs p).set p.toNat (sumE L fs p L) = fillE L fs (p - 1) := by
  refine List.ext_getElem (by simp [fillE]) fun i h2 _ => ?_
  have hi : i < 2 ^ L := by simpa [fillE] using h2
  rw [List.getElem_set]
  simp only [fillE, List.getElem_map, List.getElem_range]
  by_cases hm : p.toNat = i
  · have : (i : Int) = p := by omega
    rw [if_pos hm, if_pos (by omega), this, endE_step hL h0 h1]
  · rw [if_neg hm]
    by_cases hlt : p < (i : Int)
    · rw [if_pos hlt, if_pos (by omega)]
    · rw [if_neg hlt, if_neg (by omega)]
theorem fill_set0 {L : Nat} {fs : List Int} {p : Int} (h0 : 0 ≤ p) : (fillE L fs p).set p.toNat (sumE L fs p 0) = fillE L fs p := by
  refine List.ext_getElem (by simp [fillE]) fun i h2 _ => ?_
  rw [List.getElem_set]
  simp only [fillE, List.getElem_map, List.getElem_range]
  by_cases hm : p.toNat = i
  · have : (i : Int) = p := by omega
    rw [if_pos hm, if_neg (by omega)]; rfl
  · rw [if_neg hm]
theorem sumE_succ {L : Nat} {fs : List Int} {p k : Int} (hk : 0 ≤ k) : sumE L fs p (k + 1).toNat = sumE L fs p k.toNat + (if mayB fs p k = true then endE L fs (orI p k) else 0) := by
  have e : (k + 1).toNat = k.toNat + 1 := by omega
  have e2 : ((k.toNat : Nat) : Int) = k := by omega
  rw [e, sumE, sumW, e2]; rfl

theorem and_mask {y : Int} (h0 : 1 ≤ y) (h1 : y ≤ 7) : bits .and .u64 y 4294967295 = y ∧ y / 2 ^ min (32 : Int).toNat IntKind.u64.bits = 0 := by
  have : y = 1 ∨ y = 2 ∨ y = 3 ∨ y = 4 ∨ y = 5 ∨ y = 6 ∨ y = 7 := by omega
  rcases this with h | h | h | h | h | h | h <;> subst h <;> decide +kernel

/-! ### the package: places -/
theorem openL_ok {L : Int} {fs : List (List Int)} (h : checkE L fs = 0) : openL L fs = L ∧ openS L fs = setsF fs ∧ 1 ≤ L ∧ L ≤ 7 ∧ (fs.length : Int) ≤ 10 := by
  refine ⟨by simp [openL, h], by simp [openS, h], ?_⟩
  simp only [checkE] at h
  split at h
  · cases h
  · split at h
    · cases h
    · omega
theorem rep_first {a : Int} {n : Nat} (h : 1 ≤ n) : List.take (List.replicate n (0 : Int)).length [a] ++ List.drop (min [a].length (List.replicate n (0 : Int)).length) (List.replicate n 0) = List.replicate 1 a ++ List.replicate (n - 1) 0 := by
  obtain ⟨m, rfl⟩ : ∃ m, n = m + 1 := ⟨n - 1, by omega⟩
  simp [List.replicate_succ]
theorem rep_next {a b n : Int} (h1 : 1 ≤ b) (h2 : b < n) :
    List.take (b.toNat * 1) (List.replicate b.toNat a ++ List.replicate (n.toNat - b.toNat) 0) ++
      List.take ((List.replicate b.toNat a ++ List.replicate (n.toNat - b.toNat) 0).length - b.toNat) (List.take b.toNat (List.replicate b.toNat a ++ List.replicate (n.toNat - b.toNat) 0)) ++
      List.drop (b.toNat * 1 + min (List.take b.toNat (List.replicate b.toNat a ++ List.replicate (n.toNat - b.toNat) 0)).length ((List.replicate b.toNat a ++ List.replicate (n.toNat - b.toNat) 0).length - b.toNat)) (List.replicate b.toNat a ++ List.replicate (n.toNat - b.toNat) 0) =
    List.replicate (min (b + b) n).toNat a ++ List.replicate (n.toNat - (min (b + b) n).toNat) 0 := by
  have e1 : List.take b.toNat (List.replicate b.toNat a ++ List.replicate (n.toNat - b.toNat) 0) = List.replicate b.toNat a := by
    rw [List.take_append_of_le_length (by simp)]; simp
  have e2 : (List.replicate b.toNat a ++ List.replicate (n.toNat - b.toNat) (0 : Int)).length = n.toNat := by simp; omega
  rw [Nat.mul_one, e1, e2, List.take_replicate, List.length_replicate, List.replicate_append_replicate]
  rw [List.drop_append, List.drop_eq_nil_of_le (by simp), List.nil_append, List.drop_replicate, List.length_replicate]
  congr 2 <;> omega
end Go.Proofs.YtdpdlplkngggoaaGreatDoor.C3

namespace Go.Proofs.YtdpdlplkngggoaaGreatDoor.C3
open Go.Wk

/-! ### the first order -/
theorem with_or : ∀ p < 128, ∀ n < 7, withS (p : Nat) (n : Nat) = orI (p : Nat) (n : Nat) := by decide +kernel
theorem withS_lt {L p n : Int} (hL0 : 1 ≤ L) (hL : L ≤ 7) (h0 : 0 ≤ p) (h1 : p < powI L) (h2 : 0 ≤ n) (h3 : n < L) : withS p n < powI L ∧ 0 ≤ withS p n ∧ withS p n = orI p n := by
  have h7 := powI_bd hL0 hL
  have h := orI_lt hL0 hL h0 h1 h2 h3
  have hi := bd_u8 (withS_in p n)
  obtain ⟨p, rfl⟩ := Int.eq_ofNat_of_zero_le h0
  obtain ⟨n, rfl⟩ := Int.eq_ofNat_of_zero_le h2
  have e := with_or p (by omega) n (by omega)
  exact ⟨by rw [e]; exact h, hi.1, e⟩
def pickF (L : Int) (ss : List Int) (q : Int) : Nat → Option Int
  | 0 => none
  | m + 1 => if mayB ss q (L - (m + 1)) = true ∧ 0 < ix 0 (endT L ss) (withS q (L - (m + 1))) then some (L - (m + 1)) else pickF L ss q m
def firstG (L : Int) (ss : List Int) : Nat → Int → List Int → List Int
  | 0, _, out => out
  | m + 1, q, out => match pickF L ss q L.toNat with
    | some n => firstG L ss m (withS q n) (out ++ [n])
    | none => firstG L ss m q out
def firstE (L : Int) (fs : List (List Int)) : Int := if checkE L fs ≠ 0 then checkE L fs else if countT L (setsF fs) = 0 then 12 else 0
def firstL (L : Int) (fs : List (List Int)) : List Int := if firstE L fs = 0 then firstG L (setsF fs) L.toNat 0 [] else []
theorem endT_len (L : Int) (ss : List Int) : ((endT L ss).length : Int) = powI L := by rw [endT, fillE_len, powI_nat]
theorem endT0 {L : Int} (ss : List Int) (h0 : 1 ≤ L) (h7 : L ≤ 7) : ix 0 (endT L ss) 0 = countT L ss := by
  have := powI_bd h0 h7
  rw [endT, fillE_ix (by omega) (by have := powI_nat L; rw [powI] at this; rw [powI] at *; omega), if_pos (by omega), countT]

/-! ### pairs -/
/-! ### layers reached -/
/-! ### three layers -/
/-! ### the fewest forms -/
def cmpL : List Int → List Int → Int
  | [], [] => 0
  | [], _ :: _ => -1
  | _ :: _, [] => 1
  | x :: xs, y :: ys => if x < y then -1 else if y < x then 1 else cmpL xs ys
end Go.Proofs.YtdpdlplkngggoaaGreatDoor.C3

namespace Go.Proofs.YtdpdlplkngggoaaGreatDoor.C3
open Go.Wk

/-! ### runs, and orders that fit -/
/-! ### all orders -/
/-! ### chains -/
/-! ### an order's error, gaps and dates -/
/-! ### what the statements say -/
end Go.Proofs.YtdpdlplkngggoaaGreatDoor.C3

namespace Go.Proofs.YtdpdlplkngggoaaGreatDoor.C3
open Go.Wk

/-! ### numbers in ascending order -/
def up (n : Int) : Nat → List Int
  | 0 => []
  | k + 1 => (n - (k + 1)) :: up n k
end Go.Proofs.YtdpdlplkngggoaaGreatDoor.C3

namespace Go.Proofs.YtdpdlplkngggoaaGreatDoor.C3
open Go.Wk

/-! ### forms left out, by bits -/
/-! ### a function that is called with each order: what it keeps is some objects, of which something holds -/
end Go.Proofs.YtdpdlplkngggoaaGreatDoor.C3

namespace Go.Proofs.YtdpdlplkngggoaaGreatDoor.C3
open Go.Wk

/-! ### labels -/
/-! ### all three layers -/
end Go.Proofs.YtdpdlplkngggoaaGreatDoor.C3

namespace Go.Proofs.YtdpdlplkngggoaaGreatDoor.C3
open Go.Wk

theorem ix_mem {xs : List Int} {j : Int} (h0 : 0 ≤ j) (h : j < xs.length) : ix 0 xs j ∈ xs := List.mem_of_getElem? (ix_get h h0)
/-! ### orders by numbers -/
/-! ### turned round -/
theorem ext_ix {xs ys : List Int} (hl : xs.length = ys.length) (h : ∀ q : Int, 0 ≤ q → q < xs.length → ix 0 xs q = ix 0 ys q) : xs = ys := by
  refine List.ext_getElem hl fun i h1 h2 => ?_
  have := h i (by omega) (by omega)
  rwa [ix, ix, List.getD_eq_getElem?_getD, List.getD_eq_getElem?_getD, Int.toNat_natCast, List.getElem?_eq_getElem h1, List.getElem?_eq_getElem h2] at this
/-! ### what StyleGaps says -/
/-! ### a function that is called with each order, whose numbers are known -/
/-! ### what StyleBeside keeps of the orders -/
/-! ### what StyleMore says -/
/-! ### short lists, sorted -/
/-! ### what StyleNamed says -/
end Go.Proofs.YtdpdlplkngggoaaGreatDoor.C3

namespace Go.Proofs.YtdpdlplkngggoaaGreatDoor
open Go.Wk Go.RowKit Go.Lib
set_option linter.unusedVariables false
set_option linter.unusedSimpArgs false
theorem foSa_109_0 : fldOff Tryz.prog 109 0 = some 0 := by kernel_rfl
theorem foSa_109_1 : fldOff Tryz.prog 109 1 = some 1 := by kernel_rfl
theorem foSa_137_1 : fldOff Tryz.prog 137 1 = some 1 := by kernel_rfl
theorem elSa_135 : ElemI Tryz.prog 135 141 (.int .u8 0) 1 1 := ElemI.of Tryz.underlying135 (by kernel_rfl) (by first | rfl | kernel_rfl) (by decide)

theorem C3.F85 {s : Int} {n : Int} {w : World} (i_s : InK .u8 s) (i_n : InK .i64 n) (p_n : 0 ≤ n) : Calls Tryz.prog 85 #[.int .u8 s, .int .i64 n] w (Ret w (fun r _ => r = .int .u8 (withS s n))) := by
  have b_n := bd_i64 i_n
  have b_s := bd_u8 i_s
  have hS := St.start0 w
  refine enterR Tryz.func85 rfl Tryz.ntmps85 Tryz.results85 rfl ?_
  refine W.seq ?_
  refine W.reg ?_
  refine Wx.rd (v := .int .u8 0) (rd_assign rfl) rfl ?_
  refine Wx.nil ?_
  refine W.seq ?_
  refine W.reg ?_
  refine Wx.rd (v := .int .u8 s) (rd_move rfl) rfl ?_
  refine Wx.rd (v := .int .i64 n) (rd_move rfl) rfl ?_
  refine Wx.rd (v := .int .u8 (IntKind.u8.wrap (1 * 2 ^ min n.toNat (IntKind.u8).bits))) (rd_shl rfl rfl (by omega)) rfl ?_
  have bd_1 := bd_u8 (wrap_inK .u8 (1 * 2 ^ min n.toNat (IntKind.u8).bits))
  refine Wx.rd (v := .int .u8 (bits .or .u8 s (IntKind.u8.wrap (1 * 2 ^ min n.toNat (IntKind.u8).bits)))) (rd_or rfl rfl) rfl ?_
  have bd_2 := bd_u8 (bits_in .or .u8 s (IntKind.u8.wrap (1 * 2 ^ min n.toNat (IntKind.u8).bits)))
  refine Wx.rd (v := .int .u8 (bits .or .u8 s (IntKind.u8.wrap (1 * 2 ^ min n.toNat (IntKind.u8).bits)))) (rd_assign rfl) rfl ?_
  refine Wx.nil ?_
  have e0_0 : (withS s n) = (bits .or .u8 s (IntKind.u8.wrap (1 * 2 ^ min n.toNat (IntKind.u8).bits)) : Int) := by rfl
  exact W.ret ⟨.int .u8 (bits .or .u8 s (IntKind.u8.wrap (1 * 2 ^ min n.toNat (IntKind.u8).bits))), ResIs.one, hS.bel, (by rw [e0_0])⟩

theorem C3.F97 {s : Int} {n : Int} {w : World} (i_s : InK .u8 s) (i_n : InK .i64 n) (p_n : 0 ≤ n) : Calls Tryz.prog 97 #[.int .u8 s, .int .i64 n] w (Ret w (fun r _ => r = .bool (hasS s n))) := by
  have b_n := bd_i64 i_n
  have b_s := bd_u8 i_s
  have hS := St.start0 w
  refine enterR Tryz.func97 rfl Tryz.ntmps97 Tryz.results97 rfl ?_
  refine W.seq ?_
  refine W.reg ?_
  refine Wx.rd (v := .bool false) (rd_assign rfl) rfl ?_
  refine Wx.nil ?_
  refine W.seq ?_
  refine W.reg ?_
  refine Wx.rd (v := .int .u8 s) (rd_move rfl) rfl ?_
  refine Wx.rd (v := .int .i64 n) (rd_move rfl) rfl ?_
  refine Wx.rd (v := .int .u8 (s / 2 ^ min n.toNat (IntKind.u8).bits)) (rd_shr rfl rfl (by omega)) rfl ?_
  refine Wx.rd (v := .int .u8 (bits .and .u8 (s / 2 ^ min n.toNat (IntKind.u8).bits) 1)) (rd_and rfl rfl) rfl ?_
  have bd_1 := bd_u8 (bits_in .and .u8 (s / 2 ^ min n.toNat (IntKind.u8).bits) 1)
  refine Wx.rd (v := .bool (decide ((bits .and .u8 (s / 2 ^ min n.toNat (IntKind.u8).bits) 1) = 1))) (rd_eql rfl rfl) rfl ?_
  refine Wx.rd (v := .bool (decide ((bits .and .u8 (s / 2 ^ min n.toNat (IntKind.u8).bits) 1) = 1))) (rd_assign rfl) rfl ?_
  refine Wx.nil ?_
  have e0_0 : (hasS s n) = (decide ((bits .and .u8 (s / 2 ^ min n.toNat (IntKind.u8).bits) 1) = 1)) := by rfl
  exact W.ret ⟨.bool (decide ((bits .and .u8 (s / 2 ^ min n.toNat (IntKind.u8).bits) 1) = 1)), ResIs.one, hS.bel, (by rw [e0_0])⟩

theorem C3.F82 {L : Int} {fv : Value} {fs : List (List Int)} {O : List (Option Nat)} {w : World} (i_L : InK .i64 L) (h_fv : V (tSl (tSl (tI .i64))) fs fv O w) (hO : ∀ b, some b ∈ O → b < w.heap.size) : Calls Tryz.prog 82 #[.agg #[.int .i64 L, fv]] w (Ret w (fun r w' => ∃ sv, r = .tuple #[.agg #[.int .i64 (openL L fs), sv], .int .i64 (checkE L fs)] ∧ V (tSl (tI .u8)) (openS L fs) sv O w')) := by
  have b_L := bd_i64 i_L
  have a_fv := h_fv
  have l_fv := h_fv.len63
  have hS := St.start w O hO
  refine enterR Tryz.func82 rfl Tryz.ntmps82 Tryz.results82 rfl ?_
  refine W.seq ?_
  refine W.reg ?_
  refine Wx.box (cs := [.int .i64 L, fv]) hS rfl rfl rfl (fun g_1 w_2 hx_4 hb_3 hS => ?_)
  refine Wx.alloc (cs := [.int .i64 0, (.slice none 0 0)]) hS Tryz.zeroValue137 rfl rfl (fun g_5 w_6 hx_8 hb_7 hS => ?_)
  refine Wx.rd (v := .int .i64 0) (rd_assign rfl) rfl ?_
  refine Wx.nil ?_
  refine W.seq ?_
  refine W.block ?_
  refine W.seq ?_
  refine W.reg ?_
  refine Wx.rd (v := .pointer (some ⟨g_1, 0, none⟩)) (rd_fieldAddr rfl foSa_109_0) rfl ?_
  refine Wx.rd (v := .int .i64 L) (rd_loadX hS 1 rfl rfl rfl Tryz.isAgg3) rfl ?_
  refine Wx.rd (v := .bool (decide (L < 1))) (rd_lss rfl rfl) rfl ?_
  refine Wx.rd (v := .bool (decide (L < 1))) (rd_move rfl) rfl ?_
  refine Wx.cut (X := Unit) 4 [16, 17, 18, 19] (fun _ => [(19, .bool (decide (L < 1) || decide (7 < L)))]) (fun _ w' => St w O w' [.box g_5 137 [.int .i64 0, (.slice none 0 0)], .box g_1 109 [.int .i64 L, fv]]) ?_ ?_
  · rcases Bool.eq_false_or_eq_true (decide (L < 1)) with g_9 | g_9
    · -- True
      have gp_10 := of_decide_eq_true g_9
      refine Wx.gnoB rfl rfl (congrArg Value.bool g_9) rfl rfl ?_
      refine Wx.gnoB rfl rfl (congrArg Value.bool g_9) rfl rfl ?_
      refine Wx.gnoB rfl rfl (congrArg Value.bool g_9) rfl rfl ?_
      refine Wx.rd (v := .bool true) (rd_pickT (congrArg Value.bool g_9) rfl) rfl ?_
      refine Wx.nil ⟨(), hS, ⟨?_, trivial⟩, Out.look rfl Out.refl⟩
      show Value.bool true = Value.bool (decide (L < 1) || decide (7 < L))
      first | rw [g_9, Bool.true_or] | (rw [g_9]; rfl)
    · -- False
      have gp_11 := of_decide_eq_false g_9
      refine Wx.gyes rfl rfl (congrArg Value.bool g_9) ?_
      refine Wx.rd (v := .pointer (some ⟨g_1, 0, none⟩)) (rd_fieldAddr rfl foSa_109_0) rfl ?_
      refine Wx.gyes rfl rfl (congrArg Value.bool g_9) ?_
      refine Wx.rd (v := .int .i64 L) (rd_loadX hS 1 rfl rfl rfl Tryz.isAgg3) rfl ?_
      refine Wx.gyes rfl rfl (congrArg Value.bool g_9) ?_
      refine Wx.rd (v := .bool (decide (7 < L))) (rd_gtr rfl rfl) rfl ?_
      refine Wx.rd (v := .bool (decide (7 < L))) (rd_pickF (congrArg Value.bool g_9) rfl) rfl ?_
      refine Wx.nil ⟨(), hS, ⟨?_, trivial⟩, Out.look rfl Out.refl⟩
      show Value.bool (decide (7 < L)) = Value.bool (decide (L < 1) || decide (7 < L))
      first | rw [g_9, Bool.false_or] | (rw [g_9]; rfl)
  rintro ⟨⟩ u_13 w_12 hS
  refine Wx.rd (v := .bool (decide (L < 1) || decide (7 < L))) (rd_assign rfl) rfl ?_
  refine Wx.nil ?_
  refine W.cond rfl (fun c0 => ?_) (fun c0 => ?_)
  · -- yes
    try simp only [Bool.and_eq_true, Bool.or_eq_true, Bool.not_eq_true', Bool.and_eq_false_iff, Bool.or_eq_false_iff, Bool.not_eq_false', decide_eq_true_eq, decide_eq_false_iff_not, not_or, Bool.false_eq_true, Bool.true_eq_false, false_or, or_false, not_false_eq_true] at c0
    refine W.seq ?_
    refine W.reg ?_
    refine Wx.rd (v := .agg #[.int .i64 0, (.slice none 0 0)]) (rd_build (vs := []) rfl (by kernel_rfl)) rfl ?_
    refine Wx.storeX (cs' := [.int .i64 0, (.slice none 0 0)]) (ds := [.int .i64 0, (.slice none 0 0)]) hS 0 rfl rfl rfl rfl Tryz.sizeOf137 (Nat.le_of_ble_eq_true rfl) (one_cons rfl (one_cons rfl one_nil)) rfl (fun w_14 hz_15 hS => ?_)
    refine Wx.rd (v := .int .i64 1) (rd_assign rfl) rfl ?_
    refine Wx.nil ?_
    have hE : checkE L fs = 1 := by simp only [checkE]; rw [if_pos (by omega)]
    have e0_0 : (openL L fs) = (0 : Int) := by simp [openL, hE]
    have e0_1 : openS L fs = [] := by simp [openS, hE]
    have e0_2 : (checkE L fs) = (1 : Int) := by exact hE
    exact W.ret ⟨.tuple #[.agg #[.int .i64 0, (.slice none 0 0)], .int .i64 1], (ResIs.cell2 hS 0 rfl rfl Tryz.isAgg137 Tryz.sizeOf137), hS.bel, ⟨(.slice none 0 0), (by rw [e0_0, e0_2]), (by rw [e0_1]; exact (V.nil (t := (tI .u8))))⟩⟩
  · -- no
    try simp only [Bool.and_eq_true, Bool.or_eq_true, Bool.not_eq_true', Bool.and_eq_false_iff, Bool.or_eq_false_iff, Bool.not_eq_false', decide_eq_true_eq, decide_eq_false_iff_not, not_or, Bool.false_eq_true, Bool.true_eq_false, false_or, or_false, not_false_eq_true] at c0
    refine W.seq ?_
    refine W.reg ?_
    refine Wx.rd (v := .pointer (some ⟨g_1, 1, none⟩)) (rd_fieldAddr rfl foSa_109_1) rfl ?_
    refine Wx.rd (v := fv) (rd_loadX hS 1 rfl rfl rfl Tryz.isAgg30) rfl ?_
    refine Wx.rd (v := .int .i64 (fs.length : Int)) (rd_lenV rfl (hS.arg a_fv) Tryz.underlying30) rfl ?_
    refine Wx.rd (v := .bool (decide (10 < (fs.length : Int)))) (rd_gtr rfl rfl) rfl ?_
    refine Wx.rd (v := .bool (decide (10 < (fs.length : Int)))) (rd_assign rfl) rfl ?_
    refine Wx.nil ?_
    refine W.condD rfl (fun c1 => ?_) (fun c1 => ?_)
    · -- yes
      refine W.seq ?_
      refine W.reg ?_
      refine Wx.rd (v := .agg #[.int .i64 0, (.slice none 0 0)]) (rd_build (vs := []) rfl (by kernel_rfl)) rfl ?_
      refine Wx.storeX (cs' := [.int .i64 0, (.slice none 0 0)]) (ds := [.int .i64 0, (.slice none 0 0)]) hS 0 rfl rfl rfl rfl Tryz.sizeOf137 (Nat.le_of_ble_eq_true rfl) (one_cons rfl (one_cons rfl one_nil)) rfl (fun w_16 hz_17 hS => ?_)
      refine Wx.rd (v := .int .i64 3) (rd_assign rfl) rfl ?_
      refine Wx.nil ?_
      have hE : checkE L fs = 3 := by simp only [checkE]; rw [if_neg (by omega), if_pos (by omega)]
      have e1_0 : (openL L fs) = (0 : Int) := by simp [openL, hE]
      have e1_1 : openS L fs = [] := by simp [openS, hE]
      have e1_2 : (checkE L fs) = (3 : Int) := by exact hE
      exact W.ret ⟨.tuple #[.agg #[.int .i64 0, (.slice none 0 0)], .int .i64 3], (ResIs.cell2 hS 0 rfl rfl Tryz.isAgg137 Tryz.sizeOf137), hS.bel, ⟨(.slice none 0 0), (by rw [e1_0, e1_2]), (by rw [e1_1]; exact (V.nil (t := (tI .u8))))⟩⟩
    · -- no
      refine W.skip ?_
      refine W.seq ?_
      refine W.reg ?_
      refine Wx.rd (v := .pointer (some ⟨g_1, 0, none⟩)) (rd_fieldAddr rfl foSa_109_0) rfl ?_
      refine Wx.rd (v := .int .i64 L) (rd_loadX hS 1 rfl rfl rfl Tryz.isAgg3) rfl ?_
      refine Wx.rd (v := .agg #[.int .i64 L, (.slice none 0 0)]) (rd_build (vs := [(0, .int .i64 L)]) rfl (by kernel_rfl)) rfl ?_
      refine Wx.alloc (cs := [.int .i64 0, (.slice none 0 0)]) hS Tryz.zeroValue137 rfl rfl (fun g_18 w_19 hx_21 hb_20 hS => ?_)
      refine Wx.storeX (cs' := [.int .i64 L, (.slice none 0 0)]) (ds := [.int .i64 L, (.slice none 0 0)]) hS 0 rfl rfl rfl rfl Tryz.sizeOf137 (Nat.le_of_ble_eq_true rfl) (one_cons rfl (one_cons rfl one_nil)) rfl (fun w_22 hz_23 hS => ?_)
      refine Wx.nil ?_
      refine W.seq ?_
      refine W.seq ?_
      refine W.reg ?_
      refine Wx.rd (v := .pointer (some ⟨g_1, 1, none⟩)) (rd_fieldAddr rfl foSa_109_1) rfl ?_
      refine Wx.rd (v := fv) (rd_loadX hS 2 rfl rfl rfl Tryz.isAgg30) rfl ?_
      refine Wx.rd (v := .int .i64 (fs.length : Int)) (rd_lenV rfl (hS.arg a_fv) Tryz.underlying30) rfl ?_
      refine Wx.rd (v := .int .i64 0) (rd_move rfl) rfl ?_
      refine Wx.nil ?_
      refine W.block ?_
      have hE : checkE L fs = formsE L fs := by simp only [checkE]; rw [if_neg (by omega), if_neg (by omega)]
      have hS := hS.addNil (tI .u8) 141
      refine W.loop [3, 6, 7, 8, 10, 33, 34, 35, 36, 37, 38, 39, 40, 41, 42, 43, 44, 45, 46, 47, 48, 49, 50, 51, 52, 53, 54, 55, 56, 57, 58, 59, 60, 61, 62, 63, 64, 65, 66, 67, 68, 69, 70, 71, 72, 73] (fun x : Int × Value × (List Int) => match x with | (k, sv, sets) => [(33, .int .i64 k)]) (fun (x : Int × Value × (List Int)) w' => match x with | (k, sv, sets) => St w O w' [.row (tI .u8) 141 sv sets, .box g_18 137 [.int .i64 L, sv], .box g_5 137 [.int .i64 0, (.slice none 0 0)], .box g_1 109 [.int .i64 L, fv]] ∧ 0 ≤ k ∧ k ≤ fs.length ∧ formsE L (fs.drop k.toNat) = formsE L fs ∧ sets = setsF (fs.take k.toNat)) (fun x : Int × Value × (List Int) => match x with | (k, sv, sets) => (fs.length - k).toNat) (0, (.slice none 0 0), []) ⟨rfl, trivial⟩ ⟨hS, (by first | omega | simp), (by first | omega | simp), (by simp), (rfl)⟩ ?_
      rintro ⟨k, sv, sets⟩ u_25 w_24 ⟨hS, h0, h1, h2, h3⟩
      have hln : (sets.length : Int) ≤ 10 := by rw [h3]; simp [setsF]; omega
      refine W.seq ?_
      refine W.reg ?_
      refine Wx.rd (v := .bool (decide (k < (fs.length : Int)))) (rd_lss rfl rfl) rfl ?_
      refine Wx.nil ?_
      refine W.seq ?_
      refine W.condD rfl (fun c2 => ?_) (fun c2 => ?_)
      · -- yes
        refine W.skip ?_
        refine W.seq ?_
        refine W.block ?_
        refine W.seq ?_
        refine W.reg ?_
        refine Wx.ex (rd_index [] (hS.arg a_fv) rfl rfl Tryz.underlying30 Tryz.sizeOf25 (by first | omega | (simp only [List.length_set, List.length_append, List.length_cons, List.length_nil, List.length_replicate]; omega)) (by first | omega | (simp only [List.length_set, List.length_append, List.length_cons, List.length_nil, List.length_replicate]; omega))) rfl (fun p_26 hp_27 => ?_)
        refine Wx.ex (rd_load hp_27 rfl Tryz.isAgg25 Tryz.sizeOf25) rfl (fun v_28 hv_29 => ?_)
        have ln_30 := hv_29.len63
        have hS := hS.add hv_29
        refine Wx.rd (v := v_28) (rd_assign rfl) rfl ?_
        refine Wx.nil ?_
        refine W.seq ?_
        refine W.seq ?_
        refine W.reg ?_
        refine Wx.rd (v := v_28) (rd_move rfl) rfl ?_
        refine Wx.rd (v := .int .i64 ((ix [] fs k).length : Int)) (rd_lenV rfl (hS.v 0 rfl) Tryz.underlying25) rfl ?_
        refine Wx.rd (v := .bool (decide (((ix [] fs k).length : Int) = 0))) (rd_eql rfl rfl) rfl ?_
        refine Wx.nil ?_
        refine W.condD rfl (fun c3 => ?_) (fun c3 => ?_)
        · -- yes
          refine W.seq ?_
          refine W.reg ?_
          refine Wx.rd (v := .agg #[.int .i64 0, (.slice none 0 0)]) (rd_build (vs := []) rfl (by kernel_rfl)) rfl ?_
          refine Wx.storeX (cs' := [.int .i64 0, (.slice none 0 0)]) (ds := [.int .i64 0, (.slice none 0 0)]) hS 3 rfl rfl rfl rfl Tryz.sizeOf137 (Nat.le_of_ble_eq_true rfl) (one_cons rfl (one_cons rfl one_nil)) rfl (fun w_32 hz_33 hS => ?_)
          refine Wx.rd (v := .int .i64 4) (rd_assign rfl) rfl ?_
          refine Wx.nil ?_
          have hE : checkE L fs = 4 := by rw [hE, ← h2, drop_ix (d := []) h0 c2, formsE, show formE L (ix [] fs k) = 4 by rw [formE, if_pos (by omega)]]; simp
          have e2_0 : (openL L fs) = (0 : Int) := by simp [openL, hE]
          have e2_1 : openS L fs = [] := by simp [openS, hE]
          have e2_2 : (checkE L fs) = (4 : Int) := by exact hE
          exact W.ret ⟨.tuple #[.agg #[.int .i64 0, (.slice none 0 0)], .int .i64 4], (ResIs.cell2 hS 3 rfl rfl Tryz.isAgg137 Tryz.sizeOf137), hS.bel, ⟨(.slice none 0 0), (by rw [e2_0, e2_2]), (by rw [e2_1]; exact (V.nil (t := (tI .u8))))⟩⟩
        · -- no
          refine W.skip ?_
          refine W.seq ?_
          refine W.reg ?_
          refine Wx.rd (v := .int .u8 0) (rd_assign rfl) rfl ?_
          refine Wx.nil ?_
          refine W.seq ?_
          refine W.reg ?_
          refine Wx.rd (v := .int .i64 (-1)) (rd_assign rfl) rfl ?_
          refine Wx.nil ?_
          refine W.seq ?_
          refine W.seq ?_
          refine W.reg ?_
          refine Wx.rd (v := v_28) (rd_move rfl) rfl ?_
          refine Wx.rd (v := .int .i64 ((ix [] fs k).length : Int)) (rd_lenV rfl (hS.v 0 rfl) Tryz.underlying25) rfl ?_
          refine Wx.rd (v := .int .i64 0) (rd_move rfl) rfl ?_
          refine Wx.nil ?_
          refine W.block ?_
          refine W.loop [3, 7, 8, 10, 43, 44, 45, 46, 47, 48, 49, 50, 51, 52, 53, 54, 55, 56, 57, 58, 59, 60, 61, 62, 63, 64, 65, 66] (fun x : Int × Int × Int => match x with | (s, last, j) => [(7, .int .u8 s), (8, .int .i64 last), (43, .int .i64 j)]) (fun (x : Int × Int × Int) w' => match x with | (s, last, j) => St w O w' [Ob.v (tSl (tI .i64)) (ix [] fs k) v_28, .row (tI .u8) 141 sv sets, .box g_18 137 [.int .i64 L, sv], .box g_5 137 [.int .i64 0, (.slice none 0 0)], .box g_1 109 [.int .i64 L, fv]] ∧ 0 ≤ j ∧ j ≤ (ix [] fs k).length ∧ numE L last ((ix [] fs k).drop j.toNat) = numE L (-1) (ix [] fs k) ∧ s = setF 0 ((ix [] fs k).take j.toNat) ∧ InK .u8 s) (fun x : Int × Int × Int => match x with | (s, last, j) => ((ix [] fs k).length - j).toNat) (0, -1, 0) ⟨rfl, rfl, rfl, trivial⟩ ⟨hS, (by first | omega | simp), (by first | omega | simp), (by simp), (by simp [setF]), (⟨by decide, by decide⟩)⟩ ?_
          rintro ⟨s, last, j⟩ u_35 w_34 ⟨hS, g0, g1, g2, g3, g4⟩
          have b_s := bd_u8 g4
          refine W.seq ?_
          refine W.reg ?_
          refine Wx.rd (v := .bool (decide (j < ((ix [] fs k).length : Int)))) (rd_lss rfl rfl) rfl ?_
          refine Wx.nil ?_
          refine W.seq ?_
          refine W.condD rfl (fun c4 => ?_) (fun c4 => ?_)
          · -- yes
            refine W.skip ?_
            refine W.seq ?_
            refine W.block ?_
            refine W.seq ?_
            refine W.reg ?_
            refine Wx.ex (rd_index 0 (hS.v 0 rfl) rfl rfl Tryz.underlying25 Tryz.sizeOf3 (by first | omega | (simp only [List.length_set, List.length_append, List.length_cons, List.length_nil, List.length_replicate]; omega)) (by first | omega | (simp only [List.length_set, List.length_append, List.length_cons, List.length_nil, List.length_replicate]; omega))) rfl (fun p_36 hp_37 => ?_)
            refine Wx.rd (v := .int .i64 (ix 0 (ix [] fs k) j)) (rd_loadI hp_37 rfl Tryz.isAgg3 Tryz.sizeOf3) rfl ?_
            have bd_38 := bd_i64 hp_37.inK
            refine Wx.rd (v := .int .i64 (ix 0 (ix [] fs k) j)) (rd_assign rfl) rfl ?_
            refine Wx.nil ?_
            refine W.seq ?_
            refine W.block ?_
            refine W.seq ?_
            refine W.reg ?_
            refine Wx.rd (v := .int .i64 (ix 0 (ix [] fs k) j)) (rd_move rfl) rfl ?_
            refine Wx.rd (v := .bool (decide ((ix 0 (ix [] fs k) j) < 0))) (rd_lss rfl rfl) rfl ?_
            refine Wx.rd (v := .bool (decide ((ix 0 (ix [] fs k) j) < 0))) (rd_move rfl) rfl ?_
            refine Wx.cut (X := Unit) 5 [51, 52, 53, 54, 55] (fun _ => [(55, .bool (decide ((ix 0 (ix [] fs k) j) < 0) || decide (L ≤ (ix 0 (ix [] fs k) j))))]) (fun _ w' => St w O w' [Ob.v (tSl (tI .i64)) (ix [] fs k) v_28, .row (tI .u8) 141 sv sets, .box g_18 137 [.int .i64 L, sv], .box g_5 137 [.int .i64 0, (.slice none 0 0)], .box g_1 109 [.int .i64 L, fv]]) ?_ ?_
            · rcases Bool.eq_false_or_eq_true (decide ((ix 0 (ix [] fs k) j) < 0)) with g_39 | g_39
              · -- True
                have gp_40 := of_decide_eq_true g_39
                refine Wx.gnoB rfl rfl (congrArg Value.bool g_39) rfl rfl ?_
                refine Wx.gnoB rfl rfl (congrArg Value.bool g_39) rfl rfl ?_
                refine Wx.gnoB rfl rfl (congrArg Value.bool g_39) rfl rfl ?_
                refine Wx.gnoB rfl rfl (congrArg Value.bool g_39) rfl rfl ?_
                refine Wx.rd (v := .bool true) (rd_pickT (congrArg Value.bool g_39) rfl) rfl ?_
                refine Wx.nil ⟨(), hS, ⟨?_, trivial⟩, Out.look rfl Out.refl⟩
                show Value.bool true = Value.bool (decide ((ix 0 (ix [] fs k) j) < 0) || decide (L ≤ (ix 0 (ix [] fs k) j)))
                first | rw [g_39, Bool.true_or] | (rw [g_39]; rfl)
              · -- False
                have gp_41 := of_decide_eq_false g_39
                refine Wx.gyes rfl rfl (congrArg Value.bool g_39) ?_
                refine Wx.rd (v := .int .i64 (ix 0 (ix [] fs k) j)) (rd_move rfl) rfl ?_
                refine Wx.gyes rfl rfl (congrArg Value.bool g_39) ?_
                refine Wx.rd (v := .pointer (some ⟨g_1, 0, none⟩)) (rd_fieldAddr rfl foSa_109_0) rfl ?_
                refine Wx.gyes rfl rfl (congrArg Value.bool g_39) ?_
                refine Wx.rd (v := .int .i64 L) (rd_loadX hS 4 rfl rfl rfl Tryz.isAgg3) rfl ?_
                refine Wx.gyes rfl rfl (congrArg Value.bool g_39) ?_
                refine Wx.rd (v := .bool (decide (L ≤ (ix 0 (ix [] fs k) j)))) (rd_geq rfl rfl) rfl ?_
                refine Wx.rd (v := .bool (decide (L ≤ (ix 0 (ix [] fs k) j)))) (rd_pickF (congrArg Value.bool g_39) rfl) rfl ?_
                refine Wx.nil ⟨(), hS, ⟨?_, trivial⟩, Out.look rfl Out.refl⟩
                show Value.bool (decide (L ≤ (ix 0 (ix [] fs k) j))) = Value.bool (decide ((ix 0 (ix [] fs k) j) < 0) || decide (L ≤ (ix 0 (ix [] fs k) j)))
                first | rw [g_39, Bool.false_or] | (rw [g_39]; rfl)
            rintro ⟨⟩ u_43 w_42 hS
            refine Wx.rd (v := .bool (decide ((ix 0 (ix [] fs k) j) < 0) || decide (L ≤ (ix 0 (ix [] fs k) j)))) (rd_assign rfl) rfl ?_
            refine Wx.nil ?_
            refine W.cond rfl (fun c5 => ?_) (fun c5 => ?_)
            · -- yes
              try simp only [Bool.and_eq_true, Bool.or_eq_true, Bool.not_eq_true', Bool.and_eq_false_iff, Bool.or_eq_false_iff, Bool.not_eq_false', decide_eq_true_eq, decide_eq_false_iff_not, not_or, Bool.false_eq_true, Bool.true_eq_false, false_or, or_false, not_false_eq_true] at c5
              refine W.seq ?_
              refine W.reg ?_
              refine Wx.rd (v := .agg #[.int .i64 0, (.slice none 0 0)]) (rd_build (vs := []) rfl (by kernel_rfl)) rfl ?_
              refine Wx.storeX (cs' := [.int .i64 0, (.slice none 0 0)]) (ds := [.int .i64 0, (.slice none 0 0)]) hS 3 rfl rfl rfl rfl Tryz.sizeOf137 (Nat.le_of_ble_eq_true rfl) (one_cons rfl (one_cons rfl one_nil)) rfl (fun w_44 hz_45 hS => ?_)
              refine Wx.rd (v := .int .i64 2) (rd_assign rfl) rfl ?_
              refine Wx.nil ?_
              have hE : checkE L fs = 2 := by rw [hE, ← h2, drop_ix (d := []) h0 c2, formsE, show formE L (ix [] fs k) = 2 by rw [formE, if_neg (by omega), ← g2, drop_ix (d := 0) g0 c4, numE, if_pos (by omega)]]; simp
              have e3_0 : (openL L fs) = (0 : Int) := by simp [openL, hE]
              have e3_1 : openS L fs = [] := by simp [openS, hE]
              have e3_2 : (checkE L fs) = (2 : Int) := by exact hE
              exact W.ret ⟨.tuple #[.agg #[.int .i64 0, (.slice none 0 0)], .int .i64 2], (ResIs.cell2 hS 3 rfl rfl Tryz.isAgg137 Tryz.sizeOf137), hS.bel, ⟨(.slice none 0 0), (by rw [e3_0, e3_2]), (by rw [e3_1]; exact (V.nil (t := (tI .u8))))⟩⟩
            · -- no
              try simp only [Bool.and_eq_true, Bool.or_eq_true, Bool.not_eq_true', Bool.and_eq_false_iff, Bool.or_eq_false_iff, Bool.not_eq_false', decide_eq_true_eq, decide_eq_false_iff_not, not_or, Bool.false_eq_true, Bool.true_eq_false, false_or, or_false, not_false_eq_true] at c5
              refine W.seq ?_
              refine W.reg ?_
              refine Wx.rd (v := .int .i64 (ix 0 (ix [] fs k) j)) (rd_move rfl) rfl ?_
              refine Wx.rd (v := .int .i64 last) (rd_move rfl) rfl ?_
              refine Wx.rd (v := .bool (decide ((ix 0 (ix [] fs k) j) ≤ last))) (rd_leq rfl rfl) rfl ?_
              refine Wx.rd (v := .bool (decide ((ix 0 (ix [] fs k) j) ≤ last))) (rd_assign rfl) rfl ?_
              refine Wx.nil ?_
              refine W.condD rfl (fun c6 => ?_) (fun c6 => ?_)
              · -- yes
                refine W.seq ?_
                refine W.reg ?_
                refine Wx.rd (v := .agg #[.int .i64 0, (.slice none 0 0)]) (rd_build (vs := []) rfl (by kernel_rfl)) rfl ?_
                refine Wx.storeX (cs' := [.int .i64 0, (.slice none 0 0)]) (ds := [.int .i64 0, (.slice none 0 0)]) hS 3 rfl rfl rfl rfl Tryz.sizeOf137 (Nat.le_of_ble_eq_true rfl) (one_cons rfl (one_cons rfl one_nil)) rfl (fun w_46 hz_47 hS => ?_)
                refine Wx.rd (v := .int .i64 7) (rd_assign rfl) rfl ?_
                refine Wx.nil ?_
                have hE : checkE L fs = 7 := by rw [hE, ← h2, drop_ix (d := []) h0 c2, formsE, show formE L (ix [] fs k) = 7 by rw [formE, if_neg (by omega), ← g2, drop_ix (d := 0) g0 c4, numE, if_neg (by omega), if_pos (by omega)]]; simp
                have e4_0 : (openL L fs) = (0 : Int) := by simp [openL, hE]
                have e4_1 : openS L fs = [] := by simp [openS, hE]
                have e4_2 : (checkE L fs) = (7 : Int) := by exact hE
                exact W.ret ⟨.tuple #[.agg #[.int .i64 0, (.slice none 0 0)], .int .i64 7], (ResIs.cell2 hS 3 rfl rfl Tryz.isAgg137 Tryz.sizeOf137), hS.bel, ⟨(.slice none 0 0), (by rw [e4_0, e4_2]), (by rw [e4_1]; exact (V.nil (t := (tI .u8))))⟩⟩
              · -- no
                refine W.skip ?_
                refine W.reg ?_
                refine Wx.rd (v := .int .u8 s) (rd_move rfl) rfl ?_
                refine Wx.rd (v := .int .i64 (ix 0 (ix [] fs k) j)) (rd_move rfl) rfl ?_
                refine Wx.callF (run_callF Tryz.call85 rfl) (C3.F85 (in_u8 (by omega) (by omega)) (in_i64 (by omega) (by omega)) (by omega)) rfl ?_
                rintro r_48 w_49 hx_50 rfl
                have hS := hS.ext hx_50
                have in_51 := bd_u8 (withS_in s (ix 0 (ix [] fs k) j))
                refine Wx.rd (v := .int .i64 (ix 0 (ix [] fs k) j)) (rd_move rfl) rfl ?_
                refine Wx.rd (v := .int .u8 (withS s (ix 0 (ix [] fs k) j))) (rd_assign rfl) rfl ?_
                refine Wx.rd (v := .int .i64 (ix 0 (ix [] fs k) j)) (rd_assign rfl) rfl ?_
                refine Wx.nil ?_
                refine W.reg ?_
                refine Wx.rd (v := .int .i64 (j + 1)) (rd_add rfl rfl (in_i64 (by omega) (by omega))) rfl ?_
                refine Wx.rd (v := .int .i64 (j + 1)) (rd_move rfl) rfl ?_
                refine Wx.nil ?_
                refine ⟨(withS s (ix 0 (ix [] fs k) j), ix 0 (ix [] fs k) j, j + 1), (by show ((ix [] fs k).length - (j + 1)).toNat < ((ix [] fs k).length - j).toNat; omega), ?_, ?_, Out.look rfl (Out.hav rfl (Out.look rfl Out.self))⟩
                · exact ⟨hS, (by first | omega | assumption), (by first | omega | assumption), (by rw [← g2, drop_ix (d := 0) g0 c4, numE, if_neg (by omega), if_neg (by omega)]), (by rw [take_ix (d := 0) g0 c4, setF_snoc, ← g3]), (withS_in _ _)⟩
                · exact ⟨rfl, rfl, rfl, trivial⟩
          · -- no
            refine W.exit rfl ?_
            refine W.reg ?_
            refine Wx.rd (v := .pointer (some ⟨g_18, 1, none⟩)) (rd_fieldAddr rfl foSa_137_1) rfl ?_
            refine Wx.rd (v := sv) (rd_loadX hS 2 rfl rfl rfl Tryz.isAgg135) rfl ?_
            refine Wx.rd (v := .int .u8 s) (rd_move rfl) rfl ?_
            refine Wx.lit (t := (tI .u8)) (ys := [s]) (vs := [.int .u8 s]) elSa_135 hS rfl rfl ⟨(V.mkInt (in_u8 (by omega) (by omega))), trivial⟩ (by decide) rfl (fun v_52 w_53 hx_54 hS => ?_)
            refine Wx.append elSa_135 hS 2 rfl rfl rfl (Src.ofR hS 0 rfl) (by simp only [maxLen]; first | omega | (simp; omega) | simp) (by first | omega | (simp; omega) | simp) rfl (fun v_55 w_56 hz_57 hS => ?_)
            refine Wx.rd (v := .pointer (some ⟨g_18, 1, none⟩)) (rd_fieldAddr rfl foSa_137_1) rfl ?_
            refine Wx.storeX (cs' := [.int .i64 L, v_55]) (ds := [v_55]) hS 3 rfl rfl rfl (Go.Wk.cells_one (hS.rowOne 2 rfl)) Tryz.sizeOf135 (Nat.le_of_ble_eq_true rfl) (one_cons (hS.rowOne 2 rfl) one_nil) rfl (fun w_58 hz_59 hS => ?_)
            refine Wx.nil ?_
            refine W.reg ?_
            refine Wx.rd (v := .int .i64 (k + 1)) (rd_add rfl rfl (in_i64 (by omega) (by omega))) rfl ?_
            refine Wx.rd (v := .int .i64 (k + 1)) (rd_move rfl) rfl ?_
            refine Wx.nil ?_
            refine ⟨(k + 1, v_55, sets ++ [s]), (by show (fs.length - (k + 1)).toNat < (fs.length - k).toNat; omega), ?_, ?_, Out.look rfl (Out.hav rfl (Out.look rfl Out.self))⟩
            · exact ⟨St.tl (hS.tl), (by first | omega | assumption), (by first | omega | assumption), (by rw [← h2, drop_ix (d := []) h0 c2]; rw [formsE, if_pos]; rw [formE, if_neg (by omega), ← g2, drop_end (by omega)]; rfl), (by rw [take_ix (d := []) h0 c2, h3, g3, take_end (show ((ix [] fs k).length : Int) ≤ j by omega)]; simp [setsF])⟩
            · exact ⟨rfl, trivial⟩
      · -- no
        refine W.exit rfl ?_
        refine W.seq ?_
        refine W.reg ?_
        refine Wx.rd (v := .agg #[.int .i64 L, sv]) (rd_loadXs (ds := [.int .i64 L, sv]) hS 1 rfl rfl rfl rfl Tryz.isAgg137 Tryz.sizeOf137) rfl ?_
        refine Wx.storeX (cs' := [.int .i64 L, sv]) (ds := [.int .i64 L, sv]) hS 2 rfl rfl rfl rfl Tryz.sizeOf137 (Nat.le_of_ble_eq_true rfl) (one_cons rfl (one_cons (hS.rowOne 0 rfl) one_nil)) rfl (fun w_60 hz_61 hS => ?_)
        refine Wx.rd (v := .int .i64 0) (rd_assign rfl) rfl ?_
        refine Wx.nil ?_
        have hE : checkE L fs = 0 := by rw [hE, ← h2, drop_end (by omega)]; rfl
        have e5_0 : (openL L fs) = (L : Int) := by simp [openL, hE]
        have e5_1 : openS L fs = sets := by simp [openS, hE, h3, take_end (by omega : (fs.length : Int) ≤ k)]
        have e5_2 : (checkE L fs) = (0 : Int) := by exact hE
        exact W.ret ⟨.tuple #[.agg #[.int .i64 L, sv], .int .i64 0], (ResIs.cell2 hS 2 rfl rfl Tryz.isAgg137 Tryz.sizeOf137), hS.bel, ⟨sv, (by rw [e5_0, e5_2]), (by rw [e5_1]; exact ((hS.lend 0 rfl).mv (.less (fun _ h => List.mem_append.2 (.inr h)))))⟩⟩

theorem C3.F99 {f : Int} {gp : Nat} {p : Int} {gn : Nat} {n : Int} {w : World} (i_f : InK .u8 f) (i_p : InK .u8 p) (x_gp : w.heap[gp]? = some (.cells #[.int .u8 p] 141 (0, 0))) (i_n : InK .i64 n) (x_gn : w.heap[gn]? = some (.cells #[.int .i64 n] 3 (0, 0))) (p_n : 0 ≤ n) : Calls Tryz.prog 99 #[.int .u8 f, .pointer (some ⟨gp, 0, none⟩), .pointer (some ⟨gn, 0, none⟩)] w (Ret w (fun r _ => r = .bool (badS p n f))) := by
  have b_n := bd_i64 i_n
  have b_p := bd_u8 i_p
  have b_f := bd_u8 i_f
  have hS := St.start0 w
  refine enterR Tryz.func99 rfl Tryz.ntmps99 Tryz.results99 rfl ?_
  refine W.seq ?_
  refine W.reg ?_
  refine Wx.rd (v := .bool false) (rd_assign rfl) rfl ?_
  refine Wx.nil ?_
  refine W.seq ?_
  refine W.reg ?_
  refine Wx.rd (v := .int .u8 f) (rd_move rfl) rfl ?_
  refine Wx.rd (v := .int .u8 p) (rd_loadO x_gp hS.bel rfl rfl Tryz.isAgg141) rfl ?_
  refine Wx.rd (v := .int .u8 (bits .and .u8 f p)) (rd_and rfl rfl) rfl ?_
  have bd_1 := bd_u8 (bits_in .and .u8 f p)
  refine Wx.rd (v := .bool (decide ((bits .and .u8 f p) ≠ 0))) (rd_neq rfl rfl) rfl ?_
  refine Wx.rd (v := .bool (decide ((bits .and .u8 f p) ≠ 0))) (rd_move rfl) rfl ?_
  refine Wx.cut (X := Unit) 5 [10, 11, 12, 13, 14] (fun _ => [(14, .bool (decide ((bits .and .u8 f p) ≠ 0) && decide ((bits .andNot .u8 f p) ≠ 0)))]) (fun _ w' => St w [] w' []) ?_ ?_
  · rcases Bool.eq_false_or_eq_true (decide ((bits .and .u8 f p) ≠ 0)) with g_2 | g_2
    · -- True
      have gp_3 := of_decide_eq_true g_2
      refine Wx.gyes rfl rfl (congrArg Value.bool g_2) ?_
      refine Wx.rd (v := .int .u8 f) (rd_move rfl) rfl ?_
      refine Wx.gyes rfl rfl (congrArg Value.bool g_2) ?_
      refine Wx.rd (v := .int .u8 p) (rd_loadO x_gp hS.bel rfl rfl Tryz.isAgg141) rfl ?_
      refine Wx.gyes rfl rfl (congrArg Value.bool g_2) ?_
      refine Wx.rd (v := .int .u8 (bits .andNot .u8 f p)) (rd_andNot rfl rfl) rfl ?_
      have bd_4 := bd_u8 (bits_in .andNot .u8 f p)
      refine Wx.gyes rfl rfl (congrArg Value.bool g_2) ?_
      refine Wx.rd (v := .bool (decide ((bits .andNot .u8 f p) ≠ 0))) (rd_neq rfl rfl) rfl ?_
      refine Wx.rd (v := .bool (decide ((bits .andNot .u8 f p) ≠ 0))) (rd_pickT (congrArg Value.bool g_2) rfl) rfl ?_
      refine Wx.nil ⟨(), hS, ⟨?_, trivial⟩, Out.look rfl Out.refl⟩
      show Value.bool (decide ((bits .andNot .u8 f p) ≠ 0)) = Value.bool (decide ((bits .and .u8 f p) ≠ 0) && decide ((bits .andNot .u8 f p) ≠ 0))
      first | rw [g_2, Bool.true_and] | (rw [g_2]; rfl)
    · -- False
      have gp_5 := of_decide_eq_false g_2
      refine Wx.gnoB rfl rfl (congrArg Value.bool g_2) rfl rfl ?_
      refine Wx.gnoB rfl rfl (congrArg Value.bool g_2) rfl rfl ?_
      refine Wx.gnoB rfl rfl (congrArg Value.bool g_2) rfl rfl ?_
      refine Wx.gnoB rfl rfl (congrArg Value.bool g_2) rfl rfl ?_
      refine Wx.rd (v := .bool false) (rd_pickF (congrArg Value.bool g_2) rfl) rfl ?_
      refine Wx.nil ⟨(), hS, ⟨?_, trivial⟩, Out.look rfl Out.refl⟩
      show Value.bool false = Value.bool (decide ((bits .and .u8 f p) ≠ 0) && decide ((bits .andNot .u8 f p) ≠ 0))
      first | rw [g_2, Bool.false_and] | (rw [g_2]; rfl)
  rintro ⟨⟩ u_7 w_6 hS
  refine Wx.rd (v := .bool (decide ((bits .and .u8 f p) ≠ 0) && decide ((bits .andNot .u8 f p) ≠ 0))) (rd_move rfl) rfl ?_
  refine Wx.cut (X := Unit) 5 [16, 17, 18, 19, 20] (fun _ => [(20, .bool ((decide ((bits .and .u8 f p) ≠ 0) && decide ((bits .andNot .u8 f p) ≠ 0)) && !(hasS f n)))]) (fun _ w' => St w [] w' []) ?_ ?_
  · rcases Bool.eq_false_or_eq_true (decide ((bits .and .u8 f p) ≠ 0) && decide ((bits .andNot .u8 f p) ≠ 0)) with g_8 | g_8
    · -- True
      have gp_9 := g_8
      try simp only [Bool.and_eq_true, Bool.or_eq_true, Bool.not_eq_true', Bool.and_eq_false_iff, Bool.or_eq_false_iff, Bool.not_eq_false', decide_eq_true_eq, decide_eq_false_iff_not, not_or, Bool.false_eq_true, Bool.true_eq_false, false_or, or_false, not_false_eq_true] at gp_9
      refine Wx.gyes rfl rfl (congrArg Value.bool g_8) ?_
      refine Wx.rd (v := .int .u8 f) (rd_move rfl) rfl ?_
      refine Wx.gyes rfl rfl (congrArg Value.bool g_8) ?_
      refine Wx.rd (v := .int .i64 n) (rd_loadO x_gn hS.bel rfl rfl Tryz.isAgg3) rfl ?_
      refine Wx.gyes rfl rfl (congrArg Value.bool g_8) ?_
      refine Wx.callF (run_callF Tryz.call97 rfl) (C3.F97 i_f i_n (by omega)) rfl ?_
      rintro r_10 w_11 hx_12 rfl
      have hS := hS.ext hx_12
      refine Wx.gyes rfl rfl (congrArg Value.bool g_8) ?_
      refine Wx.rd (v := .bool (!(hasS f n))) (rd_not rfl) rfl ?_
      refine Wx.rd (v := .bool (!(hasS f n))) (rd_pickT (congrArg Value.bool g_8) rfl) rfl ?_
      refine Wx.nil ⟨(), hS, ⟨?_, trivial⟩, Out.look rfl Out.refl⟩
      show Value.bool (!(hasS f n)) = Value.bool ((decide ((bits .and .u8 f p) ≠ 0) && decide ((bits .andNot .u8 f p) ≠ 0)) && !(hasS f n))
      first | rw [g_8, Bool.true_and] | (rw [g_8]; rfl)
    · -- False
      have gp_13 := g_8
      try simp only [Bool.and_eq_true, Bool.or_eq_true, Bool.not_eq_true', Bool.and_eq_false_iff, Bool.or_eq_false_iff, Bool.not_eq_false', decide_eq_true_eq, decide_eq_false_iff_not, not_or, Bool.false_eq_true, Bool.true_eq_false, false_or, or_false, not_false_eq_true] at gp_13
      refine Wx.gnoB rfl rfl (congrArg Value.bool g_8) rfl rfl ?_
      refine Wx.gnoB rfl rfl (congrArg Value.bool g_8) rfl rfl ?_
      refine Wx.gnoB rfl rfl (congrArg Value.bool g_8) rfl rfl ?_
      refine Wx.gnoB rfl rfl (congrArg Value.bool g_8) rfl rfl ?_
      refine Wx.rd (v := .bool false) (rd_pickF (congrArg Value.bool g_8) rfl) rfl ?_
      refine Wx.nil ⟨(), hS, ⟨?_, trivial⟩, Out.look rfl Out.refl⟩
      show Value.bool false = Value.bool ((decide ((bits .and .u8 f p) ≠ 0) && decide ((bits .andNot .u8 f p) ≠ 0)) && !(hasS f n))
      first | rw [g_8, Bool.false_and] | (rw [g_8]; rfl)
  rintro ⟨⟩ u_15 w_14 hS
  refine Wx.rd (v := .bool ((decide ((bits .and .u8 f p) ≠ 0) && decide ((bits .andNot .u8 f p) ≠ 0)) && !(hasS f n))) (rd_assign rfl) rfl ?_
  refine Wx.nil ?_
  have e0_0 : (badS p n f) = ((decide ((bits .and .u8 f p) ≠ 0) && decide ((bits .andNot .u8 f p) ≠ 0)) && !(hasS f n)) := by rfl
  exact W.ret ⟨.bool ((decide ((bits .and .u8 f p) ≠ 0) && decide ((bits .andNot .u8 f p) ≠ 0)) && !(hasS f n)), ResIs.one, hS.bel, (by rw [e0_0])⟩

theorem C3.F107 {fv : Value} {fs : List Int} {Fr_fv : List (Option Nat)} {gp : Nat} {p : Int} {gn : Nat} {n : Int} {w : World} (h_fv : V (tSl (tI .u8)) fs fv Fr_fv w) (i_p : InK .u8 p) (x_gp : w.heap[gp]? = some (.cells #[.int .u8 p] 141 (0, 0))) (i_n : InK .i64 n) (x_gn : w.heap[gn]? = some (.cells #[.int .i64 n] 3 (0, 0))) (p_n : 0 ≤ n) : Calls Tryz.prog 107 #[fv, .func (.func 99) #[] #[.pointer (some ⟨gp, 0, none⟩), .pointer (some ⟨gn, 0, none⟩)]] w (Ret w (fun r _ => r = .int .i64 (idxL (badS p n) 0 fs))) := by
  have b_n := bd_i64 i_n
  have b_p := bd_u8 i_p
  have a_fv := h_fv.any
  have l_fv := h_fv.len63
  have hS := St.start0 w
  refine enterR Tryz.func107 rfl Tryz.ntmps107 Tryz.results107 rfl ?_
  refine W.seq ?_
  refine W.reg ?_
  refine Wx.rd (v := .int .i64 0) (rd_assign rfl) rfl ?_
  refine Wx.nil ?_
  refine W.seq ?_
  refine W.seq ?_
  refine W.reg ?_
  refine Wx.rd (v := fv) (rd_move rfl) rfl ?_
  refine Wx.rd (v := .int .i64 (fs.length : Int)) (rd_lenV rfl (hS.arg a_fv) Tryz.underlying135) rfl ?_
  refine Wx.rd (v := .int .i64 0) (rd_move rfl) rfl ?_
  refine Wx.nil ?_
  refine W.block ?_
  refine W.loop [4, 5, 8, 9, 10, 11, 12, 13, 14, 15, 16, 17, 18] (fun (k : Int) => [(8, .int .i64 k)]) (fun (k : Int) w' => St w [] w' [] ∧ 0 ≤ k ∧ k ≤ fs.length ∧ idxL (badS p n) k (fs.drop k.toNat) = idxL (badS p n) 0 fs) (fun (k : Int) => (fs.length - k).toNat) 0 ⟨rfl, trivial⟩ ⟨hS, (by first | omega | simp), (by first | omega | simp), (by simp)⟩ ?_
  rintro k u_2 w_1 ⟨hS, h0, h1, h2⟩
  refine W.seq ?_
  refine W.reg ?_
  refine Wx.rd (v := .bool (decide (k < (fs.length : Int)))) (rd_lss rfl rfl) rfl ?_
  refine Wx.nil ?_
  refine W.seq ?_
  refine W.condD rfl (fun c0 => ?_) (fun c0 => ?_)
  · -- yes
    refine W.skip ?_
    refine W.seq ?_
    refine W.block ?_
    refine W.seq ?_
    refine W.reg ?_
    refine Wx.rd (v := .int .i64 k) (rd_move rfl) rfl ?_
    refine Wx.rd (v := .int .i64 k) (rd_assign rfl) rfl ?_
    refine Wx.nil ?_
    refine W.seq ?_
    refine W.reg ?_
    refine Wx.rd (v := .func (.func 99) #[] #[.pointer (some ⟨gp, 0, none⟩), .pointer (some ⟨gn, 0, none⟩)]) (rd_move rfl) rfl ?_
    refine Wx.rd (v := fv) (rd_move rfl) rfl ?_
    refine Wx.rd (v := .int .i64 k) (rd_move rfl) rfl ?_
    refine Wx.ex (rd_index 0 (hS.arg a_fv) rfl rfl Tryz.underlying135 Tryz.sizeOf141 (by first | omega | (simp only [List.length_set, List.length_append, List.length_cons, List.length_nil, List.length_replicate]; omega)) (by first | omega | (simp only [List.length_set, List.length_append, List.length_cons, List.length_nil, List.length_replicate]; omega))) rfl (fun p_3 hp_4 => ?_)
    refine Wx.rd (v := .int .u8 (ix 0 fs k)) (rd_loadI hp_4 rfl Tryz.isAgg141 Tryz.sizeOf141) rfl ?_
    have bd_5 := bd_u8 hp_4.inK
    refine Wx.callF (run_callC (fs := []) (cs := [.pointer (some ⟨gp, 0, none⟩), .pointer (some ⟨gn, 0, none⟩)]) (vs := [.int .u8 (ix 0 fs k), .pointer (some ⟨gp, 0, none⟩), .pointer (some ⟨gn, 0, none⟩)]) Tryz.call99 rfl rfl) (C3.F99 (in_u8 (by omega) (by omega)) i_p (extAt x_gp hS.bel) i_n (extAt x_gn hS.bel) (by omega)) rfl ?_
    rintro r_6 w_7 hx_8 rfl
    have hS := hS.ext hx_8
    refine Wx.nil ?_
    refine W.cond rfl (fun c1 => ?_) (fun c1 => ?_)
    · -- yes
      try simp only [Bool.and_eq_true, Bool.or_eq_true, Bool.not_eq_true', Bool.and_eq_false_iff, Bool.or_eq_false_iff, Bool.not_eq_false', decide_eq_true_eq, decide_eq_false_iff_not, not_or, Bool.false_eq_true, Bool.true_eq_false, false_or, or_false, not_false_eq_true] at c1
      refine W.seq ?_
      refine W.reg ?_
      refine Wx.rd (v := .int .i64 k) (rd_move rfl) rfl ?_
      refine Wx.rd (v := .int .i64 k) (rd_assign rfl) rfl ?_
      refine Wx.nil ?_
      have e0_0 : (idxL (badS p n) 0 fs) = (k : Int) := by rw [← h2, drop_ix (d := 0) h0 c0, idxL, if_pos c1]
      exact W.ret ⟨.int .i64 k, ResIs.one, hS.bel, (by rw [e0_0])⟩
    · -- no
      try simp only [Bool.and_eq_true, Bool.or_eq_true, Bool.not_eq_true', Bool.and_eq_false_iff, Bool.or_eq_false_iff, Bool.not_eq_false', decide_eq_true_eq, decide_eq_false_iff_not, not_or, Bool.false_eq_true, Bool.true_eq_false, false_or, or_false, not_false_eq_true] at c1
      refine W.skip ?_
      refine W.reg ?_
      refine Wx.rd (v := .int .i64 (k + 1)) (rd_add rfl rfl (in_i64 (by omega) (by omega))) rfl ?_
      refine Wx.rd (v := .int .i64 (k + 1)) (rd_move rfl) rfl ?_
      refine Wx.nil ?_
      refine ⟨k + 1, (by show (fs.length - (k + 1)).toNat < (fs.length - k).toNat; omega), ?_, ?_, Out.look rfl Out.self⟩
      · exact ⟨hS, (by first | omega | assumption), (by first | omega | assumption), (by rw [← h2, drop_ix (d := 0) h0 c0, idxL, if_neg (by simp [c1])])⟩
      · exact ⟨rfl, trivial⟩
  · -- no
    refine W.exit rfl ?_
    refine W.seq ?_
    refine W.reg ?_
    refine Wx.rd (v := .int .i64 (-1)) (rd_assign rfl) rfl ?_
    refine Wx.nil ?_
    have e1_0 : (idxL (badS p n) 0 fs) = (-1 : Int) := by rw [← h2, drop_end (by omega)]; rfl
    exact W.ret ⟨.int .i64 (-1), ResIs.one, hS.bel, (by rw [e1_0])⟩

theorem C3.F98 {fv : Value} {fs : List Int} {Fr_fv : List (Option Nat)} {gp : Nat} {p : Int} {gn : Nat} {n : Int} {w : World} (h_fv : V (tSl (tI .u8)) fs fv Fr_fv w) (i_p : InK .u8 p) (x_gp : w.heap[gp]? = some (.cells #[.int .u8 p] 141 (0, 0))) (i_n : InK .i64 n) (x_gn : w.heap[gn]? = some (.cells #[.int .i64 n] 3 (0, 0))) (p_n : 0 ≤ n) : Calls Tryz.prog 98 #[fv, .func (.func 99) #[] #[.pointer (some ⟨gp, 0, none⟩), .pointer (some ⟨gn, 0, none⟩)]] w (Ret w (fun r _ => r = .bool (fs.any (badS p n)))) := by
  have b_n := bd_i64 i_n
  have b_p := bd_u8 i_p
  have a_fv := h_fv.any
  have l_fv := h_fv.len63
  have hS := St.start0 w
  refine enterR Tryz.func98 rfl Tryz.ntmps98 Tryz.results98 rfl ?_
  refine W.seq ?_
  refine W.reg ?_
  refine Wx.rd (v := .bool false) (rd_assign rfl) rfl ?_
  refine Wx.nil ?_
  refine W.seq ?_
  refine W.reg ?_
  refine Wx.rd (v := fv) (rd_move rfl) rfl ?_
  refine Wx.rd (v := .func (.func 99) #[] #[.pointer (some ⟨gp, 0, none⟩), .pointer (some ⟨gn, 0, none⟩)]) (rd_move rfl) rfl ?_
  refine Wx.callF (run_callF Tryz.call107 rfl) (C3.F107 (hS.arg a_fv) i_p (extAt x_gp hS.bel) i_n (extAt x_gn hS.bel) (by omega)) rfl ?_
  rintro r_1 w_2 hx_3 rfl
  have hS := hS.ext hx_3
  refine Wx.rd (v := .bool (decide (0 ≤ (idxL (badS p n) 0 fs)))) (rd_geq rfl rfl) rfl ?_
  refine Wx.rd (v := .bool (decide (0 ≤ (idxL (badS p n) 0 fs)))) (rd_assign rfl) rfl ?_
  refine Wx.nil ?_
  have e0_0 : (fs.any (badS p n)) = (decide (0 ≤ (idxL (badS p n) 0 fs))) := by exact (idxL_any _ _ _ (by omega)).symm
  exact W.ret ⟨.bool (decide (0 ≤ (idxL (badS p n) 0 fs))), ResIs.one, hS.bel, (by rw [e0_0])⟩

theorem C3.F84 {L : Int} {sv : Value} {ss : List Int} {Fr_sv : List (Option Nat)} {p : Int} {n : Int} {w : World} (i_L : InK .i64 L) (h_sv : V (tSl (tI .u8)) ss sv Fr_sv w) (i_p : InK .u8 p) (i_n : InK .i64 n) (p_n : 0 ≤ n) : Calls Tryz.prog 84 #[.agg #[.int .i64 L, sv], .int .u8 p, .int .i64 n] w (Ret w (fun r _ => r = .bool (mayB ss p n))) := by
  have b_n := bd_i64 i_n
  have b_p := bd_u8 i_p
  have b_L := bd_i64 i_L
  have a_sv := h_sv.any
  have l_sv := h_sv.len63
  have hS := St.start0 w
  refine enterR Tryz.func84 rfl Tryz.ntmps84 Tryz.results84 rfl ?_
  refine W.seq ?_
  refine W.reg ?_
  refine Wx.box (cs := [.int .i64 L, sv]) hS rfl rfl rfl (fun g_1 w_2 hx_4 hb_3 hS => ?_)
  refine Wx.box (cs := [.int .u8 p]) hS rfl rfl rfl (fun g_5 w_6 hx_8 hb_7 hS => ?_)
  refine Wx.box (cs := [.int .i64 n]) hS rfl rfl rfl (fun g_9 w_10 hx_12 hb_11 hS => ?_)
  refine Wx.rd (v := .bool false) (rd_assign rfl) rfl ?_
  refine Wx.nil ?_
  refine W.seq ?_
  refine W.reg ?_
  refine Wx.rd (v := .int .u8 p) (rd_loadX hS 1 rfl rfl rfl Tryz.isAgg141) rfl ?_
  refine Wx.rd (v := .int .i64 n) (rd_loadX hS 0 rfl rfl rfl Tryz.isAgg3) rfl ?_
  refine Wx.callF (run_callF Tryz.call97 rfl) (C3.F97 i_p i_n (by omega)) rfl ?_
  rintro r_13 w_14 hx_15 rfl
  have hS := hS.ext hx_15
  refine Wx.rd (v := .bool (!(hasS p n))) (rd_not rfl) rfl ?_
  refine Wx.rd (v := .bool (!(hasS p n))) (rd_move rfl) rfl ?_
  refine Wx.cut (X := Unit) 6 [12, 13, 14, 15, 16, 17] (fun _ => [(17, .bool (!(hasS p n) && !(ss.any (badS p n))))]) (fun _ w' => St w [] w' [.box g_9 3 [.int .i64 n], .box g_5 141 [.int .u8 p], .box g_1 137 [.int .i64 L, sv]]) ?_ ?_
  · rcases Bool.eq_false_or_eq_true (!(hasS p n)) with g_16 | g_16
    · -- True
      have gp_17 := g_16
      try simp only [Bool.and_eq_true, Bool.or_eq_true, Bool.not_eq_true', Bool.and_eq_false_iff, Bool.or_eq_false_iff, Bool.not_eq_false', decide_eq_true_eq, decide_eq_false_iff_not, not_or, Bool.false_eq_true, Bool.true_eq_false, false_or, or_false, not_false_eq_true] at gp_17
      refine Wx.gyes rfl rfl (congrArg Value.bool g_16) ?_
      refine Wx.rd (v := .pointer (some ⟨g_1, 1, none⟩)) (rd_fieldAddr rfl foSa_137_1) rfl ?_
      refine Wx.gyes rfl rfl (congrArg Value.bool g_16) ?_
      refine Wx.rd (v := sv) (rd_loadX hS 2 rfl rfl rfl Tryz.isAgg135) rfl ?_
      refine Wx.gyes rfl rfl (congrArg Value.bool g_16) ?_
      refine Wx.rd (v := .func (.func 99) #[] #[.pointer (some ⟨g_5, 0, none⟩), .pointer (some ⟨g_9, 0, none⟩)]) (rd_makeFunc (vs := []) (us := [.pointer (some ⟨g_5, 0, none⟩), .pointer (some ⟨g_9, 0, none⟩)]) rfl rfl) rfl ?_
      refine Wx.gyes rfl rfl (congrArg Value.bool g_16) ?_
      refine Wx.callF (run_callF Tryz.call98 rfl) (C3.F98 (hS.arg a_sv) i_p (boxAt hS 1 rfl (Ext.refl _)) i_n (boxAt hS 0 rfl (Ext.refl _)) (by omega)) rfl ?_
      rintro r_18 w_19 hx_20 rfl
      have hS := hS.ext hx_20
      refine Wx.gyes rfl rfl (congrArg Value.bool g_16) ?_
      refine Wx.rd (v := .bool (!(ss.any (badS p n)))) (rd_not rfl) rfl ?_
      refine Wx.rd (v := .bool (!(ss.any (badS p n)))) (rd_pickT (congrArg Value.bool g_16) rfl) rfl ?_
      refine Wx.nil ⟨(), hS, ⟨?_, trivial⟩, Out.look rfl Out.refl⟩
      show Value.bool (!(ss.any (badS p n))) = Value.bool (!(hasS p n) && !(ss.any (badS p n)))
      first | rw [g_16, Bool.true_and] | (rw [g_16]; rfl)
    · -- False
      have gp_21 := g_16
      try simp only [Bool.and_eq_true, Bool.or_eq_true, Bool.not_eq_true', Bool.and_eq_false_iff, Bool.or_eq_false_iff, Bool.not_eq_false', decide_eq_true_eq, decide_eq_false_iff_not, not_or, Bool.false_eq_true, Bool.true_eq_false, false_or, or_false, not_false_eq_true] at gp_21
      refine Wx.gnoB rfl rfl (congrArg Value.bool g_16) rfl rfl ?_
      refine Wx.gnoB rfl rfl (congrArg Value.bool g_16) rfl rfl ?_
      refine Wx.gnoB rfl rfl (congrArg Value.bool g_16) rfl rfl ?_
      refine Wx.gnoB rfl rfl (congrArg Value.bool g_16) rfl rfl ?_
      refine Wx.gnoB rfl rfl (congrArg Value.bool g_16) rfl rfl ?_
      refine Wx.rd (v := .bool false) (rd_pickF (congrArg Value.bool g_16) rfl) rfl ?_
      refine Wx.nil ⟨(), hS, ⟨?_, trivial⟩, Out.look rfl Out.refl⟩
      show Value.bool false = Value.bool (!(hasS p n) && !(ss.any (badS p n)))
      first | rw [g_16, Bool.false_and] | (rw [g_16]; rfl)
  rintro ⟨⟩ u_23 w_22 hS
  refine Wx.rd (v := .bool (!(hasS p n) && !(ss.any (badS p n)))) (rd_assign rfl) rfl ?_
  refine Wx.nil ?_
  have e0_0 : (mayB ss p n) = (!(hasS p n) && !(ss.any (badS p n))) := by rfl
  exact W.ret ⟨.bool (!(hasS p n) && !(ss.any (badS p n))), ResIs.one, hS.bel, (by rw [e0_0])⟩
end Go.Proofs.YtdpdlplkngggoaaGreatDoor

namespace Go.Proofs.YtdpdlplkngggoaaGreatDoor
open Go.Wk Go.RowKit Go.Lib
set_option linter.unusedVariables false
set_option linter.unusedSimpArgs false
theorem foSb_137_0 : fldOff Tryz.prog 137 0 = some 0 := by kernel_rfl
theorem elSb_25 : ElemI Tryz.prog 25 3 (.int .i64 0) 1 8 := ElemI.of Tryz.underlying25 (by kernel_rfl) (by first | rfl | kernel_rfl) (by decide)
theorem mixedSb_ : Tryz.prog.follows .mixedOrders = true := by kernel_rfl

theorem C3.F83 {L : Int} {sv : Value} {ss : List Int} {Fr_sv : List (Option Nat)} {w : World} (i_L : InK .i64 L) (h_sv : V (tSl (tI .u8)) ss sv Fr_sv w) (p_1 : 1 ≤ L) (p_7 : L ≤ 7) : Calls Tryz.prog 83 #[.agg #[.int .i64 L, sv]] w (Ret w (fun r w' => ∃ ev, r = ev ∧ Fresh (tI .i64) 3 (endT L ss) ev w.heap.size w')) := by
  have b_L := bd_i64 i_L
  have hpw := powI_bd p_1 p_7
  have hpn := powI_nat L
  have a_sv := h_sv.any
  have l_sv := h_sv.len63
  have hS := St.start0 w
  refine enterR Tryz.func83 rfl Tryz.ntmps83 Tryz.results83 rfl ?_
  refine W.seq ?_
  refine W.reg ?_
  refine Wx.box (cs := [.int .i64 L, sv]) hS rfl rfl rfl (fun g_1 w_2 hx_4 hb_3 hS => ?_)
  refine Wx.rd (v := (.slice none 0 0)) (rd_assign rfl) rfl ?_
  refine Wx.nil ?_
  refine W.seq ?_
  refine W.reg ?_
  refine Wx.rd (v := .pointer (some ⟨g_1, 0, none⟩)) (rd_fieldAddr rfl foSb_137_0) rfl ?_
  refine Wx.rd (v := .int .i64 L) (rd_loadX hS 0 rfl rfl rfl Tryz.isAgg3) rfl ?_
  refine Wx.rd (v := .int .i64 (powI L)) (Rd.to (v := .int .i64 (IntKind.i64.wrap (1 * 2 ^ min L.toNat (IntKind.i64).bits))) (rd_shl rfl rfl (by omega)) (congrArg (Value.int .i64) (show (powI L : Int) = (IntKind.i64.wrap (1 * 2 ^ min L.toNat (IntKind.i64).bits) : Int) from (shl_powI (by omega) (by omega)).symm).symm)) rfl ?_
  have bd_5 := bd_i64 (wrap_inK .i64 (1 * 2 ^ min L.toNat (IntKind.i64).bits))
  refine Wx.make (t := (tI .i64)) (zy := (0 : Int)) (m := (2 ^ L.toNat)) elSb_25 rfl rfl (fun _ _ => ⟨rfl, by decide, by decide⟩) hS (congrArg (Value.int .i64) hpn) (congrArg (Value.int .i64) hpn) (by omega) (by simp only [maxLen]; omega) rfl (fun v_6 w_7 hx_8 hS => ?_)
  refine Wx.rd (v := v_6) (rd_assign rfl) rfl ?_
  refine Wx.nil ?_
  refine W.seq ?_
  refine W.reg ?_
  refine Wx.rd (v := v_6) (rd_move rfl) rfl ?_
  refine Wx.rd (v := v_6) (rd_move rfl) rfl ?_
  have hrl : (List.replicate (2 ^ L.toNat) (0 : Int)).length = 2 ^ L.toNat := by simp
  refine Wx.rd (v := .int .i64 ((List.replicate (2 ^ L.toNat) (0 : Int)).length : Int)) (rd_lenR hS 0 rfl rfl Tryz.underlying25) rfl ?_
  refine Wx.rd (v := .int .i64 (((List.replicate (2 ^ L.toNat) (0 : Int)).length : Int) - 1)) (rd_sub rfl rfl (in_i64 (by omega) (by omega))) rfl ?_
  refine Wx.indexR hS 0 rfl rfl rfl Tryz.underlying25 Tryz.sizeOf3 (by first | omega | (simp only [List.length_set, List.length_append, List.length_cons, List.length_nil, List.length_replicate]; omega)) (by first | omega | (simp only [List.length_set, List.length_append, List.length_cons, List.length_nil, List.length_replicate]; omega)) rfl (fun g_11 hg_12 => ?_)
  refine Wx.storeR (j := (((List.replicate (2 ^ L.toNat) (0 : Int)).length : Int) - 1).toNat) (z := 1) hS 0 rfl hg_12 rfl (by first | omega | (simp only [List.length_set, List.length_append, List.length_cons, List.length_nil, List.length_replicate]; omega)) rfl (V.mkInt (in_i64 (by omega) (by omega))) Tryz.sizeOf3 (fun w_13 hz_14 hS => ?_)
  have hS := hS.spell (ys' := fillE L.toNat ss (powI L - 2)) 0 rfl (by rw [fill_start (L := L.toNat) (fs := ss) (by omega) (by simp)]; congr 1; omega)
  refine Wx.nil ?_
  refine W.seq ?_
  refine W.seq ?_
  refine W.reg ?_
  refine Wx.rd (v := v_6) (rd_move rfl) rfl ?_
  have hle := fillE_len L.toNat ss (powI L - 2)
  refine Wx.rd (v := .int .i64 ((fillE L.toNat ss (powI L - 2)).length : Int)) (rd_lenR hS 0 rfl rfl Tryz.underlying25) rfl ?_
  refine Wx.rd (v := .int .i64 (((fillE L.toNat ss (powI L - 2)).length : Int) - 2)) (rd_sub rfl rfl (in_i64 (by omega) (by omega))) rfl ?_
  refine Wx.rd (v := .int .i64 (((fillE L.toNat ss (powI L - 2)).length : Int) - 2)) (rd_assign rfl) rfl ?_
  refine Wx.nil ?_
  refine W.block ?_
  refine W.loop [4, 5, 18, 19, 20, 21, 22, 23, 24, 25, 26, 27, 28, 29, 30, 31, 32, 33, 34, 35, 36, 37, 38, 39, 40, 41, 42, 43, 44, 45] (fun x : Int × (List Int) => match x with | (p, out) => [(4, .int .i64 p)]) (fun (x : Int × (List Int)) w' => match x with | (p, out) => St w [] w' [.row (tI .i64) 3 v_6 out, .box g_1 137 [.int .i64 L, sv]] ∧ -1 ≤ p ∧ p ≤ powI L - 2 ∧ out = fillE L.toNat ss p ∧ (out.length : Int) = powI L) (fun x : Int × (List Int) => match x with | (p, out) => (p + 1).toNat) (((fillE L.toNat ss (powI L - 2)).length : Int) - 2, fillE L.toNat ss (powI L - 2)) ⟨rfl, trivial⟩ ⟨hS, (by omega), (by omega), (by congr 1; omega), (by omega)⟩ ?_
  rintro ⟨p, out⟩ u_16 w_15 ⟨hS, g0m, g1, g2, g3⟩
  refine W.seq ?_
  refine W.seq ?_
  refine W.reg ?_
  refine Wx.rd (v := .int .i64 p) (rd_move rfl) rfl ?_
  refine Wx.rd (v := .bool (decide (0 ≤ p))) (rd_geq rfl rfl) rfl ?_
  refine Wx.nil ?_
  refine W.condD rfl (fun c0 => ?_) (fun c0 => ?_)
  · -- yes
    refine W.skip ?_
    refine W.seq ?_
    refine W.block ?_
    refine W.seq ?_
    refine W.reg ?_
    refine Wx.rd (v := .pointer (some ⟨g_1, 0, none⟩)) (rd_fieldAddr rfl foSb_137_0) rfl ?_
    refine Wx.rd (v := .int .i64 L) (rd_loadX hS 1 rfl rfl rfl Tryz.isAgg3) rfl ?_
    refine Wx.rd (v := .int .i64 0) (rd_move rfl) rfl ?_
    refine Wx.nil ?_
    refine W.block ?_
    refine W.loop [5, 24, 25, 26, 27, 28, 29, 30, 31, 32, 33, 34, 35, 36, 37, 38, 39, 40, 41, 42, 43, 44, 45] (fun x : Int × (List Int) => match x with | (k, out) => [(24, .int .i64 k)]) (fun (x : Int × (List Int)) w' => match x with | (k, out) => St w [] w' [.row (tI .i64) 3 v_6 out, .box g_1 137 [.int .i64 L, sv]] ∧ 0 ≤ k ∧ k ≤ L ∧ out = (fillE L.toNat ss p).set p.toNat (sumE L.toNat ss p k.toNat) ∧ (out.length : Int) = powI L) (fun x : Int × (List Int) => match x with | (k, out) => (L - k).toNat) (0, out) ⟨rfl, trivial⟩ ⟨hS, (by first | omega | simp), (by first | omega | simp), (by rw [g2]; exact (fill_set0 c0).symm), (g3)⟩ ?_
    rintro ⟨k, out⟩ u_18 w_17 ⟨hS, h0, h1, h2, h3⟩
    refine W.seq ?_
    refine W.reg ?_
    refine Wx.rd (v := .bool (decide (k < L))) (rd_lss rfl rfl) rfl ?_
    refine Wx.nil ?_
    refine W.seq ?_
    refine W.condD rfl (fun c1 => ?_) (fun c1 => ?_)
    · -- yes
      refine W.skip ?_
      refine W.seq ?_
      refine W.block ?_
      refine W.seq ?_
      refine W.reg ?_
      refine Wx.rd (v := .int .i64 k) (rd_move rfl) rfl ?_
      refine Wx.rd (v := .int .i64 k) (rd_assign rfl) rfl ?_
      refine Wx.nil ?_
      refine W.seq ?_
      refine W.reg ?_
      refine Wx.rd (v := .agg #[.int .i64 L, sv]) (rd_loadXs (ds := [.int .i64 L, sv]) hS 1 rfl rfl rfl rfl Tryz.isAgg137 Tryz.sizeOf137) rfl ?_
      refine Wx.rd (v := .int .i64 p) (rd_move rfl) rfl ?_
      refine Wx.rd (v := .int .u8 p) (rd_convIn rfl Tryz.underlying3 Tryz.underlying141 (in_u8 (by omega) (by omega))) rfl ?_
      refine Wx.rd (v := .int .i64 k) (rd_move rfl) rfl ?_
      refine Wx.callF (run_callF Tryz.call84 rfl) (C3.F84 i_L (hS.arg a_sv) (in_u8 (by omega) (by omega)) (in_i64 (by omega) (by omega)) (by omega)) rfl ?_
      rintro r_19 w_20 hx_21 rfl
      have hS := hS.ext hx_21
      refine Wx.nil ?_
      refine W.cond rfl (fun c2 => ?_) (fun c2 => ?_)
      · -- yes
        try simp only [Bool.and_eq_true, Bool.or_eq_true, Bool.not_eq_true', Bool.and_eq_false_iff, Bool.or_eq_false_iff, Bool.not_eq_false', decide_eq_true_eq, decide_eq_false_iff_not, not_or, Bool.false_eq_true, Bool.true_eq_false, false_or, or_false, not_false_eq_true] at c2
        refine W.regT 13 mixedSb_ (by kernel_rfl) ?_
        refine Wx.rd (v := v_6) (rd_move rfl) rfl ?_
        refine Wx.rd (v := .int .i64 p) (rd_move rfl) rfl ?_
        have hll := fillE_len L.toNat ss p
        have hlt := orI_lt (n := k) p_1 p_7 c0 (by omega) h0 (by omega)
        have hof := orI_facts (n := k) c0 (by omega) h0 (by omega) (mayB_not c2)
        have ho : ix 0 out p = sumE L.toNat ss p k.toNat := by rw [h2]; exact set_ix_self c0 (by omega)
        have hoo : ix 0 out (orI p k) = endE L.toNat ss (orI p k) := by rw [h2, set_ix_ne c0 (by omega) (by omega), fillE_ix (by omega) (by rw [hpn] at hlt; simpa using hlt), if_pos hof.1]
        have hs1 := sumE_bd (L := L.toNat) (fs := ss) (by omega) p (k := k.toNat) (by omega)
        have hs2 := endE_bd (L := L.toNat) (fs := ss) (by omega) (orI p k)
        refine Wx.indexR hS 0 rfl rfl rfl Tryz.underlying25 Tryz.sizeOf3 (by first | omega | (simp only [List.length_set, List.length_append, List.length_cons, List.length_nil, List.length_replicate]; omega)) (by first | omega | (simp only [List.length_set, List.length_append, List.length_cons, List.length_nil, List.length_replicate]; omega)) rfl (fun g_22 hg_23 => ?_)
        refine Wx.rd (v := .int .i64 (ix 0 out p)) (rd_loadRI' hS 0 rfl hg_23 rfl (by first | omega | (simp only [List.length_set, List.length_append, List.length_cons, List.length_nil, List.length_replicate]; omega)) (by first | omega | (simp only [List.length_set, List.length_append, List.length_cons, List.length_nil, List.length_replicate]; omega)) Tryz.isAgg3 Tryz.sizeOf3) rfl ?_
        have bd_24 := bd_i64 (hS.rowInK' 0 rfl (by first | omega | (simp only [List.length_set, List.length_append, List.length_cons, List.length_nil, List.length_replicate]; omega)) (by first | omega | (simp only [List.length_set, List.length_append, List.length_cons, List.length_nil, List.length_replicate]; omega)) : InK .i64 (ix 0 out p))
        refine Wx.rd (v := v_6) (rd_move rfl) rfl ?_
        refine Wx.rd (v := .int .i64 p) (rd_move rfl) rfl ?_
        refine Wx.rd (v := .int .i64 k) (rd_move rfl) rfl ?_
        refine Wx.rd (v := .int .i64 (IntKind.i64.wrap (1 * 2 ^ min k.toNat (IntKind.i64).bits))) (rd_shl rfl rfl (by omega)) rfl ?_
        have bd_25 := bd_i64 (wrap_inK .i64 (1 * 2 ^ min k.toNat (IntKind.i64).bits))
        refine Wx.rd (v := .int .i64 (orI p k)) (Rd.to (v := .int .i64 (bits .or .i64 p (IntKind.i64.wrap (1 * 2 ^ min k.toNat (IntKind.i64).bits)))) (rd_or rfl rfl) (congrArg (Value.int .i64) (show (orI p k : Int) = (bits .or .i64 p (IntKind.i64.wrap (1 * 2 ^ min k.toNat (IntKind.i64).bits)) : Int) from rfl).symm)) rfl ?_
        have bd_26 := bd_i64 (bits_in .or .i64 p (IntKind.i64.wrap (1 * 2 ^ min k.toNat (IntKind.i64).bits)))
        refine Wx.indexR hS 0 rfl rfl rfl Tryz.underlying25 Tryz.sizeOf3 (by first | omega | (simp only [List.length_set, List.length_append, List.length_cons, List.length_nil, List.length_replicate]; omega)) (by first | omega | (simp only [List.length_set, List.length_append, List.length_cons, List.length_nil, List.length_replicate]; omega)) rfl (fun g_27 hg_28 => ?_)
        refine Wx.rd (v := .int .i64 (ix 0 out (orI p k))) (rd_loadRI' hS 0 rfl hg_28 rfl (by first | omega | (simp only [List.length_set, List.length_append, List.length_cons, List.length_nil, List.length_replicate]; omega)) (by first | omega | (simp only [List.length_set, List.length_append, List.length_cons, List.length_nil, List.length_replicate]; omega)) Tryz.isAgg3 Tryz.sizeOf3) rfl ?_
        have bd_29 := bd_i64 (hS.rowInK' 0 rfl (by first | omega | (simp only [List.length_set, List.length_append, List.length_cons, List.length_nil, List.length_replicate]; omega)) (by first | omega | (simp only [List.length_set, List.length_append, List.length_cons, List.length_nil, List.length_replicate]; omega)) : InK .i64 (ix 0 out (orI p k)))
        refine Wx.rd (v := .int .i64 ((ix 0 out p) + (ix 0 out (orI p k)))) (rd_add rfl rfl (in_i64 (by omega) (by omega))) rfl ?_
        refine Wx.indexR hS 0 rfl rfl rfl Tryz.underlying25 Tryz.sizeOf3 (by first | omega | (simp only [List.length_set, List.length_append, List.length_cons, List.length_nil, List.length_replicate]; omega)) (by first | omega | (simp only [List.length_set, List.length_append, List.length_cons, List.length_nil, List.length_replicate]; omega)) rfl (fun g_30 hg_31 => ?_)
        refine Wx.nilQ (fun w_32 hx_33 => ?_)
        have hS := hS.ext hx_33
        refine Wx.storeR (j := p.toNat) (z := (ix 0 out p) + (ix 0 out (orI p k))) hS 0 rfl hg_31 rfl (by first | omega | (simp only [List.length_set, List.length_append, List.length_cons, List.length_nil, List.length_replicate]; omega)) rfl (V.mkInt (in_i64 (by omega) (by omega))) Tryz.sizeOf3 (fun w_34 hz_35 hS => ?_)
        refine Wx.nil ?_
        refine W.reg ?_
        refine Wx.rd (v := .int .i64 (k + 1)) (rd_add rfl rfl (in_i64 (by omega) (by omega))) rfl ?_
        refine Wx.rd (v := .int .i64 (k + 1)) (rd_move rfl) rfl ?_
        refine Wx.nil ?_
        refine ⟨(k + 1, List.set out p.toNat ((ix 0 out p) + (ix 0 out (orI p k)))), (by show (L - (k + 1)).toNat < (L - k).toNat; omega), ?_, ?_, Out.look rfl Out.self⟩
        · exact ⟨hS, (by first | omega | assumption), (by first | omega | assumption), (by rw [ho, hoo, sumE_succ h0, if_pos c2, h2, List.set_set]), (by rw [List.length_set]; exact h3)⟩
        · exact ⟨rfl, trivial⟩
      · -- no
        try simp only [Bool.and_eq_true, Bool.or_eq_true, Bool.not_eq_true', Bool.and_eq_false_iff, Bool.or_eq_false_iff, Bool.not_eq_false', decide_eq_true_eq, decide_eq_false_iff_not, not_or, Bool.false_eq_true, Bool.true_eq_false, false_or, or_false, not_false_eq_true] at c2
        refine W.skip ?_
        refine W.reg ?_
        refine Wx.rd (v := .int .i64 (k + 1)) (rd_add rfl rfl (in_i64 (by omega) (by omega))) rfl ?_
        refine Wx.rd (v := .int .i64 (k + 1)) (rd_move rfl) rfl ?_
        refine Wx.nil ?_
        refine ⟨(k + 1, out), (by show (L - (k + 1)).toNat < (L - k).toNat; omega), ?_, ?_, Out.look rfl Out.self⟩
        · exact ⟨hS, (by first | omega | assumption), (by first | omega | assumption), (by rw [sumE_succ h0, if_neg (by simp [c2]), Int.add_zero]; exact h2), (h3)⟩
        · exact ⟨rfl, trivial⟩
    · -- no
      refine W.exit rfl ?_
      refine W.reg ?_
      refine Wx.rd (v := .int .i64 p) (rd_move rfl) rfl ?_
      refine Wx.rd (v := .int .i64 (p - 1)) (rd_sub rfl rfl (in_i64 (by omega) (by omega))) rfl ?_
      refine Wx.rd (v := .int .i64 (p - 1)) (rd_assign rfl) rfl ?_
      refine Wx.nil ?_
      refine ⟨(p - 1, out), (by show ((p - 1) + 1).toNat < (p + 1).toNat; omega), ?_, ?_, Out.look rfl (Out.hav rfl (Out.look rfl Out.self))⟩
      · exact ⟨hS, (by first | omega | assumption), (by first | omega | assumption), (by rw [h2, show k.toNat = L.toNat by omega, fill_next (by omega) c0 (by omega)]), (h3)⟩
      · exact ⟨rfl, trivial⟩
  · -- no
    refine W.exit rfl ?_
    refine W.seq ?_
    refine W.reg ?_
    refine Wx.rd (v := v_6) (rd_move rfl) rfl ?_
    refine Wx.rd (v := v_6) (rd_assign rfl) rfl ?_
    refine Wx.nil ?_
    have e0_0 : endT L ss = out := by rw [endT, g2]; congr 1; omega
    exact W.ret ⟨v_6, ResIs.one, hS.bel, ⟨v_6, rfl, (by rw [e0_0]; exact (hS.fr 0 rfl flat_int))⟩⟩
end Go.Proofs.YtdpdlplkngggoaaGreatDoor

namespace Go.Proofs.YtdpdlplkngggoaaGreatDoor
open Go.Wk Go.RowKit Go.Lib
set_option linter.unusedVariables false
set_option linter.unusedSimpArgs false
theorem foSc_137_0 : fldOff Tryz.prog 137 0 = some 0 := by kernel_rfl
theorem elSc_25 : ElemI Tryz.prog 25 3 (.int .i64 0) 1 8 := ElemI.of Tryz.underlying25 (by kernel_rfl) (by first | rfl | kernel_rfl) (by decide)

theorem C3.F62 {L : Int} {fv : Value} {fs : List (List Int)} {Fr_fv : List (Option Nat)} {w : World} (i_L : InK .i64 L) (h_fv : V (tSl (tSl (tI .i64))) fs fv Fr_fv w) : Calls Tryz.prog 62 #[.agg #[.int .i64 L, fv]] w (Ret w (fun r w' => ∃ rv, r = .tuple #[rv, .int .i64 (firstE L fs)] ∧ Fresh (tI .i64) 3 (firstL L fs) rv w.heap.size w')) := by
  have b_L := bd_i64 i_L
  have a_fv := h_fv.any
  have l_fv := h_fv.len63
  have hS := St.start0 w
  refine enterR Tryz.func62 rfl Tryz.ntmps62 Tryz.results62 rfl ?_
  refine W.seq ?_
  refine W.reg ?_
  refine Wx.box (cs := [.int .i64 L, fv]) hS rfl rfl rfl (fun g_1 w_2 hx_4 hb_3 hS => ?_)
  refine Wx.rd (v := (.slice none 0 0)) (rd_assign rfl) rfl ?_
  refine Wx.rd (v := .int .i64 0) (rd_assign rfl) rfl ?_
  refine Wx.nil ?_
  refine W.seq ?_
  refine W.reg ?_
  refine Wx.rd (v := .agg #[.int .i64 L, fv]) (rd_loadXs (ds := [.int .i64 L, fv]) hS 0 rfl rfl rfl rfl Tryz.isAgg109 Tryz.sizeOf109) rfl ?_
  refine Wx.callF (run_callF Tryz.call82 rfl) (C3.F82 i_L (hS.arg a_fv) hS.fb_lt) rfl ?_
  rintro r_5 w_6 hx_7 ⟨v_8, rfl, hv_9⟩
  have ln_11 := hv_9.len63
  have hS := hS.ext hx_7
  have hS := hS.add hv_9
  refine Wx.rd (v := .tuple #[.agg #[.int .i64 (openL L fs), v_8], .int .i64 (checkE L fs)]) (rd_move rfl) rfl ?_
  refine Wx.rd (v := .agg #[.int .i64 (openL L fs), v_8]) (rd_extract rfl rfl) rfl ?_
  refine Wx.rd (v := .int .i64 (checkE L fs)) (rd_extract rfl rfl) rfl ?_
  refine Wx.alloc (cs := [.int .i64 0, (.slice none 0 0)]) hS Tryz.zeroValue137 rfl rfl (fun g_12 w_13 hx_15 hb_14 hS => ?_)
  refine Wx.storeX (cs' := [.int .i64 (openL L fs), v_8]) (ds := [.int .i64 (openL L fs), v_8]) hS 0 rfl rfl rfl rfl Tryz.sizeOf137 (Nat.le_of_ble_eq_true rfl) (one_cons rfl (one_cons (V.oneC (hS.v 1 rfl)) one_nil)) rfl (fun w_16 hz_17 hS => ?_)
  refine Wx.rd (v := .int .i64 (checkE L fs)) (rd_assign rfl) rfl ?_
  refine Wx.nil ?_
  refine W.seq ?_
  refine W.seq ?_
  refine W.reg ?_
  refine Wx.rd (v := .int .i64 (checkE L fs)) (rd_move rfl) rfl ?_
  refine Wx.rd (v := .bool (decide ((checkE L fs) ≠ 0))) (rd_neq rfl rfl) rfl ?_
  refine Wx.nil ?_
  refine W.condD rfl (fun c0 => ?_) (fun c0 => ?_)
  · -- yes
    refine W.seq ?_
    refine W.reg ?_
    refine Wx.rd (v := .int .i64 (checkE L fs)) (rd_move rfl) rfl ?_
    refine Wx.rd (v := (.slice none 0 0)) (rd_assign rfl) rfl ?_
    refine Wx.rd (v := .int .i64 (checkE L fs)) (rd_assign rfl) rfl ?_
    refine Wx.nil ?_
    have hE : firstE L fs = checkE L fs := by rw [firstE, if_pos (by omega)]
    have hl : firstL L fs = [] := by rw [firstL, if_neg (by omega)]
    have e0_0 : firstL L fs = [] := by exact hl
    have e0_1 : (firstE L fs) = (checkE L fs : Int) := by exact hE
    exact W.ret ⟨.tuple #[(.slice none 0 0), .int .i64 (checkE L fs)], ResIs.two, hS.bel, ⟨(.slice none 0 0), (by rw [e0_1]), (by rw [e0_0]; exact ((hS.addNil (tI .i64) 3).fr 0 rfl flat_int))⟩⟩
  · -- no
    have hc : checkE L fs = 0 := by omega
    have ho := openL_ok hc
    have hpw := powI_bd (L := openL L fs) (by omega) (by omega)
    have hel := endT_len (openL L fs) (openS L fs)
    have he0 := endT0 (L := openL L fs) (openS L fs) (by omega) (by omega)
    refine W.skip ?_
    refine W.seq ?_
    refine W.reg ?_
    refine Wx.rd (v := .agg #[.int .i64 (openL L fs), v_8]) (rd_loadXs (ds := [.int .i64 (openL L fs), v_8]) hS 0 rfl rfl rfl rfl Tryz.isAgg137 Tryz.sizeOf137) rfl ?_
    refine Wx.callF (run_callF Tryz.call83 rfl) (C3.F83 (in_i64 (by omega) (by omega)) (hS.v 1 rfl) (by omega) (by omega)) rfl ?_
    rintro r_18 w_19 hx_20 ⟨_, rfl, hv_21⟩
    have hS := hS.pushFr hx_20 hv_21
    refine Wx.rd (v := r_18) (rd_assign rfl) rfl ?_
    refine Wx.nil ?_
    refine W.seq ?_
    refine W.seq ?_
    refine W.reg ?_
    refine Wx.rd (v := r_18) (rd_move rfl) rfl ?_
    refine Wx.indexR hS 0 rfl rfl rfl Tryz.underlying25 Tryz.sizeOf3 (by first | omega | (simp only [List.length_set, List.length_append, List.length_cons, List.length_nil, List.length_replicate]; omega)) (by first | omega | (simp only [List.length_set, List.length_append, List.length_cons, List.length_nil, List.length_replicate]; omega)) rfl (fun g_23 hg_24 => ?_)
    refine Wx.rd (v := .int .i64 (ix 0 (endT (openL L fs) (openS L fs)) 0)) (rd_loadRI' hS 0 rfl hg_24 rfl (by first | omega | (simp only [List.length_set, List.length_append, List.length_cons, List.length_nil, List.length_replicate]; omega)) (by first | omega | (simp only [List.length_set, List.length_append, List.length_cons, List.length_nil, List.length_replicate]; omega)) Tryz.isAgg3 Tryz.sizeOf3) rfl ?_
    have bd_25 := bd_i64 (hS.rowInK' 0 rfl (by first | omega | (simp only [List.length_set, List.length_append, List.length_cons, List.length_nil, List.length_replicate]; omega)) (by first | omega | (simp only [List.length_set, List.length_append, List.length_cons, List.length_nil, List.length_replicate]; omega)) : InK .i64 (ix 0 (endT (openL L fs) (openS L fs)) 0))
    refine Wx.rd (v := .bool (decide ((ix 0 (endT (openL L fs) (openS L fs)) 0) = 0))) (rd_eql rfl rfl) rfl ?_
    refine Wx.nil ?_
    refine W.condD rfl (fun c1 => ?_) (fun c1 => ?_)
    · -- yes
      refine W.seq ?_
      refine W.reg ?_
      refine Wx.rd (v := (.slice none 0 0)) (rd_assign rfl) rfl ?_
      refine Wx.rd (v := .int .i64 12) (rd_assign rfl) rfl ?_
      refine Wx.nil ?_
      have hE : firstE L fs = 12 := by rw [firstE, if_neg (by omega), ← ho.1, ← ho.2.1, if_pos (by omega)]
      have hl : firstL L fs = [] := by rw [firstL, if_neg (by omega)]
      have e1_0 : firstL L fs = [] := by exact hl
      have e1_1 : (firstE L fs) = (12 : Int) := by exact hE
      exact W.ret ⟨.tuple #[(.slice none 0 0), .int .i64 12], ResIs.two, hS.bel, ⟨(.slice none 0 0), (by rw [e1_1]), (by rw [e1_0]; exact ((hS.addNil (tI .i64) 3).fr 0 rfl flat_int))⟩⟩
    · -- no
      have hE : firstE L fs = 0 := by rw [firstE, if_neg (by omega), ← ho.1, ← ho.2.1, if_neg (by omega)]
      refine W.skip ?_
      refine W.seq ?_
      refine W.reg ?_
      refine Wx.rd (v := .pointer (some ⟨g_12, 0, none⟩)) (rd_fieldAddr rfl foSc_137_0) rfl ?_
      refine Wx.rd (v := .int .i64 (openL L fs)) (rd_loadX hS 1 rfl rfl rfl Tryz.isAgg3) rfl ?_
      obtain ⟨n_29, hn_30⟩ : ∃ n_29 : Nat, (openL L fs : Int) = (n_29 : Int) := ⟨(openL L fs).toNat, by omega⟩
      refine Wx.make0 (t := (tI .i64)) (m := n_29) elSc_25 hS rfl (congrArg (Value.int .i64) hn_30) (by omega) (by simp only [maxLen]; omega) rfl (fun v_26 w_27 hx_28 hS => ?_)
      refine Wx.rd (v := v_26) (rd_assign rfl) rfl ?_
      refine Wx.nil ?_
      refine W.seq ?_
      refine W.reg ?_
      refine Wx.rd (v := .int .u8 0) (rd_assign rfl) rfl ?_
      refine Wx.nil ?_
      refine W.seq ?_
      refine W.seq ?_
      refine W.reg ?_
      refine Wx.rd (v := .pointer (some ⟨g_12, 0, none⟩)) (rd_fieldAddr rfl foSc_137_0) rfl ?_
      refine Wx.rd (v := .int .i64 (openL L fs)) (rd_loadX hS 2 rfl rfl rfl Tryz.isAgg3) rfl ?_
      refine Wx.rd (v := .int .i64 0) (rd_move rfl) rfl ?_
      refine Wx.nil ?_
      refine W.block ?_
      refine W.loop [7, 8, 9, 29, 30, 31, 32, 33, 34, 35, 36, 37, 38, 39, 40, 41, 42, 43, 44, 45, 46, 47, 48, 49, 50, 51, 52, 53, 54, 55, 56, 57] (fun x : Int × Int × Value × (List Int) => match x with | (q, i, xv, out) => [(8, .int .u8 q), (29, .int .i64 i), (7, xv)]) (fun (x : Int × Int × Value × (List Int)) w' => match x with | (q, i, xv, out) => St w [] w' [.row (tI .i64) 3 xv out, .row (tI .i64) 3 r_18 (endT (openL L fs) (openS L fs)), .box g_12 137 [.int .i64 (openL L fs), v_8], Ob.v (tSl (tI .u8)) (openS L fs) v_8, .box g_1 109 [.int .i64 L, fv]] ∧ 0 ≤ i ∧ i ≤ openL L fs ∧ firstG (openL L fs) (openS L fs) (openL L fs - i).toNat q out = firstG (openL L fs) (openS L fs) (openL L fs).toNat 0 [] ∧ (out.length : Int) ≤ i ∧ 0 ≤ q ∧ q < powI (openL L fs)) (fun x : Int × Int × Value × (List Int) => match x with | (q, i, xv, out) => (openL L fs - i).toNat) (0, 0, v_26, []) ⟨rfl, rfl, rfl, trivial⟩ ⟨hS, (by first | omega | simp), (by first | omega | simp), (by simp), (by simp), (by first | omega | simp), (by first | omega | simp)⟩ ?_
      rintro ⟨q, i, xv, out⟩ u_32 w_31 ⟨hS, h0, h1, h2, h3, h4, h5⟩
      refine W.seq ?_
      refine W.reg ?_
      refine Wx.rd (v := .bool (decide (i < (openL L fs)))) (rd_lss rfl rfl) rfl ?_
      refine Wx.nil ?_
      refine W.seq ?_
      refine W.condD rfl (fun c2 => ?_) (fun c2 => ?_)
      · -- yes
        refine W.skip ?_
        refine W.seq ?_
        refine W.block ?_
        refine W.seq ?_
        refine W.reg ?_
        refine Wx.rd (v := .pointer (some ⟨g_12, 0, none⟩)) (rd_fieldAddr rfl foSc_137_0) rfl ?_
        refine Wx.rd (v := .int .i64 (openL L fs)) (rd_loadX hS 2 rfl rfl rfl Tryz.isAgg3) rfl ?_
        refine Wx.rd (v := .int .i64 0) (rd_move rfl) rfl ?_
        refine Wx.nil ?_
        refine W.block ?_
        refine W.loop [7, 8, 9, 33, 34, 35, 36, 37, 38, 39, 40, 41, 42, 43, 44, 45, 46, 47, 48, 49, 50, 51, 52, 53, 54, 55, 56] (fun (j : Int) => [(8, .int .u8 q), (33, .int .i64 j), (7, xv)]) (fun (j : Int) w' => St w [] w' [.row (tI .i64) 3 xv out, .row (tI .i64) 3 r_18 (endT (openL L fs) (openS L fs)), .box g_12 137 [.int .i64 (openL L fs), v_8], Ob.v (tSl (tI .u8)) (openS L fs) v_8, .box g_1 109 [.int .i64 L, fv]] ∧ 0 ≤ j ∧ j ≤ openL L fs ∧ pickF (openL L fs) (openS L fs) q (openL L fs - j).toNat = pickF (openL L fs) (openS L fs) q (openL L fs).toNat) (fun (j : Int) => (openL L fs - j).toNat) 0 ⟨rfl, rfl, rfl, trivial⟩ ⟨hS, (by first | omega | simp), (by first | omega | simp), (by simp)⟩ ?_
        rintro j u_34 w_33 ⟨hS, g0, g1, g2⟩
        refine W.seq ?_
        refine W.reg ?_
        refine Wx.rd (v := .bool (decide (j < (openL L fs)))) (rd_lss rfl rfl) rfl ?_
        refine Wx.nil ?_
        refine W.seq ?_
        refine W.condD rfl (fun c3 => ?_) (fun c3 => ?_)
        · -- yes
          refine W.skip ?_
          refine W.seq ?_
          refine W.block ?_
          refine W.seq ?_
          refine W.reg ?_
          refine Wx.rd (v := .int .i64 j) (rd_move rfl) rfl ?_
          refine Wx.rd (v := .int .i64 j) (rd_assign rfl) rfl ?_
          refine Wx.nil ?_
          refine W.seq ?_
          refine W.reg ?_
          refine Wx.rd (v := .agg #[.int .i64 (openL L fs), v_8]) (rd_loadXs (ds := [.int .i64 (openL L fs), v_8]) hS 2 rfl rfl rfl rfl Tryz.isAgg137 Tryz.sizeOf137) rfl ?_
          refine Wx.rd (v := .int .u8 q) (rd_move rfl) rfl ?_
          refine Wx.rd (v := .int .i64 j) (rd_move rfl) rfl ?_
          refine Wx.callF (run_callF Tryz.call84 rfl) (C3.F84 (in_i64 (by omega) (by omega)) (hS.v 3 rfl) (in_u8 (by omega) (by omega)) (in_i64 (by omega) (by omega)) (by omega)) rfl ?_
          rintro r_35 w_36 hx_37 rfl
          have hS := hS.ext hx_37
          refine Wx.rd (v := .bool (mayB (openS L fs) q j)) (rd_move rfl) rfl ?_
          refine Wx.cut (X := Unit) 8 [41, 42, 43, 44, 45, 46, 47, 48] (fun _ => [(48, .bool (mayB (openS L fs) q j && decide (0 < (ix 0 (endT (openL L fs) (openS L fs)) (withS q j)))))]) (fun _ w' => St w [] w' [.row (tI .i64) 3 xv out, .row (tI .i64) 3 r_18 (endT (openL L fs) (openS L fs)), .box g_12 137 [.int .i64 (openL L fs), v_8], Ob.v (tSl (tI .u8)) (openS L fs) v_8, .box g_1 109 [.int .i64 L, fv]]) ?_ ?_
          · rcases Bool.eq_false_or_eq_true (mayB (openS L fs) q j) with g_38 | g_38
            · -- True
              have gp_39 := g_38
              try simp only [Bool.and_eq_true, Bool.or_eq_true, Bool.not_eq_true', Bool.and_eq_false_iff, Bool.or_eq_false_iff, Bool.not_eq_false', decide_eq_true_eq, decide_eq_false_iff_not, not_or, Bool.false_eq_true, Bool.true_eq_false, false_or, or_false, not_false_eq_true] at gp_39
              refine Wx.gyes rfl rfl (congrArg Value.bool g_38) ?_
              refine Wx.rd (v := r_18) (rd_move rfl) rfl ?_
              refine Wx.gyes rfl rfl (congrArg Value.bool g_38) ?_
              refine Wx.rd (v := .int .u8 q) (rd_move rfl) rfl ?_
              refine Wx.gyes rfl rfl (congrArg Value.bool g_38) ?_
              refine Wx.rd (v := .int .i64 j) (rd_move rfl) rfl ?_
              refine Wx.gyes rfl rfl (congrArg Value.bool g_38) ?_
              refine Wx.callF (run_callF Tryz.call85 rfl) (C3.F85 (in_u8 (by omega) (by omega)) (in_i64 (by omega) (by omega)) (by omega)) rfl ?_
              rintro r_40 w_41 hx_42 rfl
              have hS := hS.ext hx_42
              have in_43 := bd_u8 (withS_in q j)
              refine Wx.gyes rfl rfl (congrArg Value.bool g_38) ?_
              have hw := withS_lt (L := openL L fs) (p := q) (n := j) (by omega) (by omega) (by omega) (by omega) (by omega) (by omega)
              refine Wx.indexR hS 1 rfl rfl rfl Tryz.underlying25 Tryz.sizeOf3 (by first | omega | (simp only [List.length_set, List.length_append, List.length_cons, List.length_nil, List.length_replicate]; omega)) (by first | omega | (simp only [List.length_set, List.length_append, List.length_cons, List.length_nil, List.length_replicate]; omega)) rfl (fun g_44 hg_45 => ?_)
              refine Wx.gyes rfl rfl (congrArg Value.bool g_38) ?_
              refine Wx.rd (v := .int .i64 (ix 0 (endT (openL L fs) (openS L fs)) (withS q j))) (rd_loadRI' hS 1 rfl hg_45 rfl (by first | omega | (simp only [List.length_set, List.length_append, List.length_cons, List.length_nil, List.length_replicate]; omega)) (by first | omega | (simp only [List.length_set, List.length_append, List.length_cons, List.length_nil, List.length_replicate]; omega)) Tryz.isAgg3 Tryz.sizeOf3) rfl ?_
              have bd_46 := bd_i64 (hS.rowInK' 1 rfl (by first | omega | (simp only [List.length_set, List.length_append, List.length_cons, List.length_nil, List.length_replicate]; omega)) (by first | omega | (simp only [List.length_set, List.length_append, List.length_cons, List.length_nil, List.length_replicate]; omega)) : InK .i64 (ix 0 (endT (openL L fs) (openS L fs)) (withS q j)))
              refine Wx.gyes rfl rfl (congrArg Value.bool g_38) ?_
              refine Wx.rd (v := .bool (decide (0 < (ix 0 (endT (openL L fs) (openS L fs)) (withS q j))))) (rd_gtr rfl rfl) rfl ?_
              refine Wx.rd (v := .bool (decide (0 < (ix 0 (endT (openL L fs) (openS L fs)) (withS q j))))) (rd_pickT (congrArg Value.bool g_38) rfl) rfl ?_
              refine Wx.nil ⟨(), hS, ⟨?_, trivial⟩, Out.look rfl Out.refl⟩
              show Value.bool (decide (0 < (ix 0 (endT (openL L fs) (openS L fs)) (withS q j)))) = Value.bool (mayB (openS L fs) q j && decide (0 < (ix 0 (endT (openL L fs) (openS L fs)) (withS q j))))
              first | rw [g_38, Bool.true_and] | (rw [g_38]; rfl)
            · -- False
              have gp_47 := g_38
              try simp only [Bool.and_eq_true, Bool.or_eq_true, Bool.not_eq_true', Bool.and_eq_false_iff, Bool.or_eq_false_iff, Bool.not_eq_false', decide_eq_true_eq, decide_eq_false_iff_not, not_or, Bool.false_eq_true, Bool.true_eq_false, false_or, or_false, not_false_eq_true] at gp_47
              refine Wx.gnoB rfl rfl (congrArg Value.bool g_38) rfl rfl ?_
              refine Wx.gnoB rfl rfl (congrArg Value.bool g_38) rfl rfl ?_
              refine Wx.gnoB rfl rfl (congrArg Value.bool g_38) rfl rfl ?_
              refine Wx.gnoB rfl rfl (congrArg Value.bool g_38) rfl rfl ?_
              refine Wx.gnoB rfl rfl (congrArg Value.bool g_38) rfl rfl ?_
              refine Wx.gnoB rfl rfl (congrArg Value.bool g_38) rfl rfl ?_
              refine Wx.gnoB rfl rfl (congrArg Value.bool g_38) rfl rfl ?_
              refine Wx.rd (v := .bool false) (rd_pickF (congrArg Value.bool g_38) rfl) rfl ?_
              refine Wx.nil ⟨(), hS, ⟨?_, trivial⟩, Out.look rfl Out.refl⟩
              show Value.bool false = Value.bool (mayB (openS L fs) q j && decide (0 < (ix 0 (endT (openL L fs) (openS L fs)) (withS q j))))
              first | rw [g_38, Bool.false_and] | (rw [g_38]; rfl)
          rintro ⟨⟩ u_49 w_48 hS
          refine Wx.nil ?_
          refine W.cond rfl (fun c4 => ?_) (fun c4 => ?_)
          · -- yes
            try simp only [Bool.and_eq_true, Bool.or_eq_true, Bool.not_eq_true', Bool.and_eq_false_iff, Bool.or_eq_false_iff, Bool.not_eq_false', decide_eq_true_eq, decide_eq_false_iff_not, not_or, Bool.false_eq_true, Bool.true_eq_false, false_or, or_false, not_false_eq_true] at c4
            refine W.seq ?_
            refine W.reg ?_
            refine Wx.rd (v := xv) (rd_move rfl) rfl ?_
            refine Wx.rd (v := .int .i64 j) (rd_move rfl) rfl ?_
            refine Wx.lit (t := (tI .i64)) (ys := [j]) (vs := [.int .i64 j]) elSc_25 hS rfl rfl ⟨(V.mkInt (in_i64 (by omega) (by omega))), trivial⟩ (by decide) rfl (fun v_50 w_51 hx_52 hS => ?_)
            refine Wx.append elSc_25 hS 1 rfl rfl rfl (Src.ofR hS 0 rfl) (by simp only [maxLen]; first | omega | (simp; omega) | simp) (by first | omega | (simp; omega) | simp) rfl (fun v_53 w_54 hz_55 hS => ?_)
            refine Wx.rd (v := .int .u8 q) (rd_move rfl) rfl ?_
            refine Wx.rd (v := .int .i64 j) (rd_move rfl) rfl ?_
            have hw := withS_lt (L := openL L fs) (p := q) (n := j) (by omega) (by omega) (by omega) (by omega) (by omega) (by omega)
            refine Wx.callF (run_callF Tryz.call85 rfl) (C3.F85 (in_u8 (by omega) (by omega)) (in_i64 (by omega) (by omega)) (by omega)) rfl ?_
            rintro r_56 w_57 hx_58 rfl
            have hS := hS.ext hx_58
            have in_59 := bd_u8 (withS_in q j)
            refine Wx.rd (v := v_53) (rd_assign rfl) rfl ?_
            refine Wx.rd (v := .int .u8 (withS q j)) (rd_assign rfl) rfl ?_
            refine Wx.nil ?_
            refine W.exit rfl ?_
            refine W.reg ?_
            refine Wx.rd (v := .int .i64 (i + 1)) (rd_add rfl rfl (in_i64 (by omega) (by omega))) rfl ?_
            refine Wx.rd (v := .int .i64 (i + 1)) (rd_move rfl) rfl ?_
            refine Wx.nil ?_
            refine ⟨(withS q j, i + 1, v_53, out ++ [j]), (by show (openL L fs - (i + 1)).toNat < (openL L fs - i).toNat; omega), ?_, ?_, Out.look rfl (Out.hav rfl (Out.look rfl (Out.hav rfl (Out.look rfl Out.self))))⟩
            · exact ⟨hS.tl, (by first | omega | assumption), (by first | omega | assumption), (by rw [← h2, show (openL L fs - i).toNat = (openL L fs - (i + 1)).toNat + 1 by omega, firstG, ← g2, show (openL L fs - j).toNat = (openL L fs - (j + 1)).toNat + 1 by omega, pickF, show openL L fs - (((openL L fs - (j + 1)).toNat : Nat) + 1 : Int) = j by omega, if_pos ⟨c4.1, by omega⟩]), (by simp; omega), (by first | omega | assumption), (by first | omega | assumption)⟩
            · exact ⟨rfl, rfl, rfl, trivial⟩
          · -- no
            try simp only [Bool.and_eq_true, Bool.or_eq_true, Bool.not_eq_true', Bool.and_eq_false_iff, Bool.or_eq_false_iff, Bool.not_eq_false', decide_eq_true_eq, decide_eq_false_iff_not, not_or, Bool.false_eq_true, Bool.true_eq_false, false_or, or_false, not_false_eq_true] at c4
            refine W.skip ?_
            refine W.reg ?_
            refine Wx.rd (v := .int .i64 (j + 1)) (rd_add rfl rfl (in_i64 (by omega) (by omega))) rfl ?_
            refine Wx.rd (v := .int .i64 (j + 1)) (rd_move rfl) rfl ?_
            refine Wx.nil ?_
            refine ⟨j + 1, (by show (openL L fs - (j + 1)).toNat < (openL L fs - j).toNat; omega), ?_, ?_, Out.look rfl (Out.hav rfl (Out.look rfl Out.self))⟩
            · exact ⟨hS, (by first | omega | assumption), (by first | omega | assumption), (by rw [← g2, show (openL L fs - j).toNat = (openL L fs - (j + 1)).toNat + 1 by omega, pickF, show openL L fs - (((openL L fs - (j + 1)).toNat : Nat) + 1 : Int) = j by omega, if_neg (by intro hh; rcases c4 with c4 | c4; { rw [hh.1] at c4; cases c4 }; omega)])⟩
            · exact ⟨rfl, rfl, rfl, trivial⟩
        · -- no
          refine W.exit rfl ?_
          refine W.reg ?_
          refine Wx.rd (v := .int .i64 (i + 1)) (rd_add rfl rfl (in_i64 (by omega) (by omega))) rfl ?_
          refine Wx.rd (v := .int .i64 (i + 1)) (rd_move rfl) rfl ?_
          refine Wx.nil ?_
          refine ⟨(q, i + 1, xv, out), (by show (openL L fs - (i + 1)).toNat < (openL L fs - i).toNat; omega), ?_, ?_, Out.look rfl (Out.hav rfl (Out.look rfl Out.self))⟩
          · exact ⟨hS, (by first | omega | assumption), (by first | omega | assumption), (by rw [← h2, show (openL L fs - i).toNat = (openL L fs - (i + 1)).toNat + 1 by omega, firstG, ← g2, show (openL L fs - j).toNat = 0 by omega, pickF]), (by first | omega | assumption), (by first | omega | assumption), (by first | omega | assumption)⟩
          · exact ⟨rfl, rfl, rfl, trivial⟩
      · -- no
        refine W.exit rfl ?_
        refine W.seq ?_
        refine W.reg ?_
        refine Wx.rd (v := xv) (rd_move rfl) rfl ?_
        refine Wx.rd (v := xv) (rd_assign rfl) rfl ?_
        refine Wx.rd (v := .int .i64 0) (rd_assign rfl) rfl ?_
        refine Wx.nil ?_
        have hl : firstL L fs = out := by rw [firstL, if_pos hE, ← ho.1, ← ho.2.1, ← h2, show (openL L fs - i).toNat = 0 by omega, firstG]
        have e2_0 : firstL L fs = out := by exact hl
        have e2_1 : (firstE L fs) = (0 : Int) := by exact hE
        exact W.ret ⟨.tuple #[xv, .int .i64 0], ResIs.two, hS.bel, ⟨xv, (by rw [e2_1]), (by rw [e2_0]; exact (hS.fr 0 rfl flat_int))⟩⟩
end Go.Proofs.YtdpdlplkngggoaaGreatDoor

namespace Go.Proofs.YtdpdlplkngggoaaGreatDoor
open Go.Wk Go.RowKit Go.Lib
set_option linter.unusedVariables false
set_option linter.unusedSimpArgs false
theorem foYa_27_0 : fldOff Tryz.prog 27 0 = some 0 := by kernel_rfl
theorem foYa_27_1 : fldOff Tryz.prog 27 1 = some 1 := by kernel_rfl
theorem foYa_27_2 : fldOff Tryz.prog 27 2 = some 2 := by kernel_rfl

theorem F27 {lo : Int} {n : Int} {hi : Int} {w : World} (i_lo : InK .i64 lo) (i_n : InK .i64 n) (i_hi : InK .i64 hi) : Calls Tryz.prog 27 #[.int .i64 lo, .int .i64 n, .int .i64 hi] w (Ret w (fun r _ => r = .bool (decide (lo ≤ n) && decide (n ≤ hi)))) := by
  have b_hi := bd_i64 i_hi
  have b_n := bd_i64 i_n
  have b_lo := bd_i64 i_lo
  have hS := St.start0 w
  refine enterR Tryz.func27 rfl Tryz.ntmps27 Tryz.results27 rfl ?_
  refine W.seq ?_
  refine W.reg ?_
  refine Wx.rd (v := .bool false) (rd_assign rfl) rfl ?_
  refine Wx.nil ?_
  refine W.seq ?_
  refine W.reg ?_
  refine Wx.rd (v := .int .i64 lo) (rd_move rfl) rfl ?_
  refine Wx.rd (v := .int .i64 n) (rd_move rfl) rfl ?_
  refine Wx.rd (v := .bool (decide (lo ≤ n))) (rd_leq rfl rfl) rfl ?_
  refine Wx.rd (v := .bool (decide (lo ≤ n))) (rd_move rfl) rfl ?_
  refine Wx.cut (X := Unit) 4 [11, 12, 13, 14] (fun _ => [(14, .bool (decide (lo ≤ n) && decide (n ≤ hi)))]) (fun _ w' => St w [] w' []) ?_ ?_
  · rcases Bool.eq_false_or_eq_true (decide (lo ≤ n)) with g_1 | g_1
    · -- True
      have gp_2 := of_decide_eq_true g_1
      refine Wx.gyes rfl rfl (congrArg Value.bool g_1) ?_
      refine Wx.rd (v := .int .i64 n) (rd_move rfl) rfl ?_
      refine Wx.gyes rfl rfl (congrArg Value.bool g_1) ?_
      refine Wx.rd (v := .int .i64 hi) (rd_move rfl) rfl ?_
      refine Wx.gyes rfl rfl (congrArg Value.bool g_1) ?_
      refine Wx.rd (v := .bool (decide (n ≤ hi))) (rd_leq rfl rfl) rfl ?_
      refine Wx.rd (v := .bool (decide (n ≤ hi))) (rd_pickT (congrArg Value.bool g_1) rfl) rfl ?_
      refine Wx.nil ⟨(), hS, ⟨?_, trivial⟩, Out.look rfl Out.refl⟩
      show Value.bool (decide (n ≤ hi)) = Value.bool (decide (lo ≤ n) && decide (n ≤ hi))
      first | rw [g_1, Bool.true_and] | (rw [g_1]; rfl)
    · -- False
      have gp_3 := of_decide_eq_false g_1
      refine Wx.gnoB rfl rfl (congrArg Value.bool g_1) rfl rfl ?_
      refine Wx.gnoB rfl rfl (congrArg Value.bool g_1) rfl rfl ?_
      refine Wx.gnoB rfl rfl (congrArg Value.bool g_1) rfl rfl ?_
      refine Wx.rd (v := .bool false) (rd_pickF (congrArg Value.bool g_1) rfl) rfl ?_
      refine Wx.nil ⟨(), hS, ⟨?_, trivial⟩, Out.look rfl Out.refl⟩
      show Value.bool false = Value.bool (decide (lo ≤ n) && decide (n ≤ hi))
      first | rw [g_1, Bool.false_and] | (rw [g_1]; rfl)
  rintro ⟨⟩ u_5 w_4 hS
  refine Wx.rd (v := .bool (decide (lo ≤ n) && decide (n ≤ hi))) (rd_assign rfl) rfl ?_
  refine Wx.nil ?_
  exact W.ret ⟨.bool (decide (lo ≤ n) && decide (n ≤ hi)), ResIs.one, hS.bel, rfl⟩

theorem F29 {h : Int} {w : World} (i_h : InK .i64 h) : Calls Tryz.prog 29 #[.int .i64 h] w (Ret w (fun r _ => r = .bool (badH h))) := by
  have b_h := bd_i64 i_h
  have hS := St.start0 w
  refine enterR Tryz.func29 rfl Tryz.ntmps29 Tryz.results29 rfl ?_
  refine W.seq ?_
  refine W.reg ?_
  refine Wx.rd (v := .bool false) (rd_assign rfl) rfl ?_
  refine Wx.nil ?_
  refine W.seq ?_
  refine W.reg ?_
  refine Wx.rd (v := .int .i64 h) (rd_move rfl) rfl ?_
  refine Wx.callF (run_callF Tryz.call27 rfl) (F27 (in_i64 (by omega) (by omega)) i_h (in_i64 (by omega) (by omega))) rfl ?_
  rintro r_1 w_2 hx_3 rfl
  have hS := hS.ext hx_3
  refine Wx.rd (v := .bool (!(decide (0 ≤ h) && decide (h ≤ 30)))) (rd_not rfl) rfl ?_
  refine Wx.rd (v := .bool (!(decide (0 ≤ h) && decide (h ≤ 30)))) (rd_assign rfl) rfl ?_
  refine Wx.nil ?_
  have e0_0 : (badH h) = (!(decide (0 ≤ h) && decide (h ≤ 30))) := by rfl
  exact W.ret ⟨.bool (!(decide (0 ≤ h) && decide (h ≤ 30))), ResIs.one, hS.bel, (by rw [e0_0])⟩

theorem FIw {xv : Value} {xs : List Int} {Fr_xv : List (Option Nat)} {w : World} (h_xv : V (tSl (tI .i64)) xs xv Fr_xv w) : Calls Tryz.prog 37 #[xv, .func (.func 29) #[] #[]] w (Ret w (fun r _ => r = .int .i64 (idxP badH 0 xs))) := by
  have a_xv := h_xv.any
  have l_xv := h_xv.len63
  have hS := St.start0 w
  refine enterR Tryz.func37 rfl Tryz.ntmps37 Tryz.results37 rfl ?_
  refine W.seq ?_
  refine W.reg ?_
  refine Wx.rd (v := .int .i64 0) (rd_assign rfl) rfl ?_
  refine Wx.nil ?_
  refine W.seq ?_
  refine W.seq ?_
  refine W.reg ?_
  refine Wx.rd (v := xv) (rd_move rfl) rfl ?_
  refine Wx.rd (v := .int .i64 (xs.length : Int)) (rd_lenV rfl (hS.arg a_xv) Tryz.underlying25) rfl ?_
  refine Wx.rd (v := .int .i64 0) (rd_move rfl) rfl ?_
  refine Wx.nil ?_
  refine W.block ?_
  refine W.loop [4, 5, 8, 9, 10, 11, 12, 13, 14, 15, 16, 17, 18] (fun (k : Int) => [(8, .int .i64 k)]) (fun (k : Int) w' => St w [] w' [] ∧ 0 ≤ k ∧ k ≤ xs.length ∧ idxP badH k (xs.drop k.toNat) = idxP badH 0 xs) (fun (k : Int) => (xs.length - k).toNat) 0 ⟨rfl, trivial⟩ ⟨hS, (by first | omega | simp), (by first | omega | simp), (by simp)⟩ ?_
  rintro k u_2 w_1 ⟨hS, h0, h1, h2⟩
  refine W.seq ?_
  refine W.reg ?_
  refine Wx.rd (v := .bool (decide (k < (xs.length : Int)))) (rd_lss rfl rfl) rfl ?_
  refine Wx.nil ?_
  refine W.seq ?_
  refine W.condD rfl (fun c0 => ?_) (fun c0 => ?_)
  · -- yes
    refine W.skip ?_
    refine W.seq ?_
    refine W.block ?_
    refine W.seq ?_
    refine W.reg ?_
    refine Wx.rd (v := .int .i64 k) (rd_move rfl) rfl ?_
    refine Wx.rd (v := .int .i64 k) (rd_assign rfl) rfl ?_
    refine Wx.nil ?_
    refine W.seq ?_
    refine W.reg ?_
    refine Wx.rd (v := .func (.func 29) #[] #[]) (rd_move rfl) rfl ?_
    refine Wx.rd (v := xv) (rd_move rfl) rfl ?_
    refine Wx.rd (v := .int .i64 k) (rd_move rfl) rfl ?_
    refine Wx.ex (rd_index 0 (hS.arg a_xv) rfl rfl Tryz.underlying25 Tryz.sizeOf3 (by first | omega | (simp only [List.length_set, List.length_append, List.length_cons, List.length_nil, List.length_replicate]; omega)) (by first | omega | (simp only [List.length_set, List.length_append, List.length_cons, List.length_nil, List.length_replicate]; omega))) rfl (fun p_3 hp_4 => ?_)
    refine Wx.rd (v := .int .i64 (ix 0 xs k)) (rd_loadI hp_4 rfl Tryz.isAgg3 Tryz.sizeOf3) rfl ?_
    have bd_5 := bd_i64 hp_4.inK
    refine Wx.callF (run_callC (fs := []) (cs := []) (vs := [.int .i64 (ix 0 xs k)]) Tryz.call29 rfl rfl) (F29 (in_i64 (by omega) (by omega))) rfl ?_
    rintro r_6 w_7 hx_8 rfl
    have hS := hS.ext hx_8
    refine Wx.nil ?_
    refine W.cond rfl (fun c1 => ?_) (fun c1 => ?_)
    · -- yes
      try simp only [Bool.and_eq_true, Bool.or_eq_true, Bool.not_eq_true', Bool.and_eq_false_iff, Bool.or_eq_false_iff, Bool.not_eq_false', decide_eq_true_eq, decide_eq_false_iff_not, not_or, Bool.false_eq_true, Bool.true_eq_false, false_or, or_false, not_false_eq_true] at c1
      refine W.seq ?_
      refine W.reg ?_
      refine Wx.rd (v := .int .i64 k) (rd_move rfl) rfl ?_
      refine Wx.rd (v := .int .i64 k) (rd_assign rfl) rfl ?_
      refine Wx.nil ?_
      have e0_0 : (idxP badH 0 xs) = (k : Int) := by exact idxP_here h0 c0 h2 c1
      exact W.ret ⟨.int .i64 k, ResIs.one, hS.bel, (by rw [e0_0])⟩
    · -- no
      try simp only [Bool.and_eq_true, Bool.or_eq_true, Bool.not_eq_true', Bool.and_eq_false_iff, Bool.or_eq_false_iff, Bool.not_eq_false', decide_eq_true_eq, decide_eq_false_iff_not, not_or, Bool.false_eq_true, Bool.true_eq_false, false_or, or_false, not_false_eq_true] at c1
      refine W.skip ?_
      refine W.reg ?_
      refine Wx.rd (v := .int .i64 (k + 1)) (rd_add rfl rfl (in_i64 (by omega) (by omega))) rfl ?_
      refine Wx.rd (v := .int .i64 (k + 1)) (rd_move rfl) rfl ?_
      refine Wx.nil ?_
      refine ⟨k + 1, (by show (xs.length - (k + 1)).toNat < (xs.length - k).toNat; omega), ?_, ?_, Out.look rfl Out.self⟩
      · exact ⟨hS, (by first | omega | assumption), (by first | omega | assumption), (idxP_step h0 c0 h2 c1)⟩
      · exact ⟨rfl, trivial⟩
  · -- no
    refine W.exit rfl ?_
    refine W.seq ?_
    refine W.reg ?_
    refine Wx.rd (v := .int .i64 (-1)) (rd_assign rfl) rfl ?_
    refine Wx.nil ?_
    have e1_0 : (idxP badH 0 xs) = (-1 : Int) := by exact idxP_out (by omega) h2
    exact W.ret ⟨.int .i64 (-1), ResIs.one, hS.bel, (by rw [e1_0])⟩

theorem F28 {xv : Value} {xs : List Int} {Fr_xv : List (Option Nat)} {w : World} (h_xv : V (tSl (tI .i64)) xs xv Fr_xv w) : Calls Tryz.prog 28 #[xv, .func (.func 29) #[] #[]] w (Ret w (fun r _ => r = .bool (xs.any badH))) := by
  have a_xv := h_xv.any
  have l_xv := h_xv.len63
  have hS := St.start0 w
  refine enterR Tryz.func28 rfl Tryz.ntmps28 Tryz.results28 rfl ?_
  refine W.seq ?_
  refine W.reg ?_
  refine Wx.rd (v := .bool false) (rd_assign rfl) rfl ?_
  refine Wx.nil ?_
  refine W.seq ?_
  refine W.reg ?_
  refine Wx.rd (v := xv) (rd_move rfl) rfl ?_
  refine Wx.rd (v := .func (.func 29) #[] #[]) (rd_move rfl) rfl ?_
  refine Wx.callF (run_callF Tryz.call37 rfl) (FIw (hS.arg a_xv)) rfl ?_
  rintro r_1 w_2 hx_3 rfl
  have hS := hS.ext hx_3
  have ib_4 := idxP_bd badH xs 0 (Int.le_refl 0)
  refine Wx.rd (v := .bool (decide (0 ≤ (idxP badH 0 xs)))) (rd_geq rfl rfl) rfl ?_
  refine Wx.rd (v := .bool (decide (0 ≤ (idxP badH 0 xs)))) (rd_assign rfl) rfl ?_
  refine Wx.nil ?_
  have e0_0 : (xs.any badH) = (decide (0 ≤ (idxP badH 0 xs))) := by exact (idxP_any _ _ _ (by omega)).symm
  exact W.ret ⟨.bool (decide (0 ≤ (idxP badH 0 xs))), ResIs.one, hS.bel, (by rw [e0_0])⟩

set_option maxHeartbeats 1000000 in
theorem F21 {R : Int} {C : Int} {hv : Value} {H : List Int} {Fr_hv : List (Option Nat)} {w : World} (i_R : InK .i64 R) (i_C : InK .i64 C) (h_hv : V (tSl (tI .i64)) H hv Fr_hv w) : Calls Tryz.prog 21 #[.agg #[.int .i64 R, .int .i64 C, hv]] w (Ret w (fun r _ => r = .int .i64 (checkS R C H))) := by
  have b_C := bd_i64 i_C
  have b_R := bd_i64 i_R
  have a_hv := h_hv.any
  have l_hv := h_hv.len63
  have hS := St.start0 w
  refine enterR Tryz.func21 rfl Tryz.ntmps21 Tryz.results21 rfl ?_
  refine W.seq ?_
  refine W.reg ?_
  refine Wx.box (cs := [.int .i64 R, .int .i64 C, hv]) hS rfl rfl rfl (fun g_1 w_2 hx_4 hb_3 hS => ?_)
  refine Wx.rd (v := .int .i64 0) (rd_assign rfl) rfl ?_
  refine Wx.nil ?_
  refine W.seq ?_
  refine W.block ?_
  refine W.seq ?_
  refine W.reg ?_
  refine Wx.rd (v := .pointer (some ⟨g_1, 0, none⟩)) (rd_fieldAddr rfl foYa_27_0) rfl ?_
  refine Wx.rd (v := .int .i64 R) (rd_loadX hS 0 rfl rfl rfl Tryz.isAgg3) rfl ?_
  refine Wx.callF (run_callF Tryz.call27 rfl) (F27 (in_i64 (by omega) (by omega)) i_R (in_i64 (by omega) (by omega))) rfl ?_
  rintro r_5 w_6 hx_7 rfl
  have hS := hS.ext hx_7
  refine Wx.rd (v := .bool (!(decide (1 ≤ R) && decide (R ≤ 6)))) (rd_not rfl) rfl ?_
  refine Wx.rd (v := .bool (!(decide (1 ≤ R) && decide (R ≤ 6)))) (rd_move rfl) rfl ?_
  refine Wx.cut (X := Unit) 5 [9, 10, 11, 12, 13] (fun _ => [(13, .bool (!(decide (1 ≤ R) && decide (R ≤ 6)) || !(decide (1 ≤ C) && decide (C ≤ 6))))]) (fun _ w' => St w [] w' [.box g_1 27 [.int .i64 R, .int .i64 C, hv]]) ?_ ?_
  · rcases Bool.eq_false_or_eq_true (!(decide (1 ≤ R) && decide (R ≤ 6))) with g_8 | g_8
    · -- True
      have gp_9 := g_8
      try simp only [Bool.and_eq_true, Bool.or_eq_true, Bool.not_eq_true', Bool.and_eq_false_iff, Bool.or_eq_false_iff, Bool.not_eq_false', decide_eq_true_eq, decide_eq_false_iff_not, not_or, Bool.false_eq_true, Bool.true_eq_false, false_or, or_false, not_false_eq_true] at gp_9
      refine Wx.gnoB rfl rfl (congrArg Value.bool g_8) rfl rfl ?_
      refine Wx.gnoB rfl rfl (congrArg Value.bool g_8) rfl rfl ?_
      refine Wx.gnoB rfl rfl (congrArg Value.bool g_8) rfl rfl ?_
      refine Wx.gnoB rfl rfl (congrArg Value.bool g_8) rfl rfl ?_
      refine Wx.rd (v := .bool true) (rd_pickT (congrArg Value.bool g_8) rfl) rfl ?_
      refine Wx.nil ⟨(), hS, ⟨?_, trivial⟩, Out.look rfl Out.refl⟩
      show Value.bool true = Value.bool (!(decide (1 ≤ R) && decide (R ≤ 6)) || !(decide (1 ≤ C) && decide (C ≤ 6)))
      first | rw [g_8, Bool.true_or] | (rw [g_8]; rfl)
    · -- False
      have gp_10 := g_8
      try simp only [Bool.and_eq_true, Bool.or_eq_true, Bool.not_eq_true', Bool.and_eq_false_iff, Bool.or_eq_false_iff, Bool.not_eq_false', decide_eq_true_eq, decide_eq_false_iff_not, not_or, Bool.false_eq_true, Bool.true_eq_false, false_or, or_false, not_false_eq_true] at gp_10
      refine Wx.gyes rfl rfl (congrArg Value.bool g_8) ?_
      refine Wx.rd (v := .pointer (some ⟨g_1, 1, none⟩)) (rd_fieldAddr rfl foYa_27_1) rfl ?_
      refine Wx.gyes rfl rfl (congrArg Value.bool g_8) ?_
      refine Wx.rd (v := .int .i64 C) (rd_loadX hS 0 rfl rfl rfl Tryz.isAgg3) rfl ?_
      refine Wx.gyes rfl rfl (congrArg Value.bool g_8) ?_
      refine Wx.callF (run_callF Tryz.call27 rfl) (F27 (in_i64 (by omega) (by omega)) i_C (in_i64 (by omega) (by omega))) rfl ?_
      rintro r_11 w_12 hx_13 rfl
      have hS := hS.ext hx_13
      refine Wx.gyes rfl rfl (congrArg Value.bool g_8) ?_
      refine Wx.rd (v := .bool (!(decide (1 ≤ C) && decide (C ≤ 6)))) (rd_not rfl) rfl ?_
      refine Wx.rd (v := .bool (!(decide (1 ≤ C) && decide (C ≤ 6)))) (rd_pickF (congrArg Value.bool g_8) rfl) rfl ?_
      refine Wx.nil ⟨(), hS, ⟨?_, trivial⟩, Out.look rfl Out.refl⟩
      show Value.bool (!(decide (1 ≤ C) && decide (C ≤ 6))) = Value.bool (!(decide (1 ≤ R) && decide (R ≤ 6)) || !(decide (1 ≤ C) && decide (C ≤ 6)))
      first | rw [g_8, Bool.false_or] | (rw [g_8]; rfl)
  rintro ⟨⟩ u_15 w_14 hS
  refine Wx.rd (v := .bool (!(decide (1 ≤ R) && decide (R ≤ 6)) || !(decide (1 ≤ C) && decide (C ≤ 6)))) (rd_assign rfl) rfl ?_
  refine Wx.nil ?_
  refine W.cond rfl (fun c0 => ?_) (fun c0 => ?_)
  · -- yes
    try simp only [Bool.and_eq_true, Bool.or_eq_true, Bool.not_eq_true', Bool.and_eq_false_iff, Bool.or_eq_false_iff, Bool.not_eq_false', decide_eq_true_eq, decide_eq_false_iff_not, not_or, Bool.false_eq_true, Bool.true_eq_false, false_or, or_false, not_false_eq_true] at c0
    refine W.seq ?_
    refine W.reg ?_
    refine Wx.rd (v := .int .i64 1) (rd_assign rfl) rfl ?_
    refine Wx.nil ?_
    have e0_0 : (checkS R C H) = (1 : Int) := by exact check_range (by omega)
    exact W.ret ⟨.int .i64 1, ResIs.one, hS.bel, (by rw [e0_0])⟩
  · -- no
    try simp only [Bool.and_eq_true, Bool.or_eq_true, Bool.not_eq_true', Bool.and_eq_false_iff, Bool.or_eq_false_iff, Bool.not_eq_false', decide_eq_true_eq, decide_eq_false_iff_not, not_or, Bool.false_eq_true, Bool.true_eq_false, false_or, or_false, not_false_eq_true] at c0
    refine W.seq ?_
    refine W.reg ?_
    refine Wx.rd (v := .pointer (some ⟨g_1, 2, none⟩)) (rd_fieldAddr rfl foYa_27_2) rfl ?_
    refine Wx.rd (v := hv) (rd_loadX hS 0 rfl rfl rfl Tryz.isAgg25) rfl ?_
    refine Wx.rd (v := .int .i64 (H.length : Int)) (rd_lenV rfl (hS.arg a_hv) Tryz.underlying25) rfl ?_
    refine Wx.rd (v := .pointer (some ⟨g_1, 0, none⟩)) (rd_fieldAddr rfl foYa_27_0) rfl ?_
    refine Wx.rd (v := .int .i64 R) (rd_loadX hS 0 rfl rfl rfl Tryz.isAgg3) rfl ?_
    refine Wx.rd (v := .pointer (some ⟨g_1, 1, none⟩)) (rd_fieldAddr rfl foYa_27_1) rfl ?_
    refine Wx.rd (v := .int .i64 C) (rd_loadX hS 0 rfl rfl rfl Tryz.isAgg3) rfl ?_
    have hmul : 0 ≤ R * C ∧ R * C ≤ 36 := mul36 (by omega) (by omega)
    refine Wx.rd (v := .int .i64 (R * C)) (rd_mul rfl rfl (in_i64 (by omega) (by omega))) rfl ?_
    refine Wx.rd (v := .bool (decide ((H.length : Int) ≠ (R * C)))) (rd_neq rfl rfl) rfl ?_
    refine Wx.rd (v := .bool (decide ((H.length : Int) ≠ (R * C)))) (rd_assign rfl) rfl ?_
    refine Wx.nil ?_
    refine W.condD rfl (fun c1 => ?_) (fun c1 => ?_)
    · -- yes
      refine W.seq ?_
      refine W.reg ?_
      refine Wx.rd (v := .int .i64 5) (rd_assign rfl) rfl ?_
      refine Wx.nil ?_
      have e1_0 : (checkS R C H) = (5 : Int) := by exact check_shape (by omega) (by omega)
      exact W.ret ⟨.int .i64 5, ResIs.one, hS.bel, (by rw [e1_0])⟩
    · -- no
      refine W.seq ?_
      refine W.reg ?_
      refine Wx.rd (v := .pointer (some ⟨g_1, 2, none⟩)) (rd_fieldAddr rfl foYa_27_2) rfl ?_
      refine Wx.rd (v := hv) (rd_loadX hS 0 rfl rfl rfl Tryz.isAgg25) rfl ?_
      refine Wx.callF (run_callF Tryz.call28 rfl) (F28 (hS.arg a_hv)) rfl ?_
      rintro r_16 w_17 hx_18 rfl
      have hS := hS.ext hx_18
      refine Wx.rd (v := .bool (H.any badH)) (rd_assign rfl) rfl ?_
      refine Wx.nil ?_
      refine W.cond rfl (fun c2 => ?_) (fun c2 => ?_)
      · -- yes
        try simp only [Bool.and_eq_true, Bool.or_eq_true, Bool.not_eq_true', Bool.and_eq_false_iff, Bool.or_eq_false_iff, Bool.not_eq_false', decide_eq_true_eq, decide_eq_false_iff_not, not_or, Bool.false_eq_true, Bool.true_eq_false, false_or, or_false, not_false_eq_true] at c2
        have hg : (1 ≤ R ∧ R ≤ 6) ∧ (1 ≤ C ∧ C ≤ 6) := by omega
        refine W.seq ?_
        refine W.reg ?_
        refine Wx.rd (v := .int .i64 1) (rd_assign rfl) rfl ?_
        refine Wx.nil ?_
        have e2_0 : (checkS R C H) = (1 : Int) := by rw [check_any (by omega) (by omega), if_pos c2]
        exact W.ret ⟨.int .i64 1, ResIs.one, hS.bel, (by rw [e2_0])⟩
      · -- no
        try simp only [Bool.and_eq_true, Bool.or_eq_true, Bool.not_eq_true', Bool.and_eq_false_iff, Bool.or_eq_false_iff, Bool.not_eq_false', decide_eq_true_eq, decide_eq_false_iff_not, not_or, Bool.false_eq_true, Bool.true_eq_false, false_or, or_false, not_false_eq_true] at c2
        refine W.skip ?_
        refine W.seq ?_
        refine W.reg ?_
        refine Wx.rd (v := .int .i64 0) (rd_assign rfl) rfl ?_
        refine Wx.nil ?_
        have e3_0 : (checkS R C H) = (0 : Int) := by rw [check_any (by omega) (by omega), if_neg (by rw [c2]; decide)]
        exact W.ret ⟨.int .i64 0, ResIs.one, hS.bel, (by rw [e3_0])⟩

theorem F31 {R : Int} {C : Int} {hv : Value} {H : List Int} {Fr_hv : List (Option Nat)} {w : World} (i_R : InK .i64 R) (i_C : InK .i64 C) (h_hv : V (tSl (tI .i64)) H hv Fr_hv w) : Calls Tryz.prog 31 #[.agg #[.int .i64 R, .int .i64 C, hv]] w (Ret w (fun r _ => r = .int .i64 (H.length : Int))) := by
  have b_C := bd_i64 i_C
  have b_R := bd_i64 i_R
  have a_hv := h_hv.any
  have l_hv := h_hv.len63
  have hS := St.start0 w
  refine enterR Tryz.func31 rfl Tryz.ntmps31 Tryz.results31 rfl ?_
  refine W.seq ?_
  refine W.reg ?_
  refine Wx.box (cs := [.int .i64 R, .int .i64 C, hv]) hS rfl rfl rfl (fun g_1 w_2 hx_4 hb_3 hS => ?_)
  refine Wx.rd (v := .int .i64 0) (rd_assign rfl) rfl ?_
  refine Wx.nil ?_
  refine W.seq ?_
  refine W.reg ?_
  refine Wx.rd (v := .pointer (some ⟨g_1, 2, none⟩)) (rd_fieldAddr rfl foYa_27_2) rfl ?_
  refine Wx.rd (v := hv) (rd_loadX hS 0 rfl rfl rfl Tryz.isAgg25) rfl ?_
  refine Wx.rd (v := .int .i64 (H.length : Int)) (rd_lenV rfl (hS.arg a_hv) Tryz.underlying25) rfl ?_
  refine Wx.rd (v := .int .i64 (H.length : Int)) (rd_assign rfl) rfl ?_
  refine Wx.nil ?_
  exact W.ret ⟨.int .i64 (H.length : Int), ResIs.one, hS.bel, rfl⟩
end Go.Proofs.YtdpdlplkngggoaaGreatDoor
