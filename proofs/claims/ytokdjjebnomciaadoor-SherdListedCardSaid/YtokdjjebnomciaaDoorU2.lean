/-
  WHAT IS PROVED HERE, TEXT BY TEXT (several texts of one prover, joined to one file; the conditions stand in each statement):
  * WHAT IS PROVED HERE: a variable that holds a string and a table of pairs, 13 times 13: what is read from it, what it holds after a pair is written. Conditions stand in each statement; they hold over any program.
  * WHAT IS PROVED HERE: plain laws of the table of parts: how its numbers are found one after the other, and how great they are. No program in sight. Conditions stand in each statement.
  * WHAT IS SAID HERE: what the program answers of a rim: how many joins, how many plans, the first plan, the joins of all. No program in sight.
  * WHAT IS PROVED HERE: plain laws of the reference's plans: what they are made of, how many there are at most, which are the greatest. No program in sight. Conditions stand in each statement.
  * WHAT IS SAID HERE, WITH PLAIN LAWS: the joins of all greatest plans, as the reference seeks them. No program in sight.
  * WHAT IS SAID HERE, WITH PLAIN LAWS: what is taken away from a rim and what is left, as the program seeks it (from the left to the right) and as the reference does (the first two neighbours that fit, again and again). No program in sight.
  * DERIVED: THE SHELF's CONTRACTS AT THIS DUMP, IN PLAIN WORDS (tools/lay-plain.mjs out of 'TrydShelf.lean', which tools/lay-shelf.mjs wrote): THE SAME DECLARATIONS UNDER THE SAME NAMES: 'import', 'namespace', 'open', 'def', 'theorem' AND NOTHING ELSE: no command of the shelf's: FOR A HAND-IN. Each laying: the table of numbers ('.._ren') and one theorem, a field a fact of the dump's own or the kernel's comparison; each contract: ONE APPLICATION.
  * WHAT IS PROVED HERE: what the library's functions hand back, out of the shelf's contracts, where its tables read as the program's text lays them. Conditions stand in each statement.
  * WHAT IS PROVED HERE: what functions of layer 5 hand back, each out of its own code; the conditions stand in each statement.
  * WHAT IS PROVED HERE: strings.ContainsRune over a string of letters alone: a letter is found just if it stands there; no other rune is. Conditions stand in the statement.
  * WHAT IS PROVED HERE: strings.Builder of the call's own, written byte by byte, beside a list of numbers of the call's own; strings made of a rim's bytes. Conditions stand in each statement. From the shelf's contracts.
  * WHAT IS SAID HERE, WITH PLAIN LAWS: the answers on steps, rests, cores, rims that are turned. No program in sight.
  * WHAT IS PROVED HERE: a string's runes as a slice of the call's own, and a string made of a slice of runes. Conditions stand in each statement; they hold over any program.
  * WHAT IS PROVED HERE: letters changed one by one, runes of a string of letters, by the library's contracts. Conditions stand in each statement.
  * WHAT IS SAID HERE, WITH PLAIN LAWS: lists turned round in their own place; rims alike. No program in sight.
  * WHAT IS SAID HERE, WITH PLAIN LAWS: the joins of all greatest plans, as the program seeks them; a list from which some elements are deleted in its own place. No program in sight.
  * WHAT IS PROVED HERE: plain laws of plans whose edges get other numbers: as many plans of each length, if the numbers go back. No program in sight. Conditions stand in each statement.
  * WHAT IS PROVED HERE: plain laws of plans of a rim that is turned, written backwards, or has an edge more. No program in sight. Conditions stand in each statement.
  * WHAT IS PROVED HERE: as many plans have a join as what is inside of it, and what is outside, have together. No program in sight. Conditions stand in each statement.
  * WHAT IS PROVED HERE: plain laws of words of numbers from which neighbours whose sum is 0 are taken away; there is a full plan just if nothing is left. No program in sight. Conditions stand in each statement.
  * WHAT IS PROVED HERE: plain laws of the core of a word: a word that is turned has a core that is turned. No program in sight. Conditions stand in each statement.
  * WHAT IS PROVED HERE: plain laws that join the program and the reference: full plans, joins of all greatest plans, rims compared. No program in sight. Conditions stand in each statement.
  * WHAT IS PROVED HERE: plain laws of what the statements take away themselves, of cores, and of rims compared. No program in sight. Conditions stand in each statement.
  * WHAT IS PROVED HERE: plain laws of rims that are turned, opposite, longer, and of some edges of a rim. No program in sight. Conditions stand in each statement.
  * WHAT IS SAID HERE: the examples' rims, and joins out of a list of numbers. No program in sight.
  * WHAT IS SAID HERE, WITH PLAIN LAWS: rims that are made of numbers. No program in sight. Conditions stand in each statement.
  * WHAT IS PROVED HERE: an argument that reads as data is, in the world at the start, a value that stands for a plain list, number, or pair (V of Wk2). Conditions: the types' closed facts, as hypotheses.
  * WHAT IS PROVED HERE: pairs of numbers as they are read at the start. Conditions: the types' closed facts, as hypotheses.
  * WHAT IS PROVED HERE: strings.ToUpper and strings.ToLower at one letter, and a letter compared with the smallest small one. Conditions stand in each statement.
  * WHAT IS SAID HERE, WITH PLAIN LAWS: two letters that fit, put into a rim; rims that are turned, opposite, longer. No program in sight. Conditions stand in each statement.
  * WHAT IS PROVED HERE: maps of the call's own, made, read and written: a list of keys with values, in the order in which the keys came. Conditions stand in each statement; they hold over any program.
  * WHAT IS PROVED HERE: an entry of a map of the call's own, opened and then written by its stamp. Conditions stand in each statement; they hold over any program.
  * WHAT IS SAID HERE, WITH PLAIN LAWS: joins that are a plan, checked one after another. No program in sight. Conditions stand in each statement.
  * WHAT IS PROVED HERE: plain laws of lists that are sorted by insertion, by whatever comparison. No program in sight. Conditions stand in each statement.
  * WHAT IS PROVED HERE: a whole array in a variable as a slice. Conditions stand in the statement; it holds over any program.
  * WHAT IS SAID HERE, WITH PLAIN LAWS: joins compared, and sorted. No program in sight. Conditions stand in each statement.
  * WHAT IS PROVED HERE: math/bits.Len, out of the library's contract. Conditions stand in the statement.
  * WHAT IS PROVED HERE: a variable's array of pairs of numbers is not written any more: it is read as a slice of pairs. Conditions stand in the statement; it holds over any program.
  * WHAT IS SAID HERE, WITH PLAIN LAWS: the error of joins that are sorted, by the longest beginning that is a plan. No program in sight. Conditions stand in each statement.
  * WHAT IS SAID HERE, WITH PLAIN LAWS: joins are checked as a plan just if they are one; the steps, sorted, are a plan; each step takes the first two neighbours that fit. No program in sight. Conditions stand in each statement.
  * WHAT IS SAID HERE, WITH PLAIN LAWS: whether the edges from one to before another can all be joined, in a table filled column by column. No program in sight. Conditions stand in each statement.
  * WHAT IS SAID HERE, WITH PLAIN LAWS: all plans in the order in which they are tried, what is kept of those that were met, and functions that are called with each. No program in sight. Conditions stand in each statement.
  * WHAT IS PROVED HERE: what functions of layer 5 hand back, each out of its own code; the conditions stand in each statement.
-/
import Derived.Test.YtokdjjebnomciaaDoorU1
import Derived.Shelf.Strings.Builder1
import Derived.Shelf.Strings.Builder2
import Derived.Shelf.Strings.OnBuilder
import Derived.Shelf.Small.Utf8
import Derived.Shelf.Small.Bits
import Derived.Shelf.Small.Strs
import Derived.Shelf.Strings.BuilderF
import Derived.Shelf.Strings.BuilderK
import Derived.Shelf.Strings.BuilderRune
import Derived.Shelf.Utf8.AppendRune
import Derived.Shelf.Utf8.AppendRunePlain
import Derived.Shelf.Strings.Builder2Cap
import Derived.Shelf.Strconv.Itoa0
import Derived.Shelf.Strings.Search1
import Derived.Shelf.Strings.Search2
import Derived.Shelf.Strings.Search3
import Derived.Shelf.LaysM
import Derived.Shelf.Strings.Shaped
import Derived.Shelf.Unicode.Latin
import Derived.Shelf.Unicode.Props
import Derived.Shelf.Unicode.PropsLaid
import Derived.Shelf.Unicode.Decode
import Derived.Shelf.Strings.Runes
import Derived.Shelf.Unicode.DecodeSlow
import Derived.Shelf.Unicode.DecodeAny
import Derived.Shelf.Unicode.Is16White
import Derived.Shelf.Unicode.IsSpaceAny
import Derived.Shelf.Unicode.CaseLookup
import Derived.Shelf.Unicode.CaseConvert
import Derived.Shelf.Unicode.CaseTo
import Derived.Shelf.Unicode.CaseLaid
import Derived.Shelf.Strings.MapAny
import Derived.Shelf.Strings.CaseAny
import Derived.Shelf.Unicode.Is16Any
import Derived.Shelf.Unicode.Is32Any
import Derived.Shelf.Unicode.ExclAny
import Derived.Shelf.Unicode.PredsAny
import Derived.Shelf.Unicode.PredsPay
import Derived.Shelf.Strings.BuilderCap
import Derived.Shelf.Strings.MapGrows
import Derived.Ground.Names2Prog
import Derived.Shelf.Slices.SearchI
import Derived.Ground.SlgnProg
import Derived.Shelf.SlicesE.Clone
import Derived.Test.YtokdjjebnomciaaDoorProg
import Derived.Laws.Cover4
import Derived.Laws.IdiomStrings
import Derived.Lib.IndexLaws
import Derived.Lib.IndexMore
import Derived.Deep.Slices
import Derived.Deep.Strs
import Derived.Lib.SmallJoins
import Derived.OpenShut
import Derived.Carry
import Derived.ProofKit
import Derived.ChangeMaps5
import Derived.MapKept
import Derived.ChangeMaps4

set_option linter.unusedVariables false
set_option linter.unusedSimpArgs false

namespace Go.Wk
open Go.RowKit Go.Lib
set_option linter.unusedVariables false

/-- A table of pairs by two numbers. -/
abbrev Tab := Int → Int → Int × Int
def cellT (T : Tab) (m : Nat) : Int := if m % 2 = 0 then (T (m / 26 : Nat) (m / 2 % 13 : Nat)).1 else (T (m / 26 : Nat) (m / 2 % 13 : Nat)).2
/-- The cells of a string and a table. -/
def tabC (s : ByteArray) (T : Tab) : List Value := .string s :: (List.range 338).map fun m => .int .i64 (cellT T m)
def updT (T : Tab) (i n : Int) (p : Int × Int) : Tab := fun a b => if a = i ∧ b = n then p else T a b
theorem tabC_len (s : ByteArray) (T : Tab) : (tabC s T).length = 339 := by simp [tabC]
theorem tabC_get (s : ByteArray) (T : Tab) {m : Nat} (h : m < 338) : (tabC s T)[m + 1]? = some (.int .i64 (cellT T m)) := by
  rw [tabC, List.getElem?_cons_succ, List.getElem?_map, List.getElem?_range h]; rfl
theorem cellT_1 (T : Tab) {i n : Int} (i0 : 0 ≤ i) (n0 : 0 ≤ n) (n1 : n < 13) : cellT T (i.toNat * 26 + n.toNat * 2) = (T i n).1 := by
  have h1 : ((i.toNat * 26 + n.toNat * 2) / 26 : Nat) = i.toNat := by omega
  have h2 : ((i.toNat * 26 + n.toNat * 2) / 2 % 13 : Nat) = n.toNat := by omega
  rw [cellT, if_pos (by omega), h1, h2, Int.toNat_of_nonneg i0, Int.toNat_of_nonneg n0]
theorem cellT_2 (T : Tab) {i n : Int} (i0 : 0 ≤ i) (n0 : 0 ≤ n) (n1 : n < 13) : cellT T (i.toNat * 26 + n.toNat * 2 + 1) = (T i n).2 := by
  have h1 : ((i.toNat * 26 + n.toNat * 2 + 1) / 26 : Nat) = i.toNat := by omega
  have h2 : ((i.toNat * 26 + n.toNat * 2 + 1) / 2 % 13 : Nat) = n.toNat := by omega
  rw [cellT, if_neg (by omega), h1, h2, Int.toNat_of_nonneg i0, Int.toNat_of_nonneg n0]
theorem tabC_0 (s : ByteArray) (T : Tab) : (tabC s T)[0]? = some (.string s) := rfl
section
variable (s : ByteArray) (T : Tab) {i n : Int} (i0 : 0 ≤ i) (i1 : i < 13) (n0 : 0 ≤ n) (n1 : n < 13)
include i0 i1 n0 n1
theorem tabC_1 : (tabC s T)[1 + i.toNat * 26 + n.toNat * 2]? = some (.int .i64 (T i n).1) := by
  rw [show 1 + i.toNat * 26 + n.toNat * 2 = (i.toNat * 26 + n.toNat * 2) + 1 by omega, tabC_get s T (by omega), cellT_1 T i0 n0 n1]
theorem tabC_2 : (tabC s T)[1 + i.toNat * 26 + n.toNat * 2 + 1]? = some (.int .i64 (T i n).2) := by
  rw [show 1 + i.toNat * 26 + n.toNat * 2 + 1 = (i.toNat * 26 + n.toNat * 2 + 1) + 1 by omega, tabC_get s T (by omega), cellT_2 T i0 n0 n1]
theorem tabC_at : ((tabC s T).drop (1 + i.toNat * 26 + n.toNat * 2)).take 2 = [.int .i64 (T i n).1, .int .i64 (T i n).2] := by
  have h1 := tabC_1 s T i0 i1 n0 n1
  have h2 := tabC_2 s T i0 i1 n0 n1
  refine List.ext_getElem? fun k => ?_
  rw [List.getElem?_take]
  split
  · rw [List.getElem?_drop]
    rcases (by omega : k = 0 ∨ k = 1) with rfl | rfl
    · exact h1
    · exact h2
  · rename_i hk
    rw [List.getElem?_eq_none (by simp only [List.length_cons, List.length_nil]; omega)]
theorem cellT_upd (a b : Int) (m : Nat) (h : m < 338) : cellT (updT T i n (a, b)) m = if m = i.toNat * 26 + n.toNat * 2 then a else if m = i.toNat * 26 + n.toNat * 2 + 1 then b else cellT T m := by
  by_cases he : ((m / 26 : Nat) : Int) = i ∧ ((m / 2 % 13 : Nat) : Int) = n
  · rw [cellT, updT, if_pos he]
    by_cases hm : m % 2 = 0
    · rw [if_pos hm, if_pos (by omega)]
    · rw [if_neg hm, if_neg (by omega), if_pos (by omega)]
  · rw [if_neg (by omega), if_neg (by omega), cellT, cellT, updT, if_neg he]
theorem tabC_set (a b : Int) : (tabC s T).take (1 + i.toNat * 26 + n.toNat * 2) ++ [.int .i64 a, .int .i64 b] ++ (tabC s T).drop (1 + i.toNat * 26 + n.toNat * 2 + 2) = tabC s (updT T i n (a, b)) := by
  have hl := tabC_len s T
  have hl2 := tabC_len s (updT T i n (a, b))
  refine List.ext_getElem? fun k => ?_
  by_cases hk : 339 ≤ k
  · rw [List.getElem?_eq_none (by simp only [List.length_append, List.length_take, List.length_drop, List.length_cons, List.length_nil]; omega), List.getElem?_eq_none (by omega)]
  · have hlt : (List.take (1 + i.toNat * 26 + n.toNat * 2) (tabC s T)).length = 1 + i.toNat * 26 + n.toNat * 2 := by rw [List.length_take]; omega
    rcases (by cases k with | zero => exact .inl rfl | succ m => exact .inr ⟨m, rfl, by omega⟩ : k = 0 ∨ ∃ m, k = m + 1 ∧ m < 338) with rfl | ⟨m, rfl, hm⟩
    · rw [List.append_assoc, List.getElem?_append_left (by omega), List.getElem?_take, if_pos (by omega)]; rfl
    · rw [tabC_get _ _ hm, cellT_upd T i0 i1 n0 n1 a b m hm]
      by_cases h1 : m < i.toNat * 26 + n.toNat * 2
      · rw [List.append_assoc, List.getElem?_append_left (by omega), List.getElem?_take, if_pos (by omega), tabC_get _ _ hm, if_neg (by omega), if_neg (by omega)]
      · by_cases h2 : m = i.toNat * 26 + n.toNat * 2
        · rw [List.append_assoc, List.getElem?_append_right (by omega), hlt, if_pos h2, show m + 1 - (1 + i.toNat * 26 + n.toNat * 2) = 0 by omega]; rfl
        · by_cases h3 : m = i.toNat * 26 + n.toNat * 2 + 1
          · rw [List.append_assoc, List.getElem?_append_right (by omega), hlt, if_neg h2, if_pos h3, show m + 1 - (1 + i.toNat * 26 + n.toNat * 2) = 1 by omega]; rfl
          · rw [List.getElem?_append_right (by simp only [List.length_append, List.length_cons, List.length_nil]; omega), List.length_append, hlt, List.getElem?_drop, if_neg h2, if_neg h3]
            rw [show 1 + i.toNat * 26 + n.toNat * 2 + 2 + (m + 1 - (1 + i.toNat * 26 + n.toNat * 2 + [Value.int .i64 a, Value.int .i64 b].length)) = m + 1 by simp only [List.length_cons, List.length_nil]; omega]
            exact tabC_get s T hm
end

section
variable {P : Program} {n : Nat} {σ : Fr} {w w0 : World} {O : List (Option Nat)} {obs : List Ob} {x : Operand} {ty T' : TypeId} {g : Nat} {e : TypeId} {s : ByteArray} {T : Tab} {i m : Int}
  (hb : ∀ w', Ext w w' → w'.heap[g]? = some (.cells (tabC s T).toArray e (0, 0)))
include hb
theorem rd_tabS (hx : ev σ x = .pointer (some ⟨g, 0, none⟩)) (hag : ∀ w', (isAgg T').run P w' = .ok false w') : Rd P σ (.load T' x) ty w (.string s) :=
  rd_loadO (hb w (Ext.refl w)) (Ext.refl w) hx (by rw [List.getElem?_toArray]; exact tabC_0 s T) hag
theorem rd_tab1 (hx : ev σ x = .pointer (some ⟨g, 1 + i.toNat * 26 + m.toNat * 2, none⟩)) (i0 : 0 ≤ i) (i1 : i < 13) (m0 : 0 ≤ m) (m1 : m < 13) (hag : ∀ w', (isAgg T').run P w' = .ok false w') : Rd P σ (.load T' x) ty w (.int .i64 (T i m).1) :=
  rd_loadO (hb w (Ext.refl w)) (Ext.refl w) hx (by rw [List.getElem?_toArray]; exact tabC_1 s T i0 i1 m0 m1) hag
theorem rd_tabP (hx : ev σ x = .pointer (some ⟨g, 1 + i.toNat * 26 + m.toNat * 2, none⟩)) (i0 : 0 ≤ i) (i1 : i < 13) (m0 : 0 ≤ m) (m1 : m < 13) (hag : ∀ w', (isAgg T').run P w' = .ok true w') (hsz : ∀ w', (sizeOf T').run P w' = .ok 2 w') :
    Rd P σ (.load T' x) ty w (.agg #[.int .i64 (T i m).1, .int .i64 (T i m).2]) := by
  intro w' hw'
  have hat := tabC_at s T i0 i1 m0 m1
  have hl : (loadVar T' ⟨g, 1 + i.toNat * 26 + m.toNat * 2, none⟩).run P w' = .ok (.agg #[.int .i64 (T i m).1, .int .i64 (T i m).2]) w' := run_loadN hag hsz (fun j u hu => by
    rw [Addr.add_lit, cell_of_row w' g (1 + i.toNat * 26 + m.toNat * 2 + j) _ e (0, 0) (hb w' hw')]
    have hu' : ([Value.int .i64 (T i m).1, .int .i64 (T i m).2])[j]? = some u := by simpa using hu
    rw [← hat, List.getElem?_take] at hu'
    split at hu'
    · rw [List.getElem?_drop] at hu'
      simpa using hu'
    · cases hu')
  simp [xop, execOp, hx, Instr.loadAt, Instr.sureAddr, hl]
end

/-- A field's type, and its place among the cells. -/
def fldTy (P : Program) (s : TypeId) (f : Nat) : Option (TypeId × Nat) :=
  match P.underlying s with
  | some (.struct fs) => (fs[f]?).map fun fd => (fd.type, fd.offset)
  | _ => none
theorem rd_fieldV {P : Program} {σ : Fr} {w : World} {x : Operand} {ty s ft : TypeId} {f j : Nat} {cs : Array Value} {v : Value} (hx : ev σ x = .agg cs) (hf : fldTy P s f = some (ft, j)) (hag : ∀ w', (isAgg ft).run P w' = .ok false w') (hc : cs[j]? = some v) : Rd P σ (.field s x f) ty w v :=
  Rd.of fun w' => by
    unfold fldTy at hf
    split at hf
    · rename_i fs hu
      cases hfd : fs[f]? with
      | none => rw [hfd] at hf; cases hf
      | some fd =>
        rw [hfd] at hf
        simp only [Option.map_some, Option.some.injEq, Prod.mk.injEq] at hf
        obtain ⟨rfl, rfl⟩ := hf
        simp [xop, execOp, hx, Instr.field, run_underlying hu, hfd, asAgg, part, hag, hc]
    · cases hf

/-- A slice of the call's own, cut short. -/
theorem St.shrink {w0 w : World} {O : List (Option Nat)} {obs : List Ob} {α : Type} {t : Ty α} {e : TypeId} {ys : List α} {g len c m : Nat} (hS : St w0 O w obs) (i : Nat) (hi : obs[i]? = some (.row t e (.slice (some ⟨g, 0, none⟩) len c) ys)) (hm : m ≤ ys.length) :
    St w0 O w (obs.set i (.row t e (.slice (some ⟨g, 0, none⟩) m c) (ys.take m))) := by
  obtain ⟨cs, hr, hR⟩ := hS.get i hi
  rcases hr.2 with ⟨h0, _⟩ | ⟨g', cap, cur, hv, q1, q2, q3, q4, q5, q6⟩
  · cases h0
  · simp only [Value.slice.injEq, Option.some.injEq, Addr.mk.injEq, and_true] at hv
    obtain ⟨rfl, rfl, rfl⟩ := hv
    have hcl : cs.length = ys.length * t.n := hr.1
    have hmn : m * t.n ≤ ys.length * t.n := Nat.mul_le_mul_right _ hm
    have hl : (ys.take m).length = m := by rw [List.length_take]; omega
    refine hS.turn (w' := w) i hi rfl rfl rfl (Nat.le_refl _) (fun _ _ _ => rfl) (fun b hb' => .inl hb') (fun b hb' => (Ob.ok_lt (hS.get i hi) hb').2) (fun F hM => ?_)
    refine ⟨cs.take (m * t.n), ⟨by rw [hl, List.length_take]; omega, .inr ⟨g, c, cur, by rw [hl], q1, q2, by rw [hl]; omega, q4, q5, ?_⟩⟩, (hR.mv hM).take m⟩
    rw [hl, ← q6, List.take_take, Nat.min_eq_left hmn]

/-- A variable that a call made and handed over. -/
theorem St.pushBox {w0 w w' : World} {O : List (Option Nat)} {obs : List Ob} {g : Nat} {e : TypeId} {cs : List Value} (hS : St w0 O w obs) (hx : Ext w w') (hg : w.heap.size ≤ g) (h : w'.heap[g]? = some (.cells cs.toArray e (0, 0))) : St w0 O w' (.box g e cs :: obs) :=
  hS.push hx _ (fun b hb => by simp only [Ob.blk, Option.some.injEq] at hb; omega) (fun _ _ => ⟨Nat.le_trans hS.bel.size hg, h⟩)
end Go.Wk

namespace Go.Proofs.YtokdjjebnomciaaDoor
open Go.Wk Go

/-- The numbers of a table are small. -/
def TabB (T : Tab) : Prop := ∀ a b, 0 ≤ (T a b).1 ∧ (T a b).1 ≤ 100 ∧ 0 ≤ (T a b).2 ∧ (T a b).2 ≤ 16777216
def TabOK (s : ByteArray) (T : Tab) : Prop := TabB T ∧ ∀ i n : Int, 0 ≤ i → i ≤ n → n ≤ s.size → T i n = partP (fitR s) i n
theorem mul_bd {a b : Int} (a0 : 0 ≤ a) (a1 : a ≤ 16777216) (b0 : 0 ≤ b) (b1 : b ≤ 16777216) : 0 ≤ a * b ∧ a * b ≤ 281474976710656 :=
  ⟨Int.mul_nonneg a0 b0, by have := Int.mul_le_mul a1 b1 b0 (by omega : (0 : Int) ≤ 16777216); omega⟩
theorem TabB.mul {T : Tab} (h : TabB T) (i j n : Int) : 0 ≤ (T (i + 1) j).2 * (T (j + 1) n).2 ∧ (T (i + 1) j).2 * (T (j + 1) n).2 ≤ 281474976710656 :=
  mul_bd (h _ _).2.2.1 (h _ _).2.2.2 (h _ _).2.2.1 (h _ _).2.2.2
theorem TabB.zero : TabB fun _ _ => (0, 0) := fun _ _ => ⟨Int.le_refl 0, by show (0 : Int) ≤ 100; decide, Int.le_refl 0, by show (0 : Int) ≤ 16777216; decide⟩
theorem TabB.upd {T : Tab} (h : TabB T) {i n : Int} {p : Int × Int} (h1 : 0 ≤ p.1 ∧ p.1 ≤ 100 ∧ 0 ≤ p.2 ∧ p.2 ≤ 16777216) : TabB (updT T i n p) := by
  intro a b
  rw [updT]
  split
  · exact h1
  · exact h a b
theorem updT_at {T : Tab} {i n : Int} {p : Int × Int} : updT T i n p i n = p := if_pos ⟨rfl, rfl⟩
theorem updT_ne {T : Tab} {i n a b : Int} {p : Int × Int} (h : ¬ (a = i ∧ b = n)) : updT T i n p a b = T a b := if_neg h

variable {F : Int → Int → Bool}
def stepP (F : Int → Int → Bool) (i n : Int) (best : Int × Int) (j : Int) : Int × Int := if F i j = true then cmb best (joinP (partP F (i + 1) j) (partP F (j + 1) n)) else best
/-- What is known of a part after the first edge's joins with edges before j. -/
def foldP (F : Int → Int → Bool) (i n j : Int) : Int × Int := (rng (i + 1) j).foldl (stepP F i n) (partP F (i + 1) n)
theorem foldP_start (i n : Int) : foldP F i n (i + 1) = partP F (i + 1) n := by rw [foldP, rng_nil (by omega)]; rfl
theorem foldP_next {i n j : Int} (h : i + 1 ≤ j) : foldP F i n (j + 1) = stepP F i n (foldP F i n j) j := by
  rw [foldP, rng_snoc h, List.foldl_append]; rfl
theorem foldP_end {i n : Int} (h : i < n) : foldP F i n n = partP F i n := (partP_eq h).symm

def Bd (M C : Int) (x : Int × Int) : Prop := 0 ≤ x.1 ∧ x.1 ≤ M ∧ 0 ≤ x.2 ∧ x.2 ≤ C
theorem cmb_bd {M C D : Int} {x y : Int × Int} (hx : Bd M C x) (hy : Bd M D y) : Bd M (C + D) (cmb x y) := by
  obtain ⟨a, b, c, d⟩ := hx
  obtain ⟨a', b', c', d'⟩ := hy
  rw [cmb]
  split
  · exact ⟨a', b', c', by omega⟩
  · split
    · exact ⟨a, b, by show 0 ≤ x.2 + y.2; omega, by show x.2 + y.2 ≤ _; omega⟩
    · exact ⟨a, b, c, by omega⟩
theorem fold_bd {M D : Int} {i n : Int} (hD : 0 ≤ D) : ∀ (js : List Int) (x : Int × Int) (C : Int), Bd M C x → (∀ j ∈ js, Bd M D (joinP (partP F (i + 1) j) (partP F (j + 1) n))) → Bd M (C + js.length * D) (js.foldl (stepP F i n) x)
  | [], x, C, h, _ => by simpa using h
  | j :: js, x, C, h, hj => by
    rw [List.foldl_cons]
    have h1 : Bd M (C + D) (stepP F i n x j) := by
      rw [stepP]
      split
      · exact cmb_bd h (hj j (List.mem_cons_self ..))
      · exact ⟨h.1, h.2.1, h.2.2.1, by have := h.2.2.2; omega⟩
    have h2 := fold_bd hD js _ _ h1 fun k hk => hj k (List.mem_cons_of_mem _ hk)
    have e : C + D + (js.length : Int) * D = C + ((j :: js).length : Int) * D := by
      rw [List.length_cons, Int.natCast_add, Int.add_mul]
      omega
    rw [← e]; exact h2
theorem part_bd' : ∀ (M m : Nat) (i n : Int), m ≤ M → (n - i).toNat = m → m ≤ 12 → Bd m (4 ^ m) (partP F i n) ∧ ∀ j, i + 1 ≤ j → j ≤ n → Bd m (4 ^ m) (foldP F i n j)
  | _, 0, i, n, _, h, _ => by
    refine ⟨by rw [partP_nil (by omega)]; exact ⟨by decide, by decide, by decide, by decide⟩, fun j h1 h2 => by omega⟩
  | 0, m + 1, i, n, hM, h, hm => by omega
  | M + 1, m + 1, i, n, hM, h, hm => by
    have ih1 := (part_bd' M m (i + 1) n (by omega) (by omega) (by omega)).1
    have hf : ∀ j, i + 1 ≤ j → j ≤ n → Bd (m + 1 : Nat) (4 ^ (m + 1)) (foldP F i n j) := by
      intro j h1 h2
      cases m with
      | zero =>
        rw [show j = i + 1 by omega, foldP_start]
        exact ⟨ih1.1, by have := ih1.2.1; omega, ih1.2.2.1, by have := ih1.2.2.2; have e : (4 : Int) ^ 0 = 1 := rfl; have e1 : (4 : Int) ^ (0 + 1) = 4 := rfl; omega⟩
      | succ m =>
        have hpos : (0 : Int) < 4 ^ m := Int.pow_pos (by decide)
        have hb := fold_bd (F := F) (M := (m + 2 : Nat)) (D := 4 ^ m) (i := i) (n := n) (by omega) (rng (i + 1) j) (partP F (i + 1) n) (4 ^ (m + 1)) ⟨ih1.1, by have := ih1.2.1; omega, ih1.2.2⟩ (fun k hk => by
          rw [rng_mem] at hk
          have a := (part_bd' M (k - (i + 1)).toNat (i + 1) k (by omega) rfl (by omega)).1
          have b := (part_bd' M (n - (k + 1)).toNat (k + 1) n (by omega) rfl (by omega)).1
          obtain ⟨a1, a2, a3, a4⟩ := a
          obtain ⟨b1, b2, b3, b4⟩ := b
          refine ⟨?_, ?_, Int.mul_nonneg a3 b3, ?_⟩
          · show 0 ≤ _ + _ + 1; omega
          · show _ + _ + 1 ≤ _; omega
          · show _ * _ ≤ _
            have hp : (4 : Int) ^ m = 4 ^ (k - (i + 1)).toNat * 4 ^ (n - (k + 1)).toNat := by rw [← Int.pow_add]; congr 1; omega
            rw [hp]
            exact Int.mul_le_mul a4 b4 b3 (Int.le_of_lt (Int.pow_pos (by decide))))
        have hl : ((rng (i + 1) j).length : Int) ≤ 12 := by rw [rng, List.length_map, List.length_range]; omega
        obtain ⟨c1, c2, c3, c4⟩ := hb
        refine ⟨c1, c2, c3, Int.le_trans c4 ?_⟩
        have e1 : (4 : Int) ^ (m + 1) = 4 ^ m * 4 := rfl
        have e2 : (4 : Int) ^ (m + 1 + 1) = 4 ^ m * 4 * 4 := rfl
        have hm := Int.mul_le_mul_of_nonneg_right hl (Int.le_of_lt hpos)
        omega
    refine ⟨?_, hf⟩
    rw [← foldP_end (by omega)]
    exact hf n (by omega) (Int.le_refl _)
theorem pow_bd {m : Nat} (h : m ≤ 12) : (4 : Int) ^ m ≤ 16777216 := by
  have : ∀ k ≤ 12, (4 : Int) ^ k ≤ 16777216 := by decide
  exact this m h
theorem partP_bd {i n : Int} (h0 : 0 ≤ i) (h : n ≤ 12) : 0 ≤ (partP F i n).1 ∧ (partP F i n).1 ≤ 100 ∧ 0 ≤ (partP F i n).2 ∧ (partP F i n).2 ≤ 16777216 := by
  obtain ⟨a, b, c, d⟩ := (part_bd' (F := F) _ (n - i).toNat i n (Nat.le_refl _) rfl (by omega)).1
  have := pow_bd (m := (n - i).toNat) (by omega)
  exact ⟨a, by omega, c, by omega⟩
theorem foldP_bd {i n j : Int} (h0 : 0 ≤ i) (h : n ≤ 12) (h1 : i + 1 ≤ j) (h2 : j ≤ n) : 0 ≤ (foldP F i n j).1 ∧ (foldP F i n j).1 ≤ 100 ∧ 0 ≤ (foldP F i n j).2 ∧ (foldP F i n j).2 ≤ 16777216 := by
  obtain ⟨a, b, c, d⟩ := (part_bd' (F := F) _ (n - i).toNat i n (Nat.le_refl _) rfl (by omega)).2 j h1 h2
  have := pow_bd (m := (n - i).toNat) (by omega)
  exact ⟨a, by omega, c, by omega⟩
section
variable {i n j bm bc A B : Int} (k0 : i + 1 ≤ j) (k2 : bm = (foldP F i n j).1) (k3 : bc = (foldP F i n j).2)
include k0 k2 k3
theorem step_no (h : F i j = false) : bm = (foldP F i n (j + 1)).1 ∧ bc = (foldP F i n (j + 1)).2 := by
  rw [foldP_next k0, stepP, if_neg (by rw [h]; decide)]; exact ⟨k2, k3⟩
variable (h : F i j = true) (hj : joinP (partP F (i + 1) j) (partP F (j + 1) n) = (A, B))
include h hj
omit k3 in
theorem step_gt (h4 : bm < A) : A = (foldP F i n (j + 1)).1 ∧ B = (foldP F i n (j + 1)).2 := by
  rw [foldP_next k0, stepP, if_pos h, hj, cmb, if_pos (by rw [← k2]; exact h4)]; exact ⟨rfl, rfl⟩
theorem step_eq (h4 : ¬ bm < A) (h5 : A = bm) : bm = (foldP F i n (j + 1)).1 ∧ bc + B = (foldP F i n (j + 1)).2 := by
  rw [foldP_next k0, stepP, if_pos h, hj, cmb, if_neg (by rw [← k2]; exact h4), if_pos (by rw [← k2]; exact h5), ← k2, ← k3]; exact ⟨rfl, rfl⟩
theorem step_lt (h4 : ¬ bm < A) (h5 : ¬ A = bm) : bm = (foldP F i n (j + 1)).1 ∧ bc = (foldP F i n (j + 1)).2 := by
  rw [foldP_next k0, stepP, if_pos h, hj, cmb, if_neg (by rw [← k2]; exact h4), if_neg (by rw [← k2]; exact h5)]; exact ⟨k2, k3⟩
end

/-! ### the first greatest plan, as it is sought -/
def isF (F : Int → Int → Bool) (i n q : Int) : Bool := F i q && decide ((joinP (partP F (i + 1) q) (partP F (q + 1) n)).1 = (partP F i n).1)
theorem find_rng {p : Int → Bool} {j : Int} : ∀ (m : Nat) (i n : Int), (n - i).toNat = m → i ≤ j → j < n → (∀ q, i ≤ q → q < j → p q = false) → p j = true → (rng i n).find? p = some j
  | 0, i, n, h, h1, h2, _, _ => by omega
  | m + 1, i, n, h, h1, h2, hq, hj => by
    rw [rng_cons (by omega), List.find?_cons]
    by_cases e : i = j
    · subst e; rw [hj]
    · rw [hq i (Int.le_refl _) (by omega)]
      exact find_rng m (i + 1) n (by omega) (by omega) h2 (fun q q1 q2 => hq q (by omega) q2) hj
theorem firstP_found {i n j : Int} (h1 : i < j) (h2 : j < n) (hq : ∀ q, i < q → q < j → isF F i n q = false) (hj : isF F i n j = true) : firstP F i n = (i, j) :: (firstP F (i + 1) j ++ firstP F (j + 1) n) := by
  rw [firstP_eq (by omega)]
  show (match (rng (i + 1) n).find? (isF F i n) with | some j => _ | none => _) = _
  rw [find_rng (p := isF F i n) _ (i + 1) n rfl (by omega) h2 (fun q a b => hq q (by omega) b) hj]
theorem firstP_none {i n : Int} (h : i < n) (hq : ∀ q, i < q → q < n → isF F i n q = false) : firstP F i n = firstP F (i + 1) n := by
  rw [firstP_eq h]
  have : (rng (i + 1) n).find? (isF F i n) = none := List.find?_eq_none.2 fun q hm => by
    rw [rng_mem] at hm
    rw [hq q (by omega) (by omega)]; decide
  show (match (rng (i + 1) n).find? (isF F i n) with | some j => _ | none => _) = _
  rw [this]
theorem firstP_len' : ∀ (m : Nat) (i n : Int), (n - i).toNat ≤ m → i ≤ n → ((firstP F i n).length : Int) ≤ n - i
  | 0, i, n, h, h1 => by rw [firstP_nil (by omega)]; show (0 : Int) ≤ _; omega
  | m + 1, i, n, h, h1 => by
    by_cases hn : n ≤ i
    · rw [firstP_nil hn]; show (0 : Int) ≤ _; omega
    · rw [firstP_eq (by omega)]
      split
      · rename_i j hf
        have hj := rng_mem.1 (List.mem_of_find?_eq_some hf)
        have a := firstP_len' m (i + 1) j (by omega) (by omega)
        have b := firstP_len' m (j + 1) n (by omega) (by omega)
        simp only [List.length_cons, List.length_append]
        omega
      · have := firstP_len' m (i + 1) n (by omega) (by omega)
        omega
theorem firstP_len {i n : Int} (h : i ≤ n) : ((firstP F i n).length : Int) ≤ n - i := firstP_len' _ i n (Nat.le_refl _) h
theorem isF_iff {s : ByteArray} {T : Tab} (h : TabOK s T) {i j n : Int} (i0 : 0 ≤ i) (h1 : i < j) (h2 : j < n) (h3 : n ≤ s.size) : isF (fitR s) i n j = true ↔ fitR s i j = true ∧ (T (i + 1) j).1 + (T (j + 1) n).1 + 1 = (T i n).1 := by
  rw [isF, Bool.and_eq_true, decide_eq_true_eq, h.2 (i + 1) j (by omega) (by omega) (by omega), h.2 (j + 1) n (by omega) (by omega) h3, h.2 i n i0 (by omega) h3]; rfl
theorem isF_no {s : ByteArray} {T : Tab} (h : TabOK s T) {i j n : Int} (i0 : 0 ≤ i) (h1 : i < j) (h2 : j < n) (h3 : n ≤ s.size) (hc : fitR s i j = false ∨ ¬ (T (i + 1) j).1 + (T (j + 1) n).1 + 1 = (T i n).1) : isF (fitR s) i n j = false := by
  rw [← Bool.not_eq_true, isF_iff h i0 h1 h2 h3]
  rintro ⟨a, b⟩
  rcases hc with hc | hc
  · rw [a] at hc; cases hc
  · exact hc b
end Go.Proofs.YtokdjjebnomciaaDoor

namespace Go.Proofs.YtokdjjebnomciaaDoor
open Go.Wk Go

/-- The part that is the whole rim. -/
def allV (s : ByteArray) : Int × Int := partP (fitR s) 0 s.size
def mostV (s : ByteArray) : Int := if rimE s = 0 then (allV s).1 else 0
def countV (s : ByteArray) : Int := if rimE s = 0 then (allV s).2 else 0
def firstV (s : ByteArray) : List Join := if rimE s = 0 then firstP (fitR s) 0 s.size else []
theorem TabOK.all {s : ByteArray} {T : Tab} (h : TabOK s T) : T 0 s.size = allV s := h.2 0 s.size (Int.le_refl _) (by omega) (Int.le_refl _)
end Go.Proofs.YtokdjjebnomciaaDoor

namespace Go.Proofs.YtokdjjebnomciaaDoor
open Go.Wk Go

variable {F : Int → Int → Bool}
theorem plansR_fuel (F : Int → Int → Bool) (n least : Int) : ∀ (m k : Nat) (begun : List Join) (frm : Int), (n - frm).toNat ≤ m → (n - frm).toNat ≤ k → plansR F n least m begun frm = plansR F n least k begun frm
  | 0, 0, _, _, _, _ => rfl
  | 0, k + 1, begun, frm, h, _ => by rw [plansR, plansR, rng_nil (by omega)]; rfl
  | m + 1, 0, begun, frm, _, h => by rw [plansR, plansR, rng_nil (by omega)]; rfl
  | m + 1, k + 1, begun, frm, h1, h2 => by
    rw [plansR, plansR]
    split
    · rfl
    · congr 1
      refine flatMap_congr' fun i hi => ?_
      rw [rng_mem] at hi
      split
      · rfl
      · refine flatMap_congr' fun j hj => ?_
        rw [plansR_fuel F n least m k _ (i + 1) (by omega) (by omega)]
def PR (F : Int → Int → Bool) (n least : Int) (begun : List Join) (frm : Int) : List (List Join) := plansR F n least (n - frm).toNat begun frm
def inR (F : Int → Int → Bool) (n least : Int) (begun : List Join) (i j0 : Int) : List (List Join) := (rng j0 n).flatMap fun j => if goesB F begun i j = true then PR F n least (begun ++ [(i, j)]) (i + 1) else []
def outR (F : Int → Int → Bool) (n least : Int) (begun : List Join) (i0 : Int) : List (List Join) := (rng i0 n).flatMap fun i => if usedB begun i = true then [] else inR F n least begun i (i + 1)
def tailR (least : Int) (begun : List Join) : List (List Join) := if least ≤ begun.length then [begun] else []
section
variable {n least : Int} {begun : List Join}
theorem PR_cut {frm : Int} (h : (begun.length : Int) + (n - frm) / 2 < least) : PR F n least begun frm = [] := by
  rw [PR]
  cases (n - frm).toNat with
  | zero => rw [plansR, if_pos h]
  | succ m => rw [plansR, if_pos h]
theorem PR_eq {frm : Int} (h : ¬ (begun.length : Int) + (n - frm) / 2 < least) : PR F n least begun frm = outR F n least begun frm ++ tailR least begun := by
  rw [PR]
  cases hm : (n - frm).toNat with
  | zero => rw [plansR, if_neg h, outR, rng_nil (by omega)]; rfl
  | succ m =>
    rw [plansR, if_neg h, outR, tailR]
    congr 1
    refine flatMap_congr' fun i hi => ?_
    rw [rng_mem] at hi
    split
    · rfl
    · rw [inR]
      refine flatMap_congr' fun j hj => ?_
      rw [PR, plansR_fuel F n least m (n - (i + 1)).toNat _ (i + 1) (by omega) (by omega)]
theorem outR_end {i : Int} (h : n ≤ i) : outR F n least begun i = [] := by rw [outR, rng_nil h]; rfl
theorem outR_next {i : Int} (h : i < n) : outR F n least begun i = (if usedB begun i = true then [] else inR F n least begun i (i + 1)) ++ outR F n least begun (i + 1) := by
  rw [outR, rng_cons h, List.flatMap_cons]; rfl
theorem inR_end {i j : Int} (h : n ≤ j) : inR F n least begun i j = [] := by rw [inR, rng_nil h]; rfl
theorem inR_next {i j : Int} (h : j < n) : inR F n least begun i j = (if goesB F begun i j = true then PR F n least (begun ++ [(i, j)]) (i + 1) else []) ++ inR F n least begun i (j + 1) := by
  rw [inR, rng_cons h, List.flatMap_cons]; rfl
end
def facN : Nat → Nat
  | 0 => 1
  | m + 1 => (m + 1) * facN m
theorem facN_bd : ∀ m ≤ 12, facN m ≤ 479001600 := by decide
theorem inR_len {n least : Int} {begun : List Join} {i : Int} {C : Nat} (hC : ∀ j, (PR F n least (begun ++ [(i, j)]) (i + 1)).length ≤ C) : ∀ (m : Nat) (j : Int), (n - j).toNat = m → (inR F n least begun i j).length ≤ m * C
  | 0, j, h => by rw [inR_end (by omega)]; exact Nat.zero_le _
  | m + 1, j, h => by
    rw [inR_next (by omega), List.length_append, Nat.add_mul]
    have := inR_len hC m (j + 1) (by omega)
    have h1 := hC j
    have : (if goesB F begun i j = true then PR F n least (begun ++ [(i, j)]) (i + 1) else []).length ≤ C := by
      split
      · exact h1
      · exact Nat.zero_le _
    omega
theorem outR_len {n least : Int} {begun : List Join} {M : Nat} (hP : ∀ i j, (n - (i + 1)).toNat < M → (PR F n least (begun ++ [(i, j)]) (i + 1)).length ≤ facN (n - (i + 1)).toNat) : ∀ (m : Nat) (i : Int), m ≤ M → (n - i).toNat = m → (outR F n least begun i).length + 1 ≤ facN m
  | 0, i, _, h => by rw [outR_end (by omega)]; exact Nat.le_refl 1
  | m + 1, i, hM, h => by
    rw [outR_next (by omega), List.length_append]
    have h1 := outR_len hP m (i + 1) (by omega) (by omega)
    have hm : (n - (i + 1)).toNat = m := by omega
    have h2 := inR_len (F := F) (C := facN m) (fun j => by have := hP i j (by omega); rwa [hm] at this) m (i + 1) hm
    have h3 : (if usedB begun i = true then [] else inR F n least begun i (i + 1)).length ≤ m * facN m := by
      split
      · exact Nat.zero_le _
      · exact h2
    show _ ≤ (m + 1) * facN m
    rw [Nat.add_mul, Nat.one_mul]
    omega
theorem PR_len : ∀ (M : Nat) (n least : Int) (begun : List Join) (frm : Int), (n - frm).toNat ≤ M → (PR F n least begun frm).length ≤ facN (n - frm).toNat
  | M, n, least, begun, frm, h => by
    by_cases hc : (begun.length : Int) + (n - frm) / 2 < least
    · rw [PR_cut hc]; exact Nat.zero_le _
    · rw [PR_eq hc, List.length_append]
      have hP : ∀ i j, (n - (i + 1)).toNat < M → (PR F n least (begun ++ [(i, j)]) (i + 1)).length ≤ facN (n - (i + 1)).toNat := by
        intro i j hi
        cases M with
        | zero => omega
        | succ M => exact PR_len M n least _ (i + 1) (by omega)
      have h1 := outR_len hP (n - frm).toNat frm h rfl
      have h2 : (tailR least begun).length ≤ 1 := by
        rw [tailR]
        split
        · exact Nat.le_refl 1
        · exact Nat.zero_le _
      omega
theorem PR_bd {n least : Int} {begun : List Join} {frm : Int} (h0 : 0 ≤ frm) (hn : n ≤ 12) : ((PR F n least begun frm).length : Int) ≤ 479001600 := by
  have h1 := PR_len (F := F) _ n least begun frm (Nat.le_refl _)
  have h2 := facN_bd (n - frm).toNat (by omega)
  omega

/-! ### the greatest ones -/
def greatV (s : ByteArray) : List (List Join) := (plansP (fitR s) 0 s.size).filter fun r => decide ((allV s).1 ≤ r.length)
theorem PR_all {n least : Int} (hn : 0 ≤ n) : PR F n least [] 0 = (plansP F 0 n).filter fun r => decide (least ≤ r.length) := by
  rw [PR, Int.sub_zero, plansR_eq hn]
theorem all_best (s : ByteArray) : Best (plansP (fitR s) 0 s.size) (allV s) := best_all _ _ _
theorem most_half (s : ByteArray) : 0 ≤ (allV s).1 ∧ 2 * (allV s).1 ≤ s.size := by
  obtain ⟨⟨p, h1, h2⟩, _, _⟩ := all_best s
  have := plan_len (by omega) (mem_plans.1 h1)
  omega
theorem great_is (s : ByteArray) : greatV s = (plansP (fitR s) 0 s.size).filter fun r => decide ((r.length : Int) = (allV s).1) := by
  rw [greatV]
  refine List.filter_congr fun r hr => ?_
  have := (all_best s).2.1 r hr
  congr 1
  simp only [eq_iff_iff]
  omega
theorem great_len (s : ByteArray) : ((greatV s).length : Int) = (allV s).2 := by
  rw [great_is, ← List.countP_eq_length_filter, (all_best s).2.2]
theorem great_head (s : ByteArray) : (greatV s).head? = some (firstP (fitR s) 0 s.size) := by
  rw [great_is, List.head?_filter]
  exact first_all (fitR s) 0 s.size
end Go.Proofs.YtokdjjebnomciaaDoor

namespace Go.Proofs.YtokdjjebnomciaaDoor
open Go.Wk Go

def hasB (l : List Join) (x : Join) : Bool := l.any fun y => decide (y.1 = x.1) && decide (y.2 = x.2)
def forcedR (s : ByteArray) : List Join := (firstP (fitR s) 0 s.size).filter fun x => (greatV s).all fun p => hasB p x
def forcedV (s : ByteArray) : List Join := if rimE s = 0 then forcedR s else []
theorem hasB_iff {l : List Join} {x : Join} : hasB l x = true ↔ x ∈ l := by
  simp only [hasB, List.any_eq_true, Bool.and_eq_true, decide_eq_true_eq]
  exact ⟨fun ⟨y, hy, h1, h2⟩ => by rw [show x = y from Prod.ext h1.symm h2.symm]; exact hy, fun h => ⟨x, h, rfl, rfl⟩⟩
section
variable {l : List Join} {k : Int} {x : Join} (h0 : 0 ≤ k)
include h0
end
theorem filt_yes {α : Type} {f : α → Bool} {d : α} {l out z : List α} {k : Int} (h0 : 0 ≤ k) (h1 : k < l.length) (h2 : out ++ (l.drop k.toNat).filter f = z) (h : f (ix d l k) = true) : (out ++ [ix d l k]) ++ (l.drop (k + 1).toNat).filter f = z := by
  rw [← h2, drop_ix (d := d) h0 h1, List.filter_cons, if_pos h, List.append_assoc]; rfl
theorem filt_no {α : Type} {f : α → Bool} {d : α} {l out z : List α} {k : Int} (h0 : 0 ≤ k) (h1 : k < l.length) (h2 : out ++ (l.drop k.toNat).filter f = z) (h : ¬ f (ix d l k) = true) : out ++ (l.drop (k + 1).toNat).filter f = z := by
  rw [← h2, drop_ix (d := d) h0 h1, List.filter_cons, if_neg h]
theorem filt_end {α : Type} {f : α → Bool} {l out z : List α} {k : Int} (h1 : (l.length : Int) ≤ k) (h2 : out ++ (l.drop k.toNat).filter f = z) : z = out := by
  rw [← h2, drop_end h1]; simp
end Go.Proofs.YtokdjjebnomciaaDoor

namespace Go.Proofs.YtokdjjebnomciaaDoor
open Go.Wk Go

abbrev Tk := List Join × List Int
def topI (l : List Int) : Int := ix 0 l (l.length - 1)
def stepS (s : ByteArray) (a : Tk) (j : Int) : Tk := if 0 < a.2.length ∧ fitR s (topI a.2) j = true then (a.1 ++ [(topI a.2, j)], a.2.take ((a.2.length : Int) - 1).toNat) else (a.1, a.2 ++ [j])
def runS (s : ByteArray) (a : Tk) (rest : List Int) : Tk := rest.foldl (stepS s) a
def takS (s : ByteArray) : Tk := runS s ([], []) (rng 0 s.size)
variable {s : ByteArray} {st : List Join} {lf : List Int}
theorem runS_cons {a : Tk} {j : Int} {r : List Int} : runS s a (j :: r) = runS s (stepS s a j) r := rfl
theorem stepS_yes {j : Int} (h : 0 < (lf.length : Int)) (hf : fitR s (ix 0 lf ((lf.length : Int) - 1)) j = true) : stepS s (st, lf) j = (st ++ [(ix 0 lf ((lf.length : Int) - 1), j)], lf.take ((lf.length : Int) - 1).toNat) :=
  if_pos ⟨by show 0 < lf.length; omega, hf⟩
theorem stepS_no {j : Int} (h : ¬ 0 < (lf.length : Int) ∨ fitR s (ix 0 lf ((lf.length : Int) - 1)) j = false) : stepS s (st, lf) j = (st, lf ++ [j]) := by
  refine if_neg ?_
  rintro ⟨h1, h2⟩
  rcases h with h | h
  · have : 0 < lf.length := h1; omega
  · have h2 : fitR s (ix 0 lf ((lf.length : Int) - 1)) j = true := h2
    rw [h2] at h; cases h

/-! ### the reference's way -/
theorem ix_app {α : Type} {d : α} {p q : List α} {k : Int} (h : k = p.length) {x : α} : ix d (p ++ x :: q) k = x := by
  subst h
  rw [ix, Int.toNat_natCast, List.getD_eq_getElem?_getD, List.getElem?_append_right (Nat.le_refl _), Nat.sub_self]; rfl
theorem take_len {α : Type} {l : List α} {k : Int} (h0 : 0 ≤ k) (h1 : k ≤ l.length) : ((l.take k.toNat).length : Int) = k := by
  rw [List.length_take]; omega
/-- An element that does not fit the one before it is laid on what is left. -/
theorem runS_not {left : List Int} {k : Int} (h0 : 0 ≤ k) (h1 : k + 1 < left.length) (hf : fitR s (ix 0 left k) (ix 0 left (k + 1)) = false) :
    runS s (st, left.take (k + 1 + 1).toNat) (left.drop (k + 1 + 1).toNat) = runS s (st, left.take (k + 1).toNat) (left.drop (k + 1).toNat) := by
  have hl := take_len (l := left) (k := k + 1) (by omega) (by omega)
  rw [drop_ix (d := 0) (n := k + 1) (by omega) h1, runS_cons, stepS_no, take_ix (d := 0) (by omega) h1]
  refine .inr ?_
  rw [hl, show k + 1 - 1 = k by omega, ix_take h0 (by omega)]; exact hf
theorem runS_push {left : List Int} {k : Int} (hI : ∀ q, 0 ≤ q → q < k → fitR s (ix 0 left q) (ix 0 left (q + 1)) = false) (r : List Int) : ∀ (m : Nat) (q : Int), (k - q).toNat = m → 0 ≤ q → q ≤ k → k < left.length →
    runS s (st, left.take (q + 1).toNat) ((left.take (k + 1).toNat).drop (q + 1).toNat ++ r) = runS s (st, left.take (k + 1).toNat) r
  | 0, q, h, h0, h1, h2 => by
    rw [show q = k by omega, List.drop_eq_nil_of_le (by rw [List.length_take]; omega)]; rfl
  | m + 1, q, h, h0, h1, h2 => by
    have hl := take_len (l := left) (k := k + 1) (by omega) (by omega)
    have hl2 := take_len (l := left) (k := q + 1) (by omega) (by omega)
    rw [drop_ix (d := 0) (n := q + 1) (by omega) (by omega), List.cons_append, runS_cons, stepS_no, ix_take (by omega) (by omega), ← take_ix (d := 0) (by omega) (by omega)]
    · exact runS_push hI r m (q + 1) (by omega) (by omega) (by omega) h2
    · refine .inr ?_
      rw [hl2, show q + 1 - 1 = q by omega, ix_take h0 (by omega), ix_take (by omega) (by omega)]
      exact hI q h0 (by omega)
/-- The first two neighbours that fit are taken away. -/
theorem runS_fit {left : List Int} {k : Int} (h0 : 0 ≤ k) (h1 : k + 1 < left.length) (hI : ∀ q, 0 ≤ q → q < k → fitR s (ix 0 left q) (ix 0 left (q + 1)) = false) (hf : fitR s (ix 0 left k) (ix 0 left (k + 1)) = true) :
    runS s (st ++ [(ix 0 left k, ix 0 left (k + 1))], (left.take k.toNat ++ left.drop (k + 2).toNat).take ((0 : Int) + 1).toNat) ((left.take k.toNat ++ left.drop (k + 2).toNat).drop ((0 : Int) + 1).toNat) = runS s (st, left.take (k + 1).toNat) (left.drop (k + 1).toNat) := by
  have hl := take_len (l := left) (k := k + 1) (by omega) (by omega)
  rw [drop_ix (d := 0) (n := k + 1) (by omega) h1, runS_cons (a := (st, left.take (k + 1).toNat)), stepS_yes (by omega) (by rw [hl, show k + 1 - 1 = k by omega, ix_take h0 (by omega)]; exact hf), hl, show k + 1 - 1 = k by omega, ix_take h0 (by omega), List.take_take, show min k.toNat (k + 1).toNat = k.toNat by omega, show k + 1 + 1 = k + 2 by omega]
  by_cases hk : k = 0
  · subst hk
    rw [show (0 : Int).toNat = 0 from rfl, List.take_zero, List.nil_append]
    cases left.drop (0 + 2 : Int).toNat with
    | nil => rfl
    | cons x r =>
      rw [runS_cons, stepS_no (.inl (by decide))]; rfl
  · have hlk := take_len (l := left) (k := k) h0 (by omega)
    have e1 : (left.take k.toNat ++ left.drop (k + 2).toNat).take ((0 : Int) + 1).toNat = left.take ((0 : Int) + 1).toNat := by
      rw [List.take_append_of_le_length (by omega), List.take_take]; congr 1; omega
    have e2 : (left.take k.toNat ++ left.drop (k + 2).toNat).drop ((0 : Int) + 1).toNat = (left.take k.toNat).drop ((0 : Int) + 1).toNat ++ left.drop (k + 2).toNat := List.drop_append_of_le_length (by omega)
    rw [e1, e2]
    have := runS_push (s := s) (st := st ++ [(ix 0 left k, ix 0 left (k + 1))]) (left := left) (k := k - 1) (fun q q0 q1 => hI q q0 (by omega)) (left.drop (k + 2).toNat) _ 0 rfl (Int.le_refl 0) (by omega) (by omega)
    rw [show k - 1 + 1 = k by omega] at this
    exact this
theorem runS_end {left : List Int} {k : Int} (h1 : (left.length : Int) ≤ k + 1) : runS s (st, left.take (k + 1).toNat) (left.drop (k + 1).toNat) = (st, left) := by
  rw [drop_end h1, List.take_of_length_le (by omega)]; rfl
theorem runS_start : runS s ([], (rng 0 s.size).take ((0 : Int) + 1).toNat) ((rng 0 s.size).drop ((0 : Int) + 1).toNat) = takS s := by
  rw [takS]
  cases rng 0 s.size with
  | nil => rfl
  | cons x r => rw [runS_cons, stepS_no (.inl (by decide))]; rfl
theorem runS_bd {s : ByteArray} {n : Int} : ∀ (rest : List Int) (st : List Join) (lf : List Int), (∀ x ∈ lf, 0 ≤ x ∧ x < n) → (∀ x ∈ rest, 0 ≤ x ∧ x < n) →
    (∀ x ∈ (runS s (st, lf) rest).2, 0 ≤ x ∧ x < n) ∧ 2 * ((runS s (st, lf) rest).1.length : Int) + (runS s (st, lf) rest).2.length = 2 * (st.length : Int) + lf.length + rest.length
  | [], st, lf, h, _ => ⟨h, by show 2 * (st.length : Int) + lf.length = 2 * (st.length : Int) + lf.length + ((0 : Nat) : Int); omega⟩
  | j :: r, st, lf, h, hr => by
    have hj := hr j (List.mem_cons_self ..)
    have hr2 : ∀ x ∈ r, 0 ≤ x ∧ x < n := fun x hx => hr x (List.mem_cons_of_mem _ hx)
    rw [runS_cons]
    by_cases hc : 0 < lf.length ∧ fitR s (topI lf) j = true
    · rw [stepS, if_pos hc]
      have := runS_bd (s := s) r (st ++ [(topI lf, j)]) (lf.take ((lf.length : Int) - 1).toNat) (fun x hx => h x (List.mem_of_mem_take hx)) hr2
      refine ⟨this.1, this.2.trans ?_⟩
      have h0 := hc.1
      simp only [List.length_append, List.length_take, List.length_cons, List.length_nil]
      omega
    · rw [stepS, if_neg hc]
      have := runS_bd (s := s) r st (lf ++ [j]) (fun x hx => by
        rcases List.mem_append.1 hx with hx | hx
        · exact h x hx
        · rw [List.mem_singleton] at hx; subst hx; exact hj) hr2
      refine ⟨this.1, this.2.trans ?_⟩
      simp only [List.length_append, List.length_cons, List.length_nil]
      omega
theorem rng_len {i n : Int} (h : i ≤ n) : ((rng i n).length : Int) = n - i := by rw [rng, List.length_map, List.length_range]; omega
theorem takS_bd {s : ByteArray} : (∀ x ∈ (takS s).2, 0 ≤ x ∧ x < s.size) ∧ 2 * ((takS s).1.length : Int) + (takS s).2.length = s.size := by
  have := runS_bd (s := s) (n := s.size) (rng 0 s.size) [] [] (by simp) (fun x hx => by rw [rng_mem] at hx; exact hx)
  refine ⟨this.1, this.2.trans ?_⟩
  rw [rng_len (by omega)]
  simp
end Go.Proofs.YtokdjjebnomciaaDoor

namespace Go.Proofs
open Go.Shelf
def Tryd.lays169_ren : Go.Shelf.Ren := ⟨fun | 169 => 95 | n => n, fun | 70 => 114 | 9 => 9 | 0 => 0 | 72 => 116 | 37 => 102 | 127 => 136 | 3 => 3 | 5 => 5 | n => n, fun | n => n⟩
theorem Tryd.lays169 : Go.Proofs.Lays.n169 Tryd.prog Tryd.lays169_ren := {
  mixed := by kernel_rfl
  f169 := Tryd.func95.trans (congrArg some (by kernel_rfl))
  t0 := Tryd.underlying0
  a0 := Tryd.isAgg0
  z0 := Tryd.sizeOf0
  v0 := Tryd.zeroValue0
  t3 := Tryd.underlying3
  a3 := Tryd.isAgg3
  z3 := Tryd.sizeOf3
  v3 := Tryd.zeroValue3
  t9 := Tryd.underlying9
  a9 := Tryd.isAgg9
  z9 := Tryd.sizeOf9
  v9 := Tryd.zeroValue9
  t37 := Tryd.underlying102
  a37 := Tryd.isAgg102
  z37 := Tryd.sizeOf102
  v37 := Tryd.zeroValue102
  t70 := Tryd.underlying114
  a70 := Tryd.isAgg114
  z70 := Tryd.sizeOf114
  v70 := Tryd.zeroValue114
  t72 := Tryd.underlying116
  a72 := Tryd.isAgg116
  z72 := Tryd.sizeOf116
  v72 := Tryd.zeroValue116
  t127 := Tryd.underlying136
  a127 := Tryd.isAgg136
  z127 := Tryd.sizeOf136
  v127 := Tryd.zeroValue136 }
theorem Tryd.Builder_Extra_169 : Builder.Extra Tryd.prog Tryd.lays169_ren := {
  sizeBuilder := by kernel_rfl
  liesBuilder := by kernel_rfl
  t5 := Tryd.underlying5
  a5 := Tryd.isAgg5
  z5 := Tryd.sizeOf5
  v5 := Tryd.zeroValue5
  infoByte := by kernel_rfl
  cellsByte := by kernel_rfl
  sizeByte := by kernel_rfl
  neB5 := by decide }
def Tryd.lays158_ren : Go.Shelf.Ren := ⟨fun | 158 => 85 | 165 => 98 | 166 => 99 | 167 => 94 | 169 => 95 | 230 => 78 | 203 => 104 | 240 => 113 | 241 => 115 | 197 => 96 | 118 => 97 | 168 => 100 | 270 => 101 | 262 => 118 | 276 => 131 | 277 => 132 | 260 => 114 | 242 => 116 | 313 => 136 | 278 => 133 | 274 => 144 | 275 => 145 | n => n, fun | 9 => 9 | 4 => 4 | 3 => 3 | 5 => 5 | 72 => 116 | 0 => 0 | 76 => 125 | 75 => 118 | 107 => 100 | 70 => 114 | 20 => 20 | 37 => 102 | 127 => 136 | 21 => 21 | 105 => 121 | 164 => 154 | 162 => 173 | 203 => 171 | 119 => 139 | 46 => 133 | 139 => 158 | 138 => 157 | 51 => 138 | 160 => 184 | 208 => 193 | 206 => 191 | 80 => 120 | n => n, fun | 13 => 5 | 3 => 3 | 4 => 4 | n => n⟩
theorem Tryd.lays158 : Go.Proofs.Lays.n158 Tryd.prog Tryd.lays158_ren := {
  mixed := by kernel_rfl
  f118 := Tryd.func97.trans (congrArg some (by kernel_rfl))
  f158 := Tryd.func85.trans (congrArg some (by kernel_rfl))
  f165 := Tryd.func98.trans (congrArg some (by kernel_rfl))
  f166 := Tryd.func99.trans (congrArg some (by kernel_rfl))
  f167 := Tryd.func94.trans (congrArg some (by kernel_rfl))
  f168 := Tryd.func100.trans (congrArg some (by kernel_rfl))
  f169 := Tryd.func95.trans (congrArg some (by kernel_rfl))
  f197 := Tryd.func96.trans (congrArg some (by kernel_rfl))
  f203 := Tryd.func104.trans (congrArg some (by kernel_rfl))
  f230 := Tryd.func78.trans (congrArg some (by kernel_rfl))
  f240 := Tryd.func113.trans (congrArg some (by kernel_rfl))
  f241 := Tryd.func115.trans (congrArg some (by kernel_rfl))
  f242 := Tryd.func116.trans (congrArg some (by kernel_rfl))
  f260 := Tryd.func114.trans (congrArg some (by kernel_rfl))
  f262 := Tryd.func118.trans (congrArg some (by kernel_rfl))
  f270 := Tryd.func101.trans (congrArg some (by kernel_rfl))
  f274 := Tryd.func144.trans (congrArg some (by kernel_rfl))
  f275 := Tryd.func145.trans (congrArg some (by kernel_rfl))
  f276 := Tryd.func131.trans (congrArg some (by kernel_rfl))
  f277 := Tryd.func132.trans (congrArg some (by kernel_rfl))
  f278 := Tryd.func133.trans (congrArg some (by kernel_rfl))
  f313 := Tryd.func136.trans (congrArg some (by kernel_rfl))
  t0 := Tryd.underlying0
  a0 := Tryd.isAgg0
  z0 := Tryd.sizeOf0
  v0 := Tryd.zeroValue0
  t3 := Tryd.underlying3
  a3 := Tryd.isAgg3
  z3 := Tryd.sizeOf3
  v3 := Tryd.zeroValue3
  t4 := Tryd.underlying4
  a4 := Tryd.isAgg4
  z4 := Tryd.sizeOf4
  v4 := Tryd.zeroValue4
  t5 := Tryd.underlying5
  a5 := Tryd.isAgg5
  z5 := Tryd.sizeOf5
  v5 := Tryd.zeroValue5
  t9 := Tryd.underlying9
  a9 := Tryd.isAgg9
  z9 := Tryd.sizeOf9
  v9 := Tryd.zeroValue9
  t20 := Tryd.underlying20
  a20 := Tryd.isAgg20
  z20 := Tryd.sizeOf20
  v20 := Tryd.zeroValue20
  t21 := Tryd.underlying21
  a21 := Tryd.isAgg21
  z21 := Tryd.sizeOf21
  v21 := Tryd.zeroValue21
  t37 := Tryd.underlying102
  a37 := Tryd.isAgg102
  z37 := Tryd.sizeOf102
  v37 := Tryd.zeroValue102
  t46 := Tryd.underlying133
  a46 := Tryd.isAgg133
  z46 := Tryd.sizeOf133
  v46 := Tryd.zeroValue133
  t51 := Tryd.underlying138
  a51 := Tryd.isAgg138
  z51 := Tryd.sizeOf138
  v51 := Tryd.zeroValue138
  t70 := Tryd.underlying114
  a70 := Tryd.isAgg114
  z70 := Tryd.sizeOf114
  v70 := Tryd.zeroValue114
  t72 := Tryd.underlying116
  a72 := Tryd.isAgg116
  z72 := Tryd.sizeOf116
  v72 := Tryd.zeroValue116
  t75 := Tryd.underlying118
  a75 := Tryd.isAgg118
  z75 := Tryd.sizeOf118
  v75 := Tryd.zeroValue118
  t76 := Tryd.underlying125
  a76 := Tryd.isAgg125
  z76 := Tryd.sizeOf125
  v76 := Tryd.zeroValue125
  t105 := Tryd.underlying121
  a105 := Tryd.isAgg121
  z105 := Tryd.sizeOf121
  v105 := Tryd.zeroValue121
  t107 := Tryd.underlying100
  a107 := Tryd.isAgg100
  z107 := Tryd.sizeOf100
  v107 := Tryd.zeroValue100
  t119 := Tryd.underlying139
  a119 := Tryd.isAgg139
  z119 := Tryd.sizeOf139
  t127 := Tryd.underlying136
  a127 := Tryd.isAgg136
  z127 := Tryd.sizeOf136
  v127 := Tryd.zeroValue136
  t138 := Tryd.underlying157
  a138 := Tryd.isAgg157
  z138 := Tryd.sizeOf157
  v138 := Tryd.zeroValue157
  t139 := Tryd.underlying158
  a139 := Tryd.isAgg158
  z139 := Tryd.sizeOf158
  v139 := Tryd.zeroValue158
  t160 := Tryd.underlying184
  a160 := Tryd.isAgg184
  z160 := Tryd.sizeOf184
  v160 := Tryd.zeroValue184
  t162 := Tryd.underlying173
  a162 := Tryd.isAgg173
  z162 := Tryd.sizeOf173
  v162 := Tryd.zeroValue173
  t164 := Tryd.underlying154
  a164 := Tryd.isAgg154
  z164 := Tryd.sizeOf154
  v164 := Tryd.zeroValue154
  t203 := Tryd.underlying171
  a203 := Tryd.isAgg171
  z203 := Tryd.sizeOf171
  v203 := Tryd.zeroValue171
  t206 := Tryd.underlying191
  a206 := Tryd.isAgg191
  z206 := Tryd.sizeOf191
  v206 := Tryd.zeroValue191
  t208 := Tryd.underlying193
  a208 := Tryd.isAgg193
  z208 := Tryd.sizeOf193
  v208 := Tryd.zeroValue193
  g3 := by kernel_rfl
  g4 := by kernel_rfl
  g13 := by kernel_rfl }
theorem Tryd.Builder_Extra_158 : Builder.Extra Tryd.prog Tryd.lays158_ren := {
  sizeBuilder := by kernel_rfl
  liesBuilder := by kernel_rfl
  t5 := Tryd.underlying5
  a5 := Tryd.isAgg5
  z5 := Tryd.sizeOf5
  v5 := Tryd.zeroValue5
  infoByte := by kernel_rfl
  cellsByte := by kernel_rfl
  sizeByte := by kernel_rfl
  neB5 := by decide }
open Go.RowKit in
theorem Tryd.strings_ToUpper_ascii (s : ByteArray) (w : World) (hs : s.size ≤ 140737488355328) (hascii : ∀ (j : Nat) (b : UInt8), s.data.toList[j]? = some b → b.toNat < 128) :
    Calls Tryd.prog 85 #[.string s] w fun e w' => e = .returned (.string ⟨(Lib.toUpperA s.data.toList).toArray⟩) ∧ Below w.heap.size w w' := Any.strings_ToUpper_ascii Tryd.lays158 Tryd.Builder_Extra_158 s w hs hascii
def Tryd.lays159_ren : Go.Shelf.Ren := ⟨fun | 159 => 86 | 165 => 98 | 166 => 99 | 167 => 94 | 169 => 95 | 230 => 78 | 204 => 103 | 240 => 113 | 241 => 115 | 197 => 96 | 118 => 97 | 168 => 100 | 270 => 101 | 262 => 118 | 276 => 131 | 277 => 132 | 260 => 114 | 242 => 116 | 313 => 136 | 278 => 133 | 274 => 144 | 275 => 145 | n => n, fun | 9 => 9 | 4 => 4 | 3 => 3 | 5 => 5 | 72 => 116 | 0 => 0 | 76 => 125 | 75 => 118 | 107 => 100 | 70 => 114 | 20 => 20 | 37 => 102 | 127 => 136 | 21 => 21 | 105 => 121 | 164 => 154 | 162 => 173 | 203 => 171 | 119 => 139 | 46 => 133 | 139 => 158 | 138 => 157 | 51 => 138 | 160 => 184 | 208 => 193 | 206 => 191 | 80 => 120 | n => n, fun | 13 => 5 | 3 => 3 | 4 => 4 | n => n⟩
theorem Tryd.lays159 : Go.Proofs.Lays.n159 Tryd.prog Tryd.lays159_ren := {
  mixed := by kernel_rfl
  f118 := Tryd.func97.trans (congrArg some (by kernel_rfl))
  f159 := Tryd.func86.trans (congrArg some (by kernel_rfl))
  f165 := Tryd.func98.trans (congrArg some (by kernel_rfl))
  f166 := Tryd.func99.trans (congrArg some (by kernel_rfl))
  f167 := Tryd.func94.trans (congrArg some (by kernel_rfl))
  f168 := Tryd.func100.trans (congrArg some (by kernel_rfl))
  f169 := Tryd.func95.trans (congrArg some (by kernel_rfl))
  f197 := Tryd.func96.trans (congrArg some (by kernel_rfl))
  f204 := Tryd.func103.trans (congrArg some (by kernel_rfl))
  f230 := Tryd.func78.trans (congrArg some (by kernel_rfl))
  f240 := Tryd.func113.trans (congrArg some (by kernel_rfl))
  f241 := Tryd.func115.trans (congrArg some (by kernel_rfl))
  f242 := Tryd.func116.trans (congrArg some (by kernel_rfl))
  f260 := Tryd.func114.trans (congrArg some (by kernel_rfl))
  f262 := Tryd.func118.trans (congrArg some (by kernel_rfl))
  f270 := Tryd.func101.trans (congrArg some (by kernel_rfl))
  f274 := Tryd.func144.trans (congrArg some (by kernel_rfl))
  f275 := Tryd.func145.trans (congrArg some (by kernel_rfl))
  f276 := Tryd.func131.trans (congrArg some (by kernel_rfl))
  f277 := Tryd.func132.trans (congrArg some (by kernel_rfl))
  f278 := Tryd.func133.trans (congrArg some (by kernel_rfl))
  f313 := Tryd.func136.trans (congrArg some (by kernel_rfl))
  t0 := Tryd.underlying0
  a0 := Tryd.isAgg0
  z0 := Tryd.sizeOf0
  v0 := Tryd.zeroValue0
  t3 := Tryd.underlying3
  a3 := Tryd.isAgg3
  z3 := Tryd.sizeOf3
  v3 := Tryd.zeroValue3
  t4 := Tryd.underlying4
  a4 := Tryd.isAgg4
  z4 := Tryd.sizeOf4
  v4 := Tryd.zeroValue4
  t5 := Tryd.underlying5
  a5 := Tryd.isAgg5
  z5 := Tryd.sizeOf5
  v5 := Tryd.zeroValue5
  t9 := Tryd.underlying9
  a9 := Tryd.isAgg9
  z9 := Tryd.sizeOf9
  v9 := Tryd.zeroValue9
  t20 := Tryd.underlying20
  a20 := Tryd.isAgg20
  z20 := Tryd.sizeOf20
  v20 := Tryd.zeroValue20
  t21 := Tryd.underlying21
  a21 := Tryd.isAgg21
  z21 := Tryd.sizeOf21
  v21 := Tryd.zeroValue21
  t37 := Tryd.underlying102
  a37 := Tryd.isAgg102
  z37 := Tryd.sizeOf102
  v37 := Tryd.zeroValue102
  t46 := Tryd.underlying133
  a46 := Tryd.isAgg133
  z46 := Tryd.sizeOf133
  v46 := Tryd.zeroValue133
  t51 := Tryd.underlying138
  a51 := Tryd.isAgg138
  z51 := Tryd.sizeOf138
  v51 := Tryd.zeroValue138
  t70 := Tryd.underlying114
  a70 := Tryd.isAgg114
  z70 := Tryd.sizeOf114
  v70 := Tryd.zeroValue114
  t72 := Tryd.underlying116
  a72 := Tryd.isAgg116
  z72 := Tryd.sizeOf116
  v72 := Tryd.zeroValue116
  t75 := Tryd.underlying118
  a75 := Tryd.isAgg118
  z75 := Tryd.sizeOf118
  v75 := Tryd.zeroValue118
  t76 := Tryd.underlying125
  a76 := Tryd.isAgg125
  z76 := Tryd.sizeOf125
  v76 := Tryd.zeroValue125
  t105 := Tryd.underlying121
  a105 := Tryd.isAgg121
  z105 := Tryd.sizeOf121
  v105 := Tryd.zeroValue121
  t107 := Tryd.underlying100
  a107 := Tryd.isAgg100
  z107 := Tryd.sizeOf100
  v107 := Tryd.zeroValue100
  t119 := Tryd.underlying139
  a119 := Tryd.isAgg139
  z119 := Tryd.sizeOf139
  t127 := Tryd.underlying136
  a127 := Tryd.isAgg136
  z127 := Tryd.sizeOf136
  v127 := Tryd.zeroValue136
  t138 := Tryd.underlying157
  a138 := Tryd.isAgg157
  z138 := Tryd.sizeOf157
  v138 := Tryd.zeroValue157
  t139 := Tryd.underlying158
  a139 := Tryd.isAgg158
  z139 := Tryd.sizeOf158
  v139 := Tryd.zeroValue158
  t160 := Tryd.underlying184
  a160 := Tryd.isAgg184
  z160 := Tryd.sizeOf184
  v160 := Tryd.zeroValue184
  t162 := Tryd.underlying173
  a162 := Tryd.isAgg173
  z162 := Tryd.sizeOf173
  v162 := Tryd.zeroValue173
  t164 := Tryd.underlying154
  a164 := Tryd.isAgg154
  z164 := Tryd.sizeOf154
  v164 := Tryd.zeroValue154
  t203 := Tryd.underlying171
  a203 := Tryd.isAgg171
  z203 := Tryd.sizeOf171
  v203 := Tryd.zeroValue171
  t206 := Tryd.underlying191
  a206 := Tryd.isAgg191
  z206 := Tryd.sizeOf191
  v206 := Tryd.zeroValue191
  t208 := Tryd.underlying193
  a208 := Tryd.isAgg193
  z208 := Tryd.sizeOf193
  v208 := Tryd.zeroValue193
  g3 := by kernel_rfl
  g4 := by kernel_rfl
  g13 := by kernel_rfl }
theorem Tryd.Builder_Extra_159 : Builder.Extra Tryd.prog Tryd.lays159_ren := {
  sizeBuilder := by kernel_rfl
  liesBuilder := by kernel_rfl
  t5 := Tryd.underlying5
  a5 := Tryd.isAgg5
  z5 := Tryd.sizeOf5
  v5 := Tryd.zeroValue5
  infoByte := by kernel_rfl
  cellsByte := by kernel_rfl
  sizeByte := by kernel_rfl
  neB5 := by decide }
open Go.RowKit in
theorem Tryd.strings_ToLower_ascii (s : ByteArray) (w : World) (hs : s.size ≤ 140737488355328) (hascii : ∀ (j : Nat) (b : UInt8), s.data.toList[j]? = some b → b.toNat < 128) :
    Calls Tryd.prog 86 #[.string s] w fun e w' => e = .returned (.string ⟨(Lib.toLowerA s.data.toList).toArray⟩) ∧ Below w.heap.size w w' := Any.strings_ToLower_ascii Tryd.lays159 Tryd.Builder_Extra_159 s w hs hascii
def Tryd.lays119_ren : Go.Shelf.Ren := ⟨fun | 119 => 110 | n => n, fun | 21 => 21 | 4 => 4 | n => n, fun | n => n⟩
theorem Tryd.lays119 : Go.Proofs.Lays.n119 Tryd.prog Tryd.lays119_ren := {
  mixed := by kernel_rfl
  f119 := Tryd.func110.trans (congrArg some (by kernel_rfl))
  t4 := Tryd.underlying4
  a4 := Tryd.isAgg4
  z4 := Tryd.sizeOf4
  v4 := Tryd.zeroValue4
  t21 := Tryd.underlying21
  a21 := Tryd.isAgg21
  z21 := Tryd.sizeOf21
  v21 := Tryd.zeroValue21 }
theorem Tryd.utf8_ValidRune (r : Int) (w : World) :
    Calls Tryd.prog 110 #[.int .i32 r] w fun e w' => e = .returned (.bool (Lib.validRune r)) ∧ w' = w := Any.utf8_ValidRune Tryd.lays119 r w
def Tryd.lays125_ren : Go.Shelf.Ren := ⟨fun | 125 => 108 | 128 => 129 | 129 => 130 | n => n, fun | 46 => 133 | 3 => 3 | 51 => 138 | 53 => 153 | 4 => 4 | 5 => 5 | 9 => 9 | n => n, fun | n => n⟩
theorem Tryd.lays125 : Go.Proofs.Lays.n125 Tryd.prog Tryd.lays125_ren := {
  mixed := by kernel_rfl
  f125 := Tryd.func108.trans (congrArg some (by kernel_rfl))
  f128 := Tryd.func129.trans (congrArg some (by kernel_rfl))
  f129 := Tryd.func130.trans (congrArg some (by kernel_rfl))
  t3 := Tryd.underlying3
  a3 := Tryd.isAgg3
  z3 := Tryd.sizeOf3
  v3 := Tryd.zeroValue3
  t4 := Tryd.underlying4
  a4 := Tryd.isAgg4
  z4 := Tryd.sizeOf4
  v4 := Tryd.zeroValue4
  t5 := Tryd.underlying5
  a5 := Tryd.isAgg5
  z5 := Tryd.sizeOf5
  v5 := Tryd.zeroValue5
  t9 := Tryd.underlying9
  a9 := Tryd.isAgg9
  z9 := Tryd.sizeOf9
  v9 := Tryd.zeroValue9
  t46 := Tryd.underlying133
  a46 := Tryd.isAgg133
  z46 := Tryd.sizeOf133
  v46 := Tryd.zeroValue133
  t51 := Tryd.underlying138
  a51 := Tryd.isAgg138
  z51 := Tryd.sizeOf138
  v51 := Tryd.zeroValue138
  t53 := Tryd.underlying153
  a53 := Tryd.isAgg153
  z53 := Tryd.sizeOf153
  v53 := Tryd.zeroValue153 }
theorem Tryd.bits_Len (x : Int) (w : World) (h0 : 0 ≤ x) (h1 : x ≤ 18446744073709551615) :
    Calls Tryd.prog 108 #[.int .u64 x] w fun e w' => e = .returned (.int .i64 (Lib.bitLen x.toNat)) ∧ w' = w := Any.bits_Len Tryd.lays125 x w h0 h1
def Tryd.lays137_ren : Go.Shelf.Ren := ⟨fun | 137 => 109 | 217 => 119 | 266 => 137 | n => n, fun | 9 => 9 | 5 => 5 | 3 => 3 | n => n, fun | n => n⟩
theorem Tryd.lays137 : Go.Proofs.Lays.n137 Tryd.prog Tryd.lays137_ren := {
  mixed := by kernel_rfl
  f137 := Tryd.func109.trans (congrArg some (by kernel_rfl))
  f217 := Tryd.func119.trans (congrArg some (by kernel_rfl))
  f266 := Tryd.func137.trans (congrArg some (by kernel_rfl))
  t3 := Tryd.underlying3
  a3 := Tryd.isAgg3
  z3 := Tryd.sizeOf3
  v3 := Tryd.zeroValue3
  t5 := Tryd.underlying5
  a5 := Tryd.isAgg5
  z5 := Tryd.sizeOf5
  v5 := Tryd.zeroValue5
  t9 := Tryd.underlying9
  a9 := Tryd.isAgg9
  z9 := Tryd.sizeOf9
  v9 := Tryd.zeroValue9 }
open Go.RowKit in
theorem Tryd.strings_IndexByte (s : ByteArray) (c : Int) (w : World) :
    Calls Tryd.prog 109 #[.string s, .int .u8 c] w fun e w' => e = .returned (.int .i64 (Lib.indexByte s.data.toList c.toNat.toUInt8)) ∧ w' = w := Any.strings_IndexByte Tryd.lays137 s c w
open Go.RowKit in
theorem Tryd.Builder_String_any_f (B b : Nat) (l : List UInt8) (w : World) (h : Lib.IsBuilderF 116 5 B b (Lib.byteCells l) w) (hBw : B ≤ w.heap.size) :
    Calls Tryd.prog 95 #[.pointer (some ⟨b, 0, none⟩)] w fun e w' => e = .returned (.string ⟨l.toArray⟩) ∧ (Lib.IsBuilderF 116 5 B b (Lib.byteCells l) w' ∧ Below B w w') := Any.Builder_String_any_f Tryd.lays169 Tryd.Builder_Extra_169 B b l w h hBw
def Tryd.lays144_ren : Go.Shelf.Ren := ⟨fun | 144 => 47 | 143 => 82 | 219 => 105 | 217 => 119 | 225 => 112 | 224 => 111 | 267 => 120 | 266 => 137 | 314 => 138 | n => n, fun | 9 => 9 | 4 => 4 | 3 => 3 | 5 => 5 | 46 => 133 | 146 => 174 | 51 => 138 | n => n, fun | 1 => 2 | n => n⟩
theorem Tryd.lays144 : Go.Proofs.Lays.n144 Tryd.prog Tryd.lays144_ren := {
  mixed := by kernel_rfl
  f143 := Tryd.func82.trans (congrArg some (by kernel_rfl))
  f144 := Tryd.func47.trans (congrArg some (by kernel_rfl))
  f217 := Tryd.func119.trans (congrArg some (by kernel_rfl))
  f219 := Tryd.func105.trans (congrArg some (by kernel_rfl))
  f224 := Tryd.func111.trans (congrArg some (by kernel_rfl))
  f225 := Tryd.func112.trans (congrArg some (by kernel_rfl))
  f266 := Tryd.func137.trans (congrArg some (by kernel_rfl))
  f267 := Tryd.func120.trans (congrArg some (by kernel_rfl))
  f314 := Tryd.func138.trans (congrArg some (by kernel_rfl))
  t3 := Tryd.underlying3
  a3 := Tryd.isAgg3
  z3 := Tryd.sizeOf3
  v3 := Tryd.zeroValue3
  t4 := Tryd.underlying4
  a4 := Tryd.isAgg4
  z4 := Tryd.sizeOf4
  v4 := Tryd.zeroValue4
  t5 := Tryd.underlying5
  a5 := Tryd.isAgg5
  z5 := Tryd.sizeOf5
  v5 := Tryd.zeroValue5
  t9 := Tryd.underlying9
  a9 := Tryd.isAgg9
  z9 := Tryd.sizeOf9
  v9 := Tryd.zeroValue9
  t46 := Tryd.underlying133
  a46 := Tryd.isAgg133
  z46 := Tryd.sizeOf133
  v46 := Tryd.zeroValue133
  t51 := Tryd.underlying138
  a51 := Tryd.isAgg138
  z51 := Tryd.sizeOf138
  v51 := Tryd.zeroValue138
  t146 := Tryd.underlying174
  a146 := Tryd.isAgg174
  z146 := Tryd.sizeOf174
  v146 := Tryd.zeroValue174
  g1 := by kernel_rfl }
open Go.RowKit Go.Lib in
theorem Tryd.strings_Contains (s sub : ByteArray) (m : Int) (w : World) (hs : s.size < 4294967281) (hm : w.cell? ⟨2, 0, none⟩ = some (.int .i64 m)) :
    Calls Tryd.prog 47 #[.string s, .string sub] w fun e w' => e = .returned (.bool (Lib.contains s.data.toList sub.data.toList)) ∧ w' = w := Any.strings_Contains Tryd.lays144 s sub m w hs hm
def Tryd.laysM144_ren : Go.Shelf.Ren := ⟨fun | 144 => 47 | 143 => 82 | 219 => 105 | 217 => 119 | 225 => 112 | 224 => 111 | 267 => 120 | 266 => 137 | 314 => 138 | n => n, fun | 9 => 9 | 4 => 4 | 3 => 3 | 5 => 5 | 46 => 133 | 146 => 174 | 51 => 138 | n => n, fun | 1 => 2 | n => n⟩
theorem Tryd.laysM144 : Go.Proofs.LaysM.n144 Tryd.prog Tryd.laysM144_ren := {
  mixed := by kernel_rfl
  f143 := Tryd.func82.trans (congrArg some (by kernel_rfl))
  f144 := Tryd.func47.trans (congrArg some (by kernel_rfl))
  f217 := Tryd.func119.trans (congrArg some (by kernel_rfl))
  f219 := Tryd.func105.trans (congrArg some (by kernel_rfl))
  f224 := Tryd.func111.trans (congrArg some (by kernel_rfl))
  f225 := Tryd.func112.trans (congrArg some (by kernel_rfl))
  f266 := Tryd.func137.trans (congrArg some (by kernel_rfl))
  f267 := Tryd.func120.trans (congrArg some (by kernel_rfl))
  f314 := Tryd.func138.trans (congrArg some (by kernel_rfl))
  t3 := Tryd.underlying3
  a3 := Tryd.isAgg3
  z3 := Tryd.sizeOf3
  v3 := Tryd.zeroValue3
  t4 := Tryd.underlying4
  a4 := Tryd.isAgg4
  z4 := Tryd.sizeOf4
  v4 := Tryd.zeroValue4
  t5 := Tryd.underlying5
  a5 := Tryd.isAgg5
  z5 := Tryd.sizeOf5
  v5 := Tryd.zeroValue5
  t9 := Tryd.underlying9
  a9 := Tryd.isAgg9
  z9 := Tryd.sizeOf9
  v9 := Tryd.zeroValue9
  t46 := Tryd.underlying133
  a46 := Tryd.isAgg133
  z46 := Tryd.sizeOf133
  v46 := Tryd.zeroValue133
  t51 := Tryd.underlying138
  a51 := Tryd.isAgg138
  z51 := Tryd.sizeOf138
  v51 := Tryd.zeroValue138
  t146 := Tryd.underlying174
  a146 := Tryd.isAgg174
  z146 := Tryd.sizeOf174
  v146 := Tryd.zeroValue174
  g1 := by kernel_rfl
  i3 := by kernel_rfl
  i4 := by kernel_rfl
  i5 := by kernel_rfl
  i9 := by kernel_rfl
  i46 := by kernel_rfl
  i51 := by kernel_rfl
  i146 := by kernel_rfl
  m1 := by kernel_rfl
  s1_3 := fun w h => Go.Proofs.cell_of_shapedOpen_int (zero := #[.int .i64 0]) (t := 3) h (of_decide_eq_true (by kernel_rfl)) (by kernel_rfl) rfl (by kernel_rfl) (by kernel_rfl) Tryd.underlying3 }
def Tryd.lays203_ren : Go.Shelf.Ren := ⟨fun | 203 => 104 | 262 => 118 | 313 => 136 | 274 => 144 | 275 => 145 | n => n, fun | 21 => 21 | 4 => 4 | 3 => 3 | 162 => 173 | 203 => 171 | 160 => 184 | 46 => 133 | 0 => 0 | 208 => 193 | 51 => 138 | 206 => 191 | n => n, fun | 13 => 5 | n => n⟩
theorem Tryd.lays203 : Go.Proofs.Lays.n203 Tryd.prog Tryd.lays203_ren := {
  mixed := by kernel_rfl
  f203 := Tryd.func104.trans (congrArg some (by kernel_rfl))
  f262 := Tryd.func118.trans (congrArg some (by kernel_rfl))
  f274 := Tryd.func144.trans (congrArg some (by kernel_rfl))
  f275 := Tryd.func145.trans (congrArg some (by kernel_rfl))
  f313 := Tryd.func136.trans (congrArg some (by kernel_rfl))
  t0 := Tryd.underlying0
  a0 := Tryd.isAgg0
  z0 := Tryd.sizeOf0
  v0 := Tryd.zeroValue0
  t3 := Tryd.underlying3
  a3 := Tryd.isAgg3
  z3 := Tryd.sizeOf3
  v3 := Tryd.zeroValue3
  t4 := Tryd.underlying4
  a4 := Tryd.isAgg4
  z4 := Tryd.sizeOf4
  v4 := Tryd.zeroValue4
  t21 := Tryd.underlying21
  a21 := Tryd.isAgg21
  z21 := Tryd.sizeOf21
  v21 := Tryd.zeroValue21
  t46 := Tryd.underlying133
  a46 := Tryd.isAgg133
  z46 := Tryd.sizeOf133
  v46 := Tryd.zeroValue133
  t51 := Tryd.underlying138
  a51 := Tryd.isAgg138
  z51 := Tryd.sizeOf138
  v51 := Tryd.zeroValue138
  t160 := Tryd.underlying184
  a160 := Tryd.isAgg184
  z160 := Tryd.sizeOf184
  v160 := Tryd.zeroValue184
  t162 := Tryd.underlying173
  a162 := Tryd.isAgg173
  z162 := Tryd.sizeOf173
  v162 := Tryd.zeroValue173
  t203 := Tryd.underlying171
  a203 := Tryd.isAgg171
  z203 := Tryd.sizeOf171
  v203 := Tryd.zeroValue171
  t206 := Tryd.underlying191
  a206 := Tryd.isAgg191
  z206 := Tryd.sizeOf191
  v206 := Tryd.zeroValue191
  t208 := Tryd.underlying193
  a208 := Tryd.isAgg193
  z208 := Tryd.sizeOf193
  v208 := Tryd.zeroValue193
  g13 := by kernel_rfl }
def Tryd.lays204_ren : Go.Shelf.Ren := ⟨fun | 204 => 103 | 262 => 118 | 313 => 136 | 274 => 144 | 275 => 145 | n => n, fun | 21 => 21 | 4 => 4 | 3 => 3 | 162 => 173 | 203 => 171 | 160 => 184 | 46 => 133 | 0 => 0 | 208 => 193 | 51 => 138 | 206 => 191 | n => n, fun | 13 => 5 | n => n⟩
theorem Tryd.lays204 : Go.Proofs.Lays.n204 Tryd.prog Tryd.lays204_ren := {
  mixed := by kernel_rfl
  f204 := Tryd.func103.trans (congrArg some (by kernel_rfl))
  f262 := Tryd.func118.trans (congrArg some (by kernel_rfl))
  f274 := Tryd.func144.trans (congrArg some (by kernel_rfl))
  f275 := Tryd.func145.trans (congrArg some (by kernel_rfl))
  f313 := Tryd.func136.trans (congrArg some (by kernel_rfl))
  t0 := Tryd.underlying0
  a0 := Tryd.isAgg0
  z0 := Tryd.sizeOf0
  v0 := Tryd.zeroValue0
  t3 := Tryd.underlying3
  a3 := Tryd.isAgg3
  z3 := Tryd.sizeOf3
  v3 := Tryd.zeroValue3
  t4 := Tryd.underlying4
  a4 := Tryd.isAgg4
  z4 := Tryd.sizeOf4
  v4 := Tryd.zeroValue4
  t21 := Tryd.underlying21
  a21 := Tryd.isAgg21
  z21 := Tryd.sizeOf21
  v21 := Tryd.zeroValue21
  t46 := Tryd.underlying133
  a46 := Tryd.isAgg133
  z46 := Tryd.sizeOf133
  v46 := Tryd.zeroValue133
  t51 := Tryd.underlying138
  a51 := Tryd.isAgg138
  z51 := Tryd.sizeOf138
  v51 := Tryd.zeroValue138
  t160 := Tryd.underlying184
  a160 := Tryd.isAgg184
  z160 := Tryd.sizeOf184
  v160 := Tryd.zeroValue184
  t162 := Tryd.underlying173
  a162 := Tryd.isAgg173
  z162 := Tryd.sizeOf173
  v162 := Tryd.zeroValue173
  t203 := Tryd.underlying171
  a203 := Tryd.isAgg171
  z203 := Tryd.sizeOf171
  v203 := Tryd.zeroValue171
  t206 := Tryd.underlying191
  a206 := Tryd.isAgg191
  z206 := Tryd.sizeOf191
  v206 := Tryd.zeroValue191
  t208 := Tryd.underlying193
  a208 := Tryd.isAgg193
  z208 := Tryd.sizeOf193
  v208 := Tryd.zeroValue193
  g13 := by kernel_rfl }
def Tryd.lays201_ren : Go.Shelf.Ren := ⟨fun | 201 => 102 | 261 => 117 | 311 => 134 | 312 => 135 | n => n, fun | 21 => 21 | 4 => 4 | 51 => 138 | 5 => 5 | 119 => 139 | 0 => 0 | 141 => 141 | 196 => 163 | 193 => 160 | 3 => 3 | 198 => 166 | 49 => 164 | 194 => 161 | 201 => 169 | 226 => 182 | 46 => 133 | 227 => 183 | n => n, fun | 7 => 0 | 9 => 1 | n => n⟩
theorem Tryd.lays201 : Go.Proofs.Lays.n201 Tryd.prog Tryd.lays201_ren := {
  mixed := by kernel_rfl
  f201 := Tryd.func102.trans (congrArg some (by kernel_rfl))
  f261 := Tryd.func117.trans (congrArg some (by kernel_rfl))
  f311 := Tryd.func134.trans (congrArg some (by kernel_rfl))
  f312 := Tryd.func135.trans (congrArg some (by kernel_rfl))
  t0 := Tryd.underlying0
  a0 := Tryd.isAgg0
  z0 := Tryd.sizeOf0
  v0 := Tryd.zeroValue0
  t3 := Tryd.underlying3
  a3 := Tryd.isAgg3
  z3 := Tryd.sizeOf3
  v3 := Tryd.zeroValue3
  t4 := Tryd.underlying4
  a4 := Tryd.isAgg4
  z4 := Tryd.sizeOf4
  v4 := Tryd.zeroValue4
  t5 := Tryd.underlying5
  a5 := Tryd.isAgg5
  z5 := Tryd.sizeOf5
  v5 := Tryd.zeroValue5
  t21 := Tryd.underlying21
  a21 := Tryd.isAgg21
  z21 := Tryd.sizeOf21
  v21 := Tryd.zeroValue21
  t46 := Tryd.underlying133
  a46 := Tryd.isAgg133
  z46 := Tryd.sizeOf133
  v46 := Tryd.zeroValue133
  t49 := Tryd.underlying164
  a49 := Tryd.isAgg164
  z49 := Tryd.sizeOf164
  v49 := Tryd.zeroValue164
  t51 := Tryd.underlying138
  a51 := Tryd.isAgg138
  z51 := Tryd.sizeOf138
  v51 := Tryd.zeroValue138
  t119 := Tryd.underlying139
  a119 := Tryd.isAgg139
  z119 := Tryd.sizeOf139
  t141 := Tryd.underlying141
  a141 := Tryd.isAgg141
  z141 := Tryd.sizeOf141
  v141 := Tryd.zeroValue141
  t193 := Tryd.underlying160
  a193 := Tryd.isAgg160
  z193 := Tryd.sizeOf160
  v193 := Tryd.zeroValue160
  t194 := Tryd.underlying161
  a194 := Tryd.isAgg161
  z194 := Tryd.sizeOf161
  v194 := Tryd.zeroValue161
  t196 := Tryd.underlying163
  a196 := Tryd.isAgg163
  z196 := Tryd.sizeOf163
  v196 := Tryd.zeroValue163
  t198 := Tryd.underlying166
  a198 := Tryd.isAgg166
  z198 := Tryd.sizeOf166
  v198 := Tryd.zeroValue166
  t201 := Tryd.underlying169
  a201 := Tryd.isAgg169
  z201 := Tryd.sizeOf169
  v201 := Tryd.zeroValue169
  t226 := Tryd.underlying182
  a226 := Tryd.isAgg182
  z226 := Tryd.sizeOf182
  v226 := Tryd.zeroValue182
  t227 := Tryd.underlying183
  a227 := Tryd.isAgg183
  z227 := Tryd.sizeOf183
  v227 := Tryd.zeroValue183
  g7 := by kernel_rfl
  g9 := by kernel_rfl }
def Tryd.lays151_ren : Go.Shelf.Ren := ⟨fun | 151 => 59 | 152 => 90 | 137 => 109 | 119 => 110 | 224 => 111 | 225 => 112 | 217 => 119 | 266 => 137 | n => n, fun | 9 => 9 | 21 => 21 | 4 => 4 | 3 => 3 | 5 => 5 | 0 => 0 | 46 => 133 | n => n, fun | n => n⟩
theorem Tryd.lays151 : Go.Proofs.Lays.n151 Tryd.prog Tryd.lays151_ren := {
  mixed := by kernel_rfl
  f119 := Tryd.func110.trans (congrArg some (by kernel_rfl))
  f137 := Tryd.func109.trans (congrArg some (by kernel_rfl))
  f151 := Tryd.func59.trans (congrArg some (by kernel_rfl))
  f152 := Tryd.func90.trans (congrArg some (by kernel_rfl))
  f217 := Tryd.func119.trans (congrArg some (by kernel_rfl))
  f224 := Tryd.func111.trans (congrArg some (by kernel_rfl))
  f225 := Tryd.func112.trans (congrArg some (by kernel_rfl))
  f266 := Tryd.func137.trans (congrArg some (by kernel_rfl))
  t0 := Tryd.underlying0
  a0 := Tryd.isAgg0
  z0 := Tryd.sizeOf0
  v0 := Tryd.zeroValue0
  t3 := Tryd.underlying3
  a3 := Tryd.isAgg3
  z3 := Tryd.sizeOf3
  v3 := Tryd.zeroValue3
  t4 := Tryd.underlying4
  a4 := Tryd.isAgg4
  z4 := Tryd.sizeOf4
  v4 := Tryd.zeroValue4
  t5 := Tryd.underlying5
  a5 := Tryd.isAgg5
  z5 := Tryd.sizeOf5
  v5 := Tryd.zeroValue5
  t9 := Tryd.underlying9
  a9 := Tryd.isAgg9
  z9 := Tryd.sizeOf9
  v9 := Tryd.zeroValue9
  t21 := Tryd.underlying21
  a21 := Tryd.isAgg21
  z21 := Tryd.sizeOf21
  v21 := Tryd.zeroValue21
  t46 := Tryd.underlying133
  a46 := Tryd.isAgg133
  z46 := Tryd.sizeOf133
  v46 := Tryd.zeroValue133 }
open Go.RowKit Go.Lib in
theorem Tryd.strings_ContainsRune_ascii (s : ByteArray) (r : Int) (w : World) (h0 : 0 ≤ r) (h1 : r < 128) :
    Calls Tryd.prog 59 #[.string s, .int .i32 r] w fun e w' => e = .returned (.bool (decide (0 ≤ Lib.indexByte s.data.toList r.toNat.toUInt8))) ∧ w' = w := Any.strings_ContainsRune_ascii Tryd.lays151 s r w h0 h1
def Tryd.lays260_ren : Go.Shelf.Ren := ⟨fun | 260 => 114 | n => n, fun | 9 => 9 | 21 => 21 | 3 => 3 | 4 => 4 | 5 => 5 | 119 => 139 | 0 => 0 | 46 => 133 | 139 => 158 | 138 => 157 | n => n, fun | 3 => 3 | 4 => 4 | n => n⟩
theorem Tryd.lays260 : Go.Proofs.Lays.n260 Tryd.prog Tryd.lays260_ren := {
  mixed := by kernel_rfl
  f260 := Tryd.func114.trans (congrArg some (by kernel_rfl))
  t0 := Tryd.underlying0
  a0 := Tryd.isAgg0
  z0 := Tryd.sizeOf0
  v0 := Tryd.zeroValue0
  t3 := Tryd.underlying3
  a3 := Tryd.isAgg3
  z3 := Tryd.sizeOf3
  v3 := Tryd.zeroValue3
  t4 := Tryd.underlying4
  a4 := Tryd.isAgg4
  z4 := Tryd.sizeOf4
  v4 := Tryd.zeroValue4
  t5 := Tryd.underlying5
  a5 := Tryd.isAgg5
  z5 := Tryd.sizeOf5
  v5 := Tryd.zeroValue5
  t9 := Tryd.underlying9
  a9 := Tryd.isAgg9
  z9 := Tryd.sizeOf9
  v9 := Tryd.zeroValue9
  t21 := Tryd.underlying21
  a21 := Tryd.isAgg21
  z21 := Tryd.sizeOf21
  v21 := Tryd.zeroValue21
  t46 := Tryd.underlying133
  a46 := Tryd.isAgg133
  z46 := Tryd.sizeOf133
  v46 := Tryd.zeroValue133
  t119 := Tryd.underlying139
  a119 := Tryd.isAgg139
  z119 := Tryd.sizeOf139
  t138 := Tryd.underlying157
  a138 := Tryd.isAgg157
  z138 := Tryd.sizeOf157
  v138 := Tryd.zeroValue157
  t139 := Tryd.underlying158
  a139 := Tryd.isAgg158
  z139 := Tryd.sizeOf158
  v139 := Tryd.zeroValue158
  g3 := by kernel_rfl
  g4 := by kernel_rfl }
def Tryd.lays261_ren : Go.Shelf.Ren := ⟨fun | 261 => 117 | 311 => 134 | 312 => 135 | n => n, fun | 141 => 141 | 21 => 21 | 4 => 4 | 0 => 0 | 196 => 163 | 193 => 160 | 3 => 3 | 51 => 138 | 198 => 166 | 49 => 164 | 194 => 161 | 201 => 169 | 226 => 182 | 46 => 133 | 227 => 183 | n => n, fun | n => n⟩
theorem Tryd.lays261 : Go.Proofs.Lays.n261 Tryd.prog Tryd.lays261_ren := {
  mixed := by kernel_rfl
  f261 := Tryd.func117.trans (congrArg some (by kernel_rfl))
  f311 := Tryd.func134.trans (congrArg some (by kernel_rfl))
  f312 := Tryd.func135.trans (congrArg some (by kernel_rfl))
  t0 := Tryd.underlying0
  a0 := Tryd.isAgg0
  z0 := Tryd.sizeOf0
  v0 := Tryd.zeroValue0
  t3 := Tryd.underlying3
  a3 := Tryd.isAgg3
  z3 := Tryd.sizeOf3
  v3 := Tryd.zeroValue3
  t4 := Tryd.underlying4
  a4 := Tryd.isAgg4
  z4 := Tryd.sizeOf4
  v4 := Tryd.zeroValue4
  t21 := Tryd.underlying21
  a21 := Tryd.isAgg21
  z21 := Tryd.sizeOf21
  v21 := Tryd.zeroValue21
  t46 := Tryd.underlying133
  a46 := Tryd.isAgg133
  z46 := Tryd.sizeOf133
  v46 := Tryd.zeroValue133
  t49 := Tryd.underlying164
  a49 := Tryd.isAgg164
  z49 := Tryd.sizeOf164
  v49 := Tryd.zeroValue164
  t51 := Tryd.underlying138
  a51 := Tryd.isAgg138
  z51 := Tryd.sizeOf138
  v51 := Tryd.zeroValue138
  t141 := Tryd.underlying141
  a141 := Tryd.isAgg141
  z141 := Tryd.sizeOf141
  v141 := Tryd.zeroValue141
  t193 := Tryd.underlying160
  a193 := Tryd.isAgg160
  z193 := Tryd.sizeOf160
  v193 := Tryd.zeroValue160
  t194 := Tryd.underlying161
  a194 := Tryd.isAgg161
  z194 := Tryd.sizeOf161
  v194 := Tryd.zeroValue161
  t196 := Tryd.underlying163
  a196 := Tryd.isAgg163
  z196 := Tryd.sizeOf163
  v196 := Tryd.zeroValue163
  t198 := Tryd.underlying166
  a198 := Tryd.isAgg166
  z198 := Tryd.sizeOf166
  v198 := Tryd.zeroValue166
  t201 := Tryd.underlying169
  a201 := Tryd.isAgg169
  z201 := Tryd.sizeOf169
  v201 := Tryd.zeroValue169
  t226 := Tryd.underlying182
  a226 := Tryd.isAgg182
  z226 := Tryd.sizeOf182
  v226 := Tryd.zeroValue182
  t227 := Tryd.underlying183
  a227 := Tryd.isAgg183
  z227 := Tryd.sizeOf183
  v227 := Tryd.zeroValue183 }
open Go.RowKit Go.Lib in
theorem Tryd.unicode_ToLower_laid (r : Int) (w : World) (hV : CaseVar 5 caseA w) :
    Calls Tryd.prog 103 #[.int .i32 r] w fun e w' => e = .returned (.int .i32 (toLowerU r)) ∧ ∃ q, w' = w.drewN q := Any.unicode_ToLower_laid Tryd.lays204 r w hV
open Go.RowKit Go.Lib in
theorem Tryd.unicode_ToUpper_laid (r : Int) (w : World) (hV : CaseVar 5 caseA w) :
    Calls Tryd.prog 104 #[.int .i32 r] w fun e w' => e = .returned (.int .i32 (toUpperU r)) ∧ ∃ q, w' = w.drewN q := Any.unicode_ToUpper_laid Tryd.lays203 r w hV
def Tryd.lays230_ren : Go.Shelf.Ren := ⟨fun | 230 => 78 | 197 => 96 | 118 => 97 | 165 => 98 | 166 => 99 | 168 => 100 | 270 => 101 | 167 => 94 | 169 => 95 | 260 => 114 | 240 => 113 | 241 => 115 | 242 => 116 | 276 => 131 | 277 => 132 | 278 => 133 | n => n, fun | 107 => 100 | 9 => 9 | 72 => 116 | 0 => 0 | 4 => 4 | 3 => 3 | 21 => 21 | 105 => 121 | 76 => 125 | 5 => 5 | 75 => 118 | 70 => 114 | 20 => 20 | 37 => 102 | 127 => 136 | 119 => 139 | 46 => 133 | 139 => 158 | 138 => 157 | 164 => 154 | 51 => 138 | 80 => 120 | n => n, fun | 3 => 3 | 4 => 4 | n => n⟩
theorem Tryd.lays230 : Go.Proofs.Lays.n230 Tryd.prog Tryd.lays230_ren := {
  mixed := by kernel_rfl
  f118 := Tryd.func97.trans (congrArg some (by kernel_rfl))
  f165 := Tryd.func98.trans (congrArg some (by kernel_rfl))
  f166 := Tryd.func99.trans (congrArg some (by kernel_rfl))
  f167 := Tryd.func94.trans (congrArg some (by kernel_rfl))
  f168 := Tryd.func100.trans (congrArg some (by kernel_rfl))
  f169 := Tryd.func95.trans (congrArg some (by kernel_rfl))
  f197 := Tryd.func96.trans (congrArg some (by kernel_rfl))
  f230 := Tryd.func78.trans (congrArg some (by kernel_rfl))
  f240 := Tryd.func113.trans (congrArg some (by kernel_rfl))
  f241 := Tryd.func115.trans (congrArg some (by kernel_rfl))
  f242 := Tryd.func116.trans (congrArg some (by kernel_rfl))
  f260 := Tryd.func114.trans (congrArg some (by kernel_rfl))
  f270 := Tryd.func101.trans (congrArg some (by kernel_rfl))
  f276 := Tryd.func131.trans (congrArg some (by kernel_rfl))
  f277 := Tryd.func132.trans (congrArg some (by kernel_rfl))
  f278 := Tryd.func133.trans (congrArg some (by kernel_rfl))
  t0 := Tryd.underlying0
  a0 := Tryd.isAgg0
  z0 := Tryd.sizeOf0
  v0 := Tryd.zeroValue0
  t3 := Tryd.underlying3
  a3 := Tryd.isAgg3
  z3 := Tryd.sizeOf3
  v3 := Tryd.zeroValue3
  t4 := Tryd.underlying4
  a4 := Tryd.isAgg4
  z4 := Tryd.sizeOf4
  v4 := Tryd.zeroValue4
  t5 := Tryd.underlying5
  a5 := Tryd.isAgg5
  z5 := Tryd.sizeOf5
  v5 := Tryd.zeroValue5
  t9 := Tryd.underlying9
  a9 := Tryd.isAgg9
  z9 := Tryd.sizeOf9
  v9 := Tryd.zeroValue9
  t20 := Tryd.underlying20
  a20 := Tryd.isAgg20
  z20 := Tryd.sizeOf20
  v20 := Tryd.zeroValue20
  t21 := Tryd.underlying21
  a21 := Tryd.isAgg21
  z21 := Tryd.sizeOf21
  v21 := Tryd.zeroValue21
  t37 := Tryd.underlying102
  a37 := Tryd.isAgg102
  z37 := Tryd.sizeOf102
  v37 := Tryd.zeroValue102
  t46 := Tryd.underlying133
  a46 := Tryd.isAgg133
  z46 := Tryd.sizeOf133
  v46 := Tryd.zeroValue133
  t51 := Tryd.underlying138
  a51 := Tryd.isAgg138
  z51 := Tryd.sizeOf138
  v51 := Tryd.zeroValue138
  t70 := Tryd.underlying114
  a70 := Tryd.isAgg114
  z70 := Tryd.sizeOf114
  v70 := Tryd.zeroValue114
  t72 := Tryd.underlying116
  a72 := Tryd.isAgg116
  z72 := Tryd.sizeOf116
  v72 := Tryd.zeroValue116
  t75 := Tryd.underlying118
  a75 := Tryd.isAgg118
  z75 := Tryd.sizeOf118
  v75 := Tryd.zeroValue118
  t76 := Tryd.underlying125
  a76 := Tryd.isAgg125
  z76 := Tryd.sizeOf125
  v76 := Tryd.zeroValue125
  t105 := Tryd.underlying121
  a105 := Tryd.isAgg121
  z105 := Tryd.sizeOf121
  v105 := Tryd.zeroValue121
  t107 := Tryd.underlying100
  a107 := Tryd.isAgg100
  z107 := Tryd.sizeOf100
  v107 := Tryd.zeroValue100
  t119 := Tryd.underlying139
  a119 := Tryd.isAgg139
  z119 := Tryd.sizeOf139
  t127 := Tryd.underlying136
  a127 := Tryd.isAgg136
  z127 := Tryd.sizeOf136
  v127 := Tryd.zeroValue136
  t138 := Tryd.underlying157
  a138 := Tryd.isAgg157
  z138 := Tryd.sizeOf157
  v138 := Tryd.zeroValue157
  t139 := Tryd.underlying158
  a139 := Tryd.isAgg158
  z139 := Tryd.sizeOf158
  v139 := Tryd.zeroValue158
  t164 := Tryd.underlying154
  a164 := Tryd.isAgg154
  z164 := Tryd.sizeOf154
  v164 := Tryd.zeroValue154
  g3 := by kernel_rfl
  g4 := by kernel_rfl }
theorem Tryd.Builder_Extra_230 : Builder.Extra Tryd.prog Tryd.lays230_ren := {
  sizeBuilder := by kernel_rfl
  liesBuilder := by kernel_rfl
  t5 := Tryd.underlying5
  a5 := Tryd.isAgg5
  z5 := Tryd.sizeOf5
  v5 := Tryd.zeroValue5
  infoByte := by kernel_rfl
  cellsByte := by kernel_rfl
  sizeByte := by kernel_rfl
  neB5 := by decide }
open Go.RowKit Go.Lib in
theorem Tryd.unicode_IsUpper_all (r : Int) (w : World) (hlo : -2147483648 ≤ r) (hhi : r ≤ 2147483647) (htab : Lib.TabIs Tryd.prog w "unicode.properties" .u8 Lib.propertiesTab) (hV : RVar 1 upperT w) :
    Calls Tryd.prog 102 #[.int .i32 r] w fun e w' => e = .returned (.bool (isUpperU r)) ∧ Below w.heap.size w w' := Any.unicode_IsUpper_all Tryd.lays201 (by kernel_rfl) r w hlo hhi htab hV
open Go.RowKit Go.Lib in
theorem Tryd.strings_Map_grows (g : Nat) (lb : Array Value) (eg : ∀ args w, (callFunc g args).run Tryd.prog w = .ok (.enter g args) w) (f : Int → Int) (s : ByteArray) (w : World) (hs : s.size < 35184372088832) (hf : MapGrows Tryd.prog g lb f w) (hnn : ∀ x : Nat, x ≤ 1114111 → -2147483648 ≤ f x ∧ f x ≤ 2147483647) (hT : Lib.Utf8Tabs 3 4 w) :
    Calls Tryd.prog 78 #[.func (.func g) #[] lb, .string s] w fun e w' => e = .returned (.string ⟨(Lib.mapD f s.data.toList).toArray⟩) ∧ Below w.heap.size w w' := Any.strings_Map_grows Tryd.lays230 Tryd.Builder_Extra_230 g lb eg f s w hs hf hnn hT
end Go.Proofs

namespace Go.Proofs.YtokdjjebnomciaaDoor
set_option linter.unusedVariables false
open Go.Wk Go.RowKit Go.Lib

/-- The library's tables, as they are read. -/
structure Laid (w : World) : Prop where
  props : TabIs Tryd.prog w "unicode.properties" .u8 propertiesTab
  upper : RVar 1 upperT w
  cases : CaseVar 5 caseA w
  utf : Utf8Tabs 3 4 w
  len : ∃ m, w.cell? ⟨2, 0, none⟩ = some (.int .i64 m)
theorem cell_ext {w w' : World} (h : Ext w w') {a : Addr} {v : Value} (hc : w.cell? a = some v) : w'.cell? a = some v :=
  (World.cell?_of_block (h.block a.block (World.block_lt_of_cell? w a hc))).trans hc
theorem rgTab_ext {w w' : World} (h : Ext w w') {k : IntKind} {R o : Nat} {T : Array Rg} (ht : RgTab k R o T w) : RgTab k R o T w' := fun i hi => by
  have := ht i hi
  exact ⟨cell_ext h this.1, cell_ext h this.2.1, cell_ext h this.2.2⟩
theorem Laid.ext {w w' : World} (hG : Laid w) (h : Ext w w') : Laid w' := by
  refine ⟨?_, ?_, ?_, ⟨fun c hc => cell_ext h (hG.utf.1 c hc), fun i hi => ⟨cell_ext h (hG.utf.2 i hi).1, cell_ext h (hG.utf.2 i hi).2⟩⟩, ?_⟩
  · have hp := hG.props
    unfold TabIs World.var? at hp ⊢
    cases hg : Tryd.prog.globalNamed "unicode.properties" with
    | none => rw [hg] at hp; cases hp
    | some g =>
      rw [hg] at hp
      simp only [Option.bind_some] at hp ⊢
      cases hq : w.heap[g]? with
      | none => rw [hq] at hp; cases hp
      | some o => rw [hq] at hp; rw [h.block g (Array.getElem?_eq_some_iff.1 hq).1, hq]; exact hp
  · obtain ⟨Tb, oT, h1, a16, a32, R16, o16, c16, R32, o32, c32, g1, g2, g3, g4, g5, g6, g7, g8⟩ := hG.upper
    exact ⟨Tb, oT, cell_ext h h1, a16, a32, R16, o16, c16, R32, o32, c32, cell_ext h g1, cell_ext h g2, cell_ext h g3, g4, g5, rgTab_ext h g6, rgTab_ext h g7, g8⟩
  · obtain ⟨R, oR, cap, h1, h2⟩ := hG.cases
    exact ⟨R, oR, cap, cell_ext h h1, fun i hi => by
      have := h2 i hi
      exact ⟨cell_ext h this.1, cell_ext h this.2.1, cell_ext h this.2.2.1, cell_ext h this.2.2.2.1, cell_ext h this.2.2.2.2⟩⟩
  · obtain ⟨m, hm⟩ := hG.len
    exact ⟨m, cell_ext h hm⟩
/-- The letter of the other size, by the library's tables. -/
def otherU (r : Int) : Int := if isUpperU r = true then toLowerU r else toUpperU r
theorem ret_of_same {P : Program} {f : FuncId} {args : Array Value} {w : World} {v : Value} (h : Calls P f args w fun e w' => e = .returned v ∧ w' = w) : Calls P f args w (Ret w fun r _ => r = v) :=
  h.mono fun e w' ⟨he, hw⟩ => ⟨v, he, by rw [hw]; exact Ext.refl _, rfl⟩
theorem ret_of_below {P : Program} {f : FuncId} {args : Array Value} {w : World} {v : Value} (h : Calls P f args w fun e w' => e = .returned v ∧ Below w.heap.size w w') : Calls P f args w (Ret w fun r _ => r = v) :=
  h.mono fun e w' ⟨he, hw⟩ => ⟨v, he, hw, rfl⟩
theorem F102 {r : Int} {w : World} (i_r : InK .i32 r) (hG : Laid w) : Calls Tryd.prog 102 #[.int .i32 r] w (Ret w fun q _ => q = .bool (isUpperU r)) :=
  ret_of_below (Tryd.unicode_IsUpper_all r w i_r.1 i_r.2 hG.props hG.upper)
theorem F103 {r : Int} {w : World} (_ : InK .i32 r) (hG : Laid w) : Calls Tryd.prog 103 #[.int .i32 r] w (Ret w fun q _ => q = .int .i32 (toLowerU r)) :=
  (Tryd.unicode_ToLower_laid r w hG.cases).mono fun e w' hh => by
    obtain ⟨he, hw⟩ := hh
    exact ⟨_, he, by first | exact hw | (rw [hw]; exact Ext.refl _) | (obtain ⟨q, hq⟩ := hw; rw [hq]; exact below_drewNm w q), rfl⟩
theorem F104 {r : Int} {w : World} (_ : InK .i32 r) (hG : Laid w) : Calls Tryd.prog 104 #[.int .i32 r] w (Ret w fun q _ => q = .int .i32 (toUpperU r)) :=
  (Tryd.unicode_ToUpper_laid r w hG.cases).mono fun e w' hh => by
    obtain ⟨he, hw⟩ := hh
    exact ⟨_, he, by first | exact hw | (rw [hw]; exact Ext.refl _) | (obtain ⟨q, hq⟩ := hw; rw [hq]; exact below_drewNm w q), rfl⟩
theorem F109 {s : ByteArray} {c : Int} {w : World} (_ : s.size ≤ maxLen) (_ : InK .u8 c) : Calls Tryd.prog 109 #[.string s, .int .u8 c] w (Ret w fun q _ => q = .int .i64 (indexByte s.data.toList c.toNat.toUInt8)) :=
  ret_of_same (Tryd.strings_IndexByte s c w)
theorem F110 {r : Int} {w : World} (_ : InK .i32 r) : Calls Tryd.prog 110 #[.int .i32 r] w (Ret w fun q _ => q = .bool (validRune r)) := ret_of_same (Tryd.utf8_ValidRune r w)
theorem F47 {s t : ByteArray} {w : World} (_ : s.size ≤ maxLen) (_ : t.size ≤ maxLen) (p_s : (s.size : Int) < 4294967281) (hG : Laid w) : Calls Tryd.prog 47 #[.string s, .string t] w (Ret w fun q _ => q = .bool (contains s.data.toList t.data.toList)) := by
  obtain ⟨m, hm⟩ := hG.len
  exact ret_of_same (Tryd.strings_Contains s t m w (by omega) hm)
/-! ### letters, by the library -/
theorem otherU_let {y : Int} (h : isLet y = true) : otherU y = if y ≤ 90 then y + 32 else y - 32 := by
  simp only [isLet, Bool.or_eq_true, decide_eq_true_eq] at h
  have hl : latin1 y = true := by rw [latin1]; exact decide_eq_true (by omega)
  rw [otherU, isUpperU, if_pos hl, isUpperL]
  by_cases hu : y ≤ 90
  · rw [if_pos (decide_eq_true (by omega)), if_pos hu, toLowerU, if_pos (by omega), if_pos (by omega)]
  · rw [if_neg (by rw [decide_eq_true_eq]; omega), if_neg hu, toUpperU, if_pos (by omega), if_pos (by omega)]
theorem fit_other {x y : Int} (hx : isLet x = true) (hy : isLet y = true) : decide (x = otherU y) = fitC x y := by
  rw [otherU_let hy, fitC]
  simp only [isLet, Bool.or_eq_true, decide_eq_true_eq] at hx hy
  congr 1
  simp only [eq_iff_iff]
  split <;> omega
/-- Is a rune one of the string's letters? -/
def hasRune (s : ByteArray) (r : Int) : Bool := decide (0 ≤ r ∧ r < 128) && decide (0 ≤ indexByte s.data.toList r.toNat.toUInt8)
theorem letS_table : ∀ c < 128, decide (0 ≤ indexByte letS.data.toList (c : Nat).toUInt8) = isLet (c : Nat) := by decide +kernel
theorem hasRune_let {r : Int} (h0 : 0 ≤ r) : hasRune letS r = isLet r := by
  rw [hasRune]
  by_cases h : r < 128
  · rw [decide_eq_true ⟨h0, h⟩, Bool.true_and]
    have := letS_table r.toNat (by omega)
    rwa [Int.toNat_of_nonneg h0] at this
  · rw [decide_eq_false (by omega), Bool.false_and]
    symm
    rw [isLet, Bool.or_eq_false_iff, decide_eq_false_iff_not, decide_eq_false_iff_not]
    omega
theorem rune_let {s : ByteArray} {p : Int} (h0 : 0 ≤ p) (h : hasRune letS (runeAt s p) = true) : runeW s p = 1 ∧ isLet (tabAt s p) = true := by
  rw [hasRune_let (runeAt_bd s p).1] at h
  have hb := isLet_bd h
  by_cases ha : tabAt s p < 128
  · have := runeAt_ascii h0 ha
    rw [this.1] at h
    exact ⟨this.2, h⟩
  · have := runeAt_other h0 (by omega : 128 ≤ tabAt s p)
    omega
theorem rune_not {s : ByteArray} {p : Int} (h0 : 0 ≤ p) (h : hasRune letS (runeAt s p) = false) : isLet (tabAt s p) = false := by
  rw [hasRune_let (runeAt_bd s p).1] at h
  cases hl : isLet (tabAt s p) with
  | false => rfl
  | true =>
    have hb := isLet_bd hl
    rw [(runeAt_ascii h0 (by omega)).1, hl] at h
    exact h
theorem index_not : ∀ (l : List UInt8) (c : UInt8), (∀ b ∈ l, b.toNat < 128) → 128 ≤ c.toNat → indexByte l c = -1
  | [], _, _, _ => rfl
  | b :: l, c, h, hc => by
    have hb := h b (List.mem_cons_self ..)
    have hne : (b == c) = false := by
      cases hq : b == c with
      | false => rfl
      | true => rw [eq_of_beq hq] at hb; omega
    rw [indexByte, hne, index_not l c (fun x hx => h x (List.mem_cons_of_mem _ hx)) hc]; rfl
theorem letS_asc : ∀ q : Int, 0 ≤ q → q < letS.size → tabAt letS q < 128 := by
  intro q h0 h1
  have h : ∀ k < 20, tabAt letS (k : Nat) < 128 := by decide +kernel
  have hs : letS.size = 20 := by decide
  have := h q.toNat (by omega)
  rwa [Int.toNat_of_nonneg h0] at this
theorem index_asc {s : ByteArray} {a b : Nat} {c : Int} (h : ∀ q : Int, 0 ≤ q → q < s.size → tabAt s q < 128) (h1 : 128 ≤ c) (h2 : c ≤ 255) : indexByte (s.extract a b).data.toList c.toNat.toUInt8 = -1 := by
  refine index_not _ _ (fun x hx => ?_) ?_
  · have hx2 : x ∈ s.data.toList := by
      rw [ByteArray.data_extract, Array.toList_extract] at hx
      exact List.mem_of_mem_drop (List.mem_of_mem_take hx)
    obtain ⟨k, hk, rfl⟩ := List.mem_iff_getElem.1 hx2
    have := h (k : Int) (by omega) (by have e : s.size = s.data.toList.length := (by simp); omega)
    rw [tabAt, Int.toNat_natCast, List.getD_eq_getElem?_getD, List.getElem?_eq_getElem hk] at this
    simp only [Option.getD_some] at this
    omega
  · rw [Nat.toUInt8, UInt8.toNat_ofNat']; omega
end Go.Proofs.YtokdjjebnomciaaDoor

namespace Go.Proofs.YtokdjjebnomciaaDoor
open Go.Wk Go.RowKit Go.Lib
set_option linter.unusedVariables false
set_option linter.unusedSimpArgs false
theorem mixedHa_ : Tryd.prog.follows .mixedOrders = true := by kernel_rfl

theorem F79 {c : Int} {w : World} (i_c : InK .i32 c) (hG : Laid w) : Calls Tryd.prog 79 #[.int .i32 c] w (Ret w (fun r _ => r = .int .i32 (otherU c))) := by
  have b_c := bd_i32 i_c
  have hS := St.start0 w
  refine enterR Tryd.func79 rfl Tryd.ntmps79 Tryd.results79 rfl ?_
  refine W.seq ?_
  refine W.reg ?_
  refine Wx.rd (v := .int .i32 0) (rd_assign rfl) rfl ?_
  refine Wx.nil ?_
  refine W.seq ?_
  refine W.seq ?_
  refine W.reg ?_
  refine Wx.rd (v := .int .i32 c) (rd_move rfl) rfl ?_
  refine Wx.callF (run_callF Tryd.call102 rfl) (F102 (in_i32 (by omega) (by omega)) (hG.ext hS.bel)) rfl ?_
  rintro r_1 w_2 hx_3 rfl
  have hS := hS.ext hx_3
  refine Wx.nil ?_
  refine W.cond rfl (fun c0 => ?_) (fun c0 => ?_)
  · -- yes
    try simp only [Bool.and_eq_true, Bool.or_eq_true, Bool.not_eq_true', Bool.and_eq_false_iff, Bool.or_eq_false_iff, Bool.not_eq_false', decide_eq_true_eq, decide_eq_false_iff_not, not_or, Bool.false_eq_true, Bool.true_eq_false, false_or, or_false, not_false_eq_true] at c0
    refine W.seq ?_
    refine W.reg ?_
    refine Wx.rd (v := .int .i32 c) (rd_move rfl) rfl ?_
    refine Wx.callF (run_callF Tryd.call103 rfl) (F103 (in_i32 (by omega) (by omega)) (hG.ext hS.bel)) rfl ?_
    rintro r_4 w_5 hx_6 rfl
    have hS := hS.ext hx_6
    refine Wx.rd (v := .int .i32 (toLowerU c)) (rd_assign rfl) rfl ?_
    refine Wx.nil ?_
    have e0_0 : (otherU c) = (toLowerU c : Int) := by rw [otherU, if_pos c0]
    exact W.ret ⟨.int .i32 (toLowerU c), ResIs.one, hS.bel, (by rw [e0_0])⟩
  · -- no
    try simp only [Bool.and_eq_true, Bool.or_eq_true, Bool.not_eq_true', Bool.and_eq_false_iff, Bool.or_eq_false_iff, Bool.not_eq_false', decide_eq_true_eq, decide_eq_false_iff_not, not_or, Bool.false_eq_true, Bool.true_eq_false, false_or, or_false, not_false_eq_true] at c0
    refine W.skip ?_
    refine W.seq ?_
    refine W.reg ?_
    refine Wx.rd (v := .int .i32 c) (rd_move rfl) rfl ?_
    refine Wx.callF (run_callF Tryd.call104 rfl) (F104 (in_i32 (by omega) (by omega)) (hG.ext hS.bel)) rfl ?_
    rintro r_7 w_8 hx_9 rfl
    have hS := hS.ext hx_9
    refine Wx.rd (v := .int .i32 (toUpperU c)) (rd_assign rfl) rfl ?_
    refine Wx.nil ?_
    have e1_0 : (otherU c) = (toUpperU c : Int) := by rw [otherU, if_neg (by rw [c0]; decide)]
    exact W.ret ⟨.int .i32 (toUpperU c), ResIs.one, hS.bel, (by rw [e1_0])⟩

theorem F61 {rim : ByteArray} {i : Int} {j : Int} {w : World} (s_rim : rim.size ≤ maxLen) (i_i : InK .i64 i) (i_j : InK .i64 j) (p_i : 0 ≤ i) (p_i2 : i < rim.size) (p_j : 0 ≤ j) (p_j2 : j < rim.size) (p_l : Lets rim) (hG : Laid w) : Calls Tryd.prog 61 #[.string rim, .int .i64 i, .int .i64 j] w (Ret w (fun r _ => r = .bool (fitR rim i j))) := by
  have b_j := bd_i64 i_j
  have b_i := bd_i64 i_i
  have hS := St.start0 w
  refine enterR Tryd.func61 rfl Tryd.ntmps61 Tryd.results61 rfl ?_
  refine W.seq ?_
  refine W.reg ?_
  refine Wx.rd (v := .bool false) (rd_assign rfl) rfl ?_
  refine Wx.nil ?_
  refine W.seq ?_
  refine W.regQ mixedHa_ (by kernel_rfl) ?_
  refine Wx.rd (v := .string rim) (rd_move rfl) rfl ?_
  refine Wx.rd (v := .int .i64 i) (rd_move rfl) rfl ?_
  refine Wx.rd (v := .int .u8 (tabAt rim i)) (rd_indexS' (by kernel_rfl) rfl Tryd.underlying9 (by omega) (by omega)) rfl ?_
  have bd_1 := tabAt_bd rim i
  refine Wx.rd (v := .int .i32 (tabAt rim i)) (rd_convIn rfl Tryd.underlying5 Tryd.underlying21 (in_i32 (by omega) (by omega))) rfl ?_
  refine Wx.rd (v := .string rim) (rd_move rfl) rfl ?_
  refine Wx.rd (v := .int .i64 j) (rd_move rfl) rfl ?_
  refine Wx.rd (v := .int .u8 (tabAt rim j)) (rd_indexS' (by kernel_rfl) rfl Tryd.underlying9 (by omega) (by omega)) rfl ?_
  have bd_2 := tabAt_bd rim j
  refine Wx.rd (v := .int .i32 (tabAt rim j)) (rd_convIn rfl Tryd.underlying5 Tryd.underlying21 (in_i32 (by omega) (by omega))) rfl ?_
  refine Wx.callV (v := .int .i32 (otherU (tabAt rim j))) (run_callF Tryd.call79 rfl) (fun w_3 hw_4 => (F79 (in_i32 (by omega) (by omega)) (hG.ext (Ext.trans hS.bel hw_4)))) rfl ?_
  refine Wx.rd (v := .bool (decide ((tabAt rim i) = (otherU (tabAt rim j))))) (rd_eql rfl rfl) rfl ?_
  refine Wx.rd (v := .bool (decide ((tabAt rim i) = (otherU (tabAt rim j))))) (rd_assign rfl) rfl ?_
  refine Wx.nilQ (fun w_5 hx_6 => ?_)
  have hS := hS.ext hx_6
  have e0_0 : (fitR rim i j) = (decide ((tabAt rim i) = (otherU (tabAt rim j)))) := by exact (fit_other (p_l i p_i p_i2) (p_l j p_j p_j2)).symm
  exact W.ret ⟨.bool (decide ((tabAt rim i) = (otherU (tabAt rim j)))), ResIs.one, hS.bel, (by rw [e0_0])⟩

theorem F90w {s : ByteArray} {r : Int} {w : World} (s_s : s.size ≤ maxLen) (i_r : InK .i32 r) (p_a : ∀ q : Int, 0 ≤ q → q < s.size → tabAt s q < 128) (p_4 : 4 ≤ s.size) (p_r : 128 ≤ r) : Calls Tryd.prog 90 #[.string s, .int .i32 r] w (Ret w (fun r _ => r = .int .i64 (-1))) := by
  have b_r := bd_i32 i_r
  have hen := encode_last p_r
  have hS := St.start0 w
  refine enterR Tryd.func90 rfl Tryd.ntmps90 Tryd.results90 rfl ?_
  refine W.seq ?_
  refine W.reg ?_
  refine Wx.rd (v := .int .i64 0) (rd_assign rfl) rfl ?_
  refine Wx.nil ?_
  refine W.block ?_
  refine W.seq ?_
  refine W.reg ?_
  refine Wx.rd (v := .int .i32 r) (rd_move rfl) rfl ?_
  refine Wx.rd (v := .bool (decide (0 ≤ r))) (rd_leq rfl rfl) rfl ?_
  refine Wx.rd (v := .bool (decide (0 ≤ r))) (rd_move rfl) rfl ?_
  refine Wx.cut (X := Unit) 3 [164, 165, 166] (fun _ => [(166, .bool (decide (0 ≤ r) && decide (r < 128)))]) (fun _ w' => St w [] w' []) ?_ ?_
  · rcases Bool.eq_false_or_eq_true (decide (0 ≤ r)) with g_1 | g_1
    · -- True
      have gp_2 := of_decide_eq_true g_1
      refine Wx.gyes rfl rfl (congrArg Value.bool g_1) ?_
      refine Wx.rd (v := .int .i32 r) (rd_move rfl) rfl ?_
      refine Wx.gyes rfl rfl (congrArg Value.bool g_1) ?_
      refine Wx.rd (v := .bool (decide (r < 128))) (rd_lss rfl rfl) rfl ?_
      refine Wx.rd (v := .bool (decide (r < 128))) (rd_pickT (congrArg Value.bool g_1) rfl) rfl ?_
      refine Wx.nil ⟨(), hS, ⟨?_, trivial⟩, Out.look rfl Out.refl⟩
      show Value.bool (decide (r < 128)) = Value.bool (decide (0 ≤ r) && decide (r < 128))
      rw [g_1]; rfl
    · -- False
      have gp_3 := of_decide_eq_false g_1
      refine Wx.gnoB rfl rfl (congrArg Value.bool g_1) rfl rfl ?_
      refine Wx.gnoB rfl rfl (congrArg Value.bool g_1) rfl rfl ?_
      refine Wx.rd (v := .bool false) (rd_pickF (congrArg Value.bool g_1) rfl) rfl ?_
      refine Wx.nil ⟨(), hS, ⟨?_, trivial⟩, Out.look rfl Out.refl⟩
      show Value.bool false = Value.bool (decide (0 ≤ r) && decide (r < 128))
      rw [g_1]; rfl
  rintro ⟨⟩ u_5 w_4 hS
  refine Wx.rd (v := .bool (decide (0 ≤ r) && decide (r < 128))) (rd_assign rfl) rfl ?_
  refine Wx.nil ?_
  refine W.condF rfl (by rw [decide_eq_false (show ¬ r < 128 by omega), Bool.and_false]) ?_
  refine W.seq ?_
  refine W.reg ?_
  refine Wx.rd (v := .int .i32 r) (rd_move rfl) rfl ?_
  refine Wx.rd (v := .bool (decide (r = 65533))) (rd_eql rfl rfl) rfl ?_
  refine Wx.rd (v := .bool (decide (r = 65533))) (rd_assign rfl) rfl ?_
  refine Wx.nil ?_
  refine W.condD rfl (fun c1 => ?_) (fun c1 => ?_)
  · -- yes
    refine W.seq ?_
    refine W.seq ?_
    refine W.reg ?_
    refine Wx.rd (v := .string s) (rd_move rfl) rfl ?_
    refine Wx.rangeS (s := s) hS rfl Tryd.underlying9 rfl (fun g_6 w_7 hx_8 hS => ?_)
    refine Wx.nil ?_
    refine W.block ?_
    refine W.loop [4, 5, 6, 176, 177, 178, 179, 180, 181, 182] (fun (q : Nat) => []) (fun (q : Nat) w' => St w [] w' [.raw g_6 (.stringIter s q)]) (fun (q : Nat) => s.size - q) 0 trivial hS ?_
    rintro q u_10 w_9 hS
    refine W.seq ?_
    refine W.reg ?_
    refine Wx.nextS hS 0 rfl rfl rfl (fun hn w_11 hz_12 hS => ?_) (fun hn => ?_)
    · -- a rune
      have hS : St _ _ w_11 [.raw g_6 (.stringIter s (q + (runeW s (q : Int)).toNat))] := hS
      have hq := p_a (q : Int) (by omega) hn
      refine Wx.rd (v := .bool true) (rd_extract rfl rfl) rfl ?_
      refine Wx.nil ?_
      refine W.seq ?_
      refine W.condT rfl rfl ?_
      refine W.skip ?_
      refine W.block ?_
      refine W.seq ?_
      refine W.reg ?_
      refine Wx.rd (v := .int .i64 (q : Int)) (rd_extract rfl rfl) rfl ?_
      refine Wx.rd (v := .int .i32 (runeAt s (q : Int))) (rd_extract rfl rfl) rfl ?_
      refine Wx.rd (v := .int .i64 (q : Int)) (rd_assign rfl) rfl ?_
      refine Wx.rd (v := .int .i32 (runeAt s (q : Int))) (rd_assign rfl) rfl ?_
      refine Wx.nil ?_
      refine W.seq ?_
      refine W.reg ?_
      refine Wx.rd (v := .int .i32 (runeAt s (q : Int))) (rd_move rfl) rfl ?_
      refine Wx.rd (v := .bool (decide ((runeAt s (q : Int)) = 65533))) (rd_eql rfl rfl) rfl ?_
      refine Wx.nil ?_
      refine W.condF rfl (decide_eq_false (by rw [(runeAt_ascii (by omega) hq).1]; omega)) ?_
      refine W.skip ?_
      refine ⟨q + (runeW s (q : Int)).toNat, (by show s.size - (q + (runeW s (q : Int)).toNat) < s.size - q; have := (runeAt_ascii (by omega) hq).2; omega), ?_, ?_, Out.look rfl Out.self⟩
      · exact hS
      · exact trivial
    · -- the end
      refine Wx.rd (v := .bool false) (rd_extract rfl rfl) rfl ?_
      refine Wx.nil ?_
      refine W.seq ?_
      refine W.condF rfl rfl ?_
      refine W.exit rfl ?_
      refine W.seq ?_
      refine W.reg ?_
      refine Wx.rd (v := .int .i64 (-1)) (rd_assign rfl) rfl ?_
      refine Wx.nil ?_
      exact W.ret ⟨.int .i64 (-1), ResIs.one, hS.bel, rfl⟩
  · -- no
    refine W.seq ?_
    refine W.reg ?_
    refine Wx.rd (v := .int .i32 r) (rd_move rfl) rfl ?_
    refine Wx.callF (run_callF Tryd.call110 rfl) (F110 (in_i32 (by omega) (by omega))) rfl ?_
    rintro r_14 w_15 hx_16 rfl
    have hS := hS.ext hx_16
    refine Wx.rd (v := .bool (!(validRune r))) (rd_not rfl) rfl ?_
    refine Wx.rd (v := .bool (!(validRune r))) (rd_assign rfl) rfl ?_
    refine Wx.nil ?_
    refine W.cond rfl (fun c4 => ?_) (fun c4 => ?_)
    · -- yes
      try simp only [Bool.and_eq_true, Bool.or_eq_true, Bool.not_eq_true', Bool.and_eq_false_iff, Bool.or_eq_false_iff, Bool.not_eq_false', decide_eq_true_eq, decide_eq_false_iff_not, not_or, Bool.false_eq_true, Bool.true_eq_false, false_or, or_false, not_false_eq_true] at c4
      refine W.seq ?_
      refine W.reg ?_
      refine Wx.rd (v := .int .i64 (-1)) (rd_assign rfl) rfl ?_
      refine Wx.nil ?_
      exact W.ret ⟨.int .i64 (-1), ResIs.one, hS.bel, rfl⟩
    · -- no
      try simp only [Bool.and_eq_true, Bool.or_eq_true, Bool.not_eq_true', Bool.and_eq_false_iff, Bool.or_eq_false_iff, Bool.not_eq_false', decide_eq_true_eq, decide_eq_false_iff_not, not_or, Bool.false_eq_true, Bool.true_eq_false, false_or, or_false, not_false_eq_true] at c4
      refine W.scope ?_
      refine W.seq ?_
      refine W.reg ?_
      refine Wx.rd (v := .int .i32 r) (rd_move rfl) rfl ?_
      refine Wx.rd (v := .string (Utf8.encode r)) (rd_convRS rfl Tryd.underlying21 Tryd.underlying9) rfl ?_
      refine Wx.rd (v := .string (Utf8.encode r)) (rd_assign rfl) rfl ?_
      refine Wx.nil ?_
      refine W.seq ?_
      refine W.reg ?_
      refine Wx.rd (v := .string (Utf8.encode r)) (rd_move rfl) rfl ?_
      refine Wx.rd (v := .int .i64 ((Utf8.encode r).size : Int)) (rd_lenS rfl Tryd.underlying9) rfl ?_
      refine Wx.rd (v := .int .i64 (((Utf8.encode r).size : Int) - 1)) (rd_sub rfl rfl (in_i64 (by omega) (by omega))) rfl ?_
      refine Wx.rd (v := .int .i64 (((Utf8.encode r).size : Int) - 1)) (rd_assign rfl) rfl ?_
      refine Wx.nil ?_
      refine W.seq ?_
      refine W.reg ?_
      refine Wx.rd (v := .int .i64 (((Utf8.encode r).size : Int) - 1)) (rd_move rfl) rfl ?_
      refine Wx.rd (v := .int .i64 (((Utf8.encode r).size : Int) - 1)) (rd_assign rfl) rfl ?_
      refine Wx.nil ?_
      refine W.seq ?_
      refine W.reg ?_
      refine Wx.rd (v := .int .i64 0) (rd_assign rfl) rfl ?_
      refine Wx.nil ?_
      refine W.seq ?_
      refine W.block ?_
      refine W.loop [4, 9, 10, 11, 12, 23, 24, 25, 26, 27, 28, 29, 30, 31, 32, 33, 34, 35, 36, 37, 38, 39, 40, 41, 42, 43, 44, 45, 46, 47, 48, 49, 50, 51, 52, 53, 54, 55, 56, 57, 58, 59, 60, 61, 62, 63, 64, 65, 66, 67, 68, 69, 70, 71, 72, 73, 74, 75, 76, 77, 78, 79, 80, 81, 82, 83, 84, 85, 86, 87, 88, 89, 90, 91, 92, 93, 94, 95, 96, 97, 98] (fun x : Int × Int => match x with | (i, fails) => [(9, .int .i64 i), (10, .int .i64 fails)]) (fun (x : Int × Int) w' => match x with | (i, fails) => St w [] w' [] ∧ i = (Utf8.encode r).size - 1) (fun x : Int × Int => match x with | (i, fails) => 0) (((Utf8.encode r).size : Int) - 1, 0) ⟨rfl, rfl, trivial⟩ ⟨hS, (by first | omega | simp)⟩ ?_
      rintro ⟨i, fails⟩ u_18 w_17 ⟨hS, h0⟩
      refine W.seq ?_
      refine W.seq ?_
      refine W.reg ?_
      refine Wx.rd (v := .int .i64 i) (rd_move rfl) rfl ?_
      refine Wx.rd (v := .string s) (rd_move rfl) rfl ?_
      refine Wx.rd (v := .int .i64 (s.size : Int)) (rd_lenS rfl Tryd.underlying9) rfl ?_
      refine Wx.rd (v := .bool (decide (i < (s.size : Int)))) (rd_lss rfl rfl) rfl ?_
      refine Wx.nil ?_
      refine W.condT rfl (decide_eq_true (by omega)) ?_
      refine W.skip ?_
      refine W.block ?_
      refine W.scope ?_
      refine W.seq ?_
      refine W.seq ?_
      refine W.regQ mixedHa_ (by kernel_rfl) ?_
      refine Wx.rd (v := .string s) (rd_move rfl) rfl ?_
      refine Wx.rd (v := .int .i64 i) (rd_move rfl) rfl ?_
      refine Wx.rd (v := .int .u8 (tabAt s i)) (rd_indexS' (by kernel_rfl) rfl Tryd.underlying9 (by omega) (by omega)) rfl ?_
      have bd_19 := tabAt_bd s i
      refine Wx.rd (v := .string (Utf8.encode r)) (rd_move rfl) rfl ?_
      refine Wx.rd (v := .int .i64 (((Utf8.encode r).size : Int) - 1)) (rd_move rfl) rfl ?_
      refine Wx.rd (v := .int .u8 (tabAt (Utf8.encode r) (((Utf8.encode r).size : Int) - 1))) (rd_indexS' (by kernel_rfl) rfl Tryd.underlying9 (by omega) (by omega)) rfl ?_
      have bd_20 := tabAt_bd (Utf8.encode r) (((Utf8.encode r).size : Int) - 1)
      refine Wx.rd (v := .bool (decide ((tabAt s i) ≠ (tabAt (Utf8.encode r) (((Utf8.encode r).size : Int) - 1))))) (rd_neq rfl rfl) rfl ?_
      refine Wx.nilQ (fun w_21 hx_22 => ?_)
      have hS := hS.ext hx_22
      refine W.condT rfl (decide_eq_true (by have := p_a i (by omega) (by omega); omega)) ?_
      refine W.seq ?_
      refine W.regQ mixedHa_ (by kernel_rfl) ?_
      refine Wx.rd (v := .string s) (rd_move rfl) rfl ?_
      refine Wx.rd (v := .int .i64 i) (rd_move rfl) rfl ?_
      refine Wx.rd (v := .int .i64 (i + 1)) (rd_add rfl rfl (in_i64 (by omega) (by omega))) rfl ?_
      refine Wx.rd (v := .string ((s).extract (i + 1).toNat s.size)) (rd_sliceS_L Tryd.underlying9 rfl rfl (by omega) (by omega)) rfl ?_
      refine Wx.rd (v := .string (Utf8.encode r)) (rd_move rfl) rfl ?_
      refine Wx.rd (v := .int .i64 (((Utf8.encode r).size : Int) - 1)) (rd_move rfl) rfl ?_
      refine Wx.rd (v := .int .u8 (tabAt (Utf8.encode r) (((Utf8.encode r).size : Int) - 1))) (rd_indexS' (by kernel_rfl) rfl Tryd.underlying9 (by omega) (by omega)) rfl ?_
      have bd_23 := tabAt_bd (Utf8.encode r) (((Utf8.encode r).size : Int) - 1)
      refine Wx.callV (v := .int .i64 (indexByte ((s).extract (i + 1).toNat s.size).data.toList (tabAt (Utf8.encode r) (((Utf8.encode r).size : Int) - 1)).toNat.toUInt8)) (run_callF Tryd.call109 rfl) (fun w_24 hw_25 => (F109 (by first | assumption | (simp only [maxLen]; omega) | (simp only [ByteArray.size_extract, ByteArray.size_append, maxLen] at *; omega) | decide) (in_u8 (by omega) (by omega)))) rfl ?_
      refine Wx.rd (v := .int .i64 (indexByte ((s).extract (i + 1).toNat s.size).data.toList (tabAt (Utf8.encode r) (((Utf8.encode r).size : Int) - 1)).toNat.toUInt8)) (rd_assign rfl) rfl ?_
      refine Wx.nilQ (fun w_26 hx_27 => ?_)
      have hS := hS.ext hx_27
      refine W.seq ?_
      refine W.seq ?_
      refine W.reg ?_
      refine Wx.rd (v := .int .i64 (indexByte ((s).extract (i + 1).toNat s.size).data.toList (tabAt (Utf8.encode r) (((Utf8.encode r).size : Int) - 1)).toNat.toUInt8)) (rd_move rfl) rfl ?_
      refine Wx.rd (v := .bool (decide ((indexByte ((s).extract (i + 1).toNat s.size).data.toList (tabAt (Utf8.encode r) (((Utf8.encode r).size : Int) - 1)).toNat.toUInt8) < 0))) (rd_lss rfl rfl) rfl ?_
      refine Wx.nil ?_
      refine W.condT rfl (decide_eq_true (by rw [index_asc p_a hen.2.2 (tab_le _ _).2]; decide)) ?_
      refine W.seq ?_
      refine W.reg ?_
      refine Wx.rd (v := .int .i64 (-1)) (rd_assign rfl) rfl ?_
      refine Wx.nil ?_
      exact W.ret ⟨.int .i64 (-1), ResIs.one, hS.bel, rfl⟩

theorem F59w {s : ByteArray} {r : Int} {w : World} (s_s : s.size ≤ maxLen) (i_r : InK .i32 r) (p_a : ∀ q : Int, 0 ≤ q → q < s.size → tabAt s q < 128) (p_4 : 4 ≤ s.size) (p_r : 128 ≤ r) : Calls Tryd.prog 59 #[.string s, .int .i32 r] w (Ret w (fun r _ => r = .bool false)) := by
  have b_r := bd_i32 i_r
  have hS := St.start0 w
  refine enterR Tryd.func59 rfl Tryd.ntmps59 Tryd.results59 rfl ?_
  refine W.seq ?_
  refine W.reg ?_
  refine Wx.rd (v := .bool false) (rd_assign rfl) rfl ?_
  refine Wx.nil ?_
  refine W.seq ?_
  refine W.reg ?_
  refine Wx.rd (v := .string s) (rd_move rfl) rfl ?_
  refine Wx.rd (v := .int .i32 r) (rd_move rfl) rfl ?_
  refine Wx.callF (run_callF Tryd.call90 rfl) (F90w (by first | assumption | (simp only [maxLen]; omega) | (simp only [ByteArray.size_extract, ByteArray.size_append, maxLen] at *; omega) | decide) (in_i32 (by omega) (by omega)) (by omega) (by omega) (by omega)) rfl ?_
  rintro r_1 w_2 hx_3 rfl
  have hS := hS.ext hx_3
  refine Wx.rd (v := .bool (decide (0 ≤ ((-1 : Int))))) (rd_geq rfl rfl) rfl ?_
  refine Wx.rd (v := .bool (decide (0 ≤ ((-1 : Int))))) (rd_assign rfl) rfl ?_
  refine Wx.nil ?_
  have e0_0 : (decide (0 ≤ ((-1 : Int)))) = false := by rfl
  exact W.ret ⟨.bool (decide (0 ≤ ((-1 : Int)))), ResIs.one, hS.bel, (by rw [e0_0])⟩
end Go.Proofs.YtokdjjebnomciaaDoor

namespace Go.Proofs.YtokdjjebnomciaaDoor
open Go.Wk Go.RowKit Go.Lib

theorem F59 {s : ByteArray} {r : Int} {w : World} (h1 : s.size ≤ maxLen) (h2 : InK .i32 r) (p_a : ∀ q : Int, 0 ≤ q → q < s.size → tabAt s q < 128) (p_4 : 4 ≤ s.size) (p_0 : 0 ≤ r) :
    Calls Tryd.prog 59 #[.string s, .int .i32 r] w (Ret w fun q _ => q = .bool (hasRune s r)) := by
  by_cases h : r < 128
  · have := ret_of_same (Tryd.strings_ContainsRune_ascii s r w p_0 h)
    rw [hasRune, decide_eq_true (And.intro p_0 h), Bool.true_and]
    exact this
  · have := F59w (w := w) h1 h2 p_a p_4 (by omega)
    rw [hasRune, decide_eq_false (fun q => h q.2), Bool.false_and]
    exact this
end Go.Proofs.YtokdjjebnomciaaDoor

namespace Go.Proofs.YtokdjjebnomciaaDoor
open Go.Wk Go.RowKit Go.Lib Go
set_option linter.unusedVariables false

/-! ### strings by their bytes -/
def byteAt (s : ByteArray) (i : Int) : UInt8 := s.data.toList.getD i.toNat 0
def mkB (l : List UInt8) : ByteArray := ⟨l.toArray⟩
def restV (s : ByteArray) : ByteArray := mkB ((takS s).2.map (byteAt s))
theorem mkB_app (a b : List UInt8) : mkB a ++ mkB b = mkB (a ++ b) := by
  rw [ByteArray.ext_iff, ByteArray.data_append]
  simp [mkB]
theorem mkB_size (a : List UInt8) : (mkB a).size = a.length := by simp [mkB, ByteArray.size]
theorem mkB_one {s : ByteArray} {i : Int} (h0 : 0 ≤ i) (h1 : i < s.size) : s.extract i.toNat (i + 1).toNat = mkB [byteAt s i] := by
  have hl : s.size = s.data.toList.length := (by simp)
  rw [ByteArray.ext_iff, ByteArray.data_extract, ← Array.toList_inj, Array.toList_extract]
  show (s.data.toList.drop i.toNat).take ((i + 1).toNat - i.toNat) = [byteAt s i]
  rw [show (i + 1).toNat - i.toNat = 1 by omega, List.drop_eq_getElem_cons (by omega), List.take_succ_cons, List.take_zero, byteAt, List.getD_eq_getElem?_getD, List.getElem?_eq_getElem (by omega)]; rfl

/-! ### the builder -/
theorem bld_start {w0 w : World} {O : List (Option Nat)} {obs : List Ob} {g : Nat} (hS : St w0 O w obs) (i : Nat) (hi : obs[i]? = some (.box g 116 [.pointer none, .slice none 0 0])) : IsBuilderF 116 5 w0.heap.size g (byteCells []) w :=
  .inl ⟨(hS.get i hi).1, .slice none 0 0, (hS.get i hi).2, ⟨rfl, .inl ⟨rfl, rfl⟩⟩, by simp [Value.ownBlock]⟩
theorem bld_block {B b : Nat} {bs : List Value} {w : World} (h : IsBuilderF 116 5 B b bs w) : ∃ cs, w.heap[b]? = some (.cells cs 116 (0, 0)) := by
  rcases h with ⟨_, v, h, _⟩ | ⟨_, v, h, _⟩ <;> exact ⟨_, h⟩
theorem bld_keep {w0 w w' : World} {O : List (Option Nat)} {b : Nat} {bs : List Value} {v : Value} {ys : List Int} (hS : St w0 O w [.row (tI .i64) 3 v ys]) (h : IsBuilderF 116 5 w0.heap.size b bs w) (hB : Below w0.heap.size w w') (hK : OthersKept 5 (some b) w w') : St w0 O w' [.row (tI .i64) 3 v ys] := by
  obtain ⟨cb, hcb⟩ := bld_block h
  obtain ⟨cs, h1, h2⟩ := hS.get 0 rfl
  refine ⟨Below.trans hS.bel hB, hS.olt, fun ob ho => ?_, hS.sep⟩
  rw [List.mem_singleton] at ho
  subst ho
  refine ⟨cs, ⟨h1.1, ?_⟩, h2⟩
  rcases h1.2 with hn | ⟨g, cap, cur, e1, e2, e3, e4⟩
  · exact .inl hn
  · refine .inr ⟨g, cap, cur, e1, e2, hK g _ e3 ?_ ?_, e4⟩
    · intro e
      injection e with e
      rw [e, hcb] at e3
      simp at e3
    · intro c fz e
      simp at e
theorem F94 {B b : Nat} {l : List UInt8} {c : Int} {u : UInt8} {w : World} (h : IsBuilderF 116 5 B b (byteCells l) w) (hc : c = (u.toNat : Int)) (hl : (l.length : Int) ≤ 1000) (hB : B ≤ w.heap.size) :
    Calls Tryd.prog 94 #[.pointer (some ⟨b, 0, none⟩), .int .u8 c] w (Bk fun r w' => r = .nilIface ∧ IsBuilderF 116 5 B b (byteCells (l ++ [u])) w' ∧ Below B w w' ∧ OthersKept 5 (some b) w w') := by
  have := Any.Builder_WriteByte_k { Tryd.lays158 with } Tryd.Builder_Extra_158 B b (byteCells l) c w h (by rw [byteCells, List.length_map]; omega) hB
  refine this.mono fun e w' hh => ?_
  obtain ⟨he, h1, h2, h3⟩ := hh
  refine ⟨_, he, rfl, .inr ?_, h2, h3⟩
  subst hc
  have e : byteCells (l ++ [u]) = byteCells l ++ [.int .u8 (u.toNat : Int)] := by simp [byteCells]
  rw [e]; exact h1
theorem F95 {B b : Nat} {l : List UInt8} {w : World} (h : IsBuilderF 116 5 B b (byteCells l) w) (hB : B ≤ w.heap.size) :
    Calls Tryd.prog 95 #[.pointer (some ⟨b, 0, none⟩)] w (Bk fun r w' => r = .string (mkB l) ∧ Below B w w') :=
  (Tryd.Builder_String_any_f B b l w h hB).mono fun e w' hh => ⟨_, hh.1, rfl, hh.2.2⟩
end Go.Proofs.YtokdjjebnomciaaDoor

namespace Go.Proofs.YtokdjjebnomciaaDoor
open Go.Wk Go

def stepsV (s : ByteArray) : List Join := if rimE s = 0 then (takS s).1 else []
def restE (s : ByteArray) : ByteArray := if rimE s = 0 then restV s else ByteArray.empty
def fullP (s : ByteArray) : Bool := decide (rimE s = 0) && (restV s == ByteArray.empty)
def inner (s : ByteArray) : ByteArray := s.extract (1 : Int).toNat ((s.size : Int) - 1).toNat
def coreT : Nat → ByteArray → ByteArray
  | 0, s => s
  | m + 1, s => if 1 < (s.size : Int) ∧ fitR s 0 ((s.size : Int) - 1) = true then coreT m (inner s) else s
def coreF (s : ByteArray) : ByteArray := coreT s.size s
def coreV (s : ByteArray) : ByteArray := if rimE s = 0 then coreF (restV s) else ByteArray.empty
theorem inner_size (s : ByteArray) : (inner s).size = s.size - 2 := by
  rw [inner, ByteArray.size_extract]; omega
theorem coreT_fuel : ∀ (m k : Nat) (s : ByteArray), s.size ≤ m → s.size ≤ k → coreT m s = coreT k s
  | 0, 0, _, _, _ => rfl
  | 0, k + 1, s, h, _ => by rw [coreT, coreT, if_neg (fun q => by omega)]
  | m + 1, 0, s, _, h => by rw [coreT, coreT, if_neg (fun q => by omega)]
  | m + 1, k + 1, s, h1, h2 => by
    have := inner_size s
    rw [coreT, coreT]
    split
    · rename_i hc
      exact coreT_fuel m k _ (by omega) (by omega)
    · rfl
theorem coreF_yes {s : ByteArray} (h : 1 < (s.size : Int) ∧ fitR s 0 ((s.size : Int) - 1) = true) : coreF (inner s) = coreF s := by
  have hi := inner_size s
  obtain ⟨m, hm⟩ : ∃ m, s.size = m + 1 := ⟨s.size - 1, by omega⟩
  rw [coreF, coreF, hm, coreT, if_pos h]
  exact coreT_fuel _ _ _ (Nat.le_refl _) (by omega)
theorem coreF_no {s : ByteArray} (h : ¬ 1 < (s.size : Int) ∨ fitR s 0 ((s.size : Int) - 1) = false) : coreF s = s := by
  rw [coreF]
  cases hm : s.size with
  | zero => rfl
  | succ m =>
    rw [coreT, if_neg]
    rintro ⟨h1, h2⟩
    rcases h with h | h
    · omega
    · rw [h2] at h; cases h
theorem tab_extract {s : ByteArray} {a b : Nat} {q : Int} (h0 : 0 ≤ q) (h1 : q < (s.extract a b).size) : tabAt (s.extract a b) q = tabAt s (a + q) := by
  rw [ByteArray.size_extract] at h1
  rw [tabAt, tabAt, ByteArray.data_extract, Array.toList_extract, List.getD_eq_getElem?_getD, List.getD_eq_getElem?_getD]
  have e : (a + q).toNat = a + q.toNat := by omega
  rw [show (s.data.toList.extract a b) = (s.data.toList.drop a).take (b - a) from rfl, List.getElem?_take, if_pos (by omega), List.getElem?_drop, e]
theorem Lets.extract {s : ByteArray} (h : Lets s) (a b : Nat) : Lets (s.extract a b) := by
  intro q h0 h1
  rw [tab_extract h0 h1]
  rw [ByteArray.size_extract] at h1
  exact h _ (by omega) (by omega)
theorem tab_mkB {l : List UInt8} {q : Int} : tabAt (mkB l) q = ((l.getD q.toNat 0).toNat : Int) := rfl
theorem Lets.rest {s : ByteArray} (h : Lets s) : Lets (restV s) := by
  intro q h0 h1
  rw [restV, mkB_size, List.length_map] at h1
  rw [restV, tab_mkB, List.getD_eq_getElem?_getD, List.getElem?_map, List.getElem?_eq_getElem (by omega)]
  have := takS_bd (s := s).1 _ (List.getElem_mem (l := (takS s).2) (n := q.toNat) (by omega))
  exact h _ this.1 this.2
theorem rest_size {s : ByteArray} : ((restV s).size : Int) ≤ s.size := by
  have := (takS_bd (s := s)).2
  rw [restV, mkB_size, List.length_map]
  omega
def turnE (s : ByteArray) (by' : Int) : Int := if rimE s ≠ 0 then rimE s else if by' < 0 ∨ (0 < by' ∧ (s.size : Int) ≤ by') then 1 else 0
def turnS (s : ByteArray) (by' : Int) : ByteArray := if turnE s by' = 0 then s.extract by'.toNat s.size ++ s.extract 0 by'.toNat else ByteArray.empty
theorem turn_err {s : ByteArray} {d : Int} (h : rimE s ≠ 0) : turnS s d = ByteArray.empty ∧ turnE s d = rimE s := by
  have e : turnE s d = rimE s := if_pos h
  exact ⟨by rw [turnS, e, if_neg h], e⟩
theorem turn_bad {s : ByteArray} {d : Int} (h : rimE s = 0) (hd : d < 0 ∨ (0 < d ∧ (s.size : Int) ≤ d)) : turnS s d = ByteArray.empty ∧ turnE s d = 1 := by
  have e : turnE s d = 1 := by rw [turnE, if_neg (by omega), if_pos hd]
  exact ⟨by rw [turnS, e, if_neg (by decide)], e⟩
theorem turn_ok {s : ByteArray} {d : Int} (h : rimE s = 0) (hd : ¬ (d < 0 ∨ (0 < d ∧ (s.size : Int) ≤ d))) : turnS s d = s.extract d.toNat s.size ++ s.extract 0 d.toNat ∧ turnE s d = 0 := by
  have e : turnE s d = 0 := by rw [turnE, if_neg (by omega), if_neg hd]
  exact ⟨by rw [turnS, if_pos e], e⟩
theorem inner_lt {s : ByteArray} (h : 1 < (s.size : Int)) : ByteArray.size (s.extract (1 : Int).toNat ((s.size : Int) - 1).toNat) < ByteArray.size s := by
  have := inner_size s
  rw [inner] at this
  omega
theorem inner_le {s : ByteArray} (h : (s.size : Int) ≤ 12) : ((s.extract (1 : Int).toNat ((s.size : Int) - 1).toNat).size : Int) ≤ 12 := by
  have := inner_size s
  rw [inner] at this
  omega
end Go.Proofs.YtokdjjebnomciaaDoor

namespace Go.Wk
open Go.RowKit Go.Lib
set_option linter.unusedVariables false

theorem reps_int {k : IntKind} {F : List (Option Nat)} {w : World} {ys : List Int} {cs : List Value} (h : Reps (tI k) F w ys cs) : cs = ys.map (Value.int k) := by
  have hl : cs.length = ys.length * 1 := h.1
  refine List.ext_getElem? fun i => ?_
  by_cases hi : i < ys.length
  · obtain ⟨h1, _⟩ := h.2 i _ (List.getElem?_eq_getElem hi)
    have h2 : (cs.drop (i * 1)).take 1 = [.int k ys[i]] := h1
    rw [Nat.mul_one] at h2
    have h3 : ((cs.drop i).take 1)[0]? = some (.int k ys[i]) := by rw [h2]; rfl
    rw [List.getElem?_take, if_pos (by decide), List.getElem?_drop, Nat.add_zero] at h3
    rw [h3, List.getElem?_map, List.getElem?_eq_getElem hi]; rfl
  · rw [List.getElem?_eq_none (by omega), List.getElem?_eq_none (by rw [List.length_map]; omega)]

section
variable {P : Program} {n : Nat} {k : Cont} {σ σ0 : Fr} {w w0 : World} {O : List (Option Nat)} {obs : List Ob} {x : Operand} {ty T : TypeId} {l : List (Nat × Value)} {d : Tmp} {pos : String} {af : Array Edge} {ops : Array Oper} {rest : List Oper}

/-- []rune(s). -/
theorem Wx.runes {src dst e : TypeId} {s : ByteArray} {ys : List Int} (hS : St w0 O w obs) (hx : ev (look l σ0) x = .string s) (hs : P.underlying src = some .string) (hd' : P.underlying dst = some (.slice e)) (he : P.underlying e = some (.int .i32))
    (hr : Conv.runesFrom s s.size 0 #[] = (ys.map (Value.int .i32)).toArray) (hk : ∀ y ∈ ys, InK .i32 y) (hl : ys.length ≤ 1000000) (hd : Nat.ble (d + 1) n = true)
    (h : ∀ v w', Ext w w' → St w0 O w' (.row (tI .i32) e v ys :: obs) → Wx P n ops false rest k (look ((d, v) :: l) σ0) w') :
    Wx P n ops false (⟨some d, .convert src dst x, ty, pos, af, none⟩ :: rest) k (look l σ0) w := by
  have hsz : (Conv.runesFrom s s.size 0 #[]).size = ys.length := by rw [hr]; simp
  have hrun := run_runes_of_string (P := P) w src dst e s hs hd' he (by rw [hsz]; omega)
  rw [hsz, hr] at hrun
  have hge := grownCap_ge w ys.length 0 e
  have hle := grownCap_le_maxLen w ys.length 0 e (by simp only [maxLen]; omega)
  have hx2 : ∀ c, Ext w (w.drew.alloc c) := fun c => ((Below.refl w.heap.size w).drew).alloc (by simp) _
  refine Wx.val (v := .slice (some ⟨w.heap.size, 0, none⟩) ys.length (grownCap w ys.length 0 e)) (w' := w.drew.alloc (.cells ((ys.map (Value.int .i32)).toArray ++ Array.replicate (grownCap w ys.length 0 e - ys.length) (.int .i32 0)) e)) ?_ hd (h _ _ (hx2 _) (hS.push (hx2 _) _ (fun b hb => ?_) (fun F hM => ⟨ys.map (Value.int .i32), ⟨by simp [tI], .inr ⟨w.heap.size, _, _, rfl, hS.bel.size, heap_alloc_new w.drew _, hge, hle, ?_, ?_⟩⟩, ⟨by simp [tI], fun i y hy => ?_⟩⟩)))
  · simp [xop, execOp, hx, hrun]
  · simp [Ob.blk, Value.ownBlock] at hb; omega
  · simp only [Array.size_append, List.size_toArray, List.length_map, Array.size_replicate]
    show _ = _ * 1
    omega
  · have hn : (tI IntKind.i32).n = 1 := rfl
    rw [hn, Nat.mul_one, Array.toList_append, List.take_append_of_le_length (by simp)]
    exact List.take_of_length_le (by simp)
  · refine ⟨?_, hk y (List.mem_of_getElem? hy)⟩
    show (List.drop (i * 1) (ys.map (Value.int .i32))).take 1 = _
    obtain ⟨hi, rfl⟩ := List.getElem?_eq_some_iff.1 hy
    rw [Nat.mul_one, List.drop_eq_getElem_cons (by simpa using hi), List.take_succ_cons, List.take_zero, List.getElem_map]

/-- string(rs), of a slice of the call's own. -/
theorem rd_runesStr {src dst e et : TypeId} {v : Value} {ys : List Int} (hS : St w0 O w obs) (i : Nat) (hi : obs[i]? = some (.row (tI .i32) et v ys)) (hx : ev σ x = v) (hs : P.underlying src = some (.slice e)) (he : P.underlying e = some (.int .i32)) (hd : P.underlying dst = some .string) :
    Rd P σ (.convert src dst x) ty w (.string (runesBytes ys)) := by
  obtain ⟨cs, hr, hR⟩ := hS.get i hi
  have hcs := reps_int hR
  rcases hr.2 with ⟨rfl, hn⟩ | ⟨g, cap, cur, rfl, q1, q2, q3, q4, q5, q6⟩
  · have : ys = [] := List.eq_nil_of_length_eq_zero hn
    subst this
    exact Rd.of fun w' => by
      simp only [xop, execOp, hx, Sem.run_bind, run_convert_runes_nil (P := P) w' src dst e 0 0 hs he hd]
      rfl
  · intro w' hw'
    have hc := run_convert_runes (P := P) w' src dst e ⟨g, 0, none⟩ ys.length cap ys (Nat.le_refl _) hs he hd (fun j hj => by
      have hg : w'.heap[g]? = some (.cells cur et (0, 0)) := (hw'.block g (Array.getElem?_eq_some_iff.1 q2).1).trans q2
      rw [Addr.add_lit, Nat.zero_add, cell_of_row w' g j _ et (0, 0) hg]
      have h6 : cur.toList.take (ys.length * 1) = ys.map (Value.int .i32) := by rw [← hcs]; exact q6
      rw [Nat.mul_one] at h6
      have h7 : (cur.toList.take ys.length)[j]? = some (.int .i32 (ys.getD j 0)) := by
        rw [h6, List.getElem?_map, List.getElem?_eq_getElem hj, List.getD_eq_getElem?_getD, List.getElem?_eq_getElem hj]; rfl
      rw [List.getElem?_take, if_pos hj] at h7
      simpa using h7)
    rw [List.take_of_length_le (Nat.le_refl _)] at hc
    simp only [xop, execOp, hx, Sem.run_bind, hc]
    rfl
end
end Go.Wk

namespace Go.Proofs.YtokdjjebnomciaaDoor
open Go.Wk Go.RowKit Go.Lib Go
set_option linter.unusedVariables false

/-- A letter's opposite. -/
def swB (b : UInt8) : UInt8 := if b.toNat ≤ 90 then (b.toNat + 32).toUInt8 else (b.toNat - 32).toUInt8
def LetB (b : UInt8) : Prop := isLet (b.toNat : Int) = true
theorem lets_mem {s : ByteArray} (h : Lets s) : ∀ b ∈ s.data.toList, LetB b := by
  intro b hb
  obtain ⟨k, hk, rfl⟩ := List.mem_iff_getElem.1 hb
  have e : s.size = s.data.toList.length := (by simp)
  have := h (k : Int) (by omega) (by omega)
  rw [tabAt, Int.toNat_natCast, List.getD_eq_getElem?_getD, List.getElem?_eq_getElem hk] at this
  exact this
theorem lets_of {l : List UInt8} (h : ∀ b ∈ l, LetB b) : Lets (mkB l) := by
  intro q h0 h1
  rw [mkB_size] at h1
  rw [tab_mkB, List.getD_eq_getElem?_getD, List.getElem?_eq_getElem (by omega)]
  exact h _ (List.getElem_mem _)
theorem swB_all : ∀ i < 256, isLet ((i : Nat) : Int) = true → (swB (UInt8.ofNat i)).toNat = (if i ≤ 90 then i + 32 else i - 32) ∧ isLet (((swB (UInt8.ofNat i)).toNat : Nat) : Int) = true ∧ swB (swB (UInt8.ofNat i)) = UInt8.ofNat i := by decide +kernel
theorem swB_let {b : UInt8} (h : LetB b) : (swB b).toNat = (if b.toNat ≤ 90 then b.toNat + 32 else b.toNat - 32) ∧ LetB (swB b) ∧ swB (swB b) = b := by
  have := swB_all b.toNat (UInt8.toNat_lt b) h
  rwa [UInt8.ofNat_toNat] at this
theorem other_sw {b : UInt8} (h : LetB b) : otherU (b.toNat : Int) = ((swB b).toNat : Int) := by
  rw [otherU_let h, (swB_let h).1]
  have := isLet_bd h
  split
  · rw [if_pos (by omega)]; omega
  · rw [if_neg (by omega)]; omega
theorem let_lt {b : UInt8} (h : LetB b) : b.toNat < 128 := by have := isLet_bd h; omega
theorem decode_let {b : UInt8} {l : List UInt8} (h : LetB b) : decodeL (b :: l) = (b.toNat, 1) := by
  have ht : tabAt (mkB (b :: l)) ((0 : Nat) : Int) = (b.toNat : Int) := rfl
  rcases decode_cases (mkB (b :: l)) 0 with h1 | h1
  · rw [decodeL]
    show Utf8.decode (mkB (b :: l)) 0 = _
    rw [h1.2, ht]; rfl
  · have := let_lt h
    rw [ht] at h1; omega
theorem encode_let {b : UInt8} (h : LetB b) : encodeRune ((b.toNat : Nat) : Int) = [b] := by
  have := let_lt h
  rw [encodeRune, encodeRuneZ_one (by omega) (by omega)]
  simp
theorem mapGo_let : ∀ (m : Nat) (l : List UInt8), l.length ≤ m → (∀ b ∈ l, LetB b) → mapGoD otherU m l = l.map swB
  | 0, l, hm, h => by rw [List.eq_nil_of_length_eq_zero (by omega : l.length = 0)]; rfl
  | m + 1, [], _, _ => rfl
  | m + 1, b :: l, hm, h => by
    have hb := h b (List.mem_cons_self ..)
    rw [mapGoD, if_neg (by simp), decode_let hb, other_sw hb, if_pos (by omega), encode_let (swB_let hb).2.1, List.drop_succ_cons, List.drop_zero, mapGo_let m l (by simpa using hm) (fun c hc => h c (List.mem_cons_of_mem _ hc))]
    rfl
theorem map_let {l : List UInt8} (h : ∀ b ∈ l, LetB b) : mapD otherU l = l.map swB := mapGo_let _ l (Nat.le_refl _) h
theorem other_range (x : Nat) (hx : x ≤ 1114111) : -2147483648 ≤ otherU x ∧ otherU x ≤ 2147483647 := by
  rw [otherU]
  split
  · have := toLowerU_range x hx; omega
  · have := toUpperU_range x hx; omega
theorem F78 {s : ByteArray} {w : World} (_ : s.size ≤ maxLen) (p_s : (s.size : Int) ≤ 1000) (hG : Laid w) : Calls Tryd.prog 78 #[.func (.func 79) #[] #[], .string s] w (Ret w fun q _ => q = .string (mkB (mapD otherU s.data.toList))) :=
  ret_of_below (Tryd.strings_Map_grows 79 #[] Tryd.call79 otherU s w (by omega) (fun W x hx hb => (F79 (c := (x : Int)) (w := W) (in_i32 (by omega) (by omega)) (hG.ext hb)).mono fun e w' ⟨r, he, hx, hr⟩ => ⟨by rw [he, hr], hx⟩) other_range hG.utf)

/-! ### runes -/
theorem runesFrom_let (s : ByteArray) (h : Lets s) : ∀ (m p : Nat) (acc : Array Value), p + m = s.size → Conv.runesFrom s m p acc = acc ++ ((s.data.toList.drop p).map fun b => Value.int .i32 (b.toNat : Int)).toArray
  | 0, p, acc, hp => by
    have e : s.size = s.data.toList.length := (by simp)
    rw [List.drop_eq_nil_of_le (by omega)]
    simp [Conv.runesFrom]
  | m + 1, p, acc, hp => by
    have e : s.size = s.data.toList.length := (by simp)
    have hlt : p < s.data.toList.length := by omega
    have hl := h (p : Int) (by omega) (by omega)
    have hb := isLet_bd hl
    have ht : tabAt s (p : Int) = ((s.data.toList[p]).toNat : Int) := by
      rw [tabAt, Int.toNat_natCast, List.getD_eq_getElem?_getD, List.getElem?_eq_getElem hlt]; rfl
    rcases decode_cases s p with h1 | h1
    · rw [Conv.runesFrom, if_pos (by omega), h1.2, List.drop_eq_getElem_cons hlt, List.map_cons]
      show Conv.runesFrom s m (p + 1) _ = _
      rw [runesFrom_let s h m (p + 1) _ (by omega), ht]
      apply Array.ext'
      simp
    · rw [show ((p : Nat) : Int) = (p : Int) from rfl] at h1; omega
def runesI (l : List UInt8) : List Int := l.map fun b => (b.toNat : Int)
theorem runes_let {s : ByteArray} (h : Lets s) : Conv.runesFrom s s.size 0 #[] = ((runesI s.data.toList).map (Value.int .i32)).toArray := by
  rw [runesFrom_let s h s.size 0 #[] (by omega), List.drop_zero, runesI, List.map_map]
  simp [Function.comp_def]
theorem encode_one {b : UInt8} (h : LetB b) : Utf8.encode (b.toNat : Int) = mkB [b] := by
  have hlt := let_lt h
  have : ∀ i < 128, Utf8.encode ((i : Nat) : Int) = mkB [UInt8.ofNat i] := by decide +kernel
  have := this b.toNat hlt
  rwa [UInt8.ofNat_toNat] at this
theorem fold_runes : ∀ (l p : List UInt8), (∀ b ∈ l, LetB b) → (runesI l).foldl (fun r n => r ++ Utf8.encode n) (mkB p) = mkB (p ++ l)
  | [], p, _ => by rw [List.append_nil]; rfl
  | b :: l, p, h => by
    show (runesI l).foldl _ (mkB p ++ Utf8.encode (b.toNat : Int)) = _
    rw [encode_one (h b (List.mem_cons_self ..)), mkB_app, fold_runes l _ (fun c hc => h c (List.mem_cons_of_mem _ hc)), List.append_assoc]; rfl
theorem runesBytes_let {l : List UInt8} (h : ∀ b ∈ l, LetB b) : runesBytes (runesI l) = mkB l := fold_runes l [] h
/-- The opposite of a rim. -/
def oppS (s : ByteArray) : ByteArray := mkB (s.data.toList.map swB).reverse
def oppV (s : ByteArray) : ByteArray := if rimE s = 0 then oppS s else ByteArray.empty
theorem opp_lets {s : ByteArray} (h : Lets s) : ∀ b ∈ s.data.toList.map swB, LetB b := by
  intro b hb
  obtain ⟨c, hc, rfl⟩ := List.mem_map.1 hb
  exact (swB_let (lets_mem h c hc)).2.1
end Go.Proofs.YtokdjjebnomciaaDoor

namespace Go.Proofs.YtokdjjebnomciaaDoor
open Go.Wk Go

/-- A list whose first and last i elements are turned round. -/
def revS (ys : List Int) (i : Int) : List Int := (List.range ys.length).map fun (q : Nat) => if (q : Int) < i ∨ (ys.length : Int) - 1 - i < q then ix 0 ys ((ys.length : Int) - 1 - q) else ix 0 ys q
theorem revS_len (ys : List Int) (i : Int) : (revS ys i).length = ys.length := by simp [revS]
theorem revS_ix {ys : List Int} {i q : Int} (h0 : 0 ≤ q) (h : q < ys.length) : ix 0 (revS ys i) q = if q < i ∨ (ys.length : Int) - 1 - i < q then ix 0 ys ((ys.length : Int) - 1 - q) else ix 0 ys q := by
  have e : ((q.toNat : Nat) : Int) = q := Int.toNat_of_nonneg h0
  rw [ix, List.getD_eq_getElem?_getD, revS, List.getElem?_map, List.getElem?_range (by omega)]
  simp only [Option.map_some, Option.getD_some, e]
theorem ext_ix {xs ys : List Int} (hl : xs.length = ys.length) (h : ∀ q : Int, 0 ≤ q → q < xs.length → ix 0 xs q = ix 0 ys q) : xs = ys := by
  refine List.ext_getElem hl fun i h1 h2 => ?_
  have := h i (by omega) (by omega)
  rwa [ix, ix, List.getD_eq_getElem?_getD, List.getD_eq_getElem?_getD, Int.toNat_natCast, List.getElem?_eq_getElem h1, List.getElem?_eq_getElem h2] at this
theorem revS_start (ys : List Int) : revS ys 0 = ys := by
  refine ext_ix (revS_len ys 0) fun q h0 h1 => ?_
  rw [revS_len] at h1
  rw [revS_ix h0 h1, if_neg (by omega)]
theorem revS_step {ys : List Int} {i j : Int} (h0 : 0 ≤ i) (h : i < j) (hj : j = (ys.length : Int) - 1 - i) :
    ((revS ys i).set i.toNat (ix 0 (revS ys i) j)).set j.toNat (ix 0 (revS ys i) i) = revS ys (i + 1) := by
  have hl := revS_len ys i
  refine ext_ix (by simp [revS_len]) fun q q0 q1 => ?_
  simp only [List.length_set, hl] at q1
  have e1 : ix 0 (revS ys i) j = ix 0 ys j := by rw [revS_ix (by omega) (by omega), if_neg (by omega)]
  have e2 : ix 0 (revS ys i) i = ix 0 ys i := by rw [revS_ix (by omega) (by omega), if_neg (by omega)]
  rw [ix_set (by omega) (by simp only [List.length_set, hl]; omega) q0, ix_set h0 (by omega) q0, e1, e2, revS_ix (i := i) q0 q1, revS_ix (i := i + 1) q0 q1]
  by_cases h1 : q = j
  · rw [if_pos h1, if_pos (by omega)]; congr 1; omega
  · rw [if_neg h1]
    by_cases h2 : q = i
    · rw [if_pos h2, if_pos (by omega)]; congr 1; omega
    · rw [if_neg h2]
      by_cases h3 : q < i ∨ (ys.length : Int) - 1 - i < q
      · rw [if_pos h3, if_pos (by omega)]
      · rw [if_neg h3, if_neg (by omega)]
theorem ix_rev {ys : List Int} {q : Int} (h0 : 0 ≤ q) (h : q < ys.length) : ix 0 ys.reverse q = ix 0 ys ((ys.length : Int) - 1 - q) := by
  rw [ix, ix, List.getD_eq_getElem?_getD, List.getD_eq_getElem?_getD, List.getElem?_reverse (by omega)]
  congr 2; omega
theorem revS_end {ys : List Int} {i : Int} (h : (ys.length : Int) - 1 - i ≤ i) : revS ys i = ys.reverse := by
  refine ext_ix (by simp [revS_len]) fun q h0 h1 => ?_
  rw [revS_len] at h1
  rw [revS_ix h0 h1, ix_rev h0 h1]
  by_cases h3 : q < i ∨ (ys.length : Int) - 1 - i < q
  · rw [if_pos h3]
  · rw [if_neg h3]; congr 1; omega

theorem opp_runes {s : ByteArray} : (runesI (s.data.toList.map swB)).reverse = runesI (s.data.toList.map swB).reverse := by rw [runesI, runesI, List.map_reverse]
/-! ### the reference's letters -/
/-! ### alike -/
theorem coreT_size : ∀ (m : Nat) (s : ByteArray), (coreT m s).size ≤ s.size
  | 0, s => Nat.le_refl _
  | m + 1, s => by
    rw [coreT]
    split
    · have := coreT_size m (inner s)
      have := inner_size s
      omega
    · exact Nat.le_refl _
theorem coreF_size (s : ByteArray) : (coreF s).size ≤ s.size := coreT_size _ s
theorem coreV_size (s : ByteArray) : ((coreV s).size : Int) ≤ 12 := by
  rw [coreV]
  split
  · rename_i h
    have h1 := (rimE_ok h).1
    have h2 := rest_size (s := s)
    have h3 := coreF_size (restV s)
    omega
  · show (0 : Int) ≤ 12; decide
def alikeE (a b : ByteArray) : Int := if rimE a = 0 then rimE b else rimE a
def alikeP (a b : ByteArray) : Bool := if alikeE a b = 0 then decide (((coreV a).size : Int) = (coreV b).size) && Go.Lib.contains (coreV a ++ coreV a).data.toList (coreV b).data.toList else false
end Go.Proofs.YtokdjjebnomciaaDoor

namespace Go.Proofs.YtokdjjebnomciaaDoor
open Go.Wk Go
set_option linter.unusedVariables false

def cutS (s : ByteArray) (a b : Int) : ByteArray := s.extract 0 a.toNat ++ s.extract (b + 1).toNat s.size
def frcN (s : ByteArray) (x : Join) : Bool := decide ((partP (fitR s) (x.1 + 1) x.2).2 * (allV (cutS s x.1 x.2)).2 = (allV s).2)
def forcedP (s : ByteArray) : List Join := if rimE s = 0 then (firstP (fitR s) 0 s.size).filter (frcN s) else []
theorem tab_app {s t : ByteArray} {q : Int} (h0 : 0 ≤ q) : tabAt (s ++ t) q = if q < s.size then tabAt s q else tabAt t (q - s.size) := by
  have hl : s.size = s.data.toList.length := (by simp)
  rw [tabAt, ByteArray.data_append, Array.toList_append, List.getD_eq_getElem?_getD]
  split
  · rw [List.getElem?_append_left (by omega), tabAt, List.getD_eq_getElem?_getD]
  · rw [List.getElem?_append_right (by omega), tabAt, List.getD_eq_getElem?_getD, show q.toNat - s.data.toList.length = (q - (s.size : Int)).toNat by omega]
theorem Lets.app {s t : ByteArray} (h : Lets s) (k : Lets t) : Lets (s ++ t) := by
  intro q h0 h1
  rw [ByteArray.size_append] at h1
  rw [tab_app h0]
  split
  · exact h q h0 (by omega)
  · exact k _ (by omega) (by omega)
theorem Lets.cut {s : ByteArray} (h : Lets s) (a b : Int) : Lets (cutS s a b) := (h.extract _ _).app (h.extract _ _)
theorem cut_size {s : ByteArray} {a b : Int} (h0 : 0 ≤ a) (h1 : a < b) (h2 : b < s.size) : ((cutS s a b).size : Int) = s.size - (b - a + 1) := by
  rw [cutS, ByteArray.size_append, ByteArray.size_extract, ByteArray.size_extract]; omega
theorem allV_bd {s : ByteArray} (h : (s.size : Int) ≤ 12) : 0 ≤ (allV s).1 ∧ (allV s).1 ≤ 100 ∧ 0 ≤ (allV s).2 ∧ (allV s).2 ≤ 16777216 := partP_bd (Int.le_refl 0) h

/-! ### deleting in its own place -/
variable {f : Join → Bool}
def idxF (f : Join → Bool) : List Join → Int → Int
  | [], _ => -1
  | x :: l, k => if f x = true then idxF f l (k + 1) else k
theorem idxF_yes {l : List Join} {k : Int} (h0 : 0 ≤ k) (h1 : k < l.length) (h2 : idxF f (l.drop k.toNat) k = idxF f l 0) (h : f (ix (0, 0) l k) = true) : idxF f (l.drop (k + 1).toNat) (k + 1) = idxF f l 0 := by
  rw [← h2, drop_ix (d := (0, 0)) h0 h1, idxF, if_pos h]
theorem idxF_no {l : List Join} {k : Int} (h0 : 0 ≤ k) (h1 : k < l.length) (h2 : idxF f (l.drop k.toNat) k = idxF f l 0) (h : f (ix (0, 0) l k) = false) : idxF f l 0 = k := by
  rw [← h2, drop_ix (d := (0, 0)) h0 h1, idxF, if_neg (by rw [h]; decide)]
theorem idxF_end {l : List Join} {k : Int} (h1 : (l.length : Int) ≤ k) (h2 : idxF f (l.drop k.toNat) k = idxF f l 0) : idxF f l 0 = -1 := by
  rw [← h2, drop_end h1]; rfl
theorem idxF_spec : ∀ (l : List Join) (k : Int), 0 ≤ k → (idxF f l k = -1 ∧ ∀ x ∈ l, f x = true) ∨ (∃ p x r, l = p ++ x :: r ∧ idxF f l k = k + p.length ∧ (∀ y ∈ p, f y = true) ∧ f x = false)
  | [], k, _ => .inl ⟨rfl, by simp⟩
  | x :: l, k, h0 => by
    by_cases h : f x = true
    · rw [idxF, if_pos h]
      rcases idxF_spec l (k + 1) (by omega) with ⟨h1, h2⟩ | ⟨p, y, r, h1, h2, h3, h4⟩
      · exact .inl ⟨h1, fun y hy => by
          rcases List.mem_cons.1 hy with rfl | hy
          · exact h
          · exact h2 y hy⟩
      · refine .inr ⟨x :: p, y, r, by rw [h1]; rfl, by rw [h2, List.length_cons]; omega, fun z hz => ?_, h4⟩
        rcases List.mem_cons.1 hz with rfl | hz
        · exact h
        · exact h3 z hz
    · rw [idxF, if_neg h]
      exact .inr ⟨[], x, l, rfl, by simp, by simp, by simpa using h⟩
theorem del_none {l : List Join} (h : idxF f l 0 = -1) : l.filter f = l := by
  rcases idxF_spec (f := f) l 0 (Int.le_refl 0) with ⟨_, h2⟩ | ⟨p, x, r, _, h2, _, _⟩
  · exact List.filter_eq_self.2 h2
  · omega
theorem del_start {l : List Join} (h : idxF f l 0 ≠ -1) : 0 ≤ idxF f l 0 ∧ idxF f l 0 < l.length ∧ l.take (idxF f l 0).toNat = (l.take (idxF f l 0 + 1).toNat).filter f := by
  rcases idxF_spec (f := f) l 0 (Int.le_refl 0) with ⟨h1, _⟩ | ⟨p, x, r, h1, h2, h3, h4⟩
  · exact absurd h1 h
  · rw [h2, h1]
    refine ⟨by omega, by simp; omega, ?_⟩
    rw [show (0 + (p.length : Int)).toNat = p.length by omega, show (0 + (p.length : Int) + 1).toNat = p.length + 1 by omega, List.take_left, List.take_append, List.take_of_length_le (by omega), Nat.add_sub_cancel_left, List.take_succ_cons, List.take_zero, List.filter_append, List.filter_eq_self.2 h3, List.filter_cons, if_neg (by rw [h4]; decide)]
    simp
theorem del_ix {l z : List Join} {j : Int} (h0 : 0 ≤ j) (h1 : j < l.length) (hl : z.length = l.length) (hD : z.drop j.toNat = l.drop j.toNat) : ix (0, 0) z j = ix (0, 0) l j := by
  rw [drop_ix (d := (0, 0)) h0 (by omega), drop_ix (d := (0, 0)) h0 h1] at hD
  exact (List.cons.inj hD).1
theorem del_yes {l z : List Join} {i j : Int} (i0 : 0 ≤ i) (hij : i < j) (h1 : j < l.length) (hl : z.length = l.length) (hT : z.take i.toNat = (l.take j.toNat).filter f) (hD : z.drop j.toNat = l.drop j.toNat) (h : f (ix (0, 0) z j) = true) :
    (z.set i.toNat (ix (0, 0) z j)).take (i + 1).toNat = (l.take (j + 1).toNat).filter f ∧ (z.set i.toNat (ix (0, 0) z j)).drop (j + 1).toNat = l.drop (j + 1).toNat := by
  have hx := del_ix (by omega) h1 hl hD
  constructor
  · rw [take_ix (d := (0, 0)) i0 (by rw [List.length_set]; omega), List.take_set_of_le (by omega), hT, ix_set i0 (by omega) i0, if_pos rfl, take_ix (d := (0, 0)) (j := j) (by omega) h1, List.filter_append, hx, List.filter_cons, if_pos (by rw [← hx]; exact h)]; rfl
  · rw [List.drop_set_of_lt (by omega), show (j + 1).toNat = j.toNat + 1 by omega, ← List.drop_drop, hD, List.drop_drop]
theorem del_no {l z : List Join} {i j : Int} (j0 : 0 ≤ j) (h1 : j < l.length) (hl : z.length = l.length) (hT : z.take i.toNat = (l.take j.toNat).filter f) (hD : z.drop j.toNat = l.drop j.toNat) (h : ¬ f (ix (0, 0) z j) = true) :
    z.take i.toNat = (l.take (j + 1).toNat).filter f ∧ z.drop (j + 1).toNat = l.drop (j + 1).toNat := by
  have hx := del_ix j0 h1 hl hD
  constructor
  · rw [hT, take_ix (d := (0, 0)) j0 h1, List.filter_append, List.filter_cons, if_neg (by rw [← hx]; exact h)]; simp
  · rw [show (j + 1).toNat = j.toNat + 1 by omega, ← List.drop_drop, hD, List.drop_drop]
end Go.Proofs.YtokdjjebnomciaaDoor

namespace Go.Proofs.YtokdjjebnomciaaDoor
set_option linter.unusedVariables false

variable {F G : Int → Int → Bool}

def ins (x : Join) : List Join → List Join
  | [] => [x]
  | y :: l => if x.1 < y.1 then x :: y :: l else y :: ins x l
def isort (l : List Join) : List Join := l.foldr ins []
/-- Two joins that neither cross nor share an edge: one begins first, and lies before the other or around it. -/
def freeJ (x y : Join) : Prop := apartJ x y ∨ apartJ y x
theorem ins_perm (x : Join) : ∀ l, (ins x l).Perm (x :: l)
  | [] => .refl _
  | y :: l => by
    rw [ins]; split
    · exact .refl _
    · exact ((ins_perm x l).cons y).trans (.swap x y l)
theorem isort_perm : ∀ l, (isort l).Perm l
  | [] => .refl _
  | x :: l => (ins_perm x (isort l)).trans ((isort_perm l).cons x)
theorem ins_pair {x : Join} : ∀ {l : List Join}, l.Pairwise apartJ → (∀ y ∈ l, freeJ x y) → (ins x l).Pairwise apartJ
  | [], _, _ => List.pairwise_singleton _ _
  | y :: l, h, hf => by
    have hy := hf y List.mem_cons_self
    obtain ⟨h1, h2⟩ := List.pairwise_cons.1 h
    rw [ins]; split
    · next hlt =>
      refine List.pairwise_cons.2 ⟨fun z hz => ?_, h⟩
      rcases hf z hz with q | q
      · exact q
      · exfalso
        have := q.1
        rcases List.mem_cons.1 hz with rfl | hz
        · omega
        · have := (h1 z hz).1; omega
    · next hlt =>
      refine List.pairwise_cons.2 ⟨fun z hz => ?_, ins_pair h2 fun z hz => hf z (List.mem_cons_of_mem _ hz)⟩
      rcases List.mem_cons.1 ((ins_perm x l).mem_iff.1 hz) with rfl | hz
      · rcases hy with q | q
        · exact absurd q.1 hlt
        · exact q
      · exact h1 z hz
theorem isort_pair : ∀ {l : List Join}, l.Pairwise freeJ → (isort l).Pairwise apartJ
  | [], _ => .nil
  | x :: l, h => by
    obtain ⟨h1, h2⟩ := List.pairwise_cons.1 h
    exact ins_pair (isort_pair h2) fun y hy => h1 y ((isort_perm l).mem_iff.1 hy)
theorem isort_plan {lo hi : Int} {l : List Join} (hb : ∀ x ∈ l, lo ≤ x.1 ∧ x.1 < x.2 ∧ x.2 < hi ∧ F x.1 x.2 = true) (h : l.Pairwise freeJ) : Plan F lo hi (isort l) :=
  ⟨fun x hx => hb x ((isort_perm l).mem_iff.1 hx), isort_pair h⟩
theorem pair_perm {p q : List Join} (hp : p.Pairwise apartJ) (hq : q.Pairwise apartJ) (h : p.Perm q) : p = q :=
  h.eq_of_pairwise (fun a b _ _ h1 h2 => by have := h1.1; have := h2.1; omega) hp hq
theorem pair_nodup {p : List Join} (hp : p.Pairwise apartJ) : p.Nodup := hp.imp fun h e => by have := h.1; rw [e] at this; omega

theorem map_back {g h : Join → Join} : ∀ {p : List Join}, (∀ x ∈ p, h (g x) = x) → (p.map g).map h = p
  | [], _ => rfl
  | x :: p, hh => by rw [List.map_cons, List.map_cons, hh x List.mem_cons_self, map_back fun y hy => hh y (List.mem_cons_of_mem _ hy)]
theorem nodup_map {α β : Type} {f : α → β} {l : List α} (hf : ∀ x ∈ l, ∀ y ∈ l, f x = f y → x = y) (h : l.Nodup) : (l.map f).Nodup := by
  induction l with
  | nil => exact .nil
  | cons x l ih =>
    obtain ⟨h1, h2⟩ := List.nodup_cons.1 h
    refine List.nodup_cons.2 ⟨fun hm => ?_, ih (fun a ha b hb => hf a (List.mem_cons_of_mem _ ha) b (List.mem_cons_of_mem _ hb)) h2⟩
    obtain ⟨y, hy, e⟩ := List.mem_map.1 hm
    exact h1 (hf y (List.mem_cons_of_mem _ hy) x List.mem_cons_self e ▸ hy)
end Go.Proofs.YtokdjjebnomciaaDoor

namespace Go.Proofs.YtokdjjebnomciaaDoor
set_option linter.unusedVariables false

variable {F G : Int → Int → Bool}

end Go.Proofs.YtokdjjebnomciaaDoor

namespace Go.Proofs.YtokdjjebnomciaaDoor
set_option linter.unusedVariables false

variable {F G : Int → Int → Bool} {a b n : Int}

/-- Numbers of edges of a rim from which the edges from a to b were cut. -/
def upC (a b q : Int) : Int := if q < a then q else q + (b - a + 1)
def dnC (a b q : Int) : Int := if q < a then q else q - (b - a + 1)
def upJ (a b : Int) (x : Join) : Join := (upC a b x.1, upC a b x.2)
def dnJ (a b : Int) (x : Join) : Join := (dnC a b x.1, dnC a b x.2)
def inB (a b : Int) (x : Join) : Bool := decide (a < x.1) && decide (x.2 < b)
def outB (a b : Int) (x : Join) : Bool := decide (x.2 < a) || decide (b < x.1) || (decide (x.1 < a) && decide (b < x.2))
structure Cut (F G : Int → Int → Bool) (a b n : Int) : Prop where
  a0 : 0 ≤ a
  ab : a < b
  bn : b < n
  fit : F a b = true
  eq : ∀ i j, 0 ≤ i → i < n - (b - a + 1) → 0 ≤ j → j < n - (b - a + 1) → G i j = F (upC a b i) (upC a b j)
def glueP (a b : Int) (p q : List Join) : List Join := isort ((a, b) :: (p ++ q.map (upJ a b)))
theorem dn_up {a b q : Int} (h : a ≤ b) : dnC a b (upC a b q) = q := by simp only [dnC, upC]; (repeat' split) <;> omega
theorem dn_upJ {a b : Int} (h : a ≤ b) (x : Join) : dnJ a b (upJ a b x) = x := Prod.ext (dn_up h) (dn_up h)
theorem up_out {a b : Int} {x : Join} (h : a < b) (hx : x.1 < x.2) : outB a b (upJ a b x) = true ∧ inB a b (upJ a b x) = false := by
  obtain ⟨x1, x2⟩ := x
  simp only at hx
  simp only [outB, inB, upJ, upC, Bool.or_eq_true, Bool.and_eq_true, decide_eq_true_eq, Bool.and_eq_false_iff, decide_eq_false_iff_not]
  (repeat' split) <;> omega
theorem glue_perm (p q : List Join) : (glueP a b p q).Perm ((a, b) :: (p ++ q.map (upJ a b))) := isort_perm _
theorem Cut.plan (c : Cut F G a b n) {p q : List Join} (hp : Plan F (a + 1) b p) (hq : Plan G 0 (n - (b - a + 1)) q) : Plan F 0 n (glueP a b p q) := by
  have := c.a0; have := c.ab; have := c.bn
  refine isort_plan (fun x hx => ?_) (List.pairwise_cons.2 ⟨fun y hy => ?_, List.pairwise_append.2 ⟨hp.2.imp .inl, ?_, fun y hy z hz => ?_⟩⟩)
  · rcases List.mem_cons.1 hx with rfl | hx
    · exact ⟨c.a0, c.ab, c.bn, c.fit⟩
    · rcases List.mem_append.1 hx with hx | hx
      · obtain ⟨h1, h2, h3, h4⟩ := hp.1 x hx
        exact ⟨by omega, h2, by omega, h4⟩
      · obtain ⟨y, hy, rfl⟩ := List.mem_map.1 hx
        obtain ⟨h1, h2, h3, h4⟩ := hq.1 y hy
        rw [c.eq _ _ h1 (by omega) (by omega) h3] at h4
        refine ⟨?_, ?_, ?_, h4⟩ <;> simp only [upJ, upC] <;> (repeat' split) <;> omega
  · rcases List.mem_append.1 hy with hy | hy
    · obtain ⟨h1, h2, h3, h4⟩ := hp.1 y hy
      exact .inl ⟨by show a < y.1; omega, .inr h3⟩
    · obtain ⟨z, hz, rfl⟩ := List.mem_map.1 hy
      obtain ⟨h1, h2, h3, h4⟩ := hq.1 z hz
      simp only [freeJ, apartJ, upJ, upC]
      (repeat' split) <;> omega
  · rw [List.pairwise_map]
    refine (List.Pairwise.imp_of_mem (S := fun x y => freeJ (upJ a b x) (upJ a b y)) (fun {x y} hx hy h => ?_) hq.2)
    obtain ⟨_, h2, _, _⟩ := hq.1 x hx
    obtain ⟨_, k2, _, _⟩ := hq.1 y hy
    obtain ⟨a1, a2⟩ := h
    left
    simp only [apartJ, upJ, upC]
    (repeat' split) <;> omega
  · obtain ⟨h1, h2, h3, h4⟩ := hp.1 y hy
    obtain ⟨w, hw, rfl⟩ := List.mem_map.1 hz
    obtain ⟨k1, k2, k3, k4⟩ := hq.1 w hw
    simp only [freeJ, apartJ, upJ, upC]
    (repeat' split) <;> omega
theorem glue_has (p q : List Join) : (a, b) ∈ glueP a b p q := (glue_perm p q).mem_iff.2 List.mem_cons_self
theorem glue_len (p q : List Join) : (glueP a b p q).length = 1 + p.length + q.length := by
  rw [(glue_perm p q).length_eq]; simp; omega
theorem Cut.glue_in (c : Cut F G a b n) {p q : List Join} (hp : Plan F (a + 1) b p) (hq : Plan G 0 (n - (b - a + 1)) q) : ((glueP a b p q).filter (inB a b)).Perm p ∧ ((glueP a b p q).filter (outB a b)).Perm (q.map (upJ a b)) := by
  have := c.ab
  have e1 : p.filter (inB a b) = p := List.filter_eq_self.2 fun x hx => by
    obtain ⟨h1, h2, h3, h4⟩ := hp.1 x hx
    simp only [inB, Bool.and_eq_true, decide_eq_true_eq]; omega
  have e2 : p.filter (outB a b) = [] := List.filter_eq_nil_iff.2 fun x hx => by
    obtain ⟨h1, h2, h3, h4⟩ := hp.1 x hx
    simp only [outB, Bool.or_eq_true, Bool.and_eq_true, decide_eq_true_eq]; omega
  have e3 : (q.map (upJ a b)).filter (inB a b) = [] := List.filter_eq_nil_iff.2 fun x hx => by
    obtain ⟨y, hy, rfl⟩ := List.mem_map.1 hx
    rw [(up_out c.ab (hq.1 y hy).2.1).2]; decide
  have e4 : (q.map (upJ a b)).filter (outB a b) = q.map (upJ a b) := List.filter_eq_self.2 fun x hx => by
    obtain ⟨y, hy, rfl⟩ := List.mem_map.1 hx
    exact (up_out c.ab (hq.1 y hy).2.1).1
  have f1 : inB a b (a, b) = false := by simp [inB]
  have f2 : outB a b (a, b) = false := by simp [outB]; omega
  constructor
  · refine ((glue_perm p q).filter _).trans ?_
    rw [List.filter_cons, if_neg (by rw [f1]; decide), List.filter_append, e1, e3, List.append_nil]
  · refine ((glue_perm p q).filter _).trans ?_
    rw [List.filter_cons, if_neg (by rw [f2]; decide), List.filter_append, e2, e4, List.nil_append]
theorem Cut.glue_inj (c : Cut F G a b n) {p q p' q' : List Join} (hp : Plan F (a + 1) b p) (hq : Plan G 0 (n - (b - a + 1)) q) (hp' : Plan F (a + 1) b p') (hq' : Plan G 0 (n - (b - a + 1)) q') (e : glueP a b p q = glueP a b p' q') : p = p' ∧ q = q' := by
  obtain ⟨h1, h2⟩ := c.glue_in hp hq
  obtain ⟨k1, k2⟩ := c.glue_in hp' hq'
  rw [e] at h1 h2
  refine ⟨pair_perm hp.2 hp'.2 (h1.symm.trans k1), pair_perm hq.2 hq'.2 ?_⟩
  have := (h2.symm.trans k2).map (dnJ a b)
  rw [map_back fun x _ => dn_upJ (Int.le_of_lt c.ab) x, map_back fun x _ => dn_upJ (Int.le_of_lt c.ab) x] at this
  exact this
theorem free_split {a b : Int} {y : Join} (h : a < b) (hy : y.1 < y.2) (hf : freeJ (a, b) y) : inB a b y = true ∨ outB a b y = true := by
  simp only [freeJ, apartJ, inB, outB, Bool.or_eq_true, Bool.and_eq_true, decide_eq_true_eq] at hf ⊢
  omega
theorem free_of {p : List Join} (hp : p.Pairwise apartJ) {x y : Join} (hx : x ∈ p) (hy : y ∈ p) (h : x ≠ y) : freeJ x y := by
  induction p with
  | nil => cases hx
  | cons z p ih =>
    obtain ⟨h1, h2⟩ := List.pairwise_cons.1 hp
    rcases List.mem_cons.1 hx with e1 | hx1
    · rcases List.mem_cons.1 hy with e2 | hy1
      · exact absurd (e1.trans e2.symm) h
      · exact .inl (e1 ▸ h1 y hy1)
    · rcases List.mem_cons.1 hy with e2 | hy1
      · exact .inr (e2 ▸ h1 x hx1)
      · exact ih h2 hx1 hy1
theorem Cut.split (c : Cut F G a b n) {r : List Join} (hr : Plan F 0 n r) (hx : (a, b) ∈ r) :
    Plan F (a + 1) b (r.filter (inB a b)) ∧ Plan G 0 (n - (b - a + 1)) ((r.filter (outB a b)).map (dnJ a b)) ∧ r.Perm ((a, b) :: (r.filter (inB a b) ++ r.filter (outB a b))) := by
  have := c.a0; have := c.ab; have := c.bn
  refine ⟨⟨fun x hm => ?_, hr.2.filter _⟩, ⟨fun x hm => ?_, ?_⟩, ?_⟩
  · obtain ⟨h1, h2⟩ := List.mem_filter.1 hm
    obtain ⟨k1, k2, k3, k4⟩ := hr.1 x h1
    simp only [inB, Bool.and_eq_true, decide_eq_true_eq] at h2
    exact ⟨by omega, k2, h2.2, k4⟩
  · obtain ⟨y, hy, rfl⟩ := List.mem_map.1 hm
    obtain ⟨h1, h2⟩ := List.mem_filter.1 hy
    obtain ⟨k1, k2, k3, k4⟩ := hr.1 y h1
    simp only [outB, Bool.or_eq_true, Bool.and_eq_true, decide_eq_true_eq] at h2
    have e1 : 0 ≤ dnC a b y.1 ∧ dnC a b y.1 < dnC a b y.2 ∧ dnC a b y.2 < n - (b - a + 1) ∧ upC a b (dnC a b y.1) = y.1 ∧ upC a b (dnC a b y.2) = y.2 := by
      simp only [dnC, upC]; (repeat' split) <;> omega
    refine ⟨e1.1, e1.2.1, e1.2.2.1, ?_⟩
    show G (dnC a b y.1) (dnC a b y.2) = true
    rw [c.eq _ _ e1.1 (by omega) (by omega) e1.2.2.1, e1.2.2.2.1, e1.2.2.2.2]; exact k4
  · rw [List.pairwise_map]
    refine List.Pairwise.imp_of_mem (S := fun x y => apartJ (dnJ a b x) (dnJ a b y)) (fun {x y} hx hy h => ?_) (hr.2.filter (outB a b))
    obtain ⟨h1, h2⟩ := List.mem_filter.1 hx
    obtain ⟨k1, k2⟩ := List.mem_filter.1 hy
    have h3 := (hr.1 x h1).2.1
    have k3 := (hr.1 y k1).2.1
    simp only [outB, Bool.or_eq_true, Bool.and_eq_true, decide_eq_true_eq] at h2 k2
    obtain ⟨a1, a2⟩ := h
    simp only [apartJ, dnJ, dnC]
    (repeat' split) <;> omega
  · have hn := pair_nodup hr.2
    refine (List.perm_ext_iff_of_nodup hn ?_).2 fun y => ?_
    · refine List.nodup_cons.2 ⟨fun hm => ?_, List.nodup_append.2 ⟨hn.filter _, hn.filter _, fun y hy z hz e => ?_⟩⟩
      · rcases List.mem_append.1 hm with hm | hm
        · have := (List.mem_filter.1 hm).2; simp [inB] at this
        · have := (List.mem_filter.1 hm).2; simp [outB] at this; omega
      · subst e
        have h1 := (List.mem_filter.1 hy).2
        have h2 := (List.mem_filter.1 hz).2
        have := (hr.1 y (List.mem_filter.1 hy).1).2.1
        simp only [inB, outB, Bool.or_eq_true, Bool.and_eq_true, decide_eq_true_eq] at h1 h2
        omega
    · rw [List.mem_cons, List.mem_append, List.mem_filter, List.mem_filter]
      constructor
      · intro hy
        by_cases e : y = (a, b)
        · exact .inl e
        · rcases free_split c.ab (hr.1 y hy).2.1 (free_of hr.2 hx hy fun q => e q.symm) with q | q
          · exact .inr (.inl ⟨hy, q⟩)
          · exact .inr (.inr ⟨hy, q⟩)
      · rintro (rfl | ⟨h, _⟩ | ⟨h, _⟩)
        · exact hx
        · exact h
        · exact h
theorem map_dnJ_inj {p q : List Join} (hp : ∀ x ∈ p, outB a b x = true ∧ x.1 < x.2) (hq : ∀ x ∈ q, outB a b x = true ∧ x.1 < x.2) (h : a < b) (e : p.map (dnJ a b) = q.map (dnJ a b)) : p = q := by
  have key : ∀ x, outB a b x = true ∧ x.1 < x.2 → upJ a b (dnJ a b x) = x := fun x hx => by
    obtain ⟨h1, h2⟩ := hx
    obtain ⟨x1, x2⟩ := x
    simp only [outB, Bool.or_eq_true, Bool.and_eq_true, decide_eq_true_eq] at h1 h2
    refine Prod.ext ?_ ?_ <;> simp only [upJ, dnJ, dnC, upC] <;> (repeat' split) <;> omega
  rw [← map_back (g := dnJ a b) (h := upJ a b) (p := p) fun x hx => key x (hp x hx), e, map_back fun x hx => key x (hq x hx)]

/-- The greatest plans of a part. -/
def greatL (F : Int → Int → Bool) (lo hi : Int) : List (List Join) := (plansP F lo hi).filter fun p => decide ((p.length : Int) = (partP F lo hi).1)
theorem greatL_len (F : Int → Int → Bool) (lo hi : Int) : ((greatL F lo hi).length : Int) = (partP F lo hi).2 := by
  rw [(best_all F lo hi).2.2, greatL, List.countP_eq_length_filter]
theorem greatL_mem {lo hi : Int} {p : List Join} : p ∈ greatL F lo hi ↔ Plan F lo hi p ∧ (p.length : Int) = (partP F lo hi).1 := by
  rw [greatL, List.mem_filter, mem_plans, decide_eq_true_eq]
theorem prod_len {α β : Type} (A : List α) (B : List β) : (A.flatMap fun p => B.map fun q => (p, q)).length = A.length * B.length := by
  induction A with
  | nil => simp
  | cons x A ih => rw [List.flatMap_cons, List.length_append, ih, List.length_map, List.length_cons, Nat.succ_mul, Nat.add_comm]
theorem prod_nodup {α β : Type} {A : List α} {B : List β} (hA : A.Nodup) (hB : B.Nodup) : (A.flatMap fun p => B.map fun q => (p, q)).Nodup := by
  induction A with
  | nil => exact .nil
  | cons x A ih =>
    obtain ⟨h1, h2⟩ := List.nodup_cons.1 hA
    rw [List.flatMap_cons]
    refine List.nodup_append.2 ⟨nodup_map (fun a _ b _ e => (Prod.mk.inj e).2) hB, ih h2, fun y hy z hz e => ?_⟩
    subst e
    obtain ⟨q, _, rfl⟩ := List.mem_map.1 hy
    obtain ⟨p, hp, hz⟩ := List.mem_flatMap.1 hz
    obtain ⟨q', _, e⟩ := List.mem_map.1 hz
    exact h1 ((Prod.mk.inj e).1 ▸ hp)
theorem mem_prod {α β : Type} {A : List α} {B : List β} {z : α × β} : z ∈ (A.flatMap fun p => B.map fun q => (p, q)) ↔ z.1 ∈ A ∧ z.2 ∈ B := by
  simp only [List.mem_flatMap, List.mem_map]
  constructor
  · rintro ⟨p, hp, q, hq, rfl⟩; exact ⟨hp, hq⟩
  · intro h; exact ⟨z.1, h.1, z.2, h.2, rfl⟩
/-- Of the greatest plans, as many have a join as what is inside and what is outside have together, if one has it. -/
theorem Cut.count (c : Cut F G a b n) {r : List Join} (hr : r ∈ greatL F 0 n) (hx : (a, b) ∈ r) :
    ((greatL F 0 n).filter fun p => decide ((a, b) ∈ p)).length = (greatL F (a + 1) b).length * (greatL G 0 (n - (b - a + 1))).length := by
  have hm : (partP F 0 n).1 = 1 + (partP F (a + 1) b).1 + (partP G 0 (n - (b - a + 1))).1 := by
    refine Int.le_antisymm ?_ ?_
    · obtain ⟨h1, h2⟩ := greatL_mem.1 hr
      obtain ⟨k1, k2, k3⟩ := c.split h1 hx
      have e := k3.length_eq
      have l1 := (best_all F (a + 1) b).2.1 _ (mem_plans.2 k1)
      have l2 := (best_all G 0 (n - (b - a + 1))).2.1 _ (mem_plans.2 k2)
      rw [List.length_cons, List.length_append] at e
      rw [List.length_map] at l2
      omega
    · obtain ⟨p, hp, ep⟩ := (best_all F (a + 1) b).1
      obtain ⟨q, hq, eq⟩ := (best_all G 0 (n - (b - a + 1))).1
      have := (best_all F 0 n).2.1 _ (mem_plans.2 (c.plan (mem_plans.1 hp) (mem_plans.1 hq)))
      rw [glue_len] at this
      omega
  have hn := (plans_nodup F 0 n).filter fun p => decide ((p.length : Int) = (partP F 0 n).1)
  rw [← prod_len]
  refine Nat.le_antisymm ?_ ?_
  · rw [← List.length_map (f := fun r : List Join => (r.filter (inB a b), (r.filter (outB a b)).map (dnJ a b)))]
    refine List.Nodup.length_le_of_subset (nodup_map (fun p hp q hq e => ?_) (hn.filter _)) fun z hz => ?_
    · obtain ⟨p1, p2⟩ := List.mem_filter.1 hp
      obtain ⟨q1, q2⟩ := List.mem_filter.1 hq
      have p3 := (greatL_mem.1 p1).1
      have q3 := (greatL_mem.1 q1).1
      obtain ⟨e1, e2⟩ := Prod.mk.inj e
      have e3 : p.filter (outB a b) = q.filter (outB a b) := map_dnJ_inj (fun x hx => ⟨(List.mem_filter.1 hx).2, (p3.1 x (List.mem_filter.1 hx).1).2.1⟩) (fun x hx => ⟨(List.mem_filter.1 hx).2, (q3.1 x (List.mem_filter.1 hx).1).2.1⟩) c.ab e2
      have s1 := (c.split p3 (of_decide_eq_true p2)).2.2
      have s2 := (c.split q3 (of_decide_eq_true q2)).2.2
      rw [e1, e3] at s1
      exact pair_perm p3.2 q3.2 (s1.trans s2.symm)
    · obtain ⟨p, hp, rfl⟩ := List.mem_map.1 hz
      obtain ⟨p1, p2⟩ := List.mem_filter.1 hp
      obtain ⟨p3, p4⟩ := greatL_mem.1 p1
      obtain ⟨k1, k2, k3⟩ := c.split p3 (of_decide_eq_true p2)
      have e := k3.length_eq
      have l1 := (best_all F (a + 1) b).2.1 _ (mem_plans.2 k1)
      have l2 := (best_all G 0 (n - (b - a + 1))).2.1 _ (mem_plans.2 k2)
      rw [List.length_cons, List.length_append] at e
      rw [List.length_map] at l2
      refine mem_prod.2 ⟨greatL_mem.2 ⟨k1, by show ((p.filter (inB a b)).length : Int) = _; omega⟩, greatL_mem.2 ⟨k2, ?_⟩⟩
      show (((p.filter (outB a b)).map (dnJ a b)).length : Int) = _
      rw [List.length_map]; omega
  · rw [← List.length_map (f := fun z : List Join × List Join => glueP a b z.1 z.2)]
    refine List.Nodup.length_le_of_subset (nodup_map (fun z hz z' hz' e => ?_) (prod_nodup ((plans_nodup F (a + 1) b).filter _) ((plans_nodup G 0 _).filter _))) fun r hr => ?_
    · obtain ⟨h1, h2⟩ := mem_prod.1 hz
      obtain ⟨k1, k2⟩ := mem_prod.1 hz'
      obtain ⟨e1, e2⟩ := c.glue_inj (greatL_mem.1 h1).1 (greatL_mem.1 h2).1 (greatL_mem.1 k1).1 (greatL_mem.1 k2).1 e
      exact Prod.ext e1 e2
    · obtain ⟨z, hz, rfl⟩ := List.mem_map.1 hr
      obtain ⟨h1, h2⟩ := mem_prod.1 hz
      obtain ⟨h1, l1⟩ := greatL_mem.1 h1
      obtain ⟨h2, l2⟩ := greatL_mem.1 h2
      refine List.mem_filter.2 ⟨greatL_mem.2 ⟨c.plan h1 h2, ?_⟩, decide_eq_true (glue_has _ _)⟩
      rw [glue_len]; omega
theorem Cut.forced (c : Cut F G a b n) {r : List Join} (hr : r ∈ greatL F 0 n) (hx : (a, b) ∈ r) :
    (partP F (a + 1) b).2 * (partP G 0 (n - (b - a + 1))).2 = (partP F 0 n).2 ↔ ∀ p ∈ greatL F 0 n, (a, b) ∈ p := by
  have h := c.count hr hx
  rw [← greatL_len, ← greatL_len, ← greatL_len, ← Int.natCast_mul, ← h, Int.ofNat_inj, List.length_filter_eq_length_iff]
  simp only [decide_eq_true_eq]
end Go.Proofs.YtokdjjebnomciaaDoor

namespace Go.Proofs.YtokdjjebnomciaaDoor
set_option linter.unusedVariables false

/-- What is left, the last one first, and a number more. -/
def stk : List Int → Int → List Int
  | [], c => [c]
  | t :: r, c => if t + c = 0 then r else c :: t :: r
def runK (st w : List Int) : List Int := w.foldl stk st
def redK (w : List Int) : List Int := runK [] w
def Irr : List Int → Prop
  | t :: u :: r => t + u ≠ 0 ∧ Irr (u :: r)
  | _ => True
theorem Irr.tl {t : Int} {r : List Int} (h : Irr (t :: r)) : Irr r := by
  cases r with
  | nil => trivial
  | cons u r => exact h.2
theorem irr_mid {l r : List Int} {a b : Int} (h : Irr (l ++ a :: b :: r)) : a + b ≠ 0 := by
  induction l with
  | nil => exact h.1
  | cons x l ih => exact ih h.tl
theorem irr_of {l : List Int} (h : ∀ u a b v, l = u ++ a :: b :: v → a + b ≠ 0) : Irr l := by
  induction l with
  | nil => trivial
  | cons a l ih =>
    have := ih fun u x y v e => h (a :: u) x y v (by rw [e]; rfl)
    cases l with
    | nil => trivial
    | cons b r => exact ⟨h [] a b r rfl, this⟩
/-! ### plans and words -/
variable {F : Int → Int → Bool} {wt : Int → Int} {N : Int}
theorem used_mem {l : List Join} {i : Int} : usedB l i = true ↔ ∃ x ∈ l, x.1 = i ∨ x.2 = i := by
  simp only [usedB, List.any_eq_true, Bool.or_eq_true, decide_eq_true_eq]
theorem bool_iff {a b : Bool} (h : a = true ↔ b = true) : a = b := by cases a <;> cases b <;> simp_all
end Go.Proofs.YtokdjjebnomciaaDoor

namespace Go.Proofs.YtokdjjebnomciaaDoor
set_option linter.unusedVariables false

def IsRot {α : Type} (a b : List α) : Prop := ∃ u v, a = u ++ v ∧ b = v ++ u
theorem IsRot.refl {α : Type} (a : List α) : IsRot a a := ⟨[], a, rfl, (List.append_nil a).symm⟩
theorem IsRot.symm {α : Type} {a b : List α} (h : IsRot a b) : IsRot b a := by
  obtain ⟨u, v, h1, h2⟩ := h
  exact ⟨v, u, h2, h1⟩
theorem IsRot.trans {α : Type} {a b c : List α} (h : IsRot a b) (k : IsRot b c) : IsRot a c := by
  obtain ⟨u, v, rfl, rfl⟩ := h
  obtain ⟨u', v', e, rfl⟩ := k
  rcases List.append_eq_append_iff.1 e with ⟨x, rfl, rfl⟩ | ⟨x, rfl, rfl⟩
  · exact ⟨x, v' ++ v, by simp, by simp⟩
  · exact ⟨u ++ u', x, by simp, by simp⟩
theorem Irr.left {y z : List Int} (h : Irr (y ++ z)) : Irr y := irr_of fun u a b v e => by
  rw [e, List.append_assoc] at h
  exact irr_mid (l := u) (r := v ++ z) h
end Go.Proofs.YtokdjjebnomciaaDoor

namespace Go.Proofs.YtokdjjebnomciaaDoor
open Go.Wk Go.RowKit Go.Lib Go
set_option linter.unusedVariables false

/-! ### a rim as a word of numbers -/
def wtS (s : ByteArray) (q : Int) : Int := numC (tabAt s q)
/-! ### the joins of all greatest plans -/
theorem tab_cut {s : ByteArray} {a b q : Int} (a0 : 0 ≤ a) (ab : a < b) (bn : b < s.size) (q0 : 0 ≤ q) (q1 : q < s.size - (b - a + 1)) : tabAt (cutS s a b) q = tabAt s (upC a b q) := by
  have e1 : ((s.extract 0 a.toNat).size : Int) = a := by rw [ByteArray.size_extract]; omega
  rw [cutS, tab_app q0, e1, upC]
  split
  · rw [tab_extract q0 (by omega)]; congr 1; omega
  · rw [tab_extract (by omega) (by rw [ByteArray.size_extract]; omega)]; congr 1; omega
theorem cut_of {s : ByteArray} {x : Join} (h0 : 0 ≤ x.1) (h1 : x.1 < x.2) (h2 : x.2 < s.size) (hf : fitR s x.1 x.2 = true) : Cut (fitR s) (fitR (cutS s x.1 x.2)) x.1 x.2 s.size :=
  ⟨h0, h1, h2, hf, fun i j i0 i1 j0 j1 => by rw [fitR, tab_cut h0 h1 h2 i0 i1, tab_cut h0 h1 h2 j0 j1]; rfl⟩
theorem great_mem (s : ByteArray) : firstP (fitR s) 0 s.size ∈ greatV s := List.mem_of_mem_head? (great_head s)
theorem forced_eq (s : ByteArray) : forcedP s = forcedV s := by
  rw [forcedP, forcedV]
  split
  · refine List.filter_congr fun x hx => ?_
    have hg := great_mem s
    have e : greatV s = greatL (fitR s) 0 s.size := great_is s
    rw [e] at hg
    have hp := (greatL_mem.1 hg).1
    obtain ⟨h0, h1, h2, hf⟩ := hp.1 x hx
    have hc := (cut_of h0 h1 h2 hf).forced hg (by exact hx)
    have hs := cut_size h0 h1 h2
    refine bool_iff ?_
    rw [frcN, decide_eq_true_eq, List.all_eq_true, e]
    rw [← hs] at hc
    refine Iff.trans hc ?_
    simp only [hasB_iff]
  · rfl

/-! ### rims compared -/
theorem ba_ext {a b : ByteArray} (h : a.data.toList = b.data.toList) : a = b := ByteArray.ext (Array.toList_inj.1 h)
end Go.Proofs.YtokdjjebnomciaaDoor

namespace Go.Proofs.YtokdjjebnomciaaDoor
open Go.Wk Go.RowKit Go.Lib Go
set_option linter.unusedVariables false

/-! ### cores -/
end Go.Proofs.YtokdjjebnomciaaDoor

namespace Go.Proofs.YtokdjjebnomciaaDoor
open Go.Wk Go.RowKit Go.Lib Go
set_option linter.unusedVariables false

/-! ### turned -/
/-! ### opposite -/
/-! ### edges put in -/
/-! ### some of the edges -/
end Go.Proofs.YtokdjjebnomciaaDoor

namespace Go.Proofs.YtokdjjebnomciaaDoor
open Go.Wk Go
def pairsU : List Int → List Join
  | a :: b :: l => (a, b) :: pairsU l
  | _ => []
def rP : ByteArray := { data := #[97, 98, 66, 65] }
def rQ : ByteArray := { data := #[97, 98, 65, 66] }
def rR : ByteArray := { data := #[97, 65, 97, 65] }
def r1 : ByteArray := { data := #[98, 97, 99, 65, 66] }
def r2 : ByteArray := { data := #[97, 98, 67] }
def r3 : ByteArray := { data := #[97, 98, 65] }
def r4 : ByteArray := { data := #[98] }
def r5 : ByteArray := { data := #[97, 98] }
def r6 : ByteArray := { data := #[97, 66] }
theorem pairsU_step {l : List Int} {i : Int} (h0 : 0 ≤ i) (h : i + 1 < l.length) : pairsU (l.drop i.toNat) = (ix 0 l i, ix 0 l (i + 1)) :: pairsU (l.drop (i + 2).toNat) := by
  rw [drop_ix (d := 0) h0 (by omega), drop_ix (d := 0) (n := i + 1) (by omega) h, pairsU]
  rw [show (i + 1 + 1).toNat = (i + 2).toNat by omega]
theorem pairsU_end {l : List Int} {i : Int} (h0 : 0 ≤ i) (h : ¬ i + 1 < l.length) : pairsU (l.drop i.toNat) = [] := by
  have : (l.drop i.toNat).length ≤ 1 := by rw [List.length_drop]; omega
  match hd : l.drop i.toNat with
  | [] => rfl
  | [a] => rfl
  | a :: b :: r => rw [hd] at this; simp at this
theorem first_in (s : ByteArray) : ∀ x ∈ firstP (fitR s) 0 s.size, 0 ≤ x.1 ∧ x.1 < x.2 ∧ x.2 < s.size := fun x hx => by
  have hg := great_mem s
  rw [show greatV s = greatL (fitR s) 0 s.size from great_is s] at hg
  obtain ⟨h0, h1, h2, _⟩ := (greatL_mem.1 hg).1.1 x hx
  exact ⟨h0, h1, h2⟩
end Go.Proofs.YtokdjjebnomciaaDoor

namespace Go.Proofs.YtokdjjebnomciaaDoor
open Go.Wk Go
set_option linter.unusedVariables false

def sixS : ByteArray := { data := #[97, 65, 98, 66, 99, 67] }
def letK (kinds x : Int) : UInt8 := byteAt sixS (x % (2 * kinds))
/-- The rim that a Pot makes. -/
def madeS (e kd : Int) (xs : List Int) (most : Int) : ByteArray := mkB ((xs.take (e % (most + 1)).toNat).map (letK (1 + kd % 3)))
theorem letK_let {kinds x : Int} (h0 : 1 ≤ kinds) (h1 : kinds ≤ 3) : LetB (letK kinds x) := by
  have : ∀ q < 6, isLet ((byteAt sixS ((q : Nat) : Int)).toNat : Int) = true := by decide +kernel
  have h2 := Int.emod_nonneg x (b := 2 * kinds) (by omega)
  have h3 := Int.emod_lt_of_pos x (b := 2 * kinds) (by omega)
  have h4 := this (x % (2 * kinds)).toNat (by omega)
  rw [Int.toNat_of_nonneg h2] at h4
  exact h4
theorem made_lets {e kd : Int} {xs : List Int} {most : Int} (h : 0 ≤ kd) : Lets (madeS e kd xs most) := lets_of fun b hb => by
  obtain ⟨x, _, rfl⟩ := List.mem_map.1 hb
  exact letK_let (by omega) (by omega)
theorem made_size {e kd : Int} {xs : List Int} {most : Int} (h0 : 0 ≤ most) : ((madeS e kd xs most).size : Int) ≤ most := by
  have h2 := Int.emod_nonneg e (b := most + 1) (by omega)
  have h3 := Int.emod_lt_of_pos e (b := most + 1) (by omega)
  rw [madeS, mkB_size, List.length_map, List.length_take]
  omega
end Go.Proofs.YtokdjjebnomciaaDoor

namespace Go.Wk
open Go.RowKit Go.ChangeShapes

section
variable {H : Type} {enc : TypeId × Value → H} {P : Program} {W : World}

theorem inK_of_wf {k : IntKind} {n : Int} (h : (Lit.int k n).wf = true) : InK k n := by
  cases k <;> simp [Lit.wf, IntKind.min, IntKind.max, IntKind.bits, IntKind.signed] at h <;> simp only [InK, lo, hi] <;> omega

/-- What reads as data of type e stands for a y. -/
structure Rds {α : Type} (enc : TypeId × Value → H) (P : Program) (W : World) (t : Ty α) (e : TypeId) : Prop where
  n : P.cellsOf e = t.n
  pos : 0 < t.n
  get : ∀ fuel cs x, DataW.trod enc P W 0 (fun _ => true) true fuel e cs = some x → ∃ y, t.rep [] W y cs

theorem Rds.int {k : IntKind} {e : TypeId} (hu : P.underlying e = some (.int k)) (hc : P.cellsOf e = 1) : Rds enc P W (tI k) e :=
  ⟨hc, Nat.one_pos, fun _ _ _ h => let ⟨n, h1, _, h3⟩ := DataW.trod_int hu h; ⟨n, h1, inK_of_wf h3⟩⟩

theorem list_of {α : Type} {p : Nat → α → Prop} : ∀ n : Nat, (∀ i, i < n → ∃ y, p i y) → ∃ ys : List α, ys.length = n ∧ ∀ i y, ys[i]? = some y → p i y
  | 0, _ => ⟨[], rfl, by simp⟩
  | n + 1, h => by
    obtain ⟨ys, h1, h2⟩ := list_of n (fun i hi => h i (by omega))
    obtain ⟨y, hy⟩ := h n (by omega)
    refine ⟨ys ++ [y], by simp [h1], fun i z hz => ?_⟩
    by_cases hi : i < ys.length
    · rw [List.getElem?_append_left hi] at hz; exact h2 i z hz
    · rw [List.getElem?_append_right (by omega)] at hz
      have : i - ys.length = 0 := by
        rcases Nat.eq_zero_or_pos (i - ys.length) with h | h
        · exact h
        · rw [List.getElem?_eq_none (by simp; omega)] at hz; cases hz
      rw [this] at hz
      simp at hz
      subst hz
      have : i = n := by omega
      rw [this]; exact hy

/-- A slice's value: an argument, or one field of a struct. -/
theorem Rds.v {α : Type} {t : Ty α} {e : TypeId} {v : Value} {d : DataW H} {p : List MemPlace} (h : Rds enc P W (tSl t) e) (hx : DataW.Trod enc P W 0 (fun _ => true) true e v d p) (hone : v.oneCell' = true) : ∃ y, V (tSl t) y v [] W := by
  obtain ⟨fuel, hf⟩ := hx
  obtain ⟨y, hy⟩ := h.get _ _ _ hf
  rw [cells_one hone] at hy
  obtain ⟨a, cap, h1, h2⟩ := hy
  exact ⟨y, [v], by simp at h1; rw [h1]; rfl, a, cap, h1, h2⟩
/-- A value of integers of one kind alone, as many as it has cells. -/
def RdI (enc : TypeId × Value → H) (P : Program) (W : World) (k : IntKind) (m : Nat) (e : TypeId) : Prop :=
  ∀ fuel cs x, DataW.trod enc P W 0 (fun _ => true) true fuel e cs = some x → ∃ zs : List Int, zs.length = m ∧ cs = zs.map (Value.int k) ∧ ∀ z ∈ zs, InK k z
theorem RdI.int {k : IntKind} {e : TypeId} (hu : P.underlying e = some (.int k)) : RdI enc P W k 1 e := by
  intro fuel cs x h
  obtain ⟨n, rfl, _, h3⟩ := DataW.trod_int hu h
  exact ⟨[n], rfl, rfl, by simpa using inK_of_wf h3⟩
theorem RdI.array {k : IntKind} {n : Nat} {e t : TypeId} (hu : P.underlying t = some (.array n e)) (he : P.underlying e = some (.int k)) (hc : P.cellsOf e = 1) (hn : P.cellsOf t = n) : RdI enc P W k n t := by
  intro fuel cs x h
  obtain ⟨xs, m, _, _, hl, hx, hel⟩ := DataW.trod_array hu h
  rw [hc] at hel
  rw [hn] at hl
  have h1 : ∀ i, i < n → ∃ z, cs[i]? = some (.int k z) ∧ InK k z := by
    intro i hi
    have := hel i hi
    cases hxi : xs[i]? with
    | none => rw [List.getElem?_eq_none_iff] at hxi; omega
    | some y =>
      rw [hxi] at this
      obtain ⟨z, hz, _, hw⟩ := DataW.trod_int he this
      refine ⟨z, ?_, inK_of_wf hw⟩
      have h2 := congrArg (fun l : List Value => l[0]?) hz
      simp only [List.getElem?_take, List.getElem?_drop] at h2
      simpa using h2
  obtain ⟨zs, z1, z2⟩ := list_of (p := fun i z => cs[i]? = some (.int k z) ∧ InK k z) n h1
  refine ⟨zs, z1, List.ext_getElem? fun i => ?_, fun z hz => ?_⟩
  · rw [List.getElem?_map]
    by_cases hi : i < n
    · have hzi : zs[i]? = some zs[i] := List.getElem?_eq_getElem (by omega)
      rw [hzi, (z2 i _ hzi).1]; rfl
    · rw [List.getElem?_eq_none (by omega), List.getElem?_eq_none (by omega)]; rfl
  · obtain ⟨i, hi⟩ := List.getElem?_of_mem hz
    exact (z2 i z hi).2
theorem RdI.struct3 {k : IntKind} {t : TypeId} {f0 f1 f2 : Field} {m0 m1 m2 : Nat} (hu : P.underlying t = some (.struct #[f0, f1, f2])) (h0 : RdI enc P W k m0 f0.type) (h1 : RdI enc P W k m1 f1.type) (h2 : RdI enc P W k m2 f2.type)
    (c0 : P.cellsOf f0.type = m0) (c1 : P.cellsOf f1.type = m1) (c2 : P.cellsOf f2.type = m2) (o0 : f0.offset = 0) (o1 : f1.offset = m0) (o2 : f2.offset = m0 + m1) (hC : P.cellsOf t = m0 + m1 + m2) : RdI enc P W k (m0 + m1 + m2) t := by
  intro fuel cs x h
  obtain ⟨y0, y1, y2, n, _, hl, r0, r1, r2⟩ := Go.Deep.trod_struct3 hu h
  rw [c0, o0] at r0
  rw [c1, o1] at r1
  rw [c2, o2] at r2
  rw [hC] at hl
  obtain ⟨z0, l0, e0, i0⟩ := h0 _ _ _ r0
  obtain ⟨z1, l1, e1, i1⟩ := h1 _ _ _ r1
  obtain ⟨z2, l2, e2, i2⟩ := h2 _ _ _ r2
  refine ⟨z0 ++ z1 ++ z2, by simp only [List.length_append, l0, l1, l2], ?_, fun z hz => ?_⟩
  · have h3 : List.take m2 (List.drop (m0 + m1) cs) = List.drop m1 (List.drop m0 cs) := by rw [List.drop_drop]; exact List.take_of_length_le (by simp; omega)
    rw [List.map_append, List.map_append, ← e0, ← e1, ← e2, List.drop_zero, h3, List.append_assoc, List.take_append_drop, List.take_append_drop]
  · rcases List.mem_append.1 hz with hz | hz
    · rcases List.mem_append.1 hz with hz | hz
      · exact i0 z hz
      · exact i1 z hz
    · exact i2 z hz
theorem RdI.v {k : IntKind} {t : TypeId} {m : Nat} {cs : Array Value} {d : DataW H} {p : List MemPlace} (h : RdI enc P W k m t) (hx : DataW.Trod enc P W 0 (fun _ => true) true t (.agg cs) d p) : ∃ zs : List Int, zs.length = m ∧ cs = (zs.map (Value.int k)).toArray ∧ ∀ z ∈ zs, InK k z := by
  obtain ⟨fuel, hf⟩ := hx
  obtain ⟨zs, h1, h2, h3⟩ := h _ _ _ hf
  refine ⟨zs, h1, ?_, h3⟩
  rw [← h2]
  simp [Value.cells]
end
end Go.Wk

namespace Go.Wk
open Go.RowKit Go.ChangeShapes
section
variable {H : Type} {enc : TypeId × Value → H} {P : Program} {W : World}
theorem Rds.i2 {k : IntKind} {e t : TypeId} (hu : P.underlying t = some (.array 2 e)) (he : P.underlying e = some (.int k)) (hc : P.cellsOf e = 1) (hn : P.cellsOf t = 2) : Rds enc P W (tP (tI k) (tI k)) t := by
  refine ⟨hn, Nat.succ_pos _, fun fuel cs x h => ?_⟩
  obtain ⟨zs, hz, rfl, hi⟩ := RdI.array hu he hc hn _ _ _ h
  match zs, hz with
  | [a, b], _ => exact ⟨(a, b), [.int k a], [.int k b], rfl, ⟨rfl, hi a (by simp)⟩, ⟨rfl, hi b (by simp)⟩⟩
end
section
variable {P : Program} {σ : Fr} {w : World} {x y : Operand} {ty T T' : TypeId}
end
end Go.Wk

namespace Go.Proofs.YtokdjjebnomciaaDoor
open Go.Wk Go.RowKit Go.Lib Go
set_option linter.unusedVariables false

end Go.Proofs.YtokdjjebnomciaaDoor

namespace Go.Proofs.YtokdjjebnomciaaDoor
open Go.Wk Go
set_option linter.unusedVariables false
def p0 : ByteArray := { data := #[97, 65] }
def p1 : ByteArray := { data := #[65, 97] }
def p2 : ByteArray := { data := #[98, 66] }
def p3 : ByteArray := { data := #[66, 98] }
def p4 : ByteArray := { data := #[100, 68] }
theorem most_v {s : ByteArray} (h : rimE s = 0) : mostV s = (allV s).1 := if_pos h
theorem count_v {s : ByteArray} (h : rimE s = 0) : countV s = (allV s).2 := if_pos h
end Go.Proofs.YtokdjjebnomciaaDoor

namespace Go.Wk
open Go.RowKit Go.Lib Go.ChangeMaps
set_option linter.unusedVariables false
set_option linter.unusedSimpArgs false
set_option linter.unusedSectionVars false

section
variable {κ ν : Type} [DecidableEq κ]
/-- The entries of a map. -/
def mE (f : κ → Value) (g : ν → Value) : List (κ × ν) → Nat → List MapEntry
  | [], _ => []
  | p :: m, i => ⟨f p.1, g p.2, i⟩ :: mE f g m (i + 1)
def mget (z : ν) : List (κ × ν) → κ → ν
  | [], _ => z
  | p :: m, k => if p.1 = k then p.2 else mget z m k
def mput : List (κ × ν) → κ → ν → List (κ × ν)
  | [], k, v => [(k, v)]
  | p :: m, k, v => if p.1 = k then (p.1, v) :: m else p :: mput m k v
def mfind : List (κ × ν) → κ → Nat → Option (Nat × ν)
  | [], _, _ => none
  | p :: m, k, i => if p.1 = k then some (i, p.2) else mfind m k (i + 1)
theorem mget_mput (z : ν) : ∀ (m : List (κ × ν)) (k : κ) (v : ν) (q : κ), mget z (mput m k v) q = if q = k then v else mget z m q
  | [], k, v, q => by
    simp only [mput, mget]
    by_cases h : k = q
    · rw [if_pos h, if_pos h.symm]
    · rw [if_neg h, if_neg fun e => h e.symm]
  | p :: m, k, v, q => by
    rw [mput]
    by_cases h : p.1 = k
    · rw [if_pos h, mget, mget]
      by_cases hq : p.1 = q
      · rw [if_pos hq, if_pos (by rw [← hq]; exact h)]
      · rw [if_neg hq, if_neg (fun e => hq (by rw [e]; exact h)), if_neg hq]
    · rw [if_neg h, mget, mget, mget_mput z m k v q]
      by_cases hq : p.1 = q
      · rw [if_pos hq, if_neg (fun e => h (by rw [← e]; exact hq)), if_pos hq]
      · rw [if_neg hq, if_neg hq]
theorem mfind_get (z : ν) : ∀ (m : List (κ × ν)) (k : κ) (i : Nat), mget z m k = ((mfind m k i).map (·.2)).getD z
  | [], _, _ => rfl
  | p :: m, k, i => by
    rw [mget, mfind]
    split
    · rfl
    · exact mfind_get z m k (i + 1)
theorem mfind_ge : ∀ (m : List (κ × ν)) (k : κ) (i : Nat) (x : Nat × ν), mfind m k i = some x → i ≤ x.1
  | [], _, _, _, h => by cases h
  | p :: m, k, i, x, h => by
    rw [mfind] at h
    split at h
    · cases h; exact Nat.le_refl _
    · have := mfind_ge m k (i + 1) x h; omega
/-- Where the key is. -/
theorem mE_found (f : κ → Value) (g : ν → Value) : ∀ (m : List (κ × ν)) (k : κ) (v : ν) (i j : Nat) (x : Nat × ν), mfind m k j = some x →
    (mE f g m i)[x.1 - j]? = some ⟨f k, g x.2, i + (x.1 - j)⟩ ∧ mE f g (mput m k v) i = (mE f g m i).modify (x.1 - j) (fun e => { e with key := f k, val := g v })
  | [], _, _, _, _, _, h => by cases h
  | p :: m, k, v, i, j, x, h => by
    rw [mfind] at h
    by_cases hp : p.1 = k
    · rw [if_pos hp] at h
      cases h
      rw [mput, if_pos hp, Nat.sub_self, ← hp]
      exact ⟨rfl, by simp [mE]⟩
    · rw [if_neg hp] at h
      have hge := mfind_ge m k (j + 1) x h
      obtain ⟨h1, h2⟩ := mE_found f g m k v (i + 1) (j + 1) x h
      obtain ⟨q, hq⟩ : ∃ q, x.1 = j + 1 + q := ⟨x.1 - (j + 1), by omega⟩
      rw [hq] at h1 h2 ⊢
      rw [show j + 1 + q - j = q + 1 by omega]
      rw [show j + 1 + q - (j + 1) = q by omega] at h1 h2
      refine ⟨?_, ?_⟩
      · rw [mE, List.getElem?_cons_succ, h1, show i + 1 + q = i + (q + 1) by omega]
      · rw [mput, if_neg hp, mE, mE, List.modify_succ_cons, h2]
theorem mE_new (f : κ → Value) (g : ν → Value) : ∀ (m : List (κ × ν)) (k : κ) (v : ν) (i j : Nat), mfind m k j = none →
    mE f g (mput m k v) i = mE f g m i ++ [⟨f k, g v, i + m.length⟩] ∧ (mput m k v).length = m.length + 1
  | [], k, v, i, j, _ => ⟨rfl, rfl⟩
  | p :: m, k, v, i, j, h => by
    rw [mfind] at h
    by_cases hp : p.1 = k
    · rw [if_pos hp] at h; cases h
    · rw [if_neg hp] at h
      obtain ⟨h1, h2⟩ := mE_new f g m k v (i + 1) (j + 1) h
      rw [mput, if_neg hp, mE, mE, h1, List.length_cons, List.length_cons, h2]
      exact ⟨by rw [List.cons_append, show i + (m.length + 1) = i + 1 + m.length by omega], rfl⟩
theorem mput_len : ∀ (m : List (κ × ν)) (k : κ) (v : ν) (j : Nat) (x : Nat × ν), mfind m k j = some x → (mput m k v).length = m.length
  | [], _, _, _, _, h => by cases h
  | p :: m, k, v, j, x, h => by
    rw [mfind] at h
    by_cases hp : p.1 = k
    · rw [mput, if_pos hp]; rfl
    · rw [if_neg hp] at h
      rw [mput, if_neg hp, List.length_cons, List.length_cons, mput_len m k v (j + 1) x h]
/-- A type of keys, as the machine compares them. -/
structure KeyD (P : Program) (kt : TypeId) (f : κ → Value) : Prop where
  check : ∀ (b : Bool) (k : κ) (w : World), (Instr.checkKey b 10000 kt (f k)).run P w = .ok () w
  find : ∀ {ν : Type} (g : ν → Value) (m : List (κ × ν)) (k : κ) (i : Nat) (w : World), (Instr.findKey kt (f k) (mE f g m i)).run P w = .ok ((mfind m k 0).map fun x => (x.1, g x.2)) w
  stays : ∀ (k : κ) (w : World), (Instr.keyThatStays (f k) (f k)).run P w = .ok (f k) w
end

theorem findNow_int {ν : Type} {q : IntKind} (g : ν → Value) : ∀ (m : List (Int × ν)) (k : Int) (i j : Nat), Instr.findNow (.int q) (.int q k) (mE (Value.int q) g m i) j = some ((mfind m k j).map fun x => (x.1, g x.2))
  | [], _, _, _ => rfl
  | p :: m, k, i, j => by
    rw [mE, Instr.findNow, mfind]
    simp only [Instr.sameNow, if_true]
    by_cases h : p.1 = k
    · rw [if_pos h, show (k == p.1) = true from beq_iff_eq.2 h.symm]; rfl
    · rw [if_neg h, show (k == p.1) = false from by simpa using fun e => h e.symm]
      exact findNow_int g m k (i + 1) (j + 1)
theorem KeyD.int {P : Program} {kt : TypeId} {q : IntKind} (hd : P.underlying kt = some (.int q)) : KeyD P kt (Value.int q) where
  check := fun b k w => MapKept.run_checkKey (d := .int q) (k := .int q k) hd rfl b 9999
  find := fun g m k i w => MapKept.run_findKey hd (findNow_int g m k i 0)
  stays := fun k w => MapKept.run_keyThatStays (d := .int q) (hk := (rfl : MapKept.IsKey (.int q) (.int q k)))
/-- Two numbers in an array. -/
def pairV (q : IntKind) (p : Int × Int) : Value := .agg #[.int q p.1, .int q p.2]
theorem findAsking_pair {P : Program} {kt e : TypeId} {q : IntKind} {ν : Type} (hu : P.underlying kt = some (.array 2 e)) (he : P.underlying e = some (.int q)) (hsz : ∀ w', (sizeOf e).run P w' = .ok 1 w') (g : ν → Value) :
    ∀ (m : List ((Int × Int) × ν)) (k : Int × Int) (i j : Nat) (w : World), (Instr.findAsking kt (pairV q k) (mE (pairV q) g m i) j).run P w = .ok ((mfind m k j).map fun x => (x.1, g x.2)) w
  | [], _, _, _, _ => rfl
  | p :: m, k, i, j, w => by
    rw [mE, Instr.findAsking, mfind]
    have heq : (Op.equal kt (pairV q k) (pairV q p.1)).run P w = .ok (decide (k.1 = p.1.1) && decide (k.2 = p.1.2)) w := by
      show (Op.equalIn 10000 kt _ _).run P w = _
      rw [show (10000 : Nat) = 9998 + 2 from rfl]
      exact run_equalA2 hu he hsz 9998 w
    simp only [Sem.run_bind, heq, Result.andThen_ok]
    by_cases h : p.1 = k
    · rw [if_pos h, ← h]; simp
    · rw [if_neg h, show (decide (k.1 = p.1.1) && decide (k.2 = p.1.2)) = false from by
        rw [Bool.and_eq_false_iff, decide_eq_false_iff_not, decide_eq_false_iff_not]
        by_cases h1 : k.1 = p.1.1
        · exact .inr fun h2 => h (Prod.ext h1.symm h2.symm)
        · exact .inl h1]
      exact findAsking_pair hu he hsz g m k (i + 1) (j + 1) w
theorem KeyD.pair {P : Program} {kt e : TypeId} {q : IntKind} (hu : P.underlying kt = some (.array 2 e)) (he : P.underlying e = some (.int q)) (hsz : ∀ w', (sizeOf e).run P w' = .ok 1 w') : KeyD P kt (pairV q) where
  check := fun b k w => by
    have hag : ∀ w', (isAgg e).run P w' = .ok false w' := fun w' => by simp [isAgg, run_underlying he]
    rw [show (10000 : Nat) = 9999 + 1 from rfl, pairV]
    unfold Instr.checkKey
    simp only [Sem.run_bind, run_underlying hu, Result.andThen_ok, hsz]
    have hi : ∀ (x : Int) w', (Instr.checkKey b 9999 e (.int q x)).run P w' = .ok () w' := fun x w' => MapKept.run_checkKey (d := .int q) (k := .int q x) he rfl b 9998
    simp [List.range', part, hag, hi, hsz]
  find := fun g m k i w => by
    cases m with
    | nil => simp [mE, Instr.findKey, Instr.findNow, mfind, run_underlying hu]
    | cons p m =>
      have h1 : Instr.findNow (.array 2 e) (pairV q k) (mE (pairV q) g (p :: m) i) 0 = none := rfl
      unfold Instr.findKey
      simp only [Sem.run_bind, run_underlying hu, Result.andThen_ok, h1]
      exact findAsking_pair hu he hsz g (p :: m) k i 0 w
  stays := fun k w => by
    have h : Instr.sameBits 10000 (pairV q k) (pairV q k) = true := by
      rw [show (10000 : Nat) = 9999 + 1 from rfl, pairV, Instr.sameBits]
      simp [Instr.sameBits]
    unfold Instr.keyThatStays
    rw [if_pos h]; rfl

section
variable {P : Program} {n : Nat} {kc : Cont} {σ σ0 : Fr} {w w0 : World} {O : List (Option Nat)} {obs : List Ob} {x y z : Operand} {ty T : TypeId} {l : List (Nat × Value)} {d : Tmp} {pos : String} {af : Array Edge} {ops : Array Oper} {rest : List Oper}
variable {κ ν : Type} [DecidableEq κ] {f : κ → Value} {g : ν → Value} {kt et : TypeId}

/-- A map is made. -/
theorem Wx.makeMap (hS : St w0 O w obs) (hd : Nat.ble (d + 1) n = true) (h : ∀ b w', Ext w w' → St w0 O w' (.raw b (.map #[] 0) :: obs) → Wx P n ops false rest kc (look ((d, .map (some b)) :: l) σ0) w') :
    Wx P n ops false (⟨some d, .makeMap T none, ty, pos, af, none⟩ :: rest) kc (look l σ0) w := by
  have he : Ext w (w.alloc (.map #[] 0)) := (Below.refl _ _).alloc (Nat.le_refl _) _
  refine Wx.val (v := .map (some w.heap.size)) (w' := w.alloc (.map #[] 0)) ?_ hd (h w.heap.size _ he (hS.push he _ (fun b hb => by simp [Ob.blk] at hb; omega) (fun F _ => ⟨hS.bel.size, heap_alloc_new w _⟩)))
  simp [xop, execOp, Instr.makeMap]
/-- m[k]. -/
theorem rd_lookup {b c : Nat} {m : List (κ × ν)} {zv : ν} {k : κ} (hS : St w0 O w obs) (i : Nat) (hi : obs[i]? = some (.raw b (.map (mE f g m 0).toArray c))) (hx : ev σ x = .map (some b)) (hy : ev σ y = f k)
    (hu : P.underlying T = some (.map kt et)) (K : KeyD P kt f) (hz : ∀ w', (zeroValue et).run P w' = .ok (g zv) w') : Rd P σ (.lookup T x y false) ty w (g (mget zv m k)) := by
  intro w' hw'
  have hb := (hS.get i hi).2
  have hb' : w'.heap[b]? = some (.map (mE f g m 0).toArray c) := (hw'.block b (Array.getElem?_eq_some_iff.1 hb).1).trans hb
  have hf := K.find g m k 0 w'
  rw [mfind_get zv m k 0]
  simp only [xop, execOp, hx, hy, Instr.lookup, Sem.run_bind, run_underlying hu, MapKept.run_getObj_map hb', Result.andThen_ok, K.check, hf, Sem.run_pure]
  cases mfind m k 0 <;> simp [hz]
/-- m[k] = v. -/
theorem Wx.mapUpdate {b : Nat} {m : List (κ × ν)} {k : κ} {v : ν} (hS : St w0 O w obs) (i : Nat) (hi : obs[i]? = some (.raw b (.map (mE f g m 0).toArray m.length))) (hx : ev (look l σ0) x = .map (some b)) (hy : ev (look l σ0) y = f k) (hv : ev (look l σ0) z = g v)
    (hu : P.underlying T = some (.map kt et)) (K : KeyD P kt f)
    (h : ∀ w', w.heap.size ≤ w'.heap.size → St w0 O w' (obs.set i (.raw b (.map (mE f g (mput m k v) 0).toArray (mput m k v).length))) → Wx P n ops false rest kc (look l σ0) w') :
    Wx P n ops false (⟨none, .mapUpdate T x y z, ty, pos, af, none⟩ :: rest) kc (look l σ0) w := by
  have hb := (hS.get i hi).2
  have hbase := (hS.get i hi).1
  have hf := K.find g m k 0 w
  have hrun : (Instr.mapUpdate T (.map (some b)) (f k) (g v)).run P w = .ok () (setBlock w b (.map (mE f g (mput m k v) 0).toArray (mput m k v).length)) := by
    cases hm : mfind m k 0 with
    | none =>
      rw [hm] at hf
      obtain ⟨e1, e2⟩ := mE_new f g m k v 0 0 hm
      rw [e1, e2]
      simp [Instr.mapUpdate, run_underlying hu, MapKept.run_getObj_map hb, K.check, hf, MapKept.run_setObj_map _ hb, Result.andThen, setBlock]
    | some q =>
      rw [hm] at hf
      obtain ⟨e1, e2⟩ := mE_found f g m k v 0 0 q hm
      rw [Nat.sub_zero] at e1 e2
      rw [e2, mput_len m k v 0 q hm]
      simp [Instr.mapUpdate, run_underlying hu, MapKept.run_getObj_map hb, K.check, hf, e1, K.stays, MapKept.run_setObj_map _ hb, Result.andThen, setBlock]
  refine Wx.unit (w' := setBlock w b (.map (mE f g (mput m k v) 0).toArray (mput m k v).length)) ?_ (h _ (by simp [setBlock]) ?_)
  · simp [xop, execOp, hx, hy, hv, hrun]
  · exact hS.turn i hi rfl rfl rfl (by simp [setBlock]) (fun b' _ hb' => heap_setBlock_other hb _ (fun e => hb' (by rw [e]; rfl))) (fun b' hb' => .inl hb') (fun b' hb' => by simpa [setBlock] using (Ob.ok_lt (hS.get i hi) hb').2) (fun F _ => ⟨hbase, heap_setBlock_same hb _⟩)
end
end Go.Wk

namespace Go.Wk
open Go.RowKit Go.Lib Go.ChangeMaps
set_option linter.unusedVariables false
set_option linter.unusedSimpArgs false
set_option linter.unusedSectionVars false

section
variable {κ ν : Type} [DecidableEq κ]
theorem mfind_put : ∀ (m : List (κ × ν)) (k : κ) (v : ν) (i : Nat), ∃ j, mfind (mput m k v) k i = some (i + j, v) ∧ j < (mput m k v).length ∧ (∀ x, mfind m k i = some x → x.1 = i + j) ∧ (mfind m k i = none → j = m.length)
  | [], k, v, i => ⟨0, by simp [mput, mfind], by simp [mput], ⟨fun x h => (by cases (h : (none : Option (Nat × ν)) = some x)), fun _ => rfl⟩⟩
  | p :: m, k, v, i => by
    by_cases h : p.1 = k
    · refine ⟨0, by rw [mput, if_pos h, mfind, if_pos h]; rfl, by rw [mput, if_pos h]; simp, fun x hx => ?_, fun hx => ?_⟩
      · rw [mfind, if_pos h] at hx; cases hx; rfl
      · rw [mfind, if_pos h] at hx; cases hx
    · obtain ⟨j, h1, h2, h3, h4⟩ := mfind_put m k v (i + 1)
      refine ⟨j + 1, by rw [mput, if_neg h, mfind, if_neg h, h1]; simp; omega, by rw [mput, if_neg h, List.length_cons]; omega, fun x hx => ?_, fun hx => ?_⟩
      · rw [mfind, if_neg h] at hx; have := h3 x hx; omega
      · rw [mfind, if_neg h] at hx; have := h4 hx; rw [List.length_cons]; omega
theorem mE_born (f : κ → Value) (g : ν → Value) : ∀ (m : List (κ × ν)) (i j : Nat) (s : Int), j < m.length → s = ((i + j : Nat) : Int) → (mE f g m i).findIdx? (fun e => (e.born : Int) == s) = some j
  | [], _, _, _, h, _ => by simp at h
  | p :: m, i, 0, s, _, hs => by
    rw [mE, List.findIdx?_cons, if_pos (by simp [hs])]
  | p :: m, i, j + 1, s, h, hs => by
    rw [mE, List.findIdx?_cons, if_neg (by simp [hs]; omega), mE_born f g m (i + 1) j s (by simpa using h) (by rw [hs]; congr 1; omega)]
    rfl
theorem mE_same (f : κ → Value) (g : ν → Value) : ∀ (m : List (κ × ν)) (k : κ) (i j : Nat) (x : Nat × ν), mfind m k j = some x → mput m k x.2 = m ∧ (mE f g m i).modify (x.1 - j) (fun e => { e with key := f k }) = mE f g m i
  | [], _, _, _, _, h => by cases h
  | p :: m, k, i, j, x, h => by
    rw [mfind] at h
    by_cases hp : p.1 = k
    · rw [if_pos hp] at h
      cases h
      rw [mput, if_pos hp, Nat.sub_self, ← hp]
      exact ⟨rfl, by simp [mE]⟩
    · rw [if_neg hp] at h
      have hge := mfind_ge m k (j + 1) x h
      obtain ⟨h1, h2⟩ := mE_same f g m k (i + 1) (j + 1) x h
      rw [mput, if_neg hp, h1, mE]
      obtain ⟨q, hq⟩ : ∃ q, x.1 = j + 1 + q := ⟨x.1 - (j + 1), by omega⟩
      rw [hq] at h2 ⊢
      rw [show j + 1 + q - (j + 1) = q by omega] at h2
      rw [show j + 1 + q - j = q + 1 by omega, List.modify_succ_cons, h2]
      exact ⟨rfl, rfl⟩
end

section
variable {P : Program} {n : Nat} {kc : Cont} {σ σ0 : Fr} {w w0 : World} {O : List (Option Nat)} {obs : List Ob} {x y z : Operand} {ty T : TypeId} {l : List (Nat × Value)} {d : Tmp} {pos : String} {af : Array Edge} {ops : Array Oper} {rest : List Oper}
variable {κ ν : Type} [DecidableEq κ] {f : κ → Value} {g : ν → Value} {kt et : TypeId}
/-- The entry of a key, which is made if there is none. -/
theorem Wx.mapEntry {b : Nat} {m : List (κ × ν)} {zv : ν} {k : κ} (hS : St w0 O w obs) (i : Nat) (hi : obs[i]? = some (.raw b (.map (mE f g m 0).toArray m.length))) (hx : ev (look l σ0) x = .map (some b)) (hy : ev (look l σ0) y = f k)
    (hu : P.underlying T = some (.map kt et)) (K : KeyD P kt f) (hz : ∀ w', (zeroValue et).run P w' = .ok (g zv) w') (hd : Nat.ble (d + 1) n = true)
    (h : ∀ (j : Nat) w', w.heap.size ≤ w'.heap.size → mfind (mput m k (mget zv m k)) k 0 = some (j, mget zv m k) → j < (mput m k (mget zv m k)).length → St w0 O w' (obs.set i (.raw b (.map (mE f g (mput m k (mget zv m k)) 0).toArray (mput m k (mget zv m k)).length))) →
      Wx P n ops false rest kc (look ((d, .tuple #[g (mget zv m k), .int .i64 (j : Int)]) :: l) σ0) w') :
    Wx P n ops false (⟨some d, .mapEntry T x y, ty, pos, af, none⟩ :: rest) kc (look l σ0) w := by
  have hb := (hS.get i hi).2
  have hbase := (hS.get i hi).1
  have hf := K.find g m k 0 w
  obtain ⟨j, j1, j2, j3, j4⟩ := mfind_put m k (mget zv m k) 0
  rw [Nat.zero_add] at j1
  have hrun : (Instr.mapEntry T (.map (some b)) (f k)).run P w = .ok (.tuple #[g (mget zv m k), .int .i64 (j : Int)]) (setBlock w b (.map (mE f g (mput m k (mget zv m k)) 0).toArray (mput m k (mget zv m k)).length)) := by
    cases hm : mfind m k 0 with
    | none =>
      rw [hm] at hf
      obtain ⟨e1, e2⟩ := mE_new f g m k zv 0 0 hm
      have e3 : mget zv m k = zv := by rw [mfind_get zv m k 0, hm]; rfl
      have e4 : j = m.length := j4 hm
      rw [e3, e1, e2, e4]
      simp [Instr.mapEntry, run_underlying hu, MapKept.run_getObj_map hb, K.check, hf, hz, MapKept.run_setObj_map _ hb, Result.andThen, setBlock, goInt]
    | some q =>
      rw [hm] at hf
      have e3 : mget zv m k = q.2 := by rw [mfind_get zv m k 0, hm]; rfl
      obtain ⟨e1, _⟩ := mE_found f g m k q.2 0 0 q hm
      obtain ⟨e5, e6⟩ := mE_same f g m k 0 0 q hm
      rw [Nat.sub_zero] at e1 e6
      have e4 : q.1 = j := by have := j3 q hm; omega
      rw [e3, e5]
      rw [e4] at e1 e6
      have hf' : (Instr.findKey kt (f k) (mE f g m 0)).run P w = .ok (some (j, g q.2)) w := by rw [hf, Option.map_some, e4]
      simp [Instr.mapEntry, run_underlying hu, MapKept.run_getObj_map hb, K.check, hf', e1, K.stays, MapKept.run_setObj_map _ hb, Result.andThen, setBlock, goInt, e6]
  refine Wx.val (w' := setBlock w b (.map (mE f g (mput m k (mget zv m k)) 0).toArray (mput m k (mget zv m k)).length)) (v := .tuple #[g (mget zv m k), .int .i64 (j : Int)]) ?_ hd (h j _ (by simp [setBlock]) j1 j2 ?_)
  · simp [xop, execOp, hx, hy, hrun]
  · exact hS.turn i hi rfl rfl rfl (by simp [setBlock]) (fun b' _ hb' => heap_setBlock_other hb _ (fun e => hb' (by rw [e]; rfl))) (fun b' hb' => .inl hb') (fun b' hb' => by simpa [setBlock] using (Ob.ok_lt (hS.get i hi) hb').2) (fun F _ => ⟨hbase, heap_setBlock_same hb _⟩)
/-- The entry of a stamp is written. -/
theorem Wx.entryStore {b j : Nat} {m : List (κ × ν)} {k : κ} {v v0 : ν} (hS : St w0 O w obs) (i : Nat) (hi : obs[i]? = some (.raw b (.map (mE f g m 0).toArray m.length))) (hx : ev (look l σ0) x = .map (some b)) (hy : ev (look l σ0) y = .int .i64 (j : Int)) (hv : ev (look l σ0) z = g v)
    (hj : mfind m k 0 = some (j, v0)) (hjl : j < m.length)
    (h : ∀ w', w.heap.size ≤ w'.heap.size → St w0 O w' (obs.set i (.raw b (.map (mE f g (mput m k v) 0).toArray (mput m k v).length))) → Wx P n ops false rest kc (look l σ0) w') :
    Wx P n ops false (⟨none, .entryStore T x y z, ty, pos, af, none⟩ :: rest) kc (look l σ0) w := by
  have hb := (hS.get i hi).2
  have hbase := (hS.get i hi).1
  obtain ⟨e1, e2⟩ := mE_found f g m k v 0 0 (j, v0) hj
  rw [Nat.sub_zero] at e1 e2
  have e3 := mE_born f g m 0 j (j : Int) hjl (by rw [Nat.zero_add])
  have e4 : (mE f g m 0).modify j (fun e => { e with val := g v }) = mE f g (mput m k v) 0 := by
    rw [e2]
    refine List.ext_getElem? fun q => ?_
    rw [List.getElem?_modify, List.getElem?_modify]
    by_cases hq : j = q
    · subst hq
      have e1 : (mE f g m 0)[j]? = some ⟨f k, g v0, 0 + j⟩ := e1
      simp [e1]
    · simp [hq]
  have hrun : (Instr.entryStore T (.map (some b)) (.int .i64 (j : Int)) (g v)).run P w = .ok () (setBlock w b (.map (mE f g (mput m k v) 0).toArray (mput m k v).length)) := by
    rw [mput_len m k v 0 _ hj, ← e4]
    simp [Instr.entryStore, MapKept.run_getObj_map hb, asInt, asIntOf, e3, MapKept.run_setObj_map _ hb, Result.andThen, setBlock]
  refine Wx.unit (w' := setBlock w b (.map (mE f g (mput m k v) 0).toArray (mput m k v).length)) ?_ (h _ (by simp [setBlock]) ?_)
  · simp [xop, execOp, hx, hy, hv, hrun]
  · exact hS.turn i hi rfl rfl rfl (by simp [setBlock]) (fun b' _ hb' => heap_setBlock_other hb _ (fun e => hb' (by rw [e]; rfl))) (fun b' hb' => .inl hb') (fun b' hb' => by simpa [setBlock] using (Ob.ok_lt (hS.get i hi) hb').2) (fun F _ => ⟨hbase, heap_setBlock_same hb _⟩)
end
end Go.Wk

namespace Go.Proofs.YtokdjjebnomciaaDoor
open Go.Wk Go
set_option linter.unusedVariables false
/-- Joins are a plan just if each one is good behind those before it. -/
def soundB (s : ByteArray) (l : List Join) : Bool := decide (validT s [] l = 0)
theorem badX_zero {s : ByteArray} {pre : List Join} {x : Join} : badX s pre x = 0 ↔ (0 ≤ x.1 ∧ x.1 < x.2 ∧ x.2 < (s.size : Int)) ∧ usedB pre x.1 = false ∧ usedB pre x.2 = false ∧ fitR s x.1 x.2 = true ∧ crossesB pre x = false ∧ ¬ x.1 < lastI pre := by
  constructor
  · intro h
    by_cases hin : (0 ≤ x.1 ∧ x.1 ≤ (s.size : Int) - 1) ∧ (0 ≤ x.2 ∧ x.2 ≤ (s.size : Int) - 1)
    · by_cases ho : x.2 ≤ x.1
      · rw [badX_order hin ho] at h; exact absurd h (by decide)
      · by_cases hu : usedB pre x.1 = true ∨ usedB pre x.2 = true
        · rw [badX_twice hin (by omega) hu] at h; exact absurd h (by decide)
        · have h1 : usedB pre x.1 = false := by cases hq : usedB pre x.1 with | false => rfl | true => exact absurd (.inl hq) hu
          have h2 : usedB pre x.2 = false := by cases hq : usedB pre x.2 with | false => rfl | true => exact absurd (.inr hq) hu
          cases hf : fitR s x.1 x.2 with
          | false => rw [badX_clash hin (by omega) h1 h2 hf] at h; exact absurd h (by decide)
          | true =>
            cases hc : crossesB pre x with
            | true => rw [badX_shape hin (by omega) h1 h2 hf hc] at h; exact absurd h (by decide)
            | false =>
              by_cases hl : x.1 < lastI pre
              · rw [badX_late hin (by omega) h1 h2 hf hc hl] at h; exact absurd h (by decide)
              · exact ⟨⟨by omega, by omega, by omega⟩, h1, h2, rfl, rfl, hl⟩
    · rw [badX_none hin] at h; exact absurd h (by decide)
  · rintro ⟨⟨a, b, c⟩, d, e, f, g, h⟩
    exact badX_good ⟨⟨a, by omega⟩, by omega, by omega⟩ b d e f g h
theorem validT_next {s : ByteArray} {l : List Join} {k : Int} (h0 : 0 ≤ k) (h1 : k < l.length) (h2 : validT s (l.take k.toNat) (l.drop k.toNat) = validT s [] l) (h : badX s (l.take k.toNat) (ix (0, 0) l k) = 0) : validT s (l.take (k + 1).toNat) (l.drop (k + 1).toNat) = validT s [] l := validT_good h0 h1 h2 h
theorem sound_bad {s : ByteArray} {l : List Join} {k : Int} (h0 : 0 ≤ k) (h1 : k < l.length) (h2 : validT s (l.take k.toNat) (l.drop k.toNat) = validT s [] l) (h : badX s (l.take k.toNat) (ix (0, 0) l k) ≠ 0) : soundB s l = false := by
  rw [soundB, ← h2, drop_ix (d := (0, 0)) h0 h1, validT, if_neg h]
  exact decide_eq_false h
theorem sound_end {s : ByteArray} {l : List Join} {k : Int} (h1 : (l.length : Int) ≤ k) (h2 : validT s (l.take k.toNat) (l.drop k.toNat) = validT s [] l) : soundB s l = true := by
  rw [soundB, ← h2, drop_end h1]; rfl
theorem usedB_app (l : List Join) (x : Join) (q : Int) : usedB (l ++ [x]) q = (usedB l q || (decide (x.1 = q) || decide (x.2 = q))) := by
  rw [usedB, List.any_append]; simp [usedB]
theorem met_step {m : List (Int × Bool)} {pre : List Join} {x : Join} (h : ∀ q, mget false m q = usedB pre q) (q : Int) : mget false (mput (mput m x.1 true) x.2 true) q = usedB (pre ++ [x]) q := by
  rw [mget_mput, mget_mput, usedB_app, h q]
  by_cases h1 : q = x.2
  · rw [if_pos h1, h1]; simp
  · rw [if_neg h1]
    by_cases h2 : q = x.1
    · rw [if_pos h2, h2]; simp
    · rw [if_neg h2, decide_eq_false (fun e => h2 e.symm), decide_eq_false (fun e => h1 e.symm)]; simp
end Go.Proofs.YtokdjjebnomciaaDoor

namespace Go.Wk
set_option linter.unusedVariables false
section
variable {α : Type} (d : α) (lt : α → α → Bool)
variable {d lt}
variable (hT : ∀ x y z, lt y x = false → lt z y = false → lt z x = false) (hA : ∀ x y, lt x y = true → lt y x = false)
include hT hA
end
end Go.Wk

namespace Go.Wk
open Go.RowKit Go.Lib
section
variable {P : Program} {w : World} {ty : TypeId} {σ : Fr} {T : TypeId} {x : Operand}
theorem rd_sliceArrA {g o m : Nat} {e : TypeId} {sz : Nat} (hu : P.underlying T = some (.array m e)) (hsz : ∀ w', (sizeOf e).run P w' = .ok sz w') (hx : ev σ x = .pointer (some ⟨g, o, none⟩)) :
    Rd P σ (.slice T x none none none) ty w (.slice (some ⟨g, o, none⟩) m m) :=
  Rd.of fun w' => by
    have hr : (Instr.sliceAt T (.pointer (some ⟨g, o, none⟩)) none none none).run P w' = .ok (.slice (some ⟨g, o, none⟩) m m) w' := by
      simp [Instr.sliceAt, Instr.sureAddr, run_underlying hu, Instr.sliceBounds, run_sliceBound, hsz, Addr.add]
    simp only [xop, execOp, hx, Option.map_none, Sem.run_bind, hr]
    rfl
end
end Go.Wk

namespace Go.Proofs.YtokdjjebnomciaaDoor
open Go.Wk Go
set_option linter.unusedVariables false
def cmpI (x y : Int) : Int := if x < y then -1 else if y < x then 1 else 0
def cmpJ (x y : Join) : Int := if cmpI x.1 y.1 ≠ 0 then cmpI x.1 y.1 else cmpI x.2 y.2
def ltB (x y : Join) : Bool := decide (cmpJ x y < 0)
theorem ltB_iff {x y : Join} : ltB x y = true ↔ ltJ x y := by
  rw [ltB, decide_eq_true_eq, cmpJ, cmpI, cmpI, ltJ]
  (repeat' split) <;> omega
/-- Lists of numbers compared. -/
def cmpL : List Int → List Int → Int
  | [], [] => 0
  | [], _ :: _ => -1
  | _ :: _, [] => 1
  | a :: p, b :: q => if cmpI a b ≠ 0 then cmpI a b else cmpL p q
theorem cmpL_two (a b c d : Int) : cmpL [a, b] [c, d] = cmpJ (a, b) (c, d) := by
  rw [cmpL, cmpL, cmpL, cmpJ]
  show (if cmpI a c ≠ 0 then cmpI a c else if cmpI b d ≠ 0 then cmpI b d else 0) = if cmpI a c ≠ 0 then cmpI a c else cmpI b d
  (repeat' split) <;> omega
theorem cmpI_bd (a b : Int) : -1 ≤ cmpI a b ∧ cmpI a b ≤ 1 := by rw [cmpI]; (repeat' split) <;> omega
theorem cmpJ_bd (a b : Join) : -1 ≤ cmpJ a b ∧ cmpJ a b ≤ 1 := by rw [cmpJ]; split <;> exact cmpI_bd _ _
end Go.Proofs.YtokdjjebnomciaaDoor

namespace Go.Proofs.YtokdjjebnomciaaDoor
open Go.Wk Go.RowKit Go.Lib Go
end Go.Proofs.YtokdjjebnomciaaDoor

namespace Go.Wk
open Go.RowKit Go.Lib
set_option linter.unusedVariables false
section
variable {w w0 : World} {O : List (Option Nat)} {obs : List Ob}
end
end Go.Wk

namespace Go.Proofs.YtokdjjebnomciaaDoor
open Go.Wk Go
set_option linter.unusedVariables false
theorem sound_iff {s : ByteArray} {l : List Join} : soundB s l = true ↔ validT s [] l = 0 := by rw [soundB, decide_eq_true_eq]
end Go.Proofs.YtokdjjebnomciaaDoor

namespace Go.Proofs.YtokdjjebnomciaaDoor
open Go.Wk Go
set_option linter.unusedVariables false
theorem plan_last {F : Int → Int → Bool} {n : Int} {pre : List Join} (h : Plan F 0 n pre) {y : Join} (hy : y ∈ pre) : y.1 ≤ lastI pre := by
  rw [lastI]
  cases hl : pre.getLast? with
  | none => rw [List.getLast?_eq_none_iff] at hl; rw [hl] at hy; cases hy
  | some z =>
    obtain ⟨p, rfl⟩ : ∃ p, pre = p ++ [z] := by
      rw [List.getLast?_eq_some_iff] at hl; exact hl
    rcases List.mem_append.1 hy with hy | hy
    · have := (List.pairwise_append.1 h.2).2.2 y hy z (by simp)
      show y.1 ≤ z.1
      have := this.1; omega
    · rw [List.mem_singleton] at hy; subst hy; exact Int.le_refl _
theorem bad_plan {s : ByteArray} {pre : List Join} {x : Join} (h : Plan (fitR s) 0 s.size pre) : badX s pre x = 0 ↔ (0 ≤ x.1 ∧ x.1 < x.2 ∧ x.2 < (s.size : Int)) ∧ fitR s x.1 x.2 = true ∧ ∀ y ∈ pre, apartJ y x := by
  rw [badX_zero]
  constructor
  · rintro ⟨hin, hu1, hu2, hf, hc, hl⟩
    have hlt : ∀ y ∈ pre, y.1 < x.1 := by
      intro y hy
      have h1 := plan_last h hy
      have h2 : y.1 ≠ x.1 := fun e => by
        have : usedB pre x.1 = true := used_mem.2 ⟨y, hy, .inl e⟩
        rw [this] at hu1; cases hu1
      omega
    have hg : goesB (fitR s) pre x.1 x.2 = true := by rw [goesB, hf, hu2, hc]; rfl
    exact ⟨hin, hf, ((goes_apart hin.2.1 hlt).1 ⟨hu1, hg⟩).2⟩
  · rintro ⟨hin, hf, ha⟩
    have hlt : ∀ y ∈ pre, y.1 < x.1 := fun y hy => (ha y hy).1
    obtain ⟨h1, h2⟩ := (goes_apart hin.2.1 hlt).2 ⟨hf, ha⟩
    rw [goesB, Bool.and_eq_true, Bool.and_eq_true] at h2
    refine ⟨hin, h1, by simpa using h2.1.2, hf, by simpa using h2.2, ?_⟩
    intro hl
    rw [lastI] at hl
    cases hq : pre.getLast? with
    | none => rw [hq] at hl; have : x.1 < -1 := hl; omega
    | some z =>
      rw [hq] at hl
      have hl : x.1 < z.1 := hl
      have := hlt z (List.mem_of_getLast? hq)
      omega
theorem valid_plan {s : ByteArray} : ∀ (l pre : List Join), Plan (fitR s) 0 s.size pre → (validT s pre l = 0 ↔ Plan (fitR s) 0 s.size (pre ++ l))
  | [], pre, h => by rw [List.append_nil]; exact ⟨fun _ => h, fun _ => rfl⟩
  | x :: l, pre, h => by
    rw [validT]
    by_cases hb : badX s pre x = 0
    · obtain ⟨⟨a, b, c⟩, d, e⟩ := (bad_plan h).1 hb
      rw [if_pos hb, valid_plan l (pre ++ [x]) (plan_snoc h a b c d e), List.append_assoc]; rfl
    · rw [if_neg hb]
      refine ⟨fun h0 => absurd h0 hb, fun hp => absurd ((bad_plan h).2 ?_) hb⟩
      obtain ⟨a, b, c, d⟩ := hp.1 x (by simp)
      exact ⟨⟨a, b, c⟩, d, fun y hy => (List.pairwise_append.1 hp.2).2.2 y hy x (by simp)⟩
theorem plan_nil {F : Int → Int → Bool} {lo hi : Int} : Plan F lo hi [] := ⟨fun x hx => (by cases hx), .nil⟩
theorem sound_plan {s : ByteArray} {l : List Join} : soundB s l = true ↔ Plan (fitR s) 0 s.size l := by rw [sound_iff, valid_plan l [] plan_nil]; rfl

/-! ### the steps, sorted -/
/-- What holds while neighbours are taken away. -/
structure RunI (s : ByteArray) (st : List Join) (lf : List Int) (lim : Int) : Prop where
  lfI : ∀ c ∈ lf, 0 ≤ c ∧ c < lim
  asc : lf.Pairwise (· < ·)
  stI : ∀ x ∈ st, 0 ≤ x.1 ∧ x.1 < x.2 ∧ x.2 < lim ∧ fitR s x.1 x.2 = true
  free : st.Pairwise freeJ
  out : ∀ c ∈ lf, ∀ x ∈ st, c < x.1 ∨ x.2 < c
/-! ### each step -/
theorem runS_grow {s : ByteArray} : ∀ (r : List Int) (st : List Join) (lf : List Int), ∃ e, (runS s (st, lf) r).1 = st ++ e
  | [], st, lf => ⟨[], (List.append_nil _).symm⟩
  | j :: r, st, lf => by
    rw [runS_cons]
    by_cases hc : 0 < lf.length ∧ fitR s (topI lf) j = true
    · rw [stepS, if_pos hc]
      obtain ⟨e, he⟩ := runS_grow (s := s) r (st ++ [(topI lf, j)]) (lf.take ((lf.length : Int) - 1).toNat)
      exact ⟨(topI lf, j) :: e, by rw [he, List.append_assoc]; rfl⟩
    · rw [stepS, if_neg hc]; exact runS_grow r st _
/-- What is left after so many steps. -/
def LeftI (s : ByteArray) (q : Int) (t : ByteArray) : Prop := ∃ lf : List Int, t = mkB (lf.map (byteAt s)) ∧ (∀ x ∈ lf, 0 ≤ x ∧ x < (s.size : Int)) ∧ runS s ((takS s).1.take q.toNat, lf.take ((0 : Int) + 1).toNat) (lf.drop ((0 : Int) + 1).toNat) = takS s
/-- The first neighbours that fit, sought from the right. -/
def FirstI (t : ByteArray) (i k : Int) : Prop := (k = -1 ∨ (i < k ∧ k + 1 < (t.size : Int) ∧ fitR t k (k + 1) = true)) ∧ ∀ q, i < q → q + 1 < (t.size : Int) → (k = -1 ∨ q < k) → fitR t q (q + 1) = false
theorem FirstI.start (t : ByteArray) : FirstI t ((t.size : Int) - 2) (-1) := ⟨.inl rfl, fun q h0 h1 => by omega⟩
theorem FirstI.yes {t : ByteArray} {i k : Int} (h : FirstI t i k) (h0 : 0 ≤ i) (h1 : i + 1 < (t.size : Int)) (hf : fitR t i (i + 1) = true) : FirstI t (i - 1) i := ⟨.inr ⟨by omega, h1, hf⟩, fun q a b c => by omega⟩
theorem FirstI.no {t : ByteArray} {i k : Int} (h : FirstI t i k) (hf : fitR t i (i + 1) = false) : FirstI t (i - 1) k :=
  ⟨h.1.imp id fun ⟨a, b, c⟩ => ⟨by omega, b, c⟩, fun q a b c => by
    by_cases hq : q = i
    · rw [hq]; exact hf
    · exact h.2 q (by omega) b c⟩
theorem FirstI.exit {t : ByteArray} {i k : Int} (h : FirstI t i k) (h0 : -2 ≤ i) (h1 : i < 0) : FirstI t (-1) k := by
  refine ⟨?_, fun q a b c => h.2 q (by omega) b c⟩
  by_cases hk : k = -1
  · exact .inl hk
  · rcases h.1 with q | ⟨a, b, c⟩
    · exact .inl q
    · exact .inr ⟨by omega, b, c⟩
theorem LeftI.start (s : ByteArray) : LeftI s 0 s := ⟨rng 0 s.size, by
    apply ba_ext
    show s.data.toList = (rng 0 s.size).map (byteAt s)
    have hsz : s.size = s.data.toList.length := (by simp)
    apply List.ext_getElem?
    intro i
    rw [List.getElem?_map, rng, List.getElem?_map]
    by_cases hi : i < s.size
    · rw [List.getElem?_range (by omega)]
      show _ = some (byteAt s (0 + (i : Int)))
      rw [byteAt, Int.zero_add, Int.toNat_natCast, List.getD_eq_getElem?_getD, List.getElem?_eq_getElem (by omega)]; rfl
    · rw [List.getElem?_eq_none (by omega), List.getElem?_eq_none (by rw [List.length_range]; omega)]; rfl,
  fun x hx => by rw [rng_mem] at hx; exact hx, runS_start⟩
theorem tab_left {s : ByteArray} {lf : List Int} {k : Int} (h0 : 0 ≤ k) (h1 : k < lf.length) : tabAt (mkB (lf.map (byteAt s))) k = tabAt s (ix 0 lf k) := by
  rw [tab_mkB, List.getD_eq_getElem?_getD, List.getElem?_map, ix, List.getD_eq_getElem?_getD, List.getElem?_eq_getElem (by omega)]; rfl
theorem fit_left {s : ByteArray} {lf : List Int} {k : Int} (h0 : 0 ≤ k) (h1 : k + 1 < lf.length) : fitR (mkB (lf.map (byteAt s))) k (k + 1) = fitR s (ix 0 lf k) (ix 0 lf (k + 1)) := by
  rw [fitR, fitR, tab_left h0 (by omega), tab_left (by omega) h1]
/-- Each step is the first two neighbours that fit. -/
theorem LeftI.step {s t : ByteArray} {q k : Int} (h : LeftI s q t) (h0 : 0 ≤ q) (h1 : q < (takS s).1.length) (hk : FirstI t (-1) k) :
    0 ≤ k ∧ k + 1 < (t.size : Int) ∧ tabAt t k = tabAt s (ix (0, 0) (takS s).1 q).1 ∧ tabAt t (k + 1) = tabAt s (ix (0, 0) (takS s).1 q).2 ∧ LeftI s (q + 1) (t.extract 0 k.toNat ++ t.extract (k + 2).toNat t.size) := by
  obtain ⟨lf, rfl, hin, hrun⟩ := h
  have hz : ((mkB (lf.map (byteAt s))).size : Int) = lf.length := by rw [mkB_size, List.length_map]
  rw [FirstI, hz] at hk
  have hI : ∀ p, 0 ≤ p → p < k → k + 1 < (lf.length : Int) → fitR s (ix 0 lf p) (ix 0 lf (p + 1)) = false := fun p p0 p1 p2 => by
    rw [← fit_left p0 (by omega)]; exact hk.2 p (by omega) (by omega) (.inr p1)
  rcases hk.1 with rfl | ⟨k0, k1, kf⟩
  · exfalso
    have key : ∀ (m : Nat) (p : Int), ((lf.length : Int) - p).toNat = m → 0 ≤ p → runS s ((takS s).1.take q.toNat, lf.take (p + 1).toNat) (lf.drop (p + 1).toNat) = ((takS s).1.take q.toNat, lf) := by
      intro m
      induction m with
      | zero => intro p hm hp; exact runS_end (by omega)
      | succ m ih =>
        intro p hm hp
        by_cases hl : p + 1 < (lf.length : Int)
        · rw [← runS_not hp hl (by rw [← fit_left hp hl]; exact hk.2 p (by omega) hl (.inl rfl))]
          exact ih (p + 1) (by omega) (by omega)
        · exact runS_end (by omega)
    rw [key _ 0 rfl (Int.le_refl 0)] at hrun
    have := congrArg (fun z : Tk => z.1.length) hrun
    simp only [List.length_take] at this
    omega
  · have hkf := kf
    rw [fit_left (by omega) k1] at hkf
    have key : ∀ (m : Nat) (p : Int), (k - p).toNat = m → 0 ≤ p → p ≤ k → runS s ((takS s).1.take q.toNat, lf.take (p + 1).toNat) (lf.drop (p + 1).toNat) = runS s ((takS s).1.take q.toNat, lf.take (k + 1).toNat) (lf.drop (k + 1).toNat) := by
      intro m
      induction m with
      | zero => intro p hm hp hpk; rw [show p = k by omega]
      | succ m ih =>
        intro p hm hp hpk
        rw [← runS_not hp (by omega) (hI p hp (by omega) k1)]
        exact ih (p + 1) (by omega) (by omega) (by omega)
    have hfit := runS_fit (st := (takS s).1.take q.toNat) (by omega : 0 ≤ k) k1 (fun p p0 p1 => hI p p0 p1 k1) hkf
    rw [← key _ 0 rfl (Int.le_refl 0) (by omega), hrun] at hfit
    obtain ⟨e, he⟩ := runS_grow (s := s) ((lf.take k.toNat ++ lf.drop (k + 2).toNat).drop ((0 : Int) + 1).toNat) ((takS s).1.take q.toNat ++ [(ix 0 lf k, ix 0 lf (k + 1))]) ((lf.take k.toNat ++ lf.drop (k + 2).toNat).take ((0 : Int) + 1).toNat)
    rw [hfit, List.append_assoc] at he
    have hx : ix (0, 0) (takS s).1 q = (ix 0 lf k, ix 0 lf (k + 1)) := by
      rw [he]; exact ix_app (by rw [List.length_take]; omega)
    refine ⟨by omega, by rw [hz]; exact k1, by rw [tab_left (by omega) (by omega), hx], by rw [tab_left (by omega) k1, hx], lf.take k.toNat ++ lf.drop (k + 2).toNat, ?_, fun x hx => ?_, ?_⟩
    · apply ba_ext
      rw [ByteArray.data_append, Array.toList_append, ByteArray.data_extract, ByteArray.data_extract, Array.toList_extract, Array.toList_extract]
      show ((lf.map (byteAt s)).drop 0).take (k.toNat - 0) ++ ((lf.map (byteAt s)).drop (k + 2).toNat).take _ = (lf.take k.toNat ++ lf.drop (k + 2).toNat).map (byteAt s)
      rw [List.drop_zero, Nat.sub_zero, List.map_append, List.map_take, List.map_drop, List.take_of_length_le (i := (mkB (lf.map (byteAt s))).size - (k + 2).toNat) (by rw [List.length_drop, List.length_map, mkB_size, List.length_map]; omega)]
    · rcases List.mem_append.1 hx with hx | hx
      · exact hin x (List.mem_of_mem_take hx)
      · exact hin x (List.mem_of_mem_drop hx)
    · have ht : (takS s).1.take (q + 1).toNat = (takS s).1.take q.toNat ++ [(ix 0 lf k, ix 0 lf (k + 1))] := by rw [take_ix (d := (0, 0)) h0 h1, hx]
      rw [ht]; exact hfit
end Go.Proofs.YtokdjjebnomciaaDoor

namespace Go.Proofs.YtokdjjebnomciaaDoor
open Go.Wk Go
set_option linter.unusedVariables false
/-- Whether the edges from i to before n can all be joined. -/
def canV (s : ByteArray) (i n : Int) : Bool := decide (redK ((rng i n).map (wtS s)) = [])
/-- Whether the edge i is joined to one before j. -/
def canP (s : ByteArray) (i j n : Int) : Bool := (rng (i + 1) j).any fun k => fitR s i k && canV s (i + 1) k && canV s (k + 1) n
/-! ### the table -/
def f0 (s : ByteArray) (n a m : Int) : Bool := decide (m < n) && decide (a ≤ m) && canV s a m
def f1 (s : ByteArray) (n i a m : Int) : Bool := f0 s n a m || (decide (m = n) && decide (i < a) && decide (a ≤ n) && canV s a n)
def f2 (s : ByteArray) (n i j a m : Int) : Bool := f1 s n i a m || (decide (m = n) && decide (a = i) && canP s i j n)
/-- A table of thirteen rows that holds what a function says. -/
def Grid (T : List Bool) (f : Int → Int → Bool) : Prop := T.length = 169 ∧ ∀ a m, 0 ≤ a → a ≤ 12 → 0 ≤ m → m ≤ 12 → ix false T (a * 13 + m) = f a m
theorem Grid.len {T : List Bool} {f : Int → Int → Bool} (h : Grid T f) : T.length = 169 := h.1
theorem Grid.congr {T : List Bool} {f g : Int → Int → Bool} (h : Grid T f) (e : ∀ a m, 0 ≤ a → a ≤ 12 → 0 ≤ m → m ≤ 12 → f a m = g a m) : Grid T g := ⟨h.1, fun a m a0 a1 m0 m1 => (h.2 a m a0 a1 m0 m1).trans (e a m a0 a1 m0 m1)⟩
theorem Grid.set {T : List Bool} {f g : Int → Int → Bool} (h : Grid T f) {i n : Int} {b : Bool} (i0 : 0 ≤ i) (i1 : i ≤ 12) (n0 : 0 ≤ n) (n1 : n ≤ 12) (hb : g i n = b) (e : ∀ a m, 0 ≤ a → a ≤ 12 → 0 ≤ m → m ≤ 12 → ¬ (a = i ∧ m = n) → f a m = g a m) : Grid (T.set (i * 13 + n).toNat b) g := by
  have hl := h.1
  refine ⟨by rw [List.length_set]; exact hl, fun a m a0 a1 m0 m1 => ?_⟩
  rw [ix_set (by omega) (by omega) (by omega)]
  by_cases hc : a = i ∧ m = n
  · obtain ⟨rfl, rfl⟩ := hc; rw [if_pos rfl, hb]
  · rw [if_neg (by omega), h.2 a m a0 a1 m0 m1]; exact e a m a0 a1 m0 m1 hc
variable {s : ByteArray} {T : List Bool} {n i j : Int}
end Go.Proofs.YtokdjjebnomciaaDoor

namespace Go.Proofs.YtokdjjebnomciaaDoor
open Go.Wk Go
set_option linter.unusedVariables false
/-- Lists of joins compared. -/
def cmpP : List Join → List Join → Int
  | [], [] => 0
  | [], _ :: _ => -1
  | _ :: _, [] => 1
  | a :: p, b :: q => if cmpJ a b ≠ 0 then cmpJ a b else cmpP p q
theorem cmpP_bd : ∀ p q : List Join, -1 ≤ cmpP p q ∧ cmpP p q ≤ 1
  | [], [] => by rw [cmpP]; omega
  | [], _ :: _ => by rw [cmpP]; omega
  | _ :: _, [] => by rw [cmpP]; omega
  | a :: p, b :: q => by
    rw [cmpP]
    split
    · exact cmpJ_bd a b
    · exact cmpP_bd p q
/-- What is kept: the greatest number of joins, how many have it, the first of them, and how often each join is met in them. -/
abbrev Acc := Int × Int × List Join × List (Join × Int)
def oftU (m : List (Join × Int)) (l : List Join) : List (Join × Int) := l.foldl (fun m x => mput m x (IntKind.i64.wrap (mget 0 m x + 1))) m
def stepA (a : Acc) (l : List Join) : Acc :=
  if (l.length : Int) < a.1 then a
  else if a.1 < (l.length : Int) then ((l.length : Int), IntKind.i64.wrap (0 + 1), l, oftU [] l)
  else (a.1, IntKind.i64.wrap (a.2.1 + 1), if a.2.1 = 0 ∨ cmpP l a.2.2.1 < 0 then l else a.2.2.1, oftU a.2.2.2 l)
section
variable {M C : Int} {fs l : List Join} {m : List (Join × Int)}
theorem stepA_lt (h : (l.length : Int) < M) : stepA (M, C, fs, m) l = (M, C, fs, m) := if_pos h
theorem stepA_gt (h0 : ¬ (l.length : Int) < M) (h : M < (l.length : Int)) : stepA (M, C, fs, m) l = ((l.length : Int), IntKind.i64.wrap (0 + 1), l, oftU [] l) := by
  rw [stepA, if_neg h0]; exact if_pos h
theorem stepA_yes (h0 : ¬ (l.length : Int) < M) (h : ¬ M < (l.length : Int)) (c : C = 0 ∨ cmpP l fs < 0) : stepA (M, C, fs, m) l = (M, IntKind.i64.wrap (C + 1), l, oftU m l) := by
  rw [stepA, if_neg h0]; refine (if_neg h).trans ?_; rw [if_pos c]
theorem stepA_no (h0 : ¬ (l.length : Int) < M) (h : ¬ M < (l.length : Int)) (c : ¬ (C = 0 ∨ cmpP l fs < 0)) : stepA (M, C, fs, m) l = (M, IntKind.i64.wrap (C + 1), fs, oftU m l) := by
  rw [stepA, if_neg h0]; refine (if_neg h).trans ?_; rw [if_neg c]
theorem oftU_next {k : Int} {m2 m1 : List (Join × Int)} (h0 : 0 ≤ k) (h1 : k < l.length) (h : oftU m2 (l.drop k.toNat) = oftU m1 l) : oftU (mput m2 (ix (0, 0) l k) (IntKind.i64.wrap (mget 0 m2 (ix (0, 0) l k) + 1))) (l.drop (k + 1).toNat) = oftU m1 l := by
  rw [← h, drop_ix (d := (0, 0)) h0 h1]; rfl
theorem mput_twice {κ ν : Type} [DecidableEq κ] : ∀ (m : List (κ × ν)) (k : κ) (a b : ν), mput (mput m k a) k b = mput m k b
  | [], k, a, b => by simp [mput]
  | p :: m, k, a, b => by
    by_cases h : p.1 = k
    · rw [mput, if_pos h, mput, if_pos h, mput, if_pos h]
    · rw [mput, if_neg h, mput, if_neg h, mput_twice m k a b, mput, if_neg h]
theorem oftU_next2 {k : Int} {m2 m1 : List (Join × Int)} (h0 : 0 ≤ k) (h1 : k < l.length) (h : oftU m2 (l.drop k.toNat) = oftU m1 l) : oftU (mput (mput m2 (ix (0, 0) l k) (mget 0 m2 (ix (0, 0) l k))) (ix (0, 0) l k) (IntKind.i64.wrap (mget 0 m2 (ix (0, 0) l k) + 1))) (l.drop (k + 1).toNat) = oftU m1 l := by
  rw [mput_twice]; exact oftU_next h0 h1 h
theorem oftU_next3 {k : Int} {m2 m1 : List (Join × Int)} (h0 : 0 ≤ k) (h1 : k < l.length) (h : oftU m2 (l.drop k.toNat) = oftU m1 l) : oftU (mput (mput m2 (ix (0, 0) l k) (mget 0 m2 (ix (0, 0) l k))) (ix (0, 0) l k) (IntKind.i64.wrap (mget 0 (mput m2 (ix (0, 0) l k) (mget 0 m2 (ix (0, 0) l k))) (ix (0, 0) l k) + 1))) (l.drop (k + 1).toNat) = oftU m1 l := by
  rw [mget_mput, if_pos rfl]; exact oftU_next2 h0 h1 h
theorem oftU_end {k : Int} {m2 m1 : List (Join × Int)} (h1 : (l.length : Int) ≤ k) (h : oftU m2 (l.drop k.toNat) = oftU m1 l) : m2 = oftU m1 l := by
  rw [← h, drop_end h1]; rfl
end
/-- An edge that is the end of a join. -/
def endsB (l : List Join) (i : Int) : Bool := l.any fun x => decide (x.2 = i)
def putF (s : ByteArray) : Nat → List Join → Int → List (List Join)
  | 0, l, _ => [l]
  | m + 1, l, i => putF s m l (i + 1) ++ (if endsB l i = true then [] else (rng (i + 1) s.size).flatMap fun j => if soundB s (l ++ [(i, j)]) = true then putF s m (l ++ [(i, j)]) (i + 1) else [])
/-- All plans that begin with some joins and go on from an edge. -/
def putV (s : ByteArray) (l : List Join) (i : Int) : List (List Join) := putF s ((s.size : Int) - i).toNat l i
def putQ (s : ByteArray) (l : List Join) (i j0 : Int) : List (List Join) := (rng j0 s.size).flatMap fun j => if soundB s (l ++ [(i, j)]) = true then putV s (l ++ [(i, j)]) (i + 1) else []
section
variable {s : ByteArray} {l : List Join} {i j k : Int}
theorem putV_end (h : (s.size : Int) ≤ i) : putV s l i = [l] := by rw [putV, show ((s.size : Int) - i).toNat = 0 by omega]; rfl
theorem putV_next (h : i < (s.size : Int)) : putV s l i = putV s l (i + 1) ++ (if endsB l i = true then [] else putQ s l i (i + 1)) := by
  rw [putV, show ((s.size : Int) - i).toNat = ((s.size : Int) - (i + 1)).toNat + 1 by omega]; rfl
theorem putQ_end (h : (s.size : Int) ≤ j) : putQ s l i j = [] := by rw [putQ, rng_nil h]; rfl
theorem putQ_next (h : j < (s.size : Int)) : putQ s l i j = (if soundB s (l ++ [(i, j)]) = true then putV s (l ++ [(i, j)]) (i + 1) else []) ++ putQ s l i (j + 1) := by
  rw [putQ, rng_cons h, List.flatMap_cons]; rfl
theorem ends_yes (h0 : 0 ≤ k) (h1 : k < l.length) (h2 : endsB (l.drop k.toNat) i = endsB l i) (h : (ix (0, 0) l k).2 = i) : endsB l i = true := by
  rw [← h2, drop_ix (d := (0, 0)) h0 h1, endsB, List.any_cons, decide_eq_true h]; rfl
theorem ends_no (h0 : 0 ≤ k) (h1 : k < l.length) (h2 : endsB (l.drop k.toNat) i = endsB l i) (h : ¬ (ix (0, 0) l k).2 = i) : endsB (l.drop (k + 1).toNat) i = endsB l i := by
  rw [← h2, drop_ix (d := (0, 0)) h0 h1, endsB, endsB, List.any_cons, decide_eq_false h]; rfl
theorem ends_end (h1 : (l.length : Int) ≤ k) (h2 : endsB (l.drop k.toNat) i = endsB l i) : endsB l i = false := by rw [← h2, drop_end h1]; rfl
end
/-! ### a function that is called with each plan -/
/-- The call of a function value that turns what holds of some plans into what holds of one plan more. -/
def EachP (P : Go.Program) (fe : Go.FuncId) (fs cs : List Go.Value) (Tl : List (List Join) → List Ob → Prop) : Prop :=
  ∀ (ls : List (List Join)) (l : List Join) (lv : Go.Value) (pre ob : List Ob) (w0 w : Go.World) (O : List (Option Nat)), (l.length : Int) ≤ 100 → Tl ls ob → St w0 O w (pre ++ ob) → V (tSl (tP (tI .i64) (tI .i64))) l lv (fb (pre ++ ob) O) w →
    Go.Calls P fe (fs ++ [lv] ++ cs).toArray w (Bk fun r w' => r = .tuple #[] ∧ ∃ ob', Tl (ls ++ [l]) ob' ∧ St w0 O w' (pre ++ ob'))
theorem eachP_pre {P : Go.Program} {fe : Go.FuncId} {fs cs : List Go.Value} {Tl : List (List Join) → List Ob → Prop} (h : EachP P fe fs cs Tl) (A : List Ob) : EachP P fe fs cs (fun ls ob => ∃ ob', ob = A ++ ob' ∧ Tl ls ob') := by
  rintro ls l lv pre ob w0 w O hl ⟨ob', rfl, hT⟩ hS hv
  rw [← List.append_assoc] at hS hv
  refine (h ls l lv (pre ++ A) ob' w0 w O hl hT hS hv).mono ?_
  rintro e w' ⟨r, he, hr, ob2, hT2, hS2⟩
  exact ⟨r, he, hr, A ++ ob2, ⟨ob2, rfl, hT2⟩, by rw [← List.append_assoc]; exact hS2⟩
end Go.Proofs.YtokdjjebnomciaaDoor

namespace Go.Proofs.YtokdjjebnomciaaDoor
open Go.Wk Go.RowKit Go.Lib
set_option linter.unusedVariables false
set_option linter.unusedSimpArgs false
theorem elHz_22 : ElemI Tryd.prog 22 58 (.agg #[.int .i64 0, .int .i64 0]) 2 16 := ElemI.of Tryd.underlying22 (by kernel_rfl) (by first | rfl | kernel_rfl) (by decide)

theorem F106 {x : Int} {w : World} (i_x : InK .i64 x) : Calls Tryd.prog 106 #[.int .i64 x] w (Ret w (fun r _ => r = .bool false)) := by
  have b_x := bd_i64 i_x
  have hS := St.start0 w
  refine enterR Tryd.func106 rfl Tryd.ntmps106 Tryd.results106 rfl ?_
  refine W.seq ?_
  refine W.reg ?_
  refine Wx.rd (v := .bool false) (rd_assign rfl) rfl ?_
  refine Wx.nil ?_
  refine W.seq ?_
  refine W.reg ?_
  refine Wx.rd (v := .int .i64 x) (rd_move rfl) rfl ?_
  refine Wx.rd (v := .int .i64 x) (rd_move rfl) rfl ?_
  refine Wx.rd (v := .bool (decide (x ≠ x))) (rd_neq rfl rfl) rfl ?_
  refine Wx.rd (v := .bool (decide (x ≠ x))) (rd_assign rfl) rfl ?_
  refine Wx.nil ?_
  have e0_0 : (decide (x ≠ x)) = false := by simp
  exact W.ret ⟨.bool (decide (x ≠ x)), ResIs.one, hS.bel, (by rw [e0_0])⟩

theorem F84 {x : Int} {y : Int} {w : World} (i_x : InK .i64 x) (i_y : InK .i64 y) : Calls Tryd.prog 84 #[.int .i64 x, .int .i64 y] w (Ret w (fun r _ => r = .int .i64 (cmpI x y))) := by
  have b_y := bd_i64 i_y
  have b_x := bd_i64 i_x
  have hS := St.start0 w
  refine enterR Tryd.func84 rfl Tryd.ntmps84 Tryd.results84 rfl ?_
  refine W.seq ?_
  refine W.reg ?_
  refine Wx.rd (v := .int .i64 0) (rd_assign rfl) rfl ?_
  refine Wx.nil ?_
  refine W.seq ?_
  refine W.reg ?_
  refine Wx.rd (v := .int .i64 x) (rd_move rfl) rfl ?_
  refine Wx.callF (run_callF Tryd.call106 rfl) (F106 i_x) rfl ?_
  rintro r_1 w_2 hx_3 rfl
  have hS := hS.ext hx_3
  refine Wx.rd (v := .bool false) (rd_assign rfl) rfl ?_
  refine Wx.nil ?_
  refine W.seq ?_
  refine W.reg ?_
  refine Wx.rd (v := .int .i64 y) (rd_move rfl) rfl ?_
  refine Wx.callF (run_callF Tryd.call106 rfl) (F106 i_y) rfl ?_
  rintro r_4 w_5 hx_6 rfl
  have hS := hS.ext hx_6
  refine Wx.rd (v := .bool false) (rd_assign rfl) rfl ?_
  refine Wx.nil ?_
  refine W.seq ?_
  refine W.seq ?_
  refine W.reg ?_
  refine Wx.rd (v := .bool false) (rd_move rfl) rfl ?_
  refine Wx.nil ?_
  refine W.condF rfl rfl ?_
  refine W.skip ?_
  refine W.seq ?_
  refine W.seq ?_
  refine W.reg ?_
  refine Wx.rd (v := .bool false) (rd_move rfl) rfl ?_
  refine Wx.nil ?_
  refine W.condF rfl rfl ?_
  refine W.skip ?_
  refine W.seq ?_
  refine W.seq ?_
  refine W.reg ?_
  refine Wx.rd (v := .int .i64 x) (rd_move rfl) rfl ?_
  refine Wx.rd (v := .int .i64 y) (rd_move rfl) rfl ?_
  refine Wx.rd (v := .bool (decide (x < y))) (rd_lss rfl rfl) rfl ?_
  refine Wx.nil ?_
  refine W.condD rfl (fun c2 => ?_) (fun c2 => ?_)
  · -- yes
    refine W.seq ?_
    refine W.reg ?_
    refine Wx.rd (v := .int .i64 (-1)) (rd_assign rfl) rfl ?_
    refine Wx.nil ?_
    have e0_0 : (cmpI x y) = (-1 : Int) := by rw [cmpI, if_pos c2]
    exact W.ret ⟨.int .i64 (-1), ResIs.one, hS.bel, (by rw [e0_0])⟩
  · -- no
    refine W.skip ?_
    refine W.seq ?_
    refine W.seq ?_
    refine W.reg ?_
    refine Wx.rd (v := .int .i64 x) (rd_move rfl) rfl ?_
    refine Wx.rd (v := .int .i64 y) (rd_move rfl) rfl ?_
    refine Wx.rd (v := .bool (decide (y < x))) (rd_gtr rfl rfl) rfl ?_
    refine Wx.nil ?_
    refine W.condD rfl (fun c3 => ?_) (fun c3 => ?_)
    · -- yes
      refine W.seq ?_
      refine W.reg ?_
      refine Wx.rd (v := .int .i64 1) (rd_assign rfl) rfl ?_
      refine Wx.nil ?_
      have e1_0 : (cmpI x y) = (1 : Int) := by rw [cmpI, if_neg c2, if_pos c3]
      exact W.ret ⟨.int .i64 1, ResIs.one, hS.bel, (by rw [e1_0])⟩
    · -- no
      refine W.skip ?_
      refine W.seq ?_
      refine W.reg ?_
      refine Wx.rd (v := .int .i64 0) (rd_assign rfl) rfl ?_
      refine Wx.nil ?_
      have e2_0 : (cmpI x y) = (0 : Int) := by rw [cmpI, if_neg c2, if_neg c3]
      exact W.ret ⟨.int .i64 0, ResIs.one, hS.bel, (by rw [e2_0])⟩

theorem F53 {av : Value} {p : List Int} {Fr_av : List (Option Nat)} {bv : Value} {q : List Int} {Fr_bv : List (Option Nat)} {w : World} (h_av : V (tSl (tI .i64)) p av Fr_av w) (h_bv : V (tSl (tI .i64)) q bv Fr_bv w) : Calls Tryd.prog 53 #[av, bv] w (Ret w (fun r _ => r = .int .i64 (cmpL p q))) := by
  have a_av := h_av.any
  have l_av := h_av.len63
  have a_bv := h_bv.any
  have l_bv := h_bv.len63
  have hS := St.start0 w
  refine enterR Tryd.func53 rfl Tryd.ntmps53 Tryd.results53 rfl ?_
  refine W.seq ?_
  refine W.reg ?_
  refine Wx.rd (v := .int .i64 0) (rd_assign rfl) rfl ?_
  refine Wx.nil ?_
  refine W.seq ?_
  refine W.seq ?_
  refine W.reg ?_
  refine Wx.rd (v := av) (rd_move rfl) rfl ?_
  refine Wx.rd (v := .int .i64 (p.length : Int)) (rd_lenV rfl (hS.arg a_av) Tryd.underlying60) rfl ?_
  refine Wx.rd (v := .int .i64 0) (rd_move rfl) rfl ?_
  refine Wx.nil ?_
  refine W.block ?_
  refine W.loop [4, 5, 6, 7, 8, 11, 12, 13, 14, 15, 16, 17, 18, 19, 20, 21, 22, 23, 24, 25, 26, 27, 28, 29, 30] (fun (k : Int) => [(11, .int .i64 k)]) (fun (k : Int) w' => St w [] w' [] ∧ 0 ≤ k ∧ k ≤ p.length ∧ k ≤ q.length ∧ cmpL (p.drop k.toNat) (q.drop k.toNat) = cmpL p q) (fun (k : Int) => (p.length - k).toNat) 0 ⟨rfl, trivial⟩ ⟨hS, (by first | omega | simp), (by first | omega | simp), (by first | omega | simp), (rfl)⟩ ?_
  rintro k u_2 w_1 ⟨hS, h0, h1, h1b, h2⟩
  refine W.seq ?_
  refine W.reg ?_
  refine Wx.rd (v := .bool (decide (k < (p.length : Int)))) (rd_lss rfl rfl) rfl ?_
  refine Wx.nil ?_
  refine W.seq ?_
  refine W.condD rfl (fun c0 => ?_) (fun c0 => ?_)
  · -- yes
    refine W.skip ?_
    refine W.seq ?_
    refine W.block ?_
    refine W.seq ?_
    refine W.reg ?_
    refine Wx.rd (v := .int .i64 k) (rd_move rfl) rfl ?_
    refine Wx.ex (rd_index 0 (hS.arg a_av) rfl rfl Tryd.underlying60 Tryd.sizeOf3 (by first | omega | (simp only [List.length_set, List.length_append, List.length_cons, List.length_nil, List.length_replicate]; omega)) (by first | omega | (simp only [List.length_set, List.length_append, List.length_cons, List.length_nil, List.length_replicate]; omega))) rfl (fun p_3 hp_4 => ?_)
    refine Wx.rd (v := .int .i64 (ix 0 p k)) (rd_loadI hp_4 rfl Tryd.isAgg3 Tryd.sizeOf3) rfl ?_
    have bd_5 := bd_i64 hp_4.inK
    refine Wx.rd (v := .int .i64 k) (rd_assign rfl) rfl ?_
    refine Wx.rd (v := .int .i64 (ix 0 p k)) (rd_assign rfl) rfl ?_
    refine Wx.nil ?_
    refine W.seq ?_
    refine W.seq ?_
    refine W.reg ?_
    refine Wx.rd (v := .int .i64 k) (rd_move rfl) rfl ?_
    refine Wx.rd (v := bv) (rd_move rfl) rfl ?_
    refine Wx.rd (v := .int .i64 (q.length : Int)) (rd_lenV rfl (hS.arg a_bv) Tryd.underlying60) rfl ?_
    refine Wx.rd (v := .bool (decide ((q.length : Int) ≤ k))) (rd_geq rfl rfl) rfl ?_
    refine Wx.nil ?_
    refine W.condD rfl (fun c1 => ?_) (fun c1 => ?_)
    · -- yes
      refine W.seq ?_
      refine W.reg ?_
      refine Wx.rd (v := .int .i64 1) (rd_assign rfl) rfl ?_
      refine Wx.nil ?_
      have e0_0 : (cmpL p q) = (1 : Int) := by rw [← h2, drop_ix (d := 0) h0 c0, drop_end (xs := q) (by omega)]; rfl
      exact W.ret ⟨.int .i64 1, ResIs.one, hS.bel, (by rw [e0_0])⟩
    · -- no
      refine W.skip ?_
      refine W.seq ?_
      refine W.reg ?_
      refine Wx.rd (v := bv) (rd_move rfl) rfl ?_
      refine Wx.rd (v := .int .i64 k) (rd_move rfl) rfl ?_
      refine Wx.ex (rd_index 0 (hS.arg a_bv) rfl rfl Tryd.underlying60 Tryd.sizeOf3 (by first | omega | (simp only [List.length_set, List.length_append, List.length_cons, List.length_nil, List.length_replicate]; omega)) (by first | omega | (simp only [List.length_set, List.length_append, List.length_cons, List.length_nil, List.length_replicate]; omega))) rfl (fun p_6 hp_7 => ?_)
      refine Wx.rd (v := .int .i64 (ix 0 q k)) (rd_loadI hp_7 rfl Tryd.isAgg3 Tryd.sizeOf3) rfl ?_
      have bd_8 := bd_i64 hp_7.inK
      refine Wx.rd (v := .int .i64 (ix 0 q k)) (rd_assign rfl) rfl ?_
      refine Wx.nil ?_
      refine W.seq ?_
      refine W.reg ?_
      refine Wx.rd (v := .int .i64 (ix 0 p k)) (rd_move rfl) rfl ?_
      refine Wx.rd (v := .int .i64 (ix 0 q k)) (rd_move rfl) rfl ?_
      refine Wx.callF (run_callF Tryd.call84 rfl) (F84 (in_i64 (by omega) (by omega)) (in_i64 (by omega) (by omega))) rfl ?_
      rintro r_9 w_10 hx_11 rfl
      have hS := hS.ext hx_11
      have cb_12 := cmpI_bd (ix 0 p k) (ix 0 q k)
      refine Wx.rd (v := .int .i64 (cmpI (ix 0 p k) (ix 0 q k))) (rd_assign rfl) rfl ?_
      refine Wx.nil ?_
      refine W.seq ?_
      refine W.reg ?_
      refine Wx.rd (v := .int .i64 (cmpI (ix 0 p k) (ix 0 q k))) (rd_move rfl) rfl ?_
      refine Wx.rd (v := .bool (decide ((cmpI (ix 0 p k) (ix 0 q k)) ≠ 0))) (rd_neq rfl rfl) rfl ?_
      refine Wx.nil ?_
      refine W.condD rfl (fun c2 => ?_) (fun c2 => ?_)
      · -- yes
        refine W.seq ?_
        refine W.reg ?_
        refine Wx.rd (v := .int .i64 (cmpI (ix 0 p k) (ix 0 q k))) (rd_move rfl) rfl ?_
        refine Wx.rd (v := .int .i64 (cmpI (ix 0 p k) (ix 0 q k))) (rd_assign rfl) rfl ?_
        refine Wx.nil ?_
        have e1_0 : (cmpL p q) = (cmpI (ix 0 p k) (ix 0 q k) : Int) := by rw [← h2, drop_ix (d := 0) h0 c0, drop_ix (d := 0) (xs := q) h0 (by omega), cmpL, if_pos c2]
        exact W.ret ⟨.int .i64 (cmpI (ix 0 p k) (ix 0 q k)), ResIs.one, hS.bel, (by rw [e1_0])⟩
      · -- no
        refine W.skip ?_
        refine W.reg ?_
        refine Wx.rd (v := .int .i64 (k + 1)) (rd_add rfl rfl (in_i64 (by omega) (by omega))) rfl ?_
        refine Wx.rd (v := .int .i64 (k + 1)) (rd_move rfl) rfl ?_
        refine Wx.nil ?_
        refine ⟨k + 1, (by show (p.length - (k + 1)).toNat < (p.length - k).toNat; omega), ?_, ?_, Out.look rfl Out.self⟩
        · exact ⟨hS, (by first | omega | assumption), (by first | omega | assumption), (by first | omega | assumption), (by rw [← h2, drop_ix (d := 0) h0 c0, drop_ix (d := 0) (xs := q) h0 (by omega), cmpL, if_neg c2])⟩
        · exact ⟨rfl, trivial⟩
  · -- no
    refine W.exit rfl ?_
    refine W.seq ?_
    refine W.seq ?_
    refine W.reg ?_
    refine Wx.rd (v := av) (rd_move rfl) rfl ?_
    refine Wx.rd (v := .int .i64 (p.length : Int)) (rd_lenV rfl (hS.arg a_av) Tryd.underlying60) rfl ?_
    refine Wx.rd (v := bv) (rd_move rfl) rfl ?_
    refine Wx.rd (v := .int .i64 (q.length : Int)) (rd_lenV rfl (hS.arg a_bv) Tryd.underlying60) rfl ?_
    refine Wx.rd (v := .bool (decide ((p.length : Int) < (q.length : Int)))) (rd_lss rfl rfl) rfl ?_
    refine Wx.nil ?_
    refine W.condD rfl (fun c3 => ?_) (fun c3 => ?_)
    · -- yes
      refine W.seq ?_
      refine W.reg ?_
      refine Wx.rd (v := .int .i64 (-1)) (rd_assign rfl) rfl ?_
      refine Wx.nil ?_
      have e2_0 : (cmpL p q) = (-1 : Int) := by rw [← h2, drop_end (by omega), drop_ix (d := 0) (xs := q) h0 (by omega)]; rfl
      exact W.ret ⟨.int .i64 (-1), ResIs.one, hS.bel, (by rw [e2_0])⟩
    · -- no
      refine W.skip ?_
      refine W.seq ?_
      refine W.reg ?_
      refine Wx.rd (v := .int .i64 0) (rd_assign rfl) rfl ?_
      refine Wx.nil ?_
      have e3_0 : (cmpL p q) = (0 : Int) := by rw [← h2, drop_end (by omega), drop_end (xs := q) (by omega)]; rfl
      exact W.ret ⟨.int .i64 0, ResIs.one, hS.bel, (by rw [e3_0])⟩

theorem F54 {lv : Value} {l : List (Int × Int)} {O : List (Option Nat)} {w : World} (h_lv : V (tSl (tP (tI .i64) (tI .i64))) l lv O w) (p_n : (l.length : Int) ≤ 1000) (hO : ∀ b, some b ∈ O → b < w.heap.size) : Calls Tryd.prog 54 #[lv] w (Ret w (fun r w' => ∃ rv, r = rv ∧ Fresh (tP (tI .i64) (tI .i64)) 58 l rv w.heap.size w')) := by
  have a_lv := h_lv
  have l_lv := h_lv.len63
  have hS := St.start w O hO
  refine enterR Tryd.func54 rfl Tryd.ntmps54 Tryd.results54 rfl ?_
  refine W.seq ?_
  refine W.reg ?_
  refine Wx.rd (v := (.slice none 0 0)) (rd_assign rfl) rfl ?_
  refine Wx.nil ?_
  refine W.seq ?_
  refine W.seq ?_
  refine W.reg ?_
  refine Wx.rd (v := lv) (rd_move rfl) rfl ?_
  refine Wx.ex (rd_eqlNilV (hS.arg a_lv) rfl rfl Tryd.underlying22) rfl (fun u_1 hu_u_1 => ?_)
  obtain ⟨b_2, rfl, hb_3⟩ := hu_u_1
  refine Wx.nil ?_
  refine W.cond rfl (fun c0 => ?_) (fun c0 => ?_)
  · -- yes
    try simp only [Bool.and_eq_true, Bool.or_eq_true, Bool.not_eq_true', Bool.and_eq_false_iff, Bool.or_eq_false_iff, Bool.not_eq_false', decide_eq_true_eq, decide_eq_false_iff_not, not_or, Bool.false_eq_true, Bool.true_eq_false, false_or, or_false, not_false_eq_true] at c0
    refine W.seq ?_
    refine W.reg ?_
    refine Wx.rd (v := (.slice none 0 0)) (rd_assign rfl) rfl ?_
    refine Wx.nil ?_
    have e0_0 : l = [] := by exact hb_3 c0
    exact W.ret ⟨(.slice none 0 0), ResIs.one, hS.bel, ⟨(.slice none 0 0), rfl, (by rw [e0_0]; exact ((hS.addNil (tP (tI .i64) (tI .i64)) 58).fr 0 rfl flat_i2))⟩⟩
  · -- no
    try simp only [Bool.and_eq_true, Bool.or_eq_true, Bool.not_eq_true', Bool.and_eq_false_iff, Bool.or_eq_false_iff, Bool.not_eq_false', decide_eq_true_eq, decide_eq_false_iff_not, not_or, Bool.false_eq_true, Bool.true_eq_false, false_or, or_false, not_false_eq_true] at c0
    refine W.skip ?_
    refine W.seq ?_
    refine W.reg ?_
    refine Wx.lit (t := (tP (tI .i64) (tI .i64))) (ys := []) (vs := []) elHz_22 hS rfl rfl trivial (by decide) rfl (fun v_4 w_5 hx_6 hS => ?_)
    refine Wx.rd (v := lv) (rd_move rfl) rfl ?_
    refine Wx.append elHz_22 hS 0 rfl rfl rfl (Src.ofV (hS.arg a_lv)) (by simp only [maxLen]; simp; omega) (by simp; omega) rfl (fun v_7 w_8 hz_9 hS => ?_)
    refine Wx.rd (v := v_7) (rd_assign rfl) rfl ?_
    refine Wx.nil ?_
    have e1_0 : l = [] ++ l := by rfl
    exact W.ret ⟨v_7, ResIs.one, hS.bel, ⟨v_7, rfl, (by rw [e1_0]; exact (hS.fr 0 rfl flat_i2))⟩⟩
end Go.Proofs.YtokdjjebnomciaaDoor
