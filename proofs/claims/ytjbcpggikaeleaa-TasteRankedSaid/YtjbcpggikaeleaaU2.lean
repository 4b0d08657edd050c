/-
  WHAT IS PROVED HERE, TEXT BY TEXT (several texts of one prover, joined to one file; the conditions stand in each statement):
  * WHAT IS PROVED HERE: strings that are gone through, rune by rune. Conditions stand in each statement; they hold over any program.
  * WHAT IS PROVED HERE: a variable that holds a string and a table of pairs, 13 times 13: what is read from it, what it holds after a pair is written. Conditions stand in each statement; they hold over any program.
  * WHAT IS PROVED HERE: a string's runes as a slice of the call's own, and a string made of a slice of runes. Conditions stand in each statement; they hold over any program.
  * WHAT IS PROVED HERE: pairs of slices as they are read out of a row. Conditions stand in each statement; they hold over any program.
  * WHAT IS SAID HERE, WITH PLAIN LAWS: sales, whether they are good, what a choice costs at the prices of a sale. No program in sight. Conditions stand in each statement.
  * WHAT IS SAID HERE, WITH PLAIN LAWS: what sales show of one another, and the answers on two sales, pairs, lists and rings. No program in sight. Conditions stand in each statement.
  * WHAT IS SAID HERE, WITH RULES: a market: its sales, and what leads to what, where they lie in memory; how they are read and written. Conditions stand in each statement.
  * WHAT IS PROVED HERE: plain laws of a market that is being made: what leads to what is filled in, first by single steps, then by way of one sale after the other. No program in sight. Conditions stand in each statement.
  * WHAT IS PROVED HERE: an argument that reads as data is, in the world at the start, a value that stands for a plain list, number, or pair (V of Wk2). Conditions: the types' closed facts, as hypotheses.
  * WHAT IS PROVED HERE: pairs of numbers as they are read at the start. Conditions: the types' closed facts, as hypotheses.
  * WHAT IS PROVED HERE: maps of the call's own, made, read and written: a list of keys with values, in the order in which the keys came. Conditions stand in each statement; they hold over any program.
  * WHAT IS PROVED HERE: an entry of a map of the call's own, opened and then written by its stamp. Conditions stand in each statement; they hold over any program.
  * WHAT IS PROVED HERE: plain laws of lists that are sorted by insertion, by whatever comparison. No program in sight. Conditions stand in each statement.
  * WHAT IS PROVED HERE: the tail of a slice of the call's own, where it does not begin at the capacity's end. Conditions stand in the statement; it holds over any program.
  * WHAT IS PROVED HERE: room made for a slice that is nil: its capacity, part of it, zeroes put behind it. Conditions stand in each statement; they hold over any program.
  * WHAT IS SAID HERE, WITH PLAIN LAWS: functions of Go's library: a list repeated, short lists sorted, equal neighbours left out. No program in sight. Conditions stand in each statement.
  * WHAT IS PROVED HERE: plain laws of how far each sale is from the last one, found step by step, and of the first of the shortest lists that is walked then. No program in sight. Conditions stand in each statement.
  * WHAT IS PROVED HERE: plain laws of the ways back that are gone through one after the other, of which the least ring is kept. No program in sight. Conditions stand in each statement.
  * WHAT IS PROVED HERE: an element of the tail of a slice of the call's own. Conditions stand in the statement; it holds over any program.
  * WHAT IS PROVED HERE: plain laws of equal neighbours that are left out, and of the classes that are made so. No program in sight. Conditions stand in each statement.
  * WHAT IS SAID HERE, WITH RULES AND PLAIN LAWS: the report on sales: the first of the shortest rings, or classes; how it lies in memory; how it is found step by step. Conditions stand in each statement.
  * WHAT IS PROVED HERE: rules of interface values: what they hold is asked for; their method is called. Conditions stand in each statement.
  * WHAT IS PROVED HERE: plain laws: without a ring, a list that leads from a sale to another one with a step that shows better is there just if something leads there and not back, and some step on the way shows better. No program in sight. Conditions stand in each statement.
  * WHAT IS PROVED HERE: plain laws of numbers that are made by classes: classes are in the order of how much is better, and the numbers agree with the sales. No program in sight. Conditions stand in each statement.
  * WHAT IS PROVED HERE: plain laws of numbers that are checked, and of a ring that is checked. No program in sight. Conditions stand in each statement.
  * WHAT IS PROVED HERE: plain laws of the fewest sales that have to be left out: all choices are tried, or lists by their length and order: both find the same. No program in sight. Conditions stand in each statement.
  * WHAT IS PROVED HERE: plain laws of a walk through all choices: bits, what is left so far. No program in sight. Conditions stand in each statement.
  * WHAT IS PROVED HERE: structs of two slices as they are read at the start, and where their fields lie. Conditions: the types' closed facts, as hypotheses.
  * WHAT IS SAID HERE, WITH PLAIN LAWS: what the statements' own functions hand back; numbers that are checked, by trying all. No program in sight. Conditions stand in each statement.
  * WHAT IS PROVED HERE: small integers kept in a list: each place reads as one of them, or as nought. Conditions stand in each statement; it holds over any program.
  * WHAT IS PROVED HERE: how many goods a shop has and what its sales are, as far as the statements ask for it. Conditions stand in each statement.
  * WHAT IS PROVED HERE: plain laws of the statements' own tests: what leads to what by rounds of two steps, whether there is a ring, whether numbers are right. No program in sight. Conditions stand in each statement.
  * WHAT IS PROVED HERE: plain laws of the theorem on rings and numbers: there are numbers just if there is no ring. No program in sight. Conditions stand in each statement.
  * WHAT IS PROVED HERE: plain laws of sales without a ring: they are told by a worth of each sale, some of them have none either, and how few have to be left out. No program in sight. Conditions stand in each statement.
  * WHAT IS PROVED HERE: plain laws of the statements on what is left out: all sets are tried; with one sale more, with sales twice, with fewer. No program in sight. Conditions stand in each statement.
  * WHAT IS PROVED HERE: plain laws of a shop with one sale more, with a sale twice, with a sale less. No program in sight. Conditions stand in each statement.
  * WHAT IS PROVED HERE: plain laws of a shop under other names: goods turned round, sales in another order, prices doubled. No program in sight. Conditions stand in each statement.
  * WHAT IS SAID HERE, WITH PLAIN LAWS: all lists of different numbers below n, in the order in which they are gone through; what a function value does that is given each. Conditions stand in each statement.
  * WHAT IS PROVED HERE: plain laws of rings that are found by trying all lists: the first of the shortest ones is the one that is returned. Conditions stand in each statement.
  * WHAT IS PROVED HERE: plain laws of lists that lead from a sale to another one, found by trying all lists. Conditions stand in each statement.
  * WHAT IS PROVED HERE: plain laws of what a sale shows, told by costs; choices with more of something and less of nothing. Conditions stand in each statement.
  * WHAT IS PROVED HERE: plain laws of how many others a choice is better than, found by trying all lists; numbers that are right follow what leads there. Conditions stand in each statement.
  * WHAT IS PROVED HERE: what functions of layer 10 hand back, each out of its own code; the conditions stand in each statement.
  * WHAT IS PROVED HERE: what functions of layer 10 hand back, each out of its own code; the conditions stand in each statement.
-/
import Derived.Test.YtjbcpggikaeleaaU1
import Derived.Lib.OthersKept
import Derived.Scope
import Derived.Laws.Cover4
import Derived.Laws.IdiomStrings
import Derived.Deep.Slices
import Derived.Deep.Strs
import Derived.Lib.SmallJoins
import Derived.OpenShut
import Derived.Carry
import Derived.ProofKit
import Derived.ChangeMaps5
import Derived.MapKept
import Derived.ChangeMaps4
import Derived.Lib.AppendZerosOnto
import Derived.Laws.Build
import Derived.Test.YtjbcpggikaeleaaProg

set_option linter.unusedVariables false
set_option linter.unusedSimpArgs false

namespace Go.Wk
open Go.RowKit Go.Lib

section
variable {P : Program} {n : Nat} {w w0 w' : World} {O : List (Option Nat)} {obs : List Ob} {ops : Array Oper} {rest : List Oper} {k : Cont} {d : Tmp} {ty : TypeId} {pos : String} {af : Array Edge}
  {l : List (Nat × Value)} {σ0 σ : Fr} {T T' : TypeId} {x y z lo hi mx : Operand}

end
end Go.Wk

namespace Go.Wk
open Go.RowKit Go.Lib
set_option linter.unusedVariables false

abbrev Tab := Int → Int → Int × Int
def cellT (T : Tab) (m : Nat) : Int := if m % 2 = 0 then (T (m / 26 : Nat) (m / 2 % 13 : Nat)).1 else (T (m / 26 : Nat) (m / 2 % 13 : Nat)).2
def tabC (s : ByteArray) (T : Tab) : List Value := .string s :: (List.range 338).map fun m => .int .i64 (cellT T m)
section
variable (s : ByteArray) (T : Tab) {i n : Int} (i0 : 0 ≤ i) (i1 : i < 13) (n0 : 0 ≤ n) (n1 : n < 13)
include i0 i1 n0 n1
end

section
variable {P : Program} {n : Nat} {σ : Fr} {w w0 : World} {O : List (Option Nat)} {obs : List Ob} {x : Operand} {ty T' : TypeId} {g : Nat} {e : TypeId} {s : ByteArray} {T : Tab} {i m : Int}
  (hb : ∀ w', Ext w w' → w'.heap[g]? = some (.cells (tabC s T).toArray e (0, 0)))
include hb
end

theorem St.shrink {w0 w : World} {O : List (Option Nat)} {obs : List Ob} {α : Type} {t : Ty α} {e : TypeId} {ys : List α} {g len c m : Nat} (hS : St w0 O w obs) (i : Nat) (hi : obs[i]? = some (.row t e (.slice (some ⟨g, 0, none⟩) len c) ys)) (hm : m ≤ ys.length) :
    St w0 O w (obs.set i (.row t e (.slice (some ⟨g, 0, none⟩) m c) (ys.take m))) := by
  obtain ⟨cs, hr, hR⟩ := hS.get i hi
  rcases hr.2 with ⟨h0, _⟩ | ⟨g', cap, cur, hv, q1, q2, q3, q4, q5, q6⟩
  · cases h0
  · simp only [Value.slice.injEq, Option.some.injEq, Addr.mk.injEq, and_true] at hv
    obtain ⟨rfl, rfl, rfl⟩ := hv
    have hcl : cs.length = ys.length * t.n := hr.1
    have hmn : m * t.n ≤ ys.length * t.n := Nat.mul_le_mul_right _ hm
    have hl : (ys.take m).length = m := by rw [List.length_take]; omega
    refine hS.turn (w' := w) i hi rfl rfl rfl (Nat.le_refl _) (fun _ _ _ => rfl) (fun b hb' => .inl hb') (fun b hb' => (Ob.ok_lt (hS.get i hi) hb').2) (fun F hM => ?_)
    refine ⟨cs.take (m * t.n), ⟨by rw [hl, List.length_take]; omega, .inr ⟨g, c, cur, by rw [hl], q1, q2, by rw [hl]; omega, q4, q5, ?_⟩⟩, (hR.mv hM).take m⟩
    rw [hl, ← q6, List.take_take, Nat.min_eq_left hmn]

theorem St.pushBox {w0 w w' : World} {O : List (Option Nat)} {obs : List Ob} {g : Nat} {e : TypeId} {cs : List Value} (hS : St w0 O w obs) (hx : Ext w w') (hg : w.heap.size ≤ g) (h : w'.heap[g]? = some (.cells cs.toArray e (0, 0))) : St w0 O w' (.box g e cs :: obs) :=
  hS.push hx _ (fun b hb => by simp only [Ob.blk, Option.some.injEq] at hb; omega) (fun _ _ => ⟨Nat.le_trans hS.bel.size hg, h⟩)
end Go.Wk

namespace Go.Wk
open Go.RowKit Go.Lib
set_option linter.unusedVariables false

section
variable {P : Program} {n : Nat} {k : Cont} {σ σ0 : Fr} {w w0 : World} {O : List (Option Nat)} {obs : List Ob} {x : Operand} {ty T : TypeId} {l : List (Nat × Value)} {d : Tmp} {pos : String} {af : Array Edge} {ops : Array Oper} {rest : List Oper}

end
end Go.Wk

namespace Go.Wk
set_option linter.unusedVariables false
theorem V.s2 {α β : Type} {t : Ty α} {u : Ty β} {z : List α × List β} {v : Value} {F : List (Option Nat)} {w : World} (h : V (tP (tSl t) (tSl u)) z v F w) : ∃ a b, v = .agg #[a, b] ∧ V (tSl t) z.1 a F w ∧ V (tSl u) z.2 b F w := by
  obtain ⟨cs, rfl, c, d, rfl, ⟨a, cap, rfl, h1⟩, ⟨b, cap2, rfl, h2⟩⟩ := h
  exact ⟨_, _, rfl, ⟨_, rfl, a, cap, rfl, h1⟩, ⟨_, rfl, b, cap2, rfl, h2⟩⟩
theorem V.mkS2 {α β : Type} {t : Ty α} {u : Ty β} {z : List α × List β} {a b : Value} {F : List (Option Nat)} {w : World} (h : V (tSl t) z.1 a F w) (k : V (tSl u) z.2 b F w) : V (tP (tSl t) (tSl u)) z (.agg #[a, b]) F w := by
  obtain ⟨cs, rfl, ad, cap, rfl, h1⟩ := h
  obtain ⟨ds, rfl, ad2, cap2, rfl, h2⟩ := k
  exact ⟨_, rfl, _, _, rfl, ⟨ad, cap, rfl, h1⟩, ⟨ad2, cap2, rfl, h2⟩⟩
theorem V.merge {α : Type} {t : Ty α} {x : α} {v : Value} {O : List (Option Nat)} {obs obsR : List Ob} {w1 w2 : World} (h : St w1 (fb obs O) w2 obsR) (hv : V t x v (fb obs O) w1) : V t x v (fb (obsR ++ obs) O) w2 := by
  have hM : Mv (fb obsR (fb obs O)) (fb (obsR ++ obs) O) w2 w2 := .less fun b hb => by
    simp only [fb, List.map_append, List.append_assoc] at hb ⊢
    exact hb
  exact hv.mv (h.mv0.trans hM)
end Go.Wk

namespace Go.Proofs.Ytjbcpggikaeleaa
open Go.Wk Go
set_option linter.unusedVariables false
abbrev Sale := List Int × List Int
def okS (g : Int) (s : Sale) : Prop := ((s.1.length : Int) = g ∧ (s.2.length : Int) = g) ∧ (∀ x ∈ s.1, 1 ≤ x ∧ x ≤ 9) ∧ ∀ x ∈ s.2, 0 ≤ x ∧ x ≤ 9
instance (g : Int) (s : Sale) : Decidable (okS g s) := by unfold okS; infer_instance
def saleE (g : Int) (s : Sale) : Int := if ¬ ((s.1.length : Int) = g ∧ (s.2.length : Int) = g) then 5 else if (∀ x ∈ s.1, 1 ≤ x ∧ x ≤ 9) ∧ ∀ x ∈ s.2, 0 ≤ x ∧ x ≤ 9 then 0 else 1
def salesE (g : Int) : List Sale → Int
  | [] => 0
  | s :: l => if saleE g s = 0 then salesE g l else saleE g s
def checkE (g : Int) (l : List Sale) : Int := if g < 1 ∨ 3 < g then 1 else if 6 < (l.length : Int) then 3 else salesE g l
theorem saleE_ok {g : Int} {s : Sale} : saleE g s = 0 ↔ okS g s := by
  rw [saleE, okS]
  by_cases h : (s.1.length : Int) = g ∧ (s.2.length : Int) = g
  · rw [if_neg (not_not_intro h)]
    by_cases k : (∀ x ∈ s.1, 1 ≤ x ∧ x ≤ 9) ∧ ∀ x ∈ s.2, 0 ≤ x ∧ x ≤ 9
    · rw [if_pos k]; exact ⟨fun _ => ⟨h, k⟩, fun _ => rfl⟩
    · rw [if_neg k]; exact ⟨fun e => absurd e (by decide), fun e => absurd e.2 k⟩
  · rw [if_pos h]; exact ⟨fun e => absurd e (by decide), fun e => absurd e.1 h⟩
theorem salesE_ok {g : Int} : ∀ {l : List Sale}, salesE g l = 0 ↔ ∀ s ∈ l, okS g s
  | [] => ⟨fun _ s h => (by cases h), fun _ => rfl⟩
  | s :: l => by
    rw [salesE]
    by_cases h : saleE g s = 0
    · rw [if_pos h, salesE_ok]
      exact ⟨fun k t ht => (List.mem_cons.1 ht).elim (fun e => by rw [e]; exact saleE_ok.1 h) (k t), fun k t ht => k t (List.mem_cons_of_mem _ ht)⟩
    · rw [if_neg h]
      exact ⟨fun e => absurd e h, fun k => absurd (saleE_ok.2 (k s (by simp))) h⟩
theorem check_ok {g : Int} {l : List Sale} (h : checkE g l = 0) : (1 ≤ g ∧ g ≤ 3) ∧ (l.length : Int) ≤ 6 ∧ ∀ s ∈ l, okS g s := by
  rw [checkE] at h
  by_cases h1 : g < 1 ∨ 3 < g
  · rw [if_pos h1] at h; cases h
  · rw [if_neg h1] at h
    by_cases h2 : 6 < (l.length : Int)
    · rw [if_pos h2] at h; cases h
    · rw [if_neg h2] at h
      exact ⟨by omega, by omega, salesE_ok.1 h⟩
/-! ### costs -/
def costV : List Int → List Int → Int
  | a :: p, b :: t => a * b + costV p t
  | _, _ => 0
theorem cost_next {p t : List Int} {k out : Int} (h0 : 0 ≤ k) (h1 : k < p.length) (h2 : k < t.length) (h : out + costV (p.drop k.toNat) (t.drop k.toNat) = costV p t) : out + ix 0 p k * ix 0 t k + costV (p.drop (k + 1).toNat) (t.drop (k + 1).toNat) = costV p t := by
  rw [← h, drop_ix (d := 0) h0 h1, drop_ix (d := 0) (xs := t) h0 h2, costV]; omega
theorem cost_end {p t : List Int} {k out : Int} (h1 : (p.length : Int) ≤ k) (h : out + costV (p.drop k.toNat) (t.drop k.toNat) = costV p t) : costV p t = out := by
  rw [← h, drop_end h1]
  cases t.drop k.toNat <;> (show _ + (0 : Int) = _; omega)
theorem ix_in {p : List Int} {lo hi k : Int} (h : ∀ x ∈ p, lo ≤ x ∧ x ≤ hi) (h0 : 0 ≤ k) (h1 : k < p.length) : lo ≤ ix 0 p k ∧ ix 0 p k ≤ hi := h _ (List.mem_of_getElem? (ix_get h1 h0))
theorem mul_bd {a b : Int} (ha : 1 ≤ a ∧ a ≤ 9) (hb : 0 ≤ b ∧ b ≤ 9) : 0 ≤ a * b ∧ a * b ≤ 81 := by
  have h1 : 0 ≤ a * b := Int.mul_nonneg (by omega) (by omega)
  have h2 : a * b ≤ 9 * 9 := Int.mul_le_mul (by omega) (by omega) (by omega) (by omega)
  omega
theorem cost_bd : ∀ {p t : List Int}, (∀ x ∈ p, 1 ≤ x ∧ x ≤ 9) → (∀ x ∈ t, 0 ≤ x ∧ x ≤ 9) → 0 ≤ costV p t ∧ costV p t ≤ 81 * (p.length : Int)
  | [], t, _, _ => by
    have : costV [] t = 0 := by cases t <;> rfl
    rw [this]; simp
  | a :: p, [], _, _ => by
    show 0 ≤ (0 : Int) ∧ (0 : Int) ≤ 81 * ((a :: p).length : Int)
    omega
  | a :: p, b :: t, h, k => by
    have ih := cost_bd (p := p) (t := t) (fun x hx => h x (List.mem_cons_of_mem _ hx)) (fun x hx => k x (List.mem_cons_of_mem _ hx))
    have hm := mul_bd (h a (by simp)) (k b (by simp))
    rw [costV, List.length_cons]; omega
def costS (a b : Sale) : Int := costV a.1 b.2
def leadS (a b : Sale) : Int := costS a a - costS a b
theorem costS_bd {g : Int} {a b : Sale} (hg : g ≤ 3) (ha : okS g a) (hb : okS g b) : 0 ≤ costS a b ∧ costS a b ≤ 243 := by
  have := cost_bd ha.2.1 hb.2.2
  have h1 := ha.1.1
  rw [costS]; omega
theorem mul9 {p t : List Int} {k : Int} (hp : ∀ x ∈ p, 1 ≤ x ∧ x ≤ 9) (ht : ∀ x ∈ t, 0 ≤ x ∧ x ≤ 9) (h0 : 0 ≤ k) (h1 : k < p.length) (h2 : k < t.length) : 0 ≤ ix 0 p k * ix 0 t k ∧ ix 0 p k * ix 0 t k ≤ 81 := mul_bd (ix_in hp h0 h1) (ix_in ht h0 h2)
def goodS (a b : Sale) : Bool := decide (0 ≤ leadS a b)
def betterS (a b : Sale) : Bool := decide (0 < leadS a b)
/-! ### smallest and greatest numbers -/
def maxL (l : List Int) : Int := l.foldl max (ix 0 l 0)
theorem min_start {l : List Int} (h : 1 ≤ (l.length : Int)) : (l.drop (1 : Int).toNat).foldl min (ix 0 l 0) = minL l := by
  cases l with
  | nil => simp at h
  | cons a l =>
    show l.foldl min a = l.foldl min (min a a)
    rw [Int.min_self]
theorem max_start {l : List Int} (h : 1 ≤ (l.length : Int)) : (l.drop (1 : Int).toNat).foldl max (ix 0 l 0) = maxL l := by
  cases l with
  | nil => simp at h
  | cons a l =>
    show l.foldl max a = l.foldl max (max a a)
    rw [Int.max_self]
theorem min_next {l : List Int} {k m r : Int} (h0 : 0 ≤ k) (h1 : k < l.length) (h : (l.drop k.toNat).foldl min m = r) : (l.drop (k + 1).toNat).foldl min (min m (ix 0 l k)) = r := by
  rw [← h, drop_ix (d := 0) h0 h1]; rfl
theorem max_next {l : List Int} {k m r : Int} (h0 : 0 ≤ k) (h1 : k < l.length) (h : (l.drop k.toNat).foldl max m = r) : (l.drop (k + 1).toNat).foldl max (max m (ix 0 l k)) = r := by
  rw [← h, drop_ix (d := 0) h0 h1]; rfl
theorem fold_max : ∀ (l : List Int) (m : Int), m ≤ l.foldl max m ∧ (∀ x ∈ l, x ≤ l.foldl max m) ∧ (l.foldl max m = m ∨ l.foldl max m ∈ l)
  | [], m => ⟨Int.le_refl _, fun _ h => (by cases h), .inl rfl⟩
  | a :: l, m => by
    obtain ⟨h1, h2, h3⟩ := fold_max l (max m a)
    rw [List.foldl_cons]
    refine ⟨by omega, fun x hx => ?_, ?_⟩
    · rcases List.mem_cons.1 hx with rfl | hx
      · omega
      · exact h2 x hx
    · rcases h3 with h3 | h3
      · by_cases hm : a ≤ m
        · left; omega
        · right; rw [h3]; simp; left; omega
      · right; exact List.mem_cons_of_mem _ h3
theorem max_mem {l : List Int} (h : l ≠ []) : maxL l ∈ l ∧ ∀ x ∈ l, x ≤ maxL l := by
  obtain ⟨h1, h2, h3⟩ := fold_max l (ix 0 l 0)
  refine ⟨?_, h2⟩
  rcases h3 with h3 | h3
  · rw [maxL, h3]
    cases l with
    | nil => exact absurd rfl h
    | cons a l => exact List.mem_cons_self ..
  · exact h3
theorem all_minmax {l : List Int} {lo hi : Int} (h : 1 ≤ (l.length : Int)) : (∀ x ∈ l, lo ≤ x ∧ x ≤ hi) ↔ ¬ minL l < lo ∧ ¬ hi < maxL l := by
  have hne : l ≠ [] := by rintro rfl; simp at h
  obtain ⟨m1, m2⟩ := min_mem hne
  obtain ⟨m3, m4⟩ := max_mem hne
  constructor
  · intro k
    have := k _ m1
    have := k _ m3
    omega
  · rintro ⟨k1, k2⟩ x hx
    have := m2 x hx
    have := m4 x hx
    omega
/-! ### sales checked one after another -/
theorem sales_next {g : Int} {l : List Sale} {k : Int} (h0 : 0 ≤ k) (h1 : k < l.length) (h : saleE g (ix ([], []) l k) = 0) (h2 : salesE g (l.drop k.toNat) = salesE g l) : salesE g (l.drop (k + 1).toNat) = salesE g l := by
  rw [← h2, drop_ix (d := ([], [])) h0 h1, salesE, if_pos h]
theorem sales_bad {g e : Int} {l : List Sale} {k : Int} (h0 : 0 ≤ k) (h1 : k < l.length) (h : saleE g (ix ([], []) l k) = e) (he : e ≠ 0) (h2 : salesE g (l.drop k.toNat) = salesE g l) : salesE g l = e := by
  rw [← h2, drop_ix (d := ([], [])) h0 h1, salesE, if_neg (by rw [h]; exact he), h]
theorem ix_all {l : List Int} {lo hi : Int} (h : ∀ i : Int, 0 ≤ i → i < l.length → lo ≤ ix 0 l i ∧ ix 0 l i ≤ hi) : ∀ x ∈ l, lo ≤ x ∧ x ≤ hi := by
  intro x hx
  obtain ⟨i, hi, e⟩ := List.mem_iff_getElem.1 hx
  have := h (i : Int) (by omega) (by omega)
  have e2 : ix 0 l (i : Int) = x := by rw [ix, Int.toNat_natCast, List.getD_eq_getElem?_getD, List.getElem?_eq_getElem hi, e]; rfl
  rwa [e2] at this
theorem sale_end {g j : Int} {s : Sale} (h1 : (s.1.length : Int) = g) (h2 : (s.2.length : Int) = g) (hj : g ≤ j) (h : ∀ i : Int, 0 ≤ i → i < j → (1 ≤ ix 0 s.1 i ∧ ix 0 s.1 i ≤ 9) ∧ 0 ≤ ix 0 s.2 i ∧ ix 0 s.2 i ≤ 9) : saleE g s = 0 :=
  saleE_ok.2 ⟨⟨h1, h2⟩, ix_all fun i i0 i1 => (h i i0 (by omega)).1, ix_all fun i i0 i1 => (h i i0 (by omega)).2⟩
theorem sale_one {g : Int} {s : Sale} (h1 : (s.1.length : Int) = g) (h2 : (s.2.length : Int) = g) (h : ¬ saleE g s = 0) : saleE g s = 1 := by
  rw [saleE, if_neg (not_not_intro ⟨h1, h2⟩)] at h ⊢
  by_cases k : (∀ x ∈ s.1, 1 ≤ x ∧ x ≤ 9) ∧ ∀ x ∈ s.2, 0 ≤ x ∧ x ≤ 9
  · rw [if_pos k] at h; exact absurd rfl h
  · rw [if_neg k]
theorem sale_bad {g j : Int} {s : Sale} (j0 : 0 ≤ j) (j1 : j < g) (h1 : (s.1.length : Int) = g) (h2 : (s.2.length : Int) = g) (h : ¬ (1 ≤ ix 0 s.1 j ∧ ix 0 s.1 j ≤ 9) ∨ ¬ (0 ≤ ix 0 s.2 j ∧ ix 0 s.2 j ≤ 9)) : saleE g s = 1 := by
  refine sale_one h1 h2 fun k => ?_
  obtain ⟨_, k1, k2⟩ := saleE_ok.1 k
  have := ix_in k1 j0 (by omega)
  have := ix_in k2 j0 (by omega)
  omega
theorem sale_mm {g : Int} {s : Sale} (hg : 1 ≤ g) (h1 : (s.1.length : Int) = g) (h2 : (s.2.length : Int) = g) : saleE g s = 0 ↔ ((¬ minL s.1 < 1 ∧ ¬ 9 < maxL s.1) ∧ ¬ minL s.2 < 0 ∧ ¬ 9 < maxL s.2) := by
  rw [saleE_ok, okS, all_minmax (by omega), all_minmax (by omega)]
  exact ⟨fun h => h.2, fun h => ⟨⟨h1, h2⟩, h⟩⟩
end Go.Proofs.Ytjbcpggikaeleaa

namespace Go.Proofs.Ytjbcpggikaeleaa
open Go.Wk Go
set_option linter.unusedVariables false
def gS (l : List Sale) (i j : Int) : Bool := goodS (ix ([], []) l i) (ix ([], []) l j)
def bS (l : List Sale) (i j : Int) : Bool := betterS (ix ([], []) l i) (ix ([], []) l j)
theorem bS_gS (l : List Sale) (i j : Int) (h : bS l i j = true) : gS l i j = true := by
  rw [bS, betterS, decide_eq_true_eq] at h
  rw [gS, goodS, decide_eq_true_eq]; omega
theorem gS_refl (l : List Sale) (i : Int) : gS l i i = true := by
  rw [gS, goodS, decide_eq_true_eq, leadS]; omega
def SalesOK (l : List Sale) : Prop := (l.length : Int) ≤ 6 ∧ ∃ g : Int, (1 ≤ g ∧ g ≤ 3) ∧ ∀ s ∈ l, okS g s
theorem SalesOK.of {g : Int} {l : List Sale} (h : checkE g l = 0) : SalesOK l := by
  obtain ⟨h1, h2, h3⟩ := check_ok h
  exact ⟨h2, g, h1, h3⟩
structure OkAt (g : Int) (s : Sale) : Prop where
  l1 : (s.1.length : Int) = g
  l2 : (s.2.length : Int) = g
  b1 : ∀ x ∈ s.1, 1 ≤ x ∧ x ≤ 9
  b2 : ∀ x ∈ s.2, 0 ≤ x ∧ x ≤ 9
theorem SalesOK.at {l : List Sale} (h : SalesOK l) : ∃ g : Int, (1 ≤ g ∧ g ≤ 3) ∧ ∀ i : Int, 0 ≤ i → i < l.length → OkAt g (ix ([], []) l i) := by
  obtain ⟨h1, g, h2, h3⟩ := h
  refine ⟨g, h2, fun i i0 i1 => ?_⟩
  obtain ⟨⟨a, b⟩, c, d⟩ := h3 _ (List.mem_of_getElem? (ix_get i1 i0))
  exact ⟨a, b, c, d⟩
def twoE (g : Int) (l : List Sale) (a b : Int) : Int := if checkE g l = 0 then (if (0 ≤ a ∧ a < l.length) ∧ (0 ≤ b ∧ b < l.length) then 0 else 2) else checkE g l
theorem twoE_ok {g : Int} {l : List Sale} {a b : Int} (h : twoE g l a b = 0) : checkE g l = 0 ∧ (0 ≤ a ∧ a < l.length) ∧ (0 ≤ b ∧ b < l.length) := by
  rw [twoE] at h
  by_cases h1 : checkE g l = 0
  · rw [if_pos h1] at h
    by_cases h2 : (0 ≤ a ∧ a < l.length) ∧ (0 ≤ b ∧ b < l.length)
    · exact ⟨h1, h2⟩
    · rw [if_neg h2] at h; cases h
  · rw [if_neg h1] at h; exact absurd h h1
def costE (g : Int) (l : List Sale) (a b : Int) : Int := if twoE g l a b = 0 then costS (ix ([], []) l a) (ix ([], []) l b) else 0
/-! ### pairs -/
abbrev Pair := Int × Int
def pairR (f : Int → Int → Bool) (a : Int) (bs : List Int) : List Pair := (bs.filter fun b => decide (a ≠ b) && f a b).map fun b => (a, b)
def pairsR (f : Int → Int → Bool) (n : Int) (asx : List Int) : List Pair := asx.flatMap fun a => pairR f a (rng 0 n)
def pairsV (f : Int → Int → Bool) (n : Int) : List Pair := pairsR f n (rng 0 n)
theorem pairR_yes {f : Int → Int → Bool} {a b n : Int} (h : b < n) (c : ¬ a = b ∧ f a b = true) : pairR f a (rng b n) = (a, b) :: pairR f a (rng (b + 1) n) := by
  rw [rng_cons h, pairR, List.filter_cons, if_pos (by rw [Bool.and_eq_true, decide_eq_true_eq]; exact c)]; rfl
theorem pairR_no {f : Int → Int → Bool} {a b n : Int} (h : b < n) (c : a = b ∨ f a b = false) : pairR f a (rng b n) = pairR f a (rng (b + 1) n) := by
  rw [rng_cons h, pairR, List.filter_cons, if_neg (by rw [Bool.and_eq_true, decide_eq_true_eq]; rintro ⟨h1, h2⟩; rcases c with c | c; exact h1 c; (rw [h2] at c; cases c))]; rfl
theorem pairR_end {f : Int → Int → Bool} {a b n : Int} (h : n ≤ b) : pairR f a (rng b n) = [] := by rw [rng_nil h]; rfl
theorem pairsR_next {f : Int → Int → Bool} {a n : Int} (h : a < n) : pairsR f n (rng a n) = pairR f a (rng 0 n) ++ pairsR f n (rng (a + 1) n) := by rw [pairsR, rng_cons h, List.flatMap_cons]; rfl
theorem pairsR_end {f : Int → Int → Bool} {a n : Int} (h : n ≤ a) : pairsR f n (rng a n) = [] := by rw [rng_nil h]; rfl
def pairsE (f : Int → Int → Bool) (g : Int) (l : List Sale) : List Pair := if checkE g l = 0 then pairsV f l.length else []
/-! ### lists have bounded many -/
theorem top_in {l : List Int} {n : Int} (h : 1 ≤ (l.length : Int)) (hb : ∀ x ∈ l, 0 ≤ x ∧ x < n) : 0 ≤ ix 0 l ((l.length : Int) - 1) ∧ ix 0 l ((l.length : Int) - 1) < n := hb _ (List.mem_of_getElem? (ix_get (by omega) (by omega)))
theorem snoc_in {l : List Int} {n x : Int} (h : ∀ y ∈ l, 0 ≤ y ∧ y < n) (h0 : 0 ≤ x) (h1 : x < n) : ∀ y ∈ l ++ [x], 0 ≤ y ∧ y < n := by
  intro y hy
  rcases List.mem_append.1 hy with hy | hy
  · exact h y hy
  · rw [List.mem_singleton] at hy; subst hy; exact ⟨h0, h1⟩
theorem goes_of {l : List Sale} {bg : List Int} {b : Int} (h : hasL bg b = false ∧ goodS (ix ([], []) l (ix 0 bg ((bg.length : Int) - 1))) (ix ([], []) l b) = true) : goesL (gS l) bg b = true := by
  rw [goesL, h.1]; exact h.2
theorem goes_not {l : List Sale} {bg : List Int} {b : Int} (h : hasL bg b = true ∨ goodS (ix ([], []) l (ix 0 bg ((bg.length : Int) - 1))) (ix ([], []) l b) = false) : ¬ goesL (gS l) bg b = true := by
  rw [goesL, Bool.and_eq_true]
  rintro ⟨h1, h2⟩
  rcases h with h | h
  · rw [h] at h1; cases h1
  · have h2 : goodS (ix ([], []) l (ix 0 bg ((bg.length : Int) - 1))) (ix ([], []) l b) = true := h2
    rw [h2] at h; cases h
theorem ring_in {r : List Int} {n i : Int} (h : ∀ x ∈ r, 0 ≤ x ∧ x < n) (h0 : 0 ≤ i) (h1 : i < r.length) : 0 ≤ ix 0 r i ∧ ix 0 r i < n ∧ 0 ≤ ix 0 r ((i + 1) % (r.length : Int)) ∧ ix 0 r ((i + 1) % (r.length : Int)) < n := by
  have h2 := h (ix 0 r i) (List.mem_of_getElem? (ix_get h1 h0))
  have a := Int.emod_nonneg (i + 1) (show (r.length : Int) ≠ 0 by omega)
  have b := Int.emod_lt_of_pos (i + 1) (show 0 < (r.length : Int) by omega)
  have h3 := h (ix 0 r ((i + 1) % (r.length : Int))) (List.mem_of_getElem? (ix_get b a))
  exact ⟨h2.1, h2.2, h3.1, h3.2⟩
theorem closes_no {G B : Int → Int → Bool} {r : List Int} {i : Int} (h0 : 0 ≤ i) (h1 : i < r.length) (h : cycB G r i = false ∨ ix 0 r i < ix 0 r 0) : closesB G B r = false := by
  rw [closesB, Bool.and_eq_false_iff]
  left
  rw [List.all_eq_false]
  refine ⟨i, rng_mem.2 ⟨h0, h1⟩, ?_⟩
  rw [Bool.and_eq_true, decide_eq_true_eq]
  rintro ⟨k1, k2⟩
  rcases h with h | h
  · rw [k1] at h; cases h
  · omega
theorem closes_yes {G B : Int → Int → Bool} {r : List Int} {i : Int} (hi : i = r.length) (h : ∀ k : Int, 0 ≤ k → k < i → cycB G r k = true ∧ ix 0 r 0 ≤ ix 0 r k) : (rng 0 i).any (cycB B r) = closesB G B r := by
  have : (rng 0 (r.length : Int)).all (fun i => cycB G r i && decide (ix 0 r 0 ≤ ix 0 r i)) = true := by
    rw [List.all_eq_true]
    intro k hk
    rw [rng_mem] at hk
    rw [Bool.and_eq_true, decide_eq_true_eq]
    exact h k hk.1 (by omega)
  rw [closesB, this, Bool.true_and, hi]
/-! ### all rings, one after another -/
/-! ### answers -/
def tasteE (g : Int) (l : List Sale) : Bool := decide (checkE g l = 0) && decide (ringsV (gS l) (bS l) l.length = [])
def ringE (g : Int) (l : List Sale) : List Int := if checkE g l = 0 then ix [] (ringsV (gS l) (bS l) l.length) 0 else []
def ringX (g : Int) (l : List Sale) : Int := if checkE g l = 0 then (if ringsV (gS l) (bS l) l.length = [] then 13 else 0) else checkE g l
def leastL (g : Int) (l : List Sale) (a b : Int) : List Int := if twoE g l a b = 0 then (leastV (gS l) l.length a b).getD [] else []
def leastX (g : Int) (l : List Sale) (a b : Int) : Int := if twoE g l a b = 0 then (match leastV (gS l) l.length a b with | some _ => 0 | none => 12) else twoE g l a b
/-! ### a ring is checked -/
def provE (n : Int) : List Int → List Int → Int
  | _, [] => 0
  | pre, x :: r => if ¬ (0 ≤ x ∧ x < n) then 2 else if hasL pre x = true then 6 else provE n (pre ++ [x]) r
def preE (g : Int) (l : List Sale) (ring : List Int) : Int := if checkE g l = 0 then provE l.length [] ring else checkE g l
def provesE (g : Int) (l : List Sale) (ring : List Int) : Int := if preE g l ring = 0 then (if closesB (gS l) (bS l) ring = true then 0 else 14) else preE g l ring
def PrI (g : Int) (l : List Sale) (ring : List Int) (i e : Int) : Prop := (e = 0 ∧ checkE g l = 0 ∧ provE l.length (ring.take i.toNat) (ring.drop i.toNat) = provE l.length [] ring ∧ ∀ x ∈ ring.take i.toNat, 0 ≤ x ∧ x < (l.length : Int)) ∨ (e ≠ 0 ∧ e = preE g l ring)
variable {g : Int} {l : List Sale} {ring : List Int} {i e : Int}
theorem PrI.start : PrI g l ring 0 (checkE g l) := by
  by_cases h : checkE g l = 0
  · exact .inl ⟨h, h, rfl, fun x hx => by simp at hx⟩
  · exact .inr ⟨h, by rw [preE, if_neg h]⟩
theorem PrI.none (h : PrI g l ring i e) (h0 : 0 ≤ i) (h1 : i < ring.length) (he : e = 0) (c : ¬ (0 ≤ ix 0 ring i ∧ ix 0 ring i < l.length)) : PrI g l ring (i + 1) 2 := by
  rcases h with ⟨_, h2, h3, _⟩ | ⟨h2, _⟩
  · refine .inr ⟨by decide, ?_⟩
    rw [preE, if_pos h2, ← h3, drop_ix (d := 0) h0 h1, provE, if_pos c]
  · exact absurd he h2
theorem PrI.twice (h : PrI g l ring i e) (h0 : 0 ≤ i) (h1 : i < ring.length) (he : e = 0) (c : 0 ≤ ix 0 ring i ∧ ix 0 ring i < l.length) (k : hasL (ring.take i.toNat) (ix 0 ring i) = true) : PrI g l ring (i + 1) 6 := by
  rcases h with ⟨_, h2, h3, _⟩ | ⟨h2, _⟩
  · refine .inr ⟨by decide, ?_⟩
    rw [preE, if_pos h2, ← h3, drop_ix (d := 0) h0 h1, provE, if_neg (not_not_intro c), if_pos k]
  · exact absurd he h2
theorem PrI.next (h : PrI g l ring i e) (h0 : 0 ≤ i) (h1 : i < ring.length) (he : e = 0) (c : 0 ≤ ix 0 ring i ∧ ix 0 ring i < l.length) (k : hasL (ring.take i.toNat) (ix 0 ring i) = false) : PrI g l ring (i + 1) e := by
  rcases h with ⟨h5, h2, h3, h4⟩ | ⟨h2, _⟩
  · refine .inl ⟨h5, h2, ?_, fun x hx => ?_⟩
    · rw [← h3, drop_ix (d := 0) h0 h1, provE, if_neg (not_not_intro c), if_neg (by rw [k]; decide), take_ix (d := 0) h0 h1]
    · rw [take_ix (d := 0) h0 h1] at hx
      rcases List.mem_append.1 hx with hx | hx
      · exact h4 x hx
      · rw [List.mem_singleton] at hx; subst hx; exact c
  · exact absurd he h2
theorem PrI.fin (h : PrI g l ring i e) (hi : ¬ i < ring.length ∨ ¬ e = 0) : e = preE g l ring ∧ (e = 0 → SalesOK l ∧ ∀ x ∈ ring, 0 ≤ x ∧ x < (l.length : Int)) := by
  rcases h with ⟨h1, h2, h3, h4⟩ | ⟨h1, h2⟩
  · have hl : (ring.length : Int) ≤ i := by omega
    rw [drop_end hl, List.take_of_length_le (by omega)] at h3
    rw [List.take_of_length_le (by omega)] at h4
    exact ⟨by rw [preE, if_pos h2, ← h3, h1]; rfl, fun _ => ⟨SalesOK.of h2, h4⟩⟩
  · exact ⟨h2, fun k => absurd k h1⟩
/-! ### numbers are checked -/
def agr1 (worth weight : List Int) (i : Int) : Prop := (0 ≤ ix 0 worth i ∧ ix 0 worth i ≤ 1000000000000) ∧ 1 ≤ ix 0 weight i ∧ ix 0 weight i ≤ 1000000000000
def agr2 (l : List Sale) (worth weight : List Int) (a b : Int) : Prop := ¬ ix 0 worth a + ix 0 weight a * (costV (ix ([], []) l a).1 (ix ([], []) l b).2 - costV (ix ([], []) l a).1 (ix ([], []) l a).2) < ix 0 worth b
open Classical in
noncomputable def agreesE (g : Int) (l : List Sale) (worth weight : List Int) : Int :=
  if checkE g l = 0 then (if (worth.length : Int) = l.length ∧ (weight.length : Int) = l.length then
    (if ∀ i : Int, 0 ≤ i → i < l.length → agr1 worth weight i then (if ∀ a b : Int, 0 ≤ a → a < l.length → 0 ≤ b → b < l.length → agr2 l worth weight a b then 0 else 14) else 1) else 5) else checkE g l
theorem agr1_of {worth weight : List Int} {i : Int} (h : (0 ≤ ix 0 worth i ∧ ix 0 worth i ≤ 1000000000000) ∧ 1 ≤ ix 0 weight i ∧ ix 0 weight i ≤ 1000000000000) : agr1 worth weight i := h
theorem agr1_no {worth weight : List Int} {i : Int} (h : ¬ ((0 ≤ ix 0 worth i ∧ ix 0 worth i ≤ 1000000000000) ∧ 1 ≤ ix 0 weight i ∧ ix 0 weight i ≤ 1000000000000)) : ¬ agr1 worth weight i := h
theorem OkAt.cost {g : Int} {s t : Sale} (h : OkAt g s) (hg : g ≤ 3) (k : OkAt g t) : 0 ≤ costV s.1 t.2 ∧ costV s.1 t.2 ≤ 243 := costS_bd hg ⟨⟨h.l1, h.l2⟩, h.b1, h.b2⟩ ⟨⟨k.l1, k.l2⟩, k.b1, k.b2⟩
theorem mul_lim {w x y : Int} (h1 : 1 ≤ w) (h2 : w ≤ 1000000000000) (hx : 0 ≤ x ∧ x ≤ 243) (hy : 0 ≤ y ∧ y ≤ 243) : -243000000000000 ≤ w * (x - y) ∧ w * (x - y) ≤ 243000000000000 := by
  have a : w * (x - y) ≤ w * 243 := Int.mul_le_mul_of_nonneg_left (by omega) (by omega)
  have b : w * (-243) ≤ w * (x - y) := Int.mul_le_mul_of_nonneg_left (by omega) (by omega)
  omega
/-! ### what is beaten -/
def stepB (B : Int → Int → Bool) (p : List Int) (k : Int) : Bool := B (ix 0 p k) (ix 0 p (k + 1))
def beatP (B : Int → Int → Bool) (b m : Int) (p : List Int) : Bool := (rng 0 (m - 1)).any (stepB B p) && decide (ix 0 p (m - 1) = b)
def beatM (G B : Int → Int → Bool) (n a b : Int) (ms : List Int) : Bool := ms.any fun m => (pathsV G n m [a]).any (beatP B b m)
def beatsV (G B : Int → Int → Bool) (n a b : Int) : Bool := beatM G B n a b (rng 2 (n + 1))
/-! ### where a number is -/
def idxI (x : Int) : Int → List Int → Int
  | _, [] => -1
  | i, y :: ys => if x = y then i else idxI x (i + 1) ys
theorem idxI_has (x : Int) : ∀ (ys : List Int) (i : Int), 0 ≤ i → decide (0 ≤ idxI x i ys) = hasL ys x
  | [], _, _ => by simp [idxI, hasL]
  | y :: ys, i, hi => by
    have e : hasL (y :: ys) x = (decide (y = x) || hasL ys x) := rfl
    rw [idxI, e]
    by_cases h : x = y
    · rw [if_pos h, show decide (y = x) = true from decide_eq_true h.symm]; simpa using hi
    · rw [if_neg h, show decide (y = x) = false from decide_eq_false (fun e => h e.symm), Bool.false_or]; exact idxI_has x ys (i + 1) (by omega)
theorem idxI_bd (x : Int) : ∀ (ys : List Int) (i : Int), 0 ≤ i → -1 ≤ idxI x i ys ∧ idxI x i ys ≤ i + ys.length
  | [], i, hi => by simp [idxI]; omega
  | y :: ys, i, hi => by
    have := idxI_bd x ys (i + 1) (by omega)
    rw [idxI]
    split
    · simp; omega
    · simp; omega
/-! ### ranks -/
def cntR (f : Int → Int → Bool) (a : Int) (bs : List Int) : Int := ((bs.countP fun b => decide (a ≠ b) && f a b : Nat) : Int)
def ranksX (g : Int) (l : List Sale) : Int := if checkE g l = 0 then (if ringsV (gS l) (bS l) l.length = [] then 0 else 13) else checkE g l
def ranksL (g : Int) (l : List Sale) : List Int := if ranksX g l = 0 then (rng 0 l.length).map fun a => cntR (beatsV (gS l) (bS l) l.length) a (rng 0 l.length) else []
theorem cntR_yes {f : Int → Int → Bool} {a b n : Int} (h : b < n) (c : ¬ a = b ∧ f a b = true) : cntR f a (rng b n) = cntR f a (rng (b + 1) n) + 1 := by
  rw [rng_cons h, cntR, List.countP_cons, if_pos (by rw [Bool.and_eq_true, decide_eq_true_eq]; exact c), cntR]; omega
theorem cntR_no {f : Int → Int → Bool} {a b n : Int} (h : b < n) (c : a = b ∨ f a b = false) : cntR f a (rng b n) = cntR f a (rng (b + 1) n) := by
  rw [rng_cons h, cntR, List.countP_cons, if_neg (by rw [Bool.and_eq_true, decide_eq_true_eq]; rintro ⟨h1, h2⟩; rcases c with c | c; exact h1 c; (rw [h2] at c; cases c)), cntR]; omega
theorem cntR_end {f : Int → Int → Bool} {a b n : Int} (h : n ≤ b) : cntR f a (rng b n) = 0 := by rw [rng_nil h]; rfl
end Go.Proofs.Ytjbcpggikaeleaa

namespace Go.Proofs.Ytjbcpggikaeleaa
open Go.Wk Go
set_option linter.unusedVariables false
abbrev tSale : Ty Sale := tP (tSl (tI .i64)) (tSl (tI .i64))
abbrev Rel := Int → Int → Bool
def mkC (v : Value) (T : Rel) : List Value := v :: (List.range 36).map fun m => .bool (T ((m / 6 : Nat) : Int) ((m % 6 : Nat) : Int))
def updM (T : Rel) (i j : Int) (x : Bool) : Rel := fun a b => if a = i ∧ b = j then x else T a b
theorem mkC_len (v : Value) (T : Rel) : (mkC v T).length = 37 := by simp [mkC]
theorem mkC_get (v : Value) (T : Rel) {m : Nat} (h : m < 36) : (mkC v T)[m + 1]? = some (.bool (T ((m / 6 : Nat) : Int) ((m % 6 : Nat) : Int))) := by simp [mkC, h]
section
variable (v : Value) (T : Rel) {i j : Int} (i0 : 0 ≤ i) (i1 : i < 6) (j0 : 0 ≤ j) (j1 : j < 6)
include i0 i1 j0 j1
theorem mkC_at : (mkC v T)[1 + i.toNat * 6 + j.toNat * 1]? = some (.bool (T i j)) := by
  have h := mkC_get v T (m := i.toNat * 6 + j.toNat) (by omega)
  rw [show 1 + i.toNat * 6 + j.toNat * 1 = i.toNat * 6 + j.toNat + 1 by omega, h, show (((i.toNat * 6 + j.toNat) / 6 : Nat) : Int) = i by omega, show (((i.toNat * 6 + j.toNat) % 6 : Nat) : Int) = j by omega]
theorem mkC_set (b : Bool) : (mkC v T).take (1 + i.toNat * 6 + j.toNat * 1) ++ [.bool b] ++ (mkC v T).drop (1 + i.toNat * 6 + j.toNat * 1 + 1) = mkC v (updM T i j b) := by
  rw [set_splice _ _ _ (by rw [mkC_len]; omega)]
  apply List.ext_getElem?
  intro m
  rw [List.getElem?_set]
  by_cases hm : 1 + i.toNat * 6 + j.toNat * 1 = m
  · rw [if_pos hm, if_pos (by rw [mkC_len]; omega), ← hm, mkC_at v _ i0 i1 j0 j1, updM, if_pos ⟨rfl, rfl⟩]
  · rw [if_neg hm]
    cases m with
    | zero => rfl
    | succ m =>
      by_cases h : m < 36
      · rw [mkC_get _ _ h, mkC_get _ _ h, updM, if_neg (by omega)]
      · rw [List.getElem?_eq_none (by rw [mkC_len]; omega), List.getElem?_eq_none (by rw [mkC_len]; omega)]
end
def tMk (ok : Bool) : Ty (List Sale) where
  n := 1
  agg := false
  rep := fun O w l cs => ∃ p, cs = [.pointer p] ∧ (ok = true → ∃ g v T, p = some ⟨g, 0, none⟩ ∧ some g ∉ O ∧ w.heap[g]? = some (.cells (mkC v T).toArray 93 (0, 0)) ∧ V (tSl tSale) l v O w ∧ SalesOK l ∧
    ∀ a b : Int, (0 ≤ a ∧ a < l.length) → (0 ≤ b ∧ b < l.length) → T a b = ledB (gS l) l.length a b)
  len := by rintro _ _ _ _ ⟨p, rfl, _⟩; rfl
  one := by rintro _ _ _ _ ⟨p, rfl, _⟩ u hu; simp at hu; subst hu; rfl
  mv := by
    rintro O O' w w' l cs hm ⟨p, rfl, h⟩
    refine ⟨p, rfl, fun hk => ?_⟩
    obtain ⟨g, v, T, h1, h2, h3, h4, h5⟩ := h hk
    obtain ⟨k1, k2⟩ := hm.2 g (Array.getElem?_eq_some_iff.1 h3).1 h2
    exact ⟨g, v, T, h1, k2, k1.trans h3, h4.mv hm, h5⟩
  flat := fun _ => rfl
section
variable {l : List Sale} {p : Value} {O : List (Option Nat)} {w : World} {ok : Bool}
theorem V.mkForm (h : V (tMk true) l p O w) : ∃ g v T, p = .pointer (some ⟨g, 0, none⟩) ∧ some g ∉ O ∧ w.heap[g]? = some (.cells (mkC v T).toArray 93 (0, 0)) ∧ V (tSl tSale) l v O w ∧ SalesOK l ∧
    ∀ a b : Int, (0 ≤ a ∧ a < l.length) → (0 ≤ b ∧ b < l.length) → T a b = ledB (gS l) l.length a b := by
  obtain ⟨cs, rfl, q, rfl, h⟩ := h
  obtain ⟨g, v, T, rfl, h'⟩ := h rfl
  exact ⟨g, v, T, rfl, h'⟩
theorem V.mkPtr (h : V (tMk true) l p O w) : ∃ g, p = .pointer (some ⟨g, 0, none⟩) := let ⟨g, _, _, h, _⟩ := V.mkForm h; ⟨g, h⟩
theorem V.mkOK (h : V (tMk true) l p O w) : SalesOK l := let ⟨_, _, _, _, _, _, _, h, _⟩ := V.mkForm h; h
theorem V.mkOpen (h : V (tMk ok) l p O w) (hk : ok = true) : ∃ g, p = .pointer (some ⟨g, 0, none⟩) ∧ V (tMk true) l p O w := by
  subst hk
  obtain ⟨g, hg⟩ := V.mkPtr h
  exact ⟨g, hg, h⟩
theorem V.mkNone : V (tMk false) l (.pointer none) O w := ⟨[.pointer none], rfl, none, rfl, fun h => by cases h⟩
end
section
variable {P : Program} {n : Nat} {σ : Fr} {w w0 : World} {O F : List (Option Nat)} {obs : List Ob} {x : Operand} {ty T' : TypeId} {g : Nat} {l : List Sale} {a b : Int}
theorem rd_mkS (h : V (tMk true) l (.pointer (some ⟨g, 0, none⟩)) F w) (hx : ev σ x = .pointer (some ⟨g, 0, none⟩)) (hag : ∀ w', (isAgg T').run P w' = .ok false w') : ∃ u, Rd P σ (.load T' x) ty w u ∧ V (tSl tSale) l u F w := by
  obtain ⟨g', v, T, h1, h2, h3, h4, _⟩ := V.mkForm h
  injection h1 with h1; injection h1 with h1; injection h1 with h1
  subst h1
  exact ⟨v, rd_loadO h3 (Ext.refl w) hx (by rw [List.getElem?_toArray]; rfl) hag, h4⟩
theorem rd_mkB (h : V (tMk true) l (.pointer (some ⟨g, 0, none⟩)) F w) (hx : ev σ x = .pointer (some ⟨g, 1 + a.toNat * 6 + b.toNat * 1, none⟩)) (a0 : 0 ≤ a) (a1 : a < l.length) (b0 : 0 ≤ b) (b1 : b < l.length) (hag : ∀ w', (isAgg T').run P w' = .ok false w') :
    Rd P σ (.load T' x) ty w (.bool (ledB (gS l) l.length a b)) := by
  obtain ⟨g', v, T, h1, h2, h3, h4, h5, h6⟩ := V.mkForm h
  injection h1 with h1; injection h1 with h1; injection h1 with h1
  subst h1
  have := h5.1
  rw [← h6 a b ⟨a0, a1⟩ ⟨b0, b1⟩]
  exact rd_loadO h3 (Ext.refl w) hx (by rw [List.getElem?_toArray]; exact mkC_at v T a0 (by omega) b0 (by omega)) hag
theorem rd_mkO {v : Value} {T : Rel} {e : TypeId} (hS : St w0 O w obs) (i : Nat) (hi : obs[i]? = some (.box g e (mkC v T))) (hx : ev σ x = .pointer (some ⟨g, 1 + a.toNat * 6 + b.toNat * 1, none⟩)) (a0 : 0 ≤ a) (a1 : a < 6) (b0 : 0 ≤ b) (b1 : b < 6) (hag : ∀ w', (isAgg T').run P w' = .ok false w') :
    Rd P σ (.load T' x) ty w (.bool (T a b)) :=
  rd_loadO (hS.get i hi).2 (Ext.refl w) hx (by rw [List.getElem?_toArray]; exact mkC_at v T a0 a1 b0 b1) hag
theorem St.mk {v : Value} {T : Rel} (hS : St w0 O w obs) (i : Nat) (hi : obs[i]? = some (.box g 93 (mkC v T))) (hv : V (tSl tSale) l v (fb obs O) w) (hok : SalesOK l) (hT : ∀ a b : Int, (0 ≤ a ∧ a < l.length) → (0 ≤ b ∧ b < l.length) → T a b = ledB (gS l) l.length a b) :
    V (tMk true) l (.pointer (some ⟨g, 0, none⟩)) O w := by
  have hb := hS.get i hi
  refine ⟨[_], rfl, _, rfl, fun _ => ⟨g, v, T, rfl, fun hm => ?_, hb.2, hv.mv (.less fun b h => List.mem_append.2 (.inr h)), hok, hT⟩⟩
  have := hS.olt g hm
  have := hb.1
  omega
end
end Go.Proofs.Ytjbcpggikaeleaa

namespace Go.Proofs.Ytjbcpggikaeleaa
open Go.Wk Go
set_option linter.unusedVariables false
def idxE (n : Int) : List Int → Int
  | [] => 0
  | x :: r => if 0 ≤ x ∧ x < n then idxE n r else 2
def openE (g : Int) (l : List Sale) (is : List Int) : Int := if checkE g l = 0 then idxE l.length is else checkE g l
theorem openE_nil {g : Int} {l : List Sale} : openE g l [] = checkE g l := by
  rw [openE]; by_cases h : checkE g l = 0
  · rw [if_pos h, h]; rfl
  · rw [if_neg h]
theorem openE_two {g a b : Int} {l : List Sale} : openE g l [a, b] = twoE g l a b := by
  rw [openE, twoE]; by_cases h : checkE g l = 0
  · rw [if_pos h, if_pos h]
    show (if 0 ≤ a ∧ a < (l.length : Int) then (if 0 ≤ b ∧ b < (l.length : Int) then 0 else 2) else 2) = _
    by_cases h1 : 0 ≤ a ∧ a < (l.length : Int)
    · rw [if_pos h1]
      by_cases h2 : 0 ≤ b ∧ b < (l.length : Int)
      · rw [if_pos h2, if_pos ⟨h1, h2⟩]
      · rw [if_neg h2, if_neg (fun h => h2 h.2)]
    · rw [if_neg h1, if_neg (fun h => h1 h.1)]
  · rw [if_neg h, if_neg h]
theorem idx_next {n k : Int} {is : List Int} (h0 : 0 ≤ k) (h1 : k < is.length) (hx : 0 ≤ ix 0 is k ∧ ix 0 is k < n) (h : idxE n (is.drop k.toNat) = idxE n is) : idxE n (is.drop (k + 1).toNat) = idxE n is := by
  rw [← h, drop_ix (d := 0) h0 h1, idxE, if_pos hx]
theorem idx_bad {n k : Int} {is : List Int} (h0 : 0 ≤ k) (h1 : k < is.length) (hx : ¬ (0 ≤ ix 0 is k ∧ ix 0 is k < n)) (h : idxE n (is.drop k.toNat) = idxE n is) : idxE n is = 2 := by
  rw [← h, drop_ix (d := 0) h0 h1, idxE, if_neg hx]
theorem idx_end {n k : Int} {is : List Int} (h1 : (is.length : Int) ≤ k) (h : idxE n (is.drop k.toNat) = idxE n is) : idxE n is = 0 := by
  rw [← h, drop_end h1]; rfl
/-! ### single steps -/
def fillI (G : Rel) (n a b : Int) (T : Rel) : Prop := ∀ i j : Int, (0 ≤ i ∧ i < n) → (0 ≤ j ∧ j < n) → (i < a ∨ (i = a ∧ j < b)) → T i j = G i j
theorem fill_start {G : Rel} {n : Int} {T : Rel} : fillI G n 0 0 T := fun i j hi hj h => by omega
theorem fill_step {G : Rel} {n a b : Int} {T : Rel} (h : fillI G n a b T) : fillI G n a (b + 1) (updM T a b (G a b)) := by
  intro i j hi hj hc
  rw [updM]
  by_cases e : i = a ∧ j = b
  · rw [if_pos e, e.1, e.2]
  · rw [if_neg e]; exact h i j hi hj (by omega)
theorem fill_row {G : Rel} {n a b : Int} {T : Rel} (h : fillI G n a b T) (hb : n ≤ b) : fillI G n (a + 1) 0 T := fun i j hi hj hc => h i j hi hj (by omega)
/-! ### by way of one after the other -/
def wsI (G : Rel) (n k a b : Int) (T : Rel) : Prop := ∀ i j : Int, (0 ≤ i ∧ i < n) → (0 ≤ j ∧ j < n) → (T i j = true ↔ if i < a ∨ (i = a ∧ j < b) then viaP G n (k + 1) i j else viaP G n k i j)
theorem ws_start {G : Rel} {n a b : Int} {T : Rel} (h : fillI G n a b T) (ha : n ≤ a) : wsI G n 0 0 0 T := by
  intro i j hi hj
  rw [if_neg (by omega), via_zero, h i j hi hj (by omega)]
theorem ws_any {G : Rel} {n k a b i j : Int} {T : Rel} (h : wsI G n k a b T) (hk : 0 ≤ k) (hi : 0 ≤ i ∧ i < n) (hj : 0 ≤ j ∧ j < n) (hc : i = k ∨ j = k) : T i j = true ↔ viaP G n k i j := by
  rw [h i j hi hj]
  split
  · rw [via_next hk]
    rcases hc with rfl | rfl
    · exact ⟨fun h => h.elim id (fun h => h.2), .inl⟩
    · exact ⟨fun h => h.elim id (fun h => h.1), .inl⟩
  · rfl
theorem ws_step {G : Rel} {n k a b : Int} {T : Rel} (h : wsI G n k a b T) (hk : 0 ≤ k ∧ k < n) (ha : 0 ≤ a ∧ a < n) (hb : 0 ≤ b ∧ b < n) : wsI G n k a (b + 1) (updM T a b (T a b || (T a k && T k b))) := by
  intro i j hi hj
  rw [updM]
  by_cases e : i = a ∧ j = b
  · obtain ⟨rfl, rfl⟩ := e
    rw [if_pos ⟨rfl, rfl⟩, if_pos (by omega), Bool.or_eq_true, Bool.and_eq_true, via_next hk.1, ws_any h hk.1 hi hk (.inr rfl), ws_any h hk.1 hk hj (.inl rfl), h i j hi hj, if_neg (by omega)]
  · rw [if_neg e, h i j hi hj]
    by_cases hc : i < a ∨ (i = a ∧ j < b)
    · rw [if_pos hc, if_pos (by omega)]
    · rw [if_neg hc, if_neg (by omega)]
theorem ws_row {G : Rel} {n k a b : Int} {T : Rel} (h : wsI G n k a b T) (hb : n ≤ b) : wsI G n k (a + 1) 0 T := by
  intro i j hi hj
  rw [h i j hi hj]
  by_cases hc : i < a + 1
  · rw [if_pos (by omega), if_pos (by omega)]
  · rw [if_neg (by omega), if_neg (by omega)]
theorem ws_next {G : Rel} {n k a b : Int} {T : Rel} (h : wsI G n k a b T) (ha : n ≤ a) : wsI G n (k + 1) 0 0 T := by
  intro i j hi hj
  rw [h i j hi hj, if_pos (by omega), if_neg (by omega)]
theorem ws_led {l : List Sale} {k : Int} {T : Rel} (h : wsI (gS l) l.length k 0 0 T) (hk : k = l.length) : ∀ a b : Int, (0 ≤ a ∧ a < l.length) → (0 ≤ b ∧ b < l.length) → T a b = ledB (gS l) l.length a b := by
  intro a b ha hb
  subst hk
  have h1 := h a b ha hb
  rw [if_neg (by omega), via_led (fun i _ _ => gS_refl l i) ha hb] at h1
  cases h2 : T a b <;> cases h3 : ledB (gS l) l.length a b <;> simp_all
theorem V.mkNo {l : List Sale} {O : List (Option Nat)} {w : World} {ok : Bool} (h : ok = false) : V (tMk ok) l (.pointer none) O w := by subst h; exact V.mkNone
theorem V.mkYes {l : List Sale} {p : Value} {O : List (Option Nat)} {w : World} {ok : Bool} (h : V (tMk true) l p O w) : V (tMk ok) l p O w := by
  cases ok with
  | true => exact h
  | false =>
    obtain ⟨g, rfl⟩ := V.mkPtr h
    exact ⟨[_], rfl, _, rfl, fun h => by cases h⟩
end Go.Proofs.Ytjbcpggikaeleaa

namespace Go.Wk
open Go.RowKit Go.ChangeShapes

section
variable {H : Type} {enc : TypeId × Value → H} {P : Program} {W : World}

theorem inK_of_wf {k : IntKind} {n : Int} (h : (Lit.int k n).wf = true) : InK k n := by
  cases k <;> simp [Lit.wf, IntKind.min, IntKind.max, IntKind.bits, IntKind.signed] at h <;> simp only [InK, lo, hi] <;> omega

structure Rds {α : Type} (enc : TypeId × Value → H) (P : Program) (W : World) (t : Ty α) (e : TypeId) : Prop where
  n : P.cellsOf e = t.n
  pos : 0 < t.n
  get : ∀ fuel cs x, DataW.trod enc P W 0 (fun _ => true) true fuel e cs = some x → ∃ y, t.rep [] W y cs

theorem list_of {α : Type} {p : Nat → α → Prop} : ∀ n : Nat, (∀ i, i < n → ∃ y, p i y) → ∃ ys : List α, ys.length = n ∧ ∀ i y, ys[i]? = some y → p i y
  | 0, _ => ⟨[], rfl, by simp⟩
  | n + 1, h => by
    obtain ⟨ys, h1, h2⟩ := list_of n (fun i hi => h i (by omega))
    obtain ⟨y, hy⟩ := h n (by omega)
    refine ⟨ys ++ [y], by simp [h1], fun i z hz => ?_⟩
    by_cases hi : i < ys.length
    · rw [List.getElem?_append_left hi] at hz; exact h2 i z hz
    · rw [List.getElem?_append_right (by omega)] at hz
      have : i - ys.length = 0 := by
        rcases Nat.eq_zero_or_pos (i - ys.length) with h | h
        · exact h
        · rw [List.getElem?_eq_none (by simp; omega)] at hz; cases hz
      rw [this] at hz
      simp at hz
      subst hz
      have : i = n := by omega
      rw [this]; exact hy

def RdI (enc : TypeId × Value → H) (P : Program) (W : World) (k : IntKind) (m : Nat) (e : TypeId) : Prop :=
  ∀ fuel cs x, DataW.trod enc P W 0 (fun _ => true) true fuel e cs = some x → ∃ zs : List Int, zs.length = m ∧ cs = zs.map (Value.int k) ∧ ∀ z ∈ zs, InK k z
theorem RdI.int {k : IntKind} {e : TypeId} (hu : P.underlying e = some (.int k)) : RdI enc P W k 1 e := by
  intro fuel cs x h
  obtain ⟨n, rfl, _, h3⟩ := DataW.trod_int hu h
  exact ⟨[n], rfl, rfl, by simpa using inK_of_wf h3⟩
theorem RdI.array {k : IntKind} {n : Nat} {e t : TypeId} (hu : P.underlying t = some (.array n e)) (he : P.underlying e = some (.int k)) (hc : P.cellsOf e = 1) (hn : P.cellsOf t = n) : RdI enc P W k n t := by
  intro fuel cs x h
  obtain ⟨xs, m, _, _, hl, hx, hel⟩ := DataW.trod_array hu h
  rw [hc] at hel
  rw [hn] at hl
  have h1 : ∀ i, i < n → ∃ z, cs[i]? = some (.int k z) ∧ InK k z := by
    intro i hi
    have := hel i hi
    cases hxi : xs[i]? with
    | none => rw [List.getElem?_eq_none_iff] at hxi; omega
    | some y =>
      rw [hxi] at this
      obtain ⟨z, hz, _, hw⟩ := DataW.trod_int he this
      refine ⟨z, ?_, inK_of_wf hw⟩
      have h2 := congrArg (fun l : List Value => l[0]?) hz
      simp only [List.getElem?_take, List.getElem?_drop] at h2
      simpa using h2
  obtain ⟨zs, z1, z2⟩ := list_of (p := fun i z => cs[i]? = some (.int k z) ∧ InK k z) n h1
  refine ⟨zs, z1, List.ext_getElem? fun i => ?_, fun z hz => ?_⟩
  · rw [List.getElem?_map]
    by_cases hi : i < n
    · have hzi : zs[i]? = some zs[i] := List.getElem?_eq_getElem (by omega)
      rw [hzi, (z2 i _ hzi).1]; rfl
    · rw [List.getElem?_eq_none (by omega), List.getElem?_eq_none (by omega)]; rfl
  · obtain ⟨i, hi⟩ := List.getElem?_of_mem hz
    exact (z2 i z hi).2
theorem RdI.v {k : IntKind} {t : TypeId} {m : Nat} {cs : Array Value} {d : DataW H} {p : List MemPlace} (h : RdI enc P W k m t) (hx : DataW.Trod enc P W 0 (fun _ => true) true t (.agg cs) d p) : ∃ zs : List Int, zs.length = m ∧ cs = (zs.map (Value.int k)).toArray ∧ ∀ z ∈ zs, InK k z := by
  obtain ⟨fuel, hf⟩ := hx
  obtain ⟨zs, h1, h2, h3⟩ := h _ _ _ hf
  refine ⟨zs, h1, ?_, h3⟩
  rw [← h2]
  simp [Value.cells]
end
end Go.Wk

namespace Go.Wk
open Go.RowKit Go.ChangeShapes
section
variable {H : Type} {enc : TypeId × Value → H} {P : Program} {W : World}
end
section
variable {P : Program} {σ : Fr} {w : World} {x y : Operand} {ty T T' : TypeId}
end
end Go.Wk

namespace Go.Wk
open Go.RowKit Go.Lib Go.ChangeMaps
set_option linter.unusedVariables false
set_option linter.unusedSimpArgs false
set_option linter.unusedSectionVars false

section
variable {κ ν : Type} [DecidableEq κ]
def mE (f : κ → Value) (g : ν → Value) : List (κ × ν) → Nat → List MapEntry
  | [], _ => []
  | p :: m, i => ⟨f p.1, g p.2, i⟩ :: mE f g m (i + 1)
def mfind : List (κ × ν) → κ → Nat → Option (Nat × ν)
  | [], _, _ => none
  | p :: m, k, i => if p.1 = k then some (i, p.2) else mfind m k (i + 1)
structure KeyD (P : Program) (kt : TypeId) (f : κ → Value) : Prop where
  check : ∀ (b : Bool) (k : κ) (w : World), (Instr.checkKey b 10000 kt (f k)).run P w = .ok () w
  find : ∀ {ν : Type} (g : ν → Value) (m : List (κ × ν)) (k : κ) (i : Nat) (w : World), (Instr.findKey kt (f k) (mE f g m i)).run P w = .ok ((mfind m k 0).map fun x => (x.1, g x.2)) w
  stays : ∀ (k : κ) (w : World), (Instr.keyThatStays (f k) (f k)).run P w = .ok (f k) w
end

section
variable {P : Program} {n : Nat} {kc : Cont} {σ σ0 : Fr} {w w0 : World} {O : List (Option Nat)} {obs : List Ob} {x y z : Operand} {ty T : TypeId} {l : List (Nat × Value)} {d : Tmp} {pos : String} {af : Array Edge} {ops : Array Oper} {rest : List Oper}
variable {κ ν : Type} [DecidableEq κ] {f : κ → Value} {g : ν → Value} {kt et : TypeId}

end
end Go.Wk

namespace Go.Wk
open Go.RowKit Go.Lib Go.ChangeMaps
set_option linter.unusedVariables false
set_option linter.unusedSimpArgs false
set_option linter.unusedSectionVars false

section
variable {κ ν : Type} [DecidableEq κ]
end

section
variable {P : Program} {n : Nat} {kc : Cont} {σ σ0 : Fr} {w w0 : World} {O : List (Option Nat)} {obs : List Ob} {x y z : Operand} {ty T : TypeId} {l : List (Nat × Value)} {d : Tmp} {pos : String} {af : Array Edge} {ops : Array Oper} {rest : List Oper}
variable {κ ν : Type} [DecidableEq κ] {f : κ → Value} {g : ν → Value} {kt et : TypeId}
end
end Go.Wk

namespace Go.Wk
set_option linter.unusedVariables false
section
variable {α : Type} (d : α) (lt : α → α → Bool)
def sinkF : List α → Nat → List α
  | z, 0 => z
  | z, j + 1 => if lt (ix d z ((j + 1 : Nat) : Int)) (ix d z (j : Nat)) = true then sinkF ((z.set (j + 1) (ix d z (j : Nat))).set j (ix d z ((j + 1 : Nat) : Int))) j else z
def sortGF : List α → Nat → Nat → List α
  | z, _, 0 => z
  | z, i, m + 1 => sortGF (sinkF d lt z i) (i + 1) m
def sortF (ys : List α) : List α := sortGF d lt ys 1 (ys.length - 1)
variable {d lt}
theorem sinkF_step {z : List α} {j : Int} (h0 : 0 < j) (h : lt (ix d z j) (ix d z (j - 1)) = true) : sinkF d lt ((z.set j.toNat (ix d z (j - 1))).set (j - 1).toNat (ix d z j)) (j - 1).toNat = sinkF d lt z j.toNat := by
  obtain ⟨q, rfl⟩ : ∃ q : Nat, j = ((q + 1 : Nat) : Int) := ⟨(j - 1).toNat, by omega⟩
  have e : ((q + 1 : Nat) : Int) - 1 = (q : Int) := by omega
  rw [e] at h ⊢
  simp only [Int.toNat_natCast]
  rw [sinkF, if_pos h]
theorem sinkF_stop {z : List α} {j : Int} (h0 : 0 ≤ j) (h : ¬ (0 < j ∧ lt (ix d z j) (ix d z (j - 1)) = true)) : sinkF d lt z j.toNat = z := by
  by_cases hj : j = 0
  · subst hj; rfl
  · obtain ⟨q, rfl⟩ : ∃ q : Nat, j = ((q + 1 : Nat) : Int) := ⟨(j - 1).toNat, by omega⟩
    have e : ((q + 1 : Nat) : Int) - 1 = (q : Int) := by omega
    rw [e] at h
    simp only [Int.toNat_natCast]
    rw [sinkF, if_neg (fun hh => h ⟨by omega, hh⟩)]
theorem sortF_next {z z2 : List α} {n i : Int} (h : i < n) (hz : z2 = sinkF d lt z i.toNat) (h0 : 0 ≤ i) : sortGF d lt z2 (i + 1).toNat (n - (i + 1)).toNat = sortGF d lt z i.toNat (n - i).toNat := by
  rw [show (n - i).toNat = (n - (i + 1)).toNat + 1 by omega, sortGF, hz, show (i + 1).toNat = i.toNat + 1 by omega]
theorem ix_natF {z : List α} {q : Nat} (h : q < z.length) : ix d z (q : Int) = z[q] := by
  rw [ix, List.getD_eq_getElem?_getD, Int.toNat_natCast, List.getElem?_eq_getElem h]; rfl
theorem ix_setF {z : List α} {j q : Nat} {x : α} (h : j < z.length) : ix d (z.set j x) (q : Int) = if q = j then x else ix d z q := by
  rw [ix, ix, List.getD_eq_getElem?_getD, List.getD_eq_getElem?_getD, Int.toNat_natCast, List.getElem?_set]
  by_cases hq : q = j
  · rw [if_pos hq.symm, if_pos h, if_pos hq]; rfl
  · rw [if_neg (fun e => hq e.symm), if_neg hq]
theorem sinkF_perm : ∀ (j : Nat) (z : List α), j < z.length → (sinkF d lt z j).Perm z
  | 0, z, _ => List.Perm.refl _
  | j + 1, z, h => by
    rw [sinkF]
    split
    · refine (sinkF_perm j _ (by simp only [List.length_set]; omega)).trans ?_
      rw [ix_natF (by omega), ix_natF h]
      exact List.set_set_perm h (by omega)
    · exact List.Perm.refl _
variable (hT : ∀ x y z, lt y x = false → lt z y = false → lt z x = false) (hA : ∀ x y, lt x y = true → lt y x = false)
include hT hA
theorem sinkF_sorts : ∀ (j : Nat) (z : List α) (i : Nat), j ≤ i → i < z.length → ((∀ p q : Nat, p < q → q ≤ i → p ≠ j → q ≠ j → lt (ix d z q) (ix d z p) = false) ∧ ∀ q : Nat, j < q → q ≤ i → lt (ix d z q) (ix d z j) = false) →
    (∀ p q : Nat, p < q → q ≤ i → lt (ix d (sinkF d lt z j) q) (ix d (sinkF d lt z j) p) = false) ∧ ∀ q : Nat, i < q → ix d (sinkF d lt z j) q = ix d z q
  | 0, z, i, _, hi, ⟨h1, h2⟩ => by
    refine ⟨fun p q hpq hq => ?_, fun _ _ => rfl⟩
    rw [sinkF]
    by_cases hp : p = 0
    · subst hp; exact h2 q hpq hq
    · exact h1 p q hpq hq hp (by omega)
  | j + 1, z, i, hj, hi, ⟨h1, h2⟩ => by
    rw [sinkF]
    split
    · rename_i hlt
      have hl : (z.set (j + 1) (ix d z (j : Nat))).length = z.length := List.length_set
      have e : ∀ q : Nat, ix d ((z.set (j + 1) (ix d z (j : Nat))).set j (ix d z ((j + 1 : Nat) : Int))) (q : Int) = if q = j then ix d z ((j + 1 : Nat) : Int) else if q = j + 1 then ix d z (j : Nat) else ix d z q := fun q => by
        rw [ix_setF (by rw [hl]; omega), ix_setF (by omega)]
      have ih := sinkF_sorts j ((z.set (j + 1) (ix d z (j : Nat))).set j (ix d z ((j + 1 : Nat) : Int))) i (by omega) (by simp only [List.length_set]; omega) ⟨fun p q hpq hq hp hq2 => by
          rw [e, e, if_neg hp, if_neg hq2]
          by_cases c1 : p = j + 1
          · rw [if_pos c1, if_neg (by omega)]; exact h1 j q (by omega) hq (by omega) (by omega)
          · rw [if_neg c1]
            by_cases c2 : q = j + 1
            · rw [if_pos c2]; exact h1 p j (by omega) (by omega) (by omega) (by omega)
            · rw [if_neg c2]; exact h1 p q hpq hq c1 c2, fun q hq1 hq2 => by
          rw [e, e, if_pos rfl, if_neg (by omega)]
          by_cases c2 : q = j + 1
          · rw [if_pos c2]; exact hA _ _ hlt
          · rw [if_neg c2]; exact h2 q (by omega) hq2⟩
      refine ⟨ih.1, fun q hq => ?_⟩
      rw [ih.2 q hq, e, if_neg (by omega), if_neg (by omega)]
    · rename_i hlt
      have hlt : lt (ix d z ((j + 1 : Nat) : Int)) (ix d z (j : Nat)) = false := by simpa using hlt
      refine ⟨fun p q hpq hq => ?_, fun _ _ => rfl⟩
      by_cases c1 : p = j + 1
      · subst c1; exact h2 q hpq hq
      · by_cases c2 : q = j + 1
        · subst c2
          by_cases c3 : p = j
          · subst c3; exact hlt
          · exact hT _ _ _ (h1 p j (by omega) (by omega) c1 (by omega)) hlt
        · exact h1 p q hpq hq c1 c2
theorem sortGF_spec : ∀ (m : Nat) (z : List α) (i : Nat), i + m ≤ max z.length 1 → 1 ≤ i → (∀ p q : Nat, p < q → q < i → lt (ix d z q) (ix d z p) = false) → (sortGF d lt z i m).Perm z ∧ ∀ p q : Nat, p < q → q < i + m → lt (ix d (sortGF d lt z i m) q) (ix d (sortGF d lt z i m) p) = false
  | 0, z, i, _, _, hs => ⟨List.Perm.refl _, hs⟩
  | m + 1, z, i, hl, h1, hs => by
    have hi : i < z.length := by omega
    have hp := sinkF_perm (d := d) (lt := lt) i z hi
    have hk := sinkF_sorts hT hA i z i (Nat.le_refl _) hi ⟨fun p q hpq hq _ hq2 => hs p q hpq (by omega), fun q h2 h3 => by omega⟩
    have ih := sortGF_spec m (sinkF d lt z i) (i + 1) (by rw [hp.length_eq]; omega) (by omega) (fun p q hpq hq => hk.1 p q hpq (by omega))
    rw [sortGF]
    refine ⟨ih.1.trans hp, fun p q hpq hq => ih.2 p q hpq (by omega)⟩
theorem sortF_perm (ys : List α) : (sortF d lt ys).Perm ys := (sortGF_spec hT hA (ys.length - 1) ys 1 (by omega) (by omega) (fun p q _ hq => by omega)).1
theorem sortF_sorted (ys : List α) : (sortF d lt ys).Pairwise (fun x y => lt y x = false) := by
  have h := (sortGF_spec (d := d) hT hA (ys.length - 1) ys 1 (by omega) (by omega) (fun p q _ hq => by omega)).2
  have hl := (sortF_perm (d := d) hT hA ys).length_eq
  rw [List.pairwise_iff_getElem]
  intro i j hi hj hij
  have := h i j hij (by omega)
  rw [show sortGF d lt ys 1 (ys.length - 1) = sortF d lt ys from rfl, ix_natF hi, ix_natF hj] at this
  exact this
end
end Go.Wk

namespace Go.Wk
open Go.RowKit Go.Lib
set_option linter.unusedVariables false
section
variable {P : Program} {σ : Fr} {w : World} {z lo : Operand} {ty T : TypeId}
theorem rd_tailP {g len c sz : Nat} {e : TypeId} {m : Int} {kk : IntKind} (hu : P.underlying T = some (.slice e)) (hsz : ∀ w', (sizeOf e).run P w' = .ok sz w') (hx : ev σ z = .slice (some ⟨g, 0, none⟩) len c) (hl : ev σ lo = .int kk m) (h0 : 0 ≤ m) (h1 : m < len) (h2 : len ≤ c) :
    Rd P σ (.slice T z (some lo) none none) ty w (.slice (some ⟨g, m.toNat * sz, none⟩) (len - m.toNat) (c - m.toNat)) := by
  have := rd_tailO (P := P) (ty := ty) (w := w) hu hsz hx hl h0 (Int.le_of_lt h1) h2
  rwa [if_neg (by omega)] at this
end
end Go.Wk

namespace Go.Wk
open Go.RowKit
set_option linter.unusedVariables false
section
variable {P : Program} {n : Nat} {σ : Fr} {w w0 : World} {O : List (Option Nat)} {obs : List Ob} {x y z : Operand} {ty T T' : TypeId} {ops : Array Oper} {rest : List Oper} {k : Cont} {pos : String} {af : Array Edge} {l : List (Nat × Value)} {σ0 : Fr} {d : Tmp}
theorem rd_cap {e : TypeId} {ad : Option Addr} {m c : Nat} (hx : ev σ x = .slice ad m c) (hu : P.underlying T = some (.slice e)) :
    Rd P σ (.call { callee := .builtin .cap, args := #[x], argTypes := #[T] }) ty w (.int .i64 c) :=
  Rd.of fun w' => by
    simp [xop, execOp, resolve, invoke, builtin, hx, Builtin.cap_, run_underlying hu, goInt]
theorem rd_sliceNil {e : TypeId} {sz : Nat} {kk : IntKind} (hu : P.underlying T = some (.slice e)) (hsz : ∀ w', (sizeOf e).run P w' = .ok sz w') (hx : ev σ z = .slice none 0 0) (hh : ev σ y = .int kk 0) :
    Rd P σ (.slice T z none (some y) none) ty w (.slice none 0 0) :=
  Rd.of fun w' => by
    simp only [xop, execOp, hx, Option.map_some, Option.map_none, hh, Sem.run_bind, run_sliceV hu hsz (bounds_h (P := P) (len := 0) (cap := 0) (k2 := kk) (h := 0) (Int.le_refl 0) (Int.le_refl 0))]
    rfl
theorem Wx.zeros {α : Type} {t : Ty α} {e : TypeId} {zv : Value} {zy : α} {bytes m : Nat} {kq kn : IntKind} (hE : ElemI P T e zv 1 bytes) (hn : t.n = 1) (hzc : zv.cells = #[zv]) (hzr : ∀ F w, t.rep F w zy [zv]) (hS : St w0 O w obs)
    (htn : P.underlying T' = some (.int kn)) (hx : ev (look l σ0) x = .slice none 0 0) (hy : ev (look l σ0) y = .int kq (m : Int)) (h0 : 0 < m) (hb : m * bytes ≤ 140737488355328) (h63 : m ≤ maxLen) (hd : Nat.ble (d + 1) n = true)
    (h : ∀ v w', Ext w w' → St w0 O w' (.row t e v (List.replicate m zy) :: obs) → Wx P n ops false rest k (look ((d, v) :: l) σ0) w') :
    Wx P n ops false (⟨some d, .call { callee := .builtin .append, args := #[x, y], argTypes := #[T, T'] }, ty, pos, af, none⟩ :: rest) k (look l σ0) w := by
  obtain ⟨ti, hti, hz, hsz, hby⟩ := hE.info
  subst hby
  have hr := Lib.run_append_grow_zeros (P := P) w T T' ty e ti zv kq kn hE.und htn hti hz none 0 0 [] (run_firstCells_none w.drew ti.size 0 0 0) m h0 (by omega) (by omega) (by simp only [maxLen] at h63; omega) (by omega) (growslice_fits (by omega) (by simpa using hb))
  have hc1 := grownCap_ge w (0 + m) 0 e
  have hc2 := grownCap_le_maxLen w (0 + m) 0 e (by simp only [maxLen] at h63 ⊢; omega)
  generalize grownCap w (0 + m) 0 e = cap at hr hc1 hc2
  have hzl : ∀ q : Nat, (Builtin.zeroCells zv.cells q).toList = List.replicate q zv := by
    intro q
    rw [hzc]
    apply List.ext_getElem?
    intro j
    simp only [Builtin.zeroCells, Array.toList_map, List.getElem?_map, List.getElem?_replicate, Array.toList_range]
    by_cases hj : j < q
    · simp [hj, Nat.mod_one]
    · simp [hj]
  have hx' : Ext w (w.drew.alloc (.cells (([] : List Value).toArray ++ Builtin.zeroCells zv.cells m ++ Builtin.zeroCells zv.cells (cap - (0 + m))) e)) := (((Below.refl w.heap.size w).drew).alloc (by simp) _)
  have hcl : (([] : List Value).toArray ++ Builtin.zeroCells zv.cells m ++ Builtin.zeroCells zv.cells (cap - (0 + m))).toList = List.replicate m zv ++ List.replicate (cap - (0 + m)) zv := by simp [hzl]
  refine Wx.val (v := .slice (some ⟨w.heap.size, 0, none⟩) (0 + m) cap) (w' := _) (by simp [xop, execOp, resolve, invoke, builtin, hx, hy, hr]) hd (h _ _ hx' ?_)
  generalize hcc : (([] : List Value).toArray ++ Builtin.zeroCells zv.cells m ++ Builtin.zeroCells zv.cells (cap - (0 + m))) = cc at hx' hcl ⊢
  have hsize : cc.size = cap := by rw [← Array.length_toList, hcl]; simp; omega
  refine hS.push hx' _ (fun b hb => by simp [Ob.blk, Value.ownBlock] at hb; omega) (fun F hM => ⟨List.replicate m zv, ⟨by simp [hn], .inr ⟨w.heap.size, cap, cc, by simp, hS.bel.size, heap_alloc_new w.drew _, by simpa using hc1, hc2, by simp [hsize, hn], ?_⟩⟩, by simp [hn], fun i q hq => ?_⟩)
  · rw [hcl, List.length_replicate, hn, Nat.mul_one, List.take_append_of_le_length (by simp), List.take_of_length_le (by simp)]
  · obtain ⟨hi, hq⟩ := List.getElem?_eq_some_iff.1 hq
    simp only [List.getElem_replicate] at hq
    subst hq
    simp only [List.length_replicate] at hi
    rw [hn, Nat.mul_one, List.drop_replicate, List.take_replicate, Nat.min_eq_left (by omega)]
    exact hzr F _
end
theorem reps_ofInt {k : IntKind} {ys : List Int} {F : List (Option Nat)} {w : World} (h : ∀ x ∈ ys, InK k x) : Reps (tI k) F w ys (ys.map (Value.int k)) := by
  refine ⟨by rw [List.length_map]; exact (Nat.mul_one _).symm, fun i y hy => ?_⟩
  refine ⟨?_, h y (List.mem_of_getElem? hy)⟩
  show List.take 1 (List.drop (i * 1) (ys.map (Value.int k))) = _
  obtain ⟨hi, rfl⟩ := List.getElem?_eq_some_iff.1 hy
  rw [Nat.mul_one, List.drop_eq_getElem_cons (by simpa using hi)]
  simp
end Go.Wk

namespace Go.Proofs.Ytjbcpggikaeleaa
open Go.Wk Go
set_option linter.unusedVariables false
def len8tab : ByteArray := { data := #[0, 1, 2, 2, 3, 3, 3, 3, 4, 4, 4, 4, 4, 4, 4, 4, 5, 5, 5, 5, 5, 5, 5, 5, 5, 5, 5, 5, 5, 5, 5, 5, 6, 6, 6, 6, 6, 6, 6, 6, 6, 6, 6, 6, 6, 6, 6, 6, 6, 6, 6, 6, 6, 6, 6, 6, 6, 6, 6, 6, 6, 6, 6, 6, 7, 7, 7, 7, 7, 7, 7, 7, 7, 7, 7, 7, 7, 7, 7, 7, 7, 7, 7, 7, 7, 7, 7, 7, 7, 7, 7, 7, 7, 7, 7, 7, 7, 7, 7, 7, 7, 7, 7, 7, 7, 7, 7, 7, 7, 7, 7, 7, 7, 7, 7, 7, 7, 7, 7, 7, 7, 7, 7, 7, 7, 7, 7, 7, 8, 8, 8, 8, 8, 8, 8, 8, 8, 8, 8, 8, 8, 8, 8, 8, 8, 8, 8, 8, 8, 8, 8, 8, 8, 8, 8, 8, 8, 8, 8, 8, 8, 8, 8, 8, 8, 8, 8, 8, 8, 8, 8, 8, 8, 8, 8, 8, 8, 8, 8, 8, 8, 8, 8, 8, 8, 8, 8, 8, 8, 8, 8, 8, 8, 8, 8, 8, 8, 8, 8, 8, 8, 8, 8, 8, 8, 8, 8, 8, 8, 8, 8, 8, 8, 8, 8, 8, 8, 8, 8, 8, 8, 8, 8, 8, 8, 8, 8, 8, 8, 8, 8, 8, 8, 8, 8, 8, 8, 8, 8, 8, 8, 8, 8, 8, 8, 8, 8, 8, 8, 8, 8, 8, 8, 8, 8, 8] }
theorem and_mask {y : Int} (h0 : 1 ≤ y) (h1 : y ≤ 7) : bits .and .u64 y 4294967295 = y ∧ y / 2 ^ min (32 : Int).toNat IntKind.u64.bits = 0 := by
  have : y = 1 ∨ y = 2 ∨ y = 3 ∨ y = 4 ∨ y = 5 ∨ y = 6 ∨ y = 7 := by omega
  rcases this with h | h | h | h | h | h | h <;> subst h <;> decide +kernel
theorem rep_first {a : Int} {n : Nat} (h : 1 ≤ n) : List.take (List.replicate n (0 : Int)).length [a] ++ List.drop (min [a].length (List.replicate n (0 : Int)).length) (List.replicate n 0) = List.replicate 1 a ++ List.replicate (n - 1) 0 := by
  obtain ⟨m, rfl⟩ : ∃ m, n = m + 1 := ⟨n - 1, by omega⟩
  simp [List.replicate_succ]
theorem rep_next {a b n : Int} (h1 : 1 ≤ b) (h2 : b < n) :
    List.take (b.toNat * 1) (List.replicate b.toNat a ++ List.replicate (n.toNat - b.toNat) 0) ++
      List.take ((List.replicate b.toNat a ++ List.replicate (n.toNat - b.toNat) 0).length - b.toNat) (List.take b.toNat (List.replicate b.toNat a ++ List.replicate (n.toNat - b.toNat) 0)) ++
      List.drop (b.toNat * 1 + min (List.take b.toNat (List.replicate b.toNat a ++ List.replicate (n.toNat - b.toNat) 0)).length ((List.replicate b.toNat a ++ List.replicate (n.toNat - b.toNat) 0).length - b.toNat)) (List.replicate b.toNat a ++ List.replicate (n.toNat - b.toNat) 0) =
    List.replicate (min (b + b) n).toNat a ++ List.replicate (n.toNat - (min (b + b) n).toNat) 0 := by
  have e1 : List.take b.toNat (List.replicate b.toNat a ++ List.replicate (n.toNat - b.toNat) 0) = List.replicate b.toNat a := by
    rw [List.take_append_of_le_length (by simp)]; simp
  have e2 : (List.replicate b.toNat a ++ List.replicate (n.toNat - b.toNat) (0 : Int)).length = n.toNat := by simp; omega
  rw [Nat.mul_one, e1, e2, List.take_replicate, List.length_replicate, List.replicate_append_replicate]
  rw [List.drop_append, List.drop_eq_nil_of_le (by simp), List.nil_append, List.drop_replicate, List.length_replicate]
  congr 2 <;> omega
/-! ### lists put together -/
theorem flat_le (ss : List (List Int)) (k : Nat) : (ss.take k).flatten.length ≤ ss.flatten.length := by
  have : ss.flatten = (ss.take k).flatten ++ (ss.drop k).flatten := by rw [← List.flatten_append, List.take_append_drop]
  rw [this, List.length_append]; omega
theorem flat_next {ss : List (List Int)} {k : Int} (h0 : 0 ≤ k) (h1 : k < ss.length) : (ss.take (k + 1).toNat).flatten = (ss.take k.toNat).flatten ++ ix [] ss k ∧ ((ss.take k.toNat).flatten.length : Int) + (ix [] ss k).length ≤ ss.flatten.length := by
  have e : (ss.take (k + 1).toNat).flatten = (ss.take k.toNat).flatten ++ ix [] ss k := by rw [take_ix (d := []) h0 h1, List.flatten_append]; simp
  refine ⟨e, ?_⟩
  have := flat_le ss (k + 1).toNat
  rw [e, List.length_append] at this
  omega
/-! ### short lists, sorted -/
def ltI (a b : Int) : Bool := decide (a < b)
def sortI (ys : List Int) : List Int := sortF 0 ltI ys
theorem ltI_tr {a b c : Int} (h : ltI b a = false) (k : ltI c b = false) : ltI c a = false := by
  rw [ltI, decide_eq_false_iff_not] at *; omega
end Go.Proofs.Ytjbcpggikaeleaa

namespace Go.Proofs.Ytjbcpggikaeleaa
open Go.Wk Go
set_option linter.unusedVariables false
def FarS (G : Rel) (n b : Int) (far : List Int) (s j : Int) : Prop := (isFar G n b j (ix 0 far j) ∧ ix 0 far j ≤ s) ∨ (ix 0 far j = -1 ∧ ∀ d : Nat, (d : Int) < s → rchB G n b d j = false)
def FarR (G : Rel) (n b s i k : Int) (far : List Int) : Prop := (far.length : Int) = n ∧ (∀ j, 0 ≤ j → j < n → (j < i → FarS G n b far (s + 1) j) ∧ (i < j → FarS G n b far s j)) ∧
  (0 ≤ i → i < n → (isFar G n b i (ix 0 far i) ∧ ix 0 far i ≤ s + 1) ∨ (ix 0 far i = -1 ∧ (∀ d : Nat, (d : Int) < s → rchB G n b d i = false) ∧ ∀ q, 0 ≤ q → q < k → ¬ (isFar G n b q s ∧ G i q = true)))
variable {G : Rel} {n b s i k : Int} {far : List Int}
theorem ix_set' {l : List Int} {i j x : Int} (i0 : 0 ≤ i) (i1 : i < l.length) (j0 : 0 ≤ j) : ix 0 (l.set i.toNat x) j = if j = i then x else ix 0 l j := by
  have := ix_setF (d := (0 : Int)) (z := l) (j := i.toNat) (q := j.toNat) (x := x) (by omega)
  rw [show ((j.toNat : Nat) : Int) = j by omega] at this
  rw [this]
  by_cases h : j = i
  · rw [if_pos h, if_pos (by omega)]
  · rw [if_neg h, if_neg (by omega)]
theorem ix_rep {m : Nat} {x j : Int} (j0 : 0 ≤ j) (j1 : j < m) : ix 0 (List.replicate m x) j = x := by
  rw [ix, List.getD_eq_getElem?_getD, List.getElem?_replicate, if_pos (by omega)]; rfl
theorem far_start (hb : 0 ≤ b ∧ b < n) : FarI G n b ((List.replicate n.toNat (-1)).set b.toNat 1) 1 := by
  refine ⟨by simp; omega, fun j j0 j1 => ?_⟩
  rw [ix_set' hb.1 (by simp; omega) j0]
  by_cases h : j = b
  · rw [if_pos h]
    exact .inl ⟨⟨Int.le_refl _, decide_eq_true h, fun d hd => by simp at hd⟩, Int.le_refl _⟩
  · rw [if_neg h, ix_rep j0 (by omega)]
    refine .inr ⟨rfl, fun d hd => ?_⟩
    have : d = 0 := by omega
    subst this
    exact decide_eq_false h
theorem farR_start (h : FarI G n b far s) : FarR G n b s 0 0 far := by
  refine ⟨h.1, fun j j0 j1 => ⟨fun hh => by omega, fun _ => h.2 j j0 j1⟩, fun i0 i1 => ?_⟩
  rcases h.2 0 i0 i1 with ⟨h1, h2⟩ | ⟨h1, h2⟩
  · exact .inl ⟨h1, by omega⟩
  · exact .inr ⟨h1, h2, fun q q0 q1 => by omega⟩
theorem farR_val (h : FarR G n b s i k far) (hs : 1 ≤ s) {j : Int} (j0 : 0 ≤ j) (j1 : j < n) (hj : j ≠ i) (hf : isFar G n b j s) : ix 0 far j = s := by
  have hS : FarS G n b far s j ∨ FarS G n b far (s + 1) j := by
    rcases Int.lt_or_gt_of_ne hj with q | q
    · exact .inr ((h.2.1 j j0 j1).1 q)
    · exact .inl ((h.2.1 j j0 j1).2 q)
  rcases hS with (⟨h1, _⟩ | ⟨_, h2⟩) | (⟨h1, _⟩ | ⟨_, h2⟩)
  · exact far_one h1 hf
  · have := h2 (s - 1).toNat (by omega); rw [hf.2.1] at this; cases this
  · exact far_one h1 hf
  · have := h2 (s - 1).toNat (by omega); rw [hf.2.1] at this; cases this
theorem farR_far (h : FarR G n b s i k far) (hs : 1 ≤ s) {j : Int} (j0 : 0 ≤ j) (j1 : j < n) (hf : ix 0 far j = s) : isFar G n b j s := by
  rcases Int.lt_trichotomy j i with q | q | q
  · rcases (h.2.1 j j0 j1).1 q with ⟨h1, _⟩ | ⟨h1, _⟩
    · rw [hf] at h1; exact h1
    · omega
  · subst q
    rcases h.2.2 j0 j1 with ⟨h1, _⟩ | ⟨h1, _⟩
    · rw [hf] at h1; exact h1
    · omega
  · rcases (h.2.1 j j0 j1).2 q with ⟨h1, _⟩ | ⟨h1, _⟩
    · rw [hf] at h1; exact h1
    · omega
theorem farR_yes (h : FarR G n b s i k far) (hs : 1 ≤ s) (hi : 0 ≤ i ∧ i < n) (hk : 0 ≤ k ∧ k < n) (c1 : ix 0 far i < 0) (c2 : ix 0 far k = s) (c3 : G i k = true) : FarR G n b s i (k + 1) (far.set i.toNat (s + 1)) := by
  have hl := h.1
  have hne : ∀ j, 0 ≤ j → j ≠ i → ix 0 (far.set i.toNat (s + 1)) j = ix 0 far j := fun j j0 hj => by rw [ix_set' hi.1 (by omega) j0, if_neg hj]
  have hself : ix 0 (far.set i.toNat (s + 1)) i = s + 1 := by rw [ix_set' hi.1 (by omega) hi.1, if_pos rfl]
  refine ⟨by rw [List.length_set]; exact hl, fun j j0 j1 => ⟨fun q => ?_, fun q => ?_⟩, fun _ _ => .inl ?_⟩
  · have := (h.2.1 j j0 j1).1 q
    rw [FarS, hne j j0 (by omega)]; exact this
  · have := (h.2.1 j j0 j1).2 q
    rw [FarS, hne j j0 (by omega)]; exact this
  · rw [hself]
    rcases h.2.2 hi.1 hi.2 with ⟨h1, _⟩ | ⟨_, h2, _⟩
    · have := h1.1; omega
    · have hf := farR_far h hs hk.1 hk.2 c2
      refine ⟨⟨by omega, ?_, fun d hd => h2 d (by omega)⟩, Int.le_refl _⟩
      rw [show (s + 1 - 1).toNat = (s - 1).toNat + 1 by omega]
      exact rch_step.2 ⟨k, hk, c3, hf.2.1⟩
theorem farR_no (h : FarR G n b s i k far) (hs : 1 ≤ s) (hi : 0 ≤ i ∧ i < n) (hk : 0 ≤ k ∧ k < n) (c : ¬ (ix 0 far i < 0 ∧ ix 0 far k = s ∧ G i k = true)) : FarR G n b s i (k + 1) far := by
  refine ⟨h.1, h.2.1, fun i0 i1 => ?_⟩
  rcases h.2.2 i0 i1 with h1 | ⟨h1, h2, h3⟩
  · exact .inl h1
  · refine .inr ⟨h1, h2, fun q q0 q1 => ?_⟩
    by_cases e : q = k
    · subst e
      rintro ⟨g1, g2⟩
      by_cases hqi : q = i
      · subst hqi
        have := h2 (s - 1).toNat (by omega)
        rw [g1.2.1] at this; cases this
      · exact c ⟨by omega, farR_val h hs hk.1 hk.2 hqi g1, g2⟩
    · exact h3 q q0 (by omega)
theorem farR_row (h : FarR G n b s i k far) (hb : 0 ≤ b ∧ b < n) (hs : 1 ≤ s) (hi : 0 ≤ i ∧ i < n) (hk : n ≤ k) : FarR G n b s (i + 1) 0 far := by
  refine ⟨h.1, fun j j0 j1 => ⟨fun q => ?_, fun q => (h.2.1 j j0 j1).2 (by omega)⟩, fun i0 i1 => ?_⟩
  · by_cases e : j = i
    · subst e
      rcases h.2.2 j0 j1 with h1 | ⟨h1, h2, h3⟩
      · exact .inl h1
      · refine .inr ⟨h1, fun d hd => ?_⟩
        by_cases hd' : (d : Int) < s
        · exact h2 d hd'
        · cases hq : rchB G n b d j with
          | false => rfl
          | true =>
            exfalso
            have hds : d = (s - 1).toNat + 1 := by omega
            rw [hds] at hq
            obtain ⟨x, hx, g1, g2⟩ := rch_step.1 hq
            obtain ⟨t, t1, t2⟩ := far_of _ g2
            by_cases ht : t = s
            · subst ht; exact h3 x hx.1 (by omega) ⟨t1, g1⟩
            · have := h2 ((t - 1).toNat + 1) (by have := t1.1; omega)
              rw [rch_step.2 ⟨x, hx, g1, t1.2.1⟩] at this; cases this
    · exact (h.2.1 j j0 j1).1 (by omega)
  · rcases (h.2.1 (i + 1) i0 i1).2 (by omega) with ⟨h1, h2⟩ | ⟨h1, h2⟩
    · exact .inl ⟨h1, by omega⟩
    · exact .inr ⟨h1, h2, fun q q0 q1 => by omega⟩
theorem farR_end (h : FarR G n b s i k far) (hi : n ≤ i) : FarI G n b far (s + 1) := ⟨h.1, fun j j0 j1 => (h.2.1 j j0 j1).1 (by omega)⟩
theorem farI_bd (h : FarI G n b far s) {j : Int} (j0 : 0 ≤ j) (j1 : j < n) : -1 ≤ ix 0 far j ∧ (0 ≤ ix 0 far j → isFar G n b j (ix 0 far j) ∧ 1 ≤ ix 0 far j) := by
  rcases h.2 j j0 j1 with ⟨h1, _⟩ | ⟨h1, _⟩
  · have := h1.1; exact ⟨by omega, fun _ => ⟨h1, this⟩⟩
  · exact ⟨by omega, fun hh => by omega⟩
def shortL (l : List Sale) (a b : Int) : List Int := (leastV (gS l) l.length a b).getD []
theorem short_none {l : List Sale} {a b : Int} (hb : 0 ≤ b ∧ b < l.length) (ha : 0 ≤ a ∧ a < l.length) (h : FarI (gS l) l.length b far s) (hs : s = l.length) (c : ix 0 far a < 0) : leastV (gS l) l.length a b = none := by
  subst hs
  rw [leastV, least_none ha (far_end hb h ha.1 ha.2 c) _ 1 (Int.le_refl _)]
theorem short_some {l : List Sale} {a b : Int} (hb : 0 ≤ b ∧ b < l.length) (ha : 0 ≤ a ∧ a < l.length) (h : FarI (gS l) l.length b far s) (hs : s = l.length) (c : ¬ ix 0 far a < 0) :
    leastV (gS l) l.length a b = some (a :: walkF (gS l) l.length far (ix 0 far a - 1).toNat a) := by
  subst hs
  obtain ⟨h1, h2⟩ := (farI_bd h ha.1 ha.2).2 (by omega)
  have h3 := far_le hb ha h1
  rw [leastV, least_some hb h ha h1 _ 1 (Int.le_refl _) h2 (by omega)]
theorem next_none {a : Int} (h : ∀ q, 0 ≤ q → q < n → ¬ (ix 0 far q = ix 0 far a - 1 ∧ G a q = true)) : nextK G n far a = none := by
  rw [nextK, List.find?_eq_none]
  intro x hx hp
  rw [Bool.and_eq_true, decide_eq_true_eq] at hp
  have := rng_mem.1 hx
  exact h x this.1 this.2 hp
theorem find_first {p : Int → Bool} {n k : Int} (k0 : 0 ≤ k) (k1 : k < n) (hp : p k = true) (h : ∀ q, 0 ≤ q → q < k → p q = false) : (rng 0 n).find? p = some k := by
  cases hf : (rng 0 n).find? p with
  | none => have := List.find?_eq_none.1 hf k (rng_mem.2 ⟨k0, k1⟩); exact absurd hp this
  | some q =>
    obtain ⟨q1, q2, q3⟩ := find_rng hf
    rcases Int.lt_trichotomy q k with e | e | e
    · rw [h q q1.1 e] at q2; cases q2
    · rw [e]
    · rw [q3 k k0 e] at hp; cases hp
theorem walk_step {at_ k : Int} (hb : 0 ≤ b ∧ b < n) (hF : FarI G n b far n) (ha : 0 ≤ at_ ∧ at_ < n) (hab : at_ ≠ b) (hf : 0 ≤ ix 0 far at_) (k0 : 0 ≤ k) (k1 : k < n) (c1 : ix 0 far k = ix 0 far at_ - 1) (c2 : G at_ k = true)
    (h : ∀ q, 0 ≤ q → q < k → ¬ (ix 0 far q = ix 0 far at_ - 1 ∧ G at_ q = true)) : walkF G n far (ix 0 far at_ - 1).toNat at_ = k :: walkF G n far (ix 0 far k - 1).toNat k ∧ 0 ≤ ix 0 far k := by
  obtain ⟨h1, h2⟩ := (farI_bd hF ha.1 ha.2).2 hf
  have hk : nextK G n far at_ = some k := find_first k0 k1 (by rw [Bool.and_eq_true, decide_eq_true_eq]; exact ⟨c1, c2⟩) (fun q q0 q1 => by
    cases hq : (decide (ix 0 far q = ix 0 far at_ - 1) && G at_ q) with
    | false => rfl
    | true => rw [Bool.and_eq_true, decide_eq_true_eq] at hq; exact absurd hq (h q q0 q1))
  have h3 : ix 0 far at_ ≠ 1 := fun e => by
    rw [e] at h1
    exact hab (of_decide_eq_true h1.2.1)
  refine ⟨?_, by omega⟩
  rw [show (ix 0 far at_ - 1).toNat = (ix 0 far k - 1).toNat + 1 by omega, walkF, hk]
theorem walk_stuck {at_ : Int} (hb : 0 ≤ b ∧ b < n) (hF : FarI G n b far n) (ha : 0 ≤ at_ ∧ at_ < n) (hab : at_ ≠ b) (hf : 0 ≤ ix 0 far at_)
    (h : ∀ q, 0 ≤ q → q < n → ¬ (ix 0 far q = ix 0 far at_ - 1 ∧ G at_ q = true)) : False := by
  obtain ⟨h1, h2⟩ := (farI_bd hF ha.1 ha.2).2 hf
  have h3 : ix 0 far at_ ≠ 1 := fun e => by
    rw [e] at h1
    exact hab (of_decide_eq_true h1.2.1)
  obtain ⟨k, g1, _⟩ := next_far (s := ix 0 far at_ - 1) hb hF ha (by rw [show ix 0 far at_ - 1 + 1 = ix 0 far at_ by omega]; exact h1) (by omega)
  rw [next_none h] at g1; cases g1
theorem walk_done {at_ : Int} (hF : FarI G n b far n) (ha : 0 ≤ at_ ∧ at_ < n) (hab : at_ = b) (hf : 0 ≤ ix 0 far at_) : walkF G n far (ix 0 far at_ - 1).toNat at_ = [] := by
  obtain ⟨h1, h2⟩ := (farI_bd hF ha.1 ha.2).2 hf
  have : ix 0 far at_ = 1 := far_one h1 ⟨Int.le_refl _, decide_eq_true hab, fun d hd => by simp at hd⟩
  rw [this]; rfl
end Go.Proofs.Ytjbcpggikaeleaa

namespace Go.Proofs.Ytjbcpggikaeleaa
open Go.Wk Go
set_option linter.unusedVariables false
def foldR (a : Int) (best : List Int) (L : List (List Int)) : List Int := ((L.filter fun l => decide (topI l = a)).map rotM).foldl (keepM ltLB) best
theorem foldR_app (a : Int) (best : List Int) (L M : List (List Int)) : foldR a (foldR a best L) M = foldR a best (L ++ M) := by
  rw [foldR, foldR, foldR, List.filter_append, List.map_append, List.foldl_append]
theorem foldR_nil (a : Int) (best : List Int) : foldR a best [] = best := rfl
theorem foldR_no {a : Int} {best l : List Int} (h : ¬ topI l = a) : foldR a best [l] = best := by
  rw [foldR, List.filter_cons, if_neg (by rw [decide_eq_true_eq]; exact h)]; rfl
theorem foldR_yes {a : Int} {best l : List Int} (h : topI l = a) : foldR a best [l] = keepM ltLB best (rotM l) := by
  rw [foldR, List.filter_cons, if_pos (by rw [decide_eq_true_eq]; exact h)]; rfl
theorem idxI_at (x : Int) : ∀ (ys : List Int) (i : Int), x ∈ ys → idxI x i ys = i + (idxL ys x : Int)
  | [], i, h => by cases h
  | y :: ys, i, h => by
    rw [idxI, idxL, List.findIdx_cons]
    by_cases e : x = y
    · rw [if_pos e, show decide (y = x) = true from decide_eq_true e.symm]; simp
    · rw [if_neg e, show decide (y = x) = false from decide_eq_false (fun q => e q.symm)]
      have hx : x ∈ ys := (List.mem_cons.1 h).resolve_left e
      rw [idxI_at x ys (i + 1) hx]
      show i + 1 + (idxL ys x : Int) = i + ((idxL ys x + 1 : Nat) : Int)
      omega
theorem idx_min {q : List Int} (h : 1 ≤ (q.length : Int)) : (0 ≤ idxI (minL q) 0 q ∧ idxI (minL q) 0 q < q.length) ∧ [q.drop (idxI (minL q) 0 q).toNat, q.take (idxI (minL q) 0 q).toNat].flatten = rotM q := by
  have hne : q ≠ [] := by rintro rfl; simp at h
  obtain ⟨m1, m2⟩ := min_mem hne
  have hk := idxI_at (minL q) q 0 m1
  have hlt : idxL q (minL q) < q.length := List.findIdx_lt_length_of_exists ⟨_, m1, by simp⟩
  refine ⟨by omega, ?_⟩
  rw [hk, show (0 + (idxL q (minL q) : Int)).toNat = idxL q (minL q) by omega, rotM]; simp
theorem flat_two (q : List Int) (k : Nat) : [q.drop k, q.take k].flatten.length = q.length := by simp; omega
theorem round_kept {a : Int} {best q : List Int} (c1 : topI q = a) (c2 : best = [] ∨ cmpL (rotM q) best < 0) : rotM q = foldR a best [q] := by
  rw [foldR_yes c1, keepM, if_pos (c2.imp id (fun h => show ltLB (rotM q) best = true from decide_eq_true h))]
theorem round_left {a : Int} {best q : List Int} (c1 : topI q = a) (c2 : ¬ best = [] ∧ ¬ cmpL (rotM q) best < 0) : best = foldR a best [q] := by
  rw [foldR_yes c1, keepM, if_neg]
  rintro (h | h)
  · exact c2.1 h
  · exact c2.2 (of_decide_eq_true h)
theorem least_ne {G : Rel} {n a b : Int} (ha : 0 ≤ a ∧ a < n) {r : List Int} (h : leastV G n a b = some r) : r ≠ [] := by
  have key : ∀ (m : Nat) (many : Int), 1 ≤ many → leastF G n a b m many = some r → r ≠ [] := by
    intro m
    induction m with
    | zero => intro many _ h; cases h
    | succ m ih =>
      intro many hm h
      rw [leastF] at h
      cases hf : (pathsV G n many [a]).find? (fun l => decide (topI l = b)) with
      | none => rw [hf] at h; exact ih (many + 1) (by omega) h
      | some q =>
        rw [hf] at h
        injection h with h
        subst h
        obtain ⟨_, e, rfl, _⟩ := (mem_one hm ha).1 (List.mem_of_find?_eq_some hf)
        simp
  exact key _ 1 (Int.le_refl _) h
theorem short_nil {l : List Sale} {a b : Int} (ha : 0 ≤ a ∧ a < l.length) : shortL l a b = [] ↔ leastV (gS l) l.length a b = none := by
  rw [shortL]
  cases h : leastV (gS l) l.length a b with
  | none => simp
  | some r => simp; exact least_ne ha h
theorem size_bd {l : List Sale} {a b : Int} (ha : 0 ≤ a ∧ a < l.length) (hb : 0 ≤ b ∧ b < l.length) (h : ledB (gS l) l.length b a = true) :
    1 ≤ sizeV (gS l) l.length b a ∧ sizeV (gS l) l.length b a ≤ l.length ∧ ((shortL l b a).length : Int) = sizeV (gS l) l.length b a := by
  obtain ⟨s, hs⟩ := (led_iff hb ha).1 h
  have h1 := size_far hb ha hs
  have h2 := far_le ha hb hs
  have h3 := hs.1
  refine ⟨by omega, by omega, ?_⟩
  rw [sizeV, shortL]
  rw [sizeV] at h1
  cases hl : leastV (gS l) l.length b a with
  | none => rw [hl] at h1; simp at h1; omega
  | some r => rfl
end Go.Proofs.Ytjbcpggikaeleaa

namespace Go.Wk
open Go.RowKit
set_option linter.unusedVariables false
section
variable {P : Program} {σ : Fr} {w : World} {x y : Operand} {ty T : TypeId}
theorem rd_indexT {s e : TypeId} {g len c sz : Nat} {lo m : Int} {k : IntKind} (hu : P.underlying s = some (.slice e)) (hsz : ∀ w', (sizeOf e).run P w' = .ok sz w') (hx : ev σ x = .slice (some ⟨g, lo.toNat * sz, none⟩) len c) (hi : ev σ y = .int k m) (hl : 0 ≤ lo) (h0 : 0 ≤ m) (h1 : m < len) :
    Rd P σ (.indexAddr s x y) ty w (.pointer (some ⟨g, (lo + m).toNat * sz, none⟩)) := by
  have := run_indexSl (P := P) (ty := ty) (w := w) hx hi hu hsz h0 h1
  rw [Addr.add_lit, ← Nat.add_mul, show lo.toNat + m.toNat = (lo + m).toNat by omega] at this
  exact this
end
end Go.Wk

namespace Go.Proofs.Ytjbcpggikaeleaa
open Go.Wk Go
set_option linter.unusedVariables false
def compT : Int → List Int → List Int
  | _, [] => []
  | a, b :: r => if b = a then compT b r else b :: compT b r
def compI : List Int → List Int
  | [] => []
  | a :: r => a :: compT a r
theorem comp_short {ys : List Int} (h : (ys.length : Int) < 2) : ys = compI ys := by
  cases ys with
  | nil => rfl
  | cons a r =>
    cases r with
    | nil => rfl
    | cons b r => simp at h; omega
theorem comp_start {ys : List Int} (h : 2 ≤ (ys.length : Int)) : compI ys = ys.take (1 : Int).toNat ++ compT (ix 0 ys (1 - 1)) (ys.drop (1 : Int).toNat) := by
  cases ys with
  | nil => simp at h
  | cons a r => rfl
theorem comp_step {ys : List Int} {k : Int} (h0 : 1 ≤ k) (h1 : k < ys.length) (hne : ¬ ix 0 ys k = ix 0 ys (k - 1)) (h : compI ys = ys.take k.toNat ++ compT (ix 0 ys (k - 1)) (ys.drop k.toNat)) :
    compI ys = ys.take (k + 1).toNat ++ compT (ix 0 ys (k + 1 - 1)) (ys.drop (k + 1).toNat) := by
  rw [h, drop_ix (d := 0) (by omega) h1, compT, if_neg hne, take_ix (d := 0) (by omega) h1, List.append_assoc, show k + 1 - 1 = k by omega]; rfl
theorem comp_end {ys : List Int} {k : Int} (h1 : (ys.length : Int) ≤ k) (h : compI ys = ys.take k.toNat ++ compT (ix 0 ys (k - 1)) (ys.drop k.toNat)) : ys = compI ys := by
  rw [h, drop_end h1, take_end h1, compT, List.append_nil]
def CmpI (ys z : List Int) (k p j : Int) : Prop := compI ys = z.take p.toNat ++ compT (ix 0 ys (k + j - 1)) (ys.drop (k + j).toNat) ∧ (∀ q, p ≤ q → q < ys.length → ix 0 z q = ix 0 ys q) ∧ p ≤ k + j - 1 ∧ z.length = ys.length
theorem cmp_start {ys : List Int} {k : Int} (h0 : 1 ≤ k) (h1 : k < ys.length) (he : ix 0 ys k = ix 0 ys (k - 1)) (h : compI ys = ys.take k.toNat ++ compT (ix 0 ys (k - 1)) (ys.drop k.toNat)) : CmpI ys ys k k 1 := by
  refine ⟨?_, fun _ _ _ => rfl, by omega, rfl⟩
  rw [h, drop_ix (d := 0) (by omega) h1, compT, if_pos he, show k + 1 - 1 = k by omega]
theorem cmp_same {ys z : List Int} {k p j : Int} (hk : 1 ≤ k) (hj : 1 ≤ j) (hp : 1 ≤ p) (h : CmpI ys z k p j) (h1 : k + j < ys.length) (he : ix 0 z (k + j) = ix 0 z (k + (j - 1))) : CmpI ys z k p (j + 1) := by
  obtain ⟨a, b, c, d⟩ := h
  rw [b _ (by omega) (by omega), b _ (by omega) (by omega)] at he
  refine ⟨?_, b, by omega, d⟩
  rw [a, drop_ix (d := 0) (by omega) h1, compT, if_pos (by rw [he]; congr 1; omega), show k + (j + 1) - 1 = k + j by omega, show (k + (j + 1)) = k + j + 1 by omega]
theorem cmp_other {ys z : List Int} {k p j : Int} (hk : 1 ≤ k) (hj : 1 ≤ j) (hp : 1 ≤ p) (h : CmpI ys z k p j) (h1 : k + j < ys.length) (hne : ¬ ix 0 z (k + j) = ix 0 z (k + (j - 1))) : CmpI ys (z.set p.toNat (ix 0 z (k + j))) k (p + 1) (j + 1) := by
  obtain ⟨a, b, c, d⟩ := h
  have hkj := b (k + j) (by omega) (by omega)
  rw [hkj, b _ (by omega) (by omega)] at hne
  have hpl : p.toNat < z.length := by omega
  refine ⟨?_, fun q q0 q1 => ?_, by omega, by rw [List.length_set]; exact d⟩
  · rw [a, drop_ix (d := 0) (by omega) h1, compT, if_neg (fun e => hne (by rw [e]; congr 1; omega)), hkj, show k + (j + 1) - 1 = k + j by omega, show (k + (j + 1)) = k + j + 1 by omega, show (p + 1).toNat = p.toNat + 1 by omega,
      List.take_succ_eq_append_getElem (by rw [List.length_set]; exact hpl), List.getElem_set_self, List.take_set_of_le (Nat.le_refl _), List.append_assoc]; rfl
  · rw [ix_set' (by omega) (by omega) (by omega), if_neg (by omega)]
    exact b q (by omega) q1
theorem cmp_end {ys z : List Int} {k p j : Int} (h : CmpI ys z k p j) (hj : (ys.length : Int) ≤ k + j) : z.take p.toNat = compI ys := by
  rw [h.1, drop_end hj, compT, List.append_nil]
end Go.Proofs.Ytjbcpggikaeleaa

namespace Go.Proofs.Ytjbcpggikaeleaa
open Go.Wk Go
set_option linter.unusedVariables false
/-! ### the rings that are found, one after the other -/
section
variable {G B : Rel} {n : Int}
def fndB (G B : Rel) (n a : Int) (bs : List Int) : List (List Int) := (bs.filter fun b => B a b && ledB G n b a).map fun b => roundV G n a b (sizeV G n b a)
def fndA (G B : Rel) (n : Int) (asx : List Int) : List (List Int) := asx.flatMap fun a => fndB G B n a (rng 0 n)
theorem fndA_next {a : Int} (h : a < n) : fndA G B n (rng a n) = fndB G B n a (rng 0 n) ++ fndA G B n (rng (a + 1) n) := by rw [fndA, rng_cons h, List.flatMap_cons]; rfl
theorem fndA_end {a : Int} (h : n ≤ a) : fndA G B n (rng a n) = [] := by rw [rng_nil h]; rfl
theorem fndB_end {a b : Int} (h : n ≤ b) : fndB G B n a (rng b n) = [] := by rw [rng_nil h]; rfl
theorem fndB_yes {a b : Int} (h : b < n) (c : B a b = true ∧ ledB G n b a = true) : fndB G B n a (rng b n) = roundV G n a b (sizeV G n b a) :: fndB G B n a (rng (b + 1) n) := by
  rw [fndB, rng_cons h, List.filter_cons, if_pos (by rw [Bool.and_eq_true]; exact c)]; rfl
theorem fndB_no {a b : Int} (h : b < n) (c : B a b = false ∨ ledB G n b a = false) : fndB G B n a (rng b n) = fndB G B n a (rng (b + 1) n) := by
  rw [fndB, rng_cons h, List.filter_cons, if_neg (by rw [Bool.and_eq_true]; rintro ⟨h1, h2⟩; rcases c with c | c; (rw [h1] at c; cases c); (rw [h2] at c; cases c))]; rfl
theorem keep_yes {best l : List Int} (c : (best = [] ∨ (l.length : Int) < best.length) ∨ ((l.length : Int) = best.length ∧ cmpL l best < 0)) : keepM ltRB best l = l := by
  rw [keepM, if_pos]
  rcases c with (c | c) | c
  · exact .inl c
  · exact .inr (ltRB_iff.2 (.inl (by omega)))
  · exact .inr (ltRB_iff.2 (.inr ⟨by omega, cmpL_lt.1 c.2⟩))
theorem keep_no {best l : List Int} (c : (¬ best = [] ∧ ¬ (l.length : Int) < best.length) ∧ (¬ (l.length : Int) = best.length ∨ ¬ cmpL l best < 0)) : keepM ltRB best l = best := by
  rw [keepM, if_neg]
  rintro (h | h)
  · exact c.1.1 h
  · rcases ltRB_iff.1 h with h | ⟨h1, h2⟩
    · exact c.1.2 (by omega)
    · rcases c.2 with q | q
      · exact q (by omega)
      · exact q (cmpL_lt.2 h2)
end
/-! ### of how many others something is better -/
def cntU (G : Rel) (n a b : Int) : Int := (((rng 0 b).countP fun x => ledB G n a x && !(ledB G n x a) : Nat) : Int)
theorem cntU_bd {G : Rel} {n a b : Int} (h : 0 ≤ b) : 0 ≤ cntU G n a b ∧ cntU G n a b ≤ b := by
  have := List.countP_le_length (p := fun x => ledB G n a x && !(ledB G n x a)) (l := rng 0 b)
  have := rng_length h
  rw [cntU]; omega
theorem cntU_yes {G : Rel} {n a b : Int} (h : 0 ≤ b) (c : ledB G n a b = true ∧ ledB G n b a = false) : cntU G n a (b + 1) = cntU G n a b + 1 := by
  rw [cntU, rng_snoc h, List.countP_append, List.countP_cons, List.countP_nil, if_pos (by rw [c.1, c.2]; rfl), cntU]; omega
theorem cntU_no {G : Rel} {n a b : Int} (h : 0 ≤ b) (c : ledB G n a b = false ∨ ledB G n b a = true) : cntU G n a (b + 1) = cntU G n a b := by
  rw [cntU, rng_snoc h, List.countP_append, List.countP_cons, List.countP_nil, if_neg (by rcases c with c | c <;> rw [c] <;> simp), cntU]; omega
def ClI (G : Rel) (n a b : Int) (cl : List Int) : Prop := (cl.length : Int) = n ∧ ∀ i, 0 ≤ i → i < n → ix 0 cl i = if i < a then cntU G n i n else if i = a then cntU G n a b else 0
theorem cl_start {G : Rel} {n : Int} (h : 0 ≤ n) : ClI G n 0 0 (List.replicate n.toNat 0) := by
  refine ⟨by simp; omega, fun i i0 i1 => ?_⟩
  rw [ix_rep i0 (by omega), if_neg (by omega)]
  split <;> rfl
theorem cl_at {G : Rel} {n a b : Int} {cl : List Int} (h : ClI G n a b cl) (h0 : 0 ≤ a) (h1 : a < n) : ix 0 cl a = cntU G n a b := by
  rw [h.2 a h0 h1, if_neg (by omega), if_pos rfl]
theorem cl_yes {G : Rel} {n a b : Int} {cl : List Int} (h : ClI G n a b cl) (h0 : 0 ≤ a) (h1 : a < n) (hb : 0 ≤ b) (c : ledB G n a b = true ∧ ledB G n b a = false) : ClI G n a (b + 1) (cl.set a.toNat (ix 0 cl a + 1)) := by
  have hl := h.1
  refine ⟨by rw [List.length_set]; exact hl, fun i i0 i1 => ?_⟩
  rw [ix_set' h0 (by omega) i0]
  by_cases e : i = a
  · rw [if_pos e, if_neg (by omega), if_pos e, cntU_yes hb c, cl_at h h0 h1]
  · rw [if_neg e, h.2 i i0 i1, if_neg e, if_neg e]
theorem cl_no {G : Rel} {n a b : Int} {cl : List Int} (h : ClI G n a b cl) (hb : 0 ≤ b) (c : ledB G n a b = false ∨ ledB G n b a = true) : ClI G n a (b + 1) cl := by
  refine ⟨h.1, fun i i0 i1 => ?_⟩
  rw [h.2 i i0 i1, cntU_no hb c]
theorem cl_row {G : Rel} {n a b : Int} {cl : List Int} (h : ClI G n a b cl) (hb : b = n) : ClI G n (a + 1) 0 cl := by
  refine ⟨h.1, fun i i0 i1 => ?_⟩
  rw [h.2 i i0 i1]
  by_cases e : i < a
  · rw [if_pos e, if_pos (by omega)]
  · rw [if_neg e]
    by_cases e2 : i = a
    · rw [if_pos e2, if_pos (by omega), e2, hb]
    · rw [if_neg e2, if_neg (by omega)]
      split <;> rfl
def cntsL (l : List Sale) : List Int := (rng 0 l.length).map fun a => cntU (gS l) l.length a l.length
def kindsL (l : List Sale) : List Int := compI (sortI (cntsL l))
def classL (l : List Sale) : List Int := (cntsL l).map fun c => idxI c 0 (kindsL l)
theorem ix_mapR {f : Int → Int} {n i : Int} (i0 : 0 ≤ i) (i1 : i < n) : ix 0 ((rng 0 n).map f) i = f i := by
  rw [ix, List.getD_eq_getElem?_getD, List.getElem?_map, rng, List.getElem?_map, List.getElem?_range (by omega)]
  show f (0 + ((i.toNat : Nat) : Int)) = f i
  rw [show 0 + ((i.toNat : Nat) : Int) = i by omega]
theorem ix_ext {p q : List Int} (hl : p.length = q.length) (h : ∀ i : Int, 0 ≤ i → i < p.length → ix 0 p i = ix 0 q i) : p = q := by
  apply List.ext_getElem hl
  intro i h1 h2
  have := h (i : Int) (by omega) (by omega)
  rwa [ix, ix, Int.toNat_natCast, List.getD_eq_getElem?_getD, List.getD_eq_getElem?_getD, List.getElem?_eq_getElem h1, List.getElem?_eq_getElem h2] at this
theorem cl_end {l : List Sale} {a b : Int} {cl : List Int} (h : ClI (gS l) l.length a b cl) (ha : (l.length : Int) ≤ a) : cl = cntsL l := by
  have hl := h.1
  have hr := rng_length (i := 0) (n := (l.length : Int)) (by omega)
  refine ix_ext (by rw [cntsL, List.length_map]; omega) fun i i0 i1 => ?_
  rw [h.2 i i0 (by omega), if_pos (by omega), cntsL, ix_mapR i0 (by omega)]
theorem cnts_len (l : List Sale) : (cntsL l).length = l.length := by
  have hr := rng_length (i := 0) (n := (l.length : Int)) (by omega)
  rw [cntsL, List.length_map]; omega
def KdI (cs kinds : List Int) (a : Int) (cl : List Int) : Prop := cl.length = cs.length ∧ ∀ i : Int, 0 ≤ i → i < cs.length → ix 0 cl i = if i < a then idxI (ix 0 cs i) 0 kinds else ix 0 cs i
theorem kd_start {cs kinds : List Int} : KdI cs kinds 0 cs := ⟨rfl, fun i i0 i1 => by rw [if_neg (by omega)]⟩
theorem kd_at {cs kinds cl : List Int} {a : Int} (h : KdI cs kinds a cl) (h0 : 0 ≤ a) (h1 : a < cs.length) : ix 0 cl a = ix 0 cs a := by rw [h.2 a h0 h1, if_neg (by omega)]
theorem kd_step {cs kinds cl : List Int} {a : Int} (h : KdI cs kinds a cl) (h0 : 0 ≤ a) (h1 : a < cs.length) : KdI cs kinds (a + 1) (cl.set a.toNat (idxI (ix 0 cl a) 0 kinds)) := by
  have hl := h.1
  refine ⟨by rw [List.length_set]; exact hl, fun i i0 i1 => ?_⟩
  rw [ix_set' h0 (by omega) i0, kd_at h h0 h1]
  by_cases e : i = a
  · rw [if_pos e, if_pos (by omega), e]
  · rw [if_neg e, h.2 i i0 i1]
    by_cases e2 : i < a
    · rw [if_pos e2, if_pos (by omega)]
    · rw [if_neg e2, if_neg (by omega)]
theorem kd_end {cs kinds cl : List Int} {a : Int} (h : KdI cs kinds a cl) (ha : (cs.length : Int) ≤ a) : cl = cs.map fun c => idxI c 0 kinds := by
  refine ix_ext (by rw [List.length_map]; exact h.1) fun i i0 i1 => ?_
  have hl := h.1
  rw [h.2 i i0 (by omega), if_pos (by omega)]
  have e1 : ix 0 (cs.map fun c => idxI c 0 kinds) i = idxI (ix 0 cs i) 0 kinds := by
    rw [ix, ix, List.getD_eq_getElem?_getD, List.getD_eq_getElem?_getD, List.getElem?_map, List.getElem?_eq_getElem (show i.toNat < cs.length by omega)]; rfl
  exact e1.symm
theorem compT_len : ∀ (r : List Int) (a : Int), (compT a r).length ≤ r.length
  | [], a => Nat.le_refl _
  | b :: r, a => by
    rw [compT]
    have h1 := compT_len r b
    split
    · rw [List.length_cons]; omega
    · rw [List.length_cons, List.length_cons]; omega
theorem comp_len (ys : List Int) : (compI ys).length ≤ ys.length := by
  cases ys with
  | nil => exact Nat.le_refl _
  | cons a r => rw [compI, List.length_cons, List.length_cons]; have := compT_len r a; omega
theorem ltI_T (a b c : Int) (h : ltI b a = false) (k : ltI c b = false) : ltI c a = false := ltI_tr h k
theorem ltI_A (a b : Int) (h : ltI a b = true) : ltI b a = false := by rw [ltI, decide_eq_true_eq] at h; rw [ltI, decide_eq_false_iff_not]; omega
theorem kinds_len (cl : List Int) : ((compI (sortI cl)).length : Int) ≤ cl.length := by
  have h1 := comp_len (sortI cl)
  have h2 : (sortI cl).length = cl.length := (sortF_perm (d := (0 : Int)) (lt := ltI) (fun {_ _ _} h k => ltI_T _ _ _ h k) (fun {_ _} h => ltI_A _ _ h) cl).length_eq
  omega
/-! ### the report -/
abbrev jdgV (l : List Sale) : List Int := judgeV (gS l) (bS l) l.length
def tRep : Ty (List Sale) where
  n := 1
  agg := false
  rep := fun O w l cs => (jdgV l = [] ∧ ∃ v, cs = [.iface 115 (.agg #[v])] ∧ V (tSl tInt) (classL l) v O w) ∨ (jdgV l ≠ [] ∧ ∃ v, cs = [.iface 111 (.agg #[v])] ∧ V (tSl tInt) (jdgV l) v O w)
  len := by rintro _ _ _ _ (⟨_, v, rfl, _⟩ | ⟨_, v, rfl, _⟩) <;> rfl
  one := by rintro _ _ _ _ (⟨_, v, rfl, _⟩ | ⟨_, v, rfl, _⟩) u hu <;> (simp at hu; subst hu; rfl)
  mv := by
    rintro O O' w w' l cs hm (⟨h, v, rfl, hv⟩ | ⟨h, v, rfl, hv⟩)
    · exact .inl ⟨h, v, rfl, hv.mv hm⟩
    · exact .inr ⟨h, v, rfl, hv.mv hm⟩
  flat := fun _ => rfl
section
variable {l : List Sale} {r : Value} {O : List (Option Nat)} {w : World}
theorem V.rep (h : V tRep l r O w) : (jdgV l = [] ∧ ∃ v, r = .iface 115 (.agg #[v]) ∧ V (tSl tInt) (classL l) v O w) ∨ (jdgV l ≠ [] ∧ ∃ v, r = .iface 111 (.agg #[v]) ∧ V (tSl tInt) (jdgV l) v O w) := by
  obtain ⟨cs, rfl, h⟩ := h
  rcases h with ⟨h, v, rfl, hv⟩ | ⟨h, v, rfl, hv⟩
  · exact .inl ⟨h, v, rfl, hv⟩
  · exact .inr ⟨h, v, rfl, hv⟩
theorem V.repC {v : Value} (h : jdgV l = []) (hv : V (tSl tInt) (classL l) v O w) : V tRep l (.iface 115 (.agg #[v])) O w := ⟨[_], rfl, .inl ⟨h, v, rfl, hv⟩⟩
theorem V.repR {v : Value} (h : jdgV l ≠ []) (hv : V (tSl tInt) (jdgV l) v O w) : V tRep l (.iface 111 (.agg #[v])) O w := ⟨[_], rfl, .inr ⟨h, v, rfl, hv⟩⟩
end
theorem rd_mkI {P : Program} {σ : Fr} {w : World} {x : Operand} {v : Value} {T ty : TypeId} (hx : ev σ x = v) (h : P.concrete T = true) : Rd P σ (.makeInterface T x) ty w (.iface T v) :=
  Rd.of fun w' => by simp [xop, execOp, hx, run_makeInterface w' T v h]
end Go.Proofs.Ytjbcpggikaeleaa

namespace Go.Proofs.Ytjbcpggikaeleaa
open Go.Wk Go
set_option linter.unusedVariables false
section
variable {P : Program} {σ : Fr} {w : World} {x : Operand} {v z : Value} {t xT T ty f : Nat} {fs : Array Field} {ats : Array TypeId} {name : String} {recv : Value} {vs : Array Value}
theorem rd_assertY (hx : ev σ x = .iface T v) (hu : P.underlying T = some (.struct fs)) : Rd P σ (.typeAssert x xT T true) ty w (.tuple #[v, .bool true]) :=
  Rd.of fun w' => by simp [xop, execOp, hx, Instr.typeAssert, run_underlying hu]
theorem rd_assertN (hx : ev σ x = .iface t v) (hu : P.underlying T = some (.struct fs)) (hne : t ≠ T) (hz : ∀ w', (zeroValue T).run P w' = .ok z w') : Rd P σ (.typeAssert x xT T true) ty w (.tuple #[z, .bool false]) :=
  Rd.of fun w' => by simp [xop, execOp, hx, Instr.typeAssert, run_underlying hu, hne, hz]
theorem run_invoke (hm : ∀ w, (callMethod recv name #[]).run P w = .ok (.enter f vs) w) (hx : ev σ x = recv) (w' : World) :
    (xop (ev σ) (.call { callee := .invoke x name, args := #[], argTypes := ats }) ty).run P w' = .ok (.enter f vs) w' := by
  subst hx
  simp [xop, execOp, resolve, invoke, hm]
end
theorem told111 (v : Value) (w : World) : (callMethod (.iface 111 v) "bellarmine/taste.told" #[]).run Try.prog w = .ok (.enter 142 #[v]) w := by kernel_rfl
theorem told115 (v : Value) (w : World) : (callMethod (.iface 115 v) "bellarmine/taste.told" #[]).run Try.prog w = .ok (.enter 143 #[v]) w := by kernel_rfl
/-! ### rings, or none -/
theorem jdg_nil {l : List Sale} : jdgV l = [] ↔ ringsV (gS l) (bS l) l.length = [] := by
  rcases judge_head (G := gS l) (B := bS l) (n := l.length) (bS_gS l) with ⟨h1, h2⟩ | h
  · exact ⟨fun _ => h1, fun _ => h2⟩
  · constructor
    · intro e
      cases hr : ringsV (gS l) (bS l) l.length with
      | nil => rfl
      | cons R L =>
        rw [hr] at h
        have h' : some R = some (jdgV l) := h
        injection h' with h'
        obtain ⟨⟨a, e', he, _⟩, _⟩ := mem_rings.1 (show R ∈ ringsV (gS l) (bS l) l.length by rw [hr]; simp)
        rw [h', e] at he
        cases he
    · intro e
      rw [e] at h; cases h
theorem taste_yes {g : Int} {l : List Sale} (h : checkE g l = 0) (hj : jdgV l = []) : tasteE g l = true := by
  rw [tasteE, decide_eq_true h, decide_eq_true (jdg_nil.1 hj)]; rfl
theorem taste_no {g : Int} {l : List Sale} (h : checkE g l = 0) (hj : jdgV l ≠ []) : tasteE g l = false := by
  rw [tasteE, decide_eq_false (fun e => hj (jdg_nil.2 e)), Bool.and_false]
theorem ring_head {l : List Sale} (hj : jdgV l ≠ []) : ix [] (ringsV (gS l) (bS l) l.length) 0 = jdgV l := by
  rcases judge_head (G := gS l) (B := bS l) (n := l.length) (bS_gS l) with ⟨h1, h2⟩ | h
  · exact absurd h2 hj
  · cases hr : ringsV (gS l) (bS l) l.length with
    | nil => rw [hr] at h; cases h
    | cons R L =>
      rw [hr] at h
      have h' : some R = some (jdgV l) := h
      injection h' with h'
end Go.Proofs.Ytjbcpggikaeleaa

namespace Go.Proofs.Ytjbcpggikaeleaa
open Go.Wk Go
set_option linter.unusedVariables false
section
variable {G B : Rel} {n : Int}
theorem led_path {a i : Int} (ha : 0 ≤ a ∧ a < n) (hi : 0 ≤ i ∧ i < n) (h : ledB G n a i = true) : ∃ e, pathP G n a (a :: e) ∧ topI (a :: e) = i := by
  obtain ⟨s, hs⟩ := (led_iff ha hi).1 h
  have h1 := hs.1
  obtain ⟨e, e1, e2, e3, e4⟩ := rch_chain hi hs.2.1
  exact ⟨e, ⟨e, rfl, fun x hx => by
    rcases List.mem_cons.1 hx with rfl | hx
    · exact ha
    · exact e3 x hx, far_nodup (by rw [e1, show (((s - 1).toNat : Nat) : Int) + 1 = s by omega]; exact hs) e2 e3 e4, e2⟩, e4⟩
theorem chain_from {a v : Int} {e : List Int} (hr : ∀ x ∈ a :: e, 0 ≤ x ∧ x < n) (hc : chainP G a e) (hv : v ∈ a :: e) : ledB G n a v = true ∧ ledB G n v (topI (a :: e)) = true := by
  obtain ⟨u, w, huw⟩ := List.append_of_mem hv
  have ha := hr a (by simp)
  have hvr := hr v hv
  cases u with
  | nil =>
    rw [List.nil_append] at huw
    injection huw with h1 h2
    subst h1 h2
    exact ⟨led_refl ha, (led_rch ha (by
      have : 0 < (a :: e).length := by simp
      exact hr _ (List.mem_of_getElem? (ix_get (d := (0 : Int)) (by omega) (by omega))))).2 ⟨_, chain_rch hc (fun x hx => hr x (List.mem_cons_of_mem _ hx)) rfl⟩⟩
  | cons q u =>
    rw [List.cons_append] at huw
    injection huw with h1 h2
    subst h1 h2
    obtain ⟨c1, c2⟩ := chain_split.1 hc
    have hw : ∀ x ∈ w, 0 ≤ x ∧ x < n := fun x hx => hr x (by simp [hx])
    have htop : topI (a :: (u ++ v :: w)) = topI (v :: w) := top_app _ _ _ _
    have htr : 0 ≤ topI (v :: w) ∧ topI (v :: w) < n := by
      have : 0 < (v :: w).length := by simp
      have hm : topI (v :: w) ∈ v :: w := List.mem_of_getElem? (ix_get (d := (0 : Int)) (by omega) (by omega))
      rcases List.mem_cons.1 hm with e | e
      · rw [e]; exact hvr
      · exact hw _ e
    refine ⟨(led_rch ha hvr).2 ⟨_, chain_rch c1 (fun x hx => hr x (by
      rcases List.mem_append.1 hx with hx | hx
      · simp [hx]
      · rw [List.mem_singleton] at hx; subst hx; exact hv)) (by
        show topI ((a :: u) ++ [v]) = v
        exact topI_app _ _)⟩, ?_⟩
    rw [htop]
    exact (led_rch hvr htr).2 ⟨_, chain_rch c2 hw rfl⟩
def beatL (G B : Rel) (n a b : Int) : Prop := ∃ e, pathP G n a (a :: e) ∧ topI (a :: e) = b ∧ anyP B a e
theorem beats_iff {a b : Int} (ha : 0 ≤ a ∧ a < n) : beatsV G B n a b = true ↔ beatL G B n a b := by
  rw [beatsV, beatM, List.any_eq_true]
  constructor
  · rintro ⟨m, hm, h⟩
    obtain ⟨p, hp, h⟩ := List.any_eq_true.1 h
    have hm' := rng_mem.1 hm
    obtain ⟨h1, h2⟩ := (mem_one (by omega) ha).1 hp
    rw [beatP, Bool.and_eq_true, decide_eq_true_eq, List.any_eq_true] at h
    obtain ⟨⟨j, hj, hs⟩, ht⟩ := h
    have hj' := rng_mem.1 hj
    obtain ⟨e, rfl, h3, h4, h5⟩ := h2
    refine ⟨e, ⟨e, rfl, h3, h4, h5⟩, by rw [topI, h1]; exact ht, any_ix.2 ⟨j, ⟨hj'.1, ?_⟩, hs⟩⟩
    rw [List.length_cons] at h1; omega
  · rintro ⟨e, h2, ht, hany⟩
    obtain ⟨j, hj, hs⟩ := any_ix.1 hany
    have h2' := h2
    obtain ⟨e', he, h3, h4, h5⟩ := h2
    have hl := short_of (n := n) (by omega) h4 h3
    rw [List.length_cons] at hl
    refine ⟨((a :: e).length : Int), rng_mem.2 ⟨by rw [List.length_cons]; omega, by rw [List.length_cons]; omega⟩, List.any_eq_true.2 ⟨a :: e, (mem_one (by rw [List.length_cons]; omega) ha).2 ⟨rfl, h2'⟩, ?_⟩⟩
    rw [beatP, Bool.and_eq_true, decide_eq_true_eq, List.any_eq_true]
    exact ⟨⟨j, rng_mem.2 ⟨hj.1, by rw [List.length_cons]; omega⟩, hs⟩, ht⟩
def btsV (G B : Rel) (n a b : Int) : Bool := (rng 0 n).any fun i => (rng 0 n).any fun k => (B i k && ledB G n a i) && ledB G n k b
theorem bts_iff {a b : Int} : btsV G B n a b = true ↔ ∃ i k, (0 ≤ i ∧ i < n) ∧ (0 ≤ k ∧ k < n) ∧ B i k = true ∧ ledB G n a i = true ∧ ledB G n k b = true := by
  rw [btsV, List.any_eq_true]
  constructor
  · rintro ⟨i, hi, h⟩
    obtain ⟨k, hk, h⟩ := List.any_eq_true.1 h
    rw [Bool.and_eq_true, Bool.and_eq_true] at h
    exact ⟨i, k, rng_mem.1 hi, rng_mem.1 hk, h.1.1, h.1.2, h.2⟩
  · rintro ⟨i, k, hi, hk, h1, h2, h3⟩
    exact ⟨i, rng_mem.2 hi, List.any_eq_true.2 ⟨k, rng_mem.2 hk, by rw [h1, h2, h3]; rfl⟩⟩
theorem beat_law (hBG : ∀ i j, B i j = true → G i j = true) (hno : ringsV G B n = []) {a b : Int} (ha : 0 ≤ a ∧ a < n) (hb : 0 ≤ b ∧ b < n) :
    beatsV G B n a b = true ↔ (ledB G n a b = true ∧ ledB G n b a = false) ∧ btsV G B n a b = true := by
  rw [beats_iff ha, bts_iff]
  have noring : ∀ {i k : Int}, (0 ≤ i ∧ i < n) → (0 ≤ k ∧ k < n) → B i k = true → ledB G n k i = true → False := fun hi hk h1 h2 => ring_of hBG hi hk h1 h2 hno
  constructor
  · rintro ⟨e, ⟨e', he, h1, h2, h3⟩, h4, h5⟩
    injection he with _ he
    subst he
    obtain ⟨u, x, y, v, h6, h7⟩ := any_at h5
    have hx : x ∈ a :: e := by rw [h6]; simp
    have hy : y ∈ a :: e := by rw [h6]; simp
    obtain ⟨x1, _⟩ := chain_from h1 h3 hx
    obtain ⟨_, y2⟩ := chain_from h1 h3 hy
    rw [h4] at y2
    have xr := h1 x hx
    have yr := h1 y hy
    have hab : ledB G n a b = true := by have := (chain_from h1 h3 (List.mem_cons_self ..)).2; rw [h4] at this; exact this
    refine ⟨⟨hab, ?_⟩, x, y, xr, yr, h7, x1, y2⟩
    cases hq : ledB G n b a with
    | false => rfl
    | true => exact (noring xr yr h7 (led_trans yr hb xr y2 (led_trans hb ha xr hq x1))).elim
  · rintro ⟨⟨h1, h2⟩, i, k, hi, hk, h3, h4, h5⟩
    obtain ⟨e1, ⟨_, p1, p2, p3, p4⟩, p5⟩ := led_path ha hi h4
    obtain ⟨e2, ⟨_, q1, q2, q3, q4⟩, q5⟩ := led_path hk hb h5
    injection p1 with _ p1
    injection q1 with _ q1
    subst p1 q1
    have happ : (a :: (e1 ++ k :: e2)) = (a :: e1) ++ (k :: e2) := rfl
    refine ⟨e1 ++ k :: e2, ⟨e1 ++ k :: e2, rfl, fun x hx => ?_, ?_, ?_⟩, ?_, ?_⟩
    · rw [happ] at hx
      exact (List.mem_append.1 hx).elim (p2 x) (q2 x)
    · rw [happ, List.nodup_append]
      refine ⟨p3, q3, fun x hx y hy e => ?_⟩
      subst e
      have g1 := (chain_from p2 p4 hx).2
      have g2 := (chain_from q2 q4 hy).1
      rw [p5] at g1
      exact noring hi hk h3 (led_trans hk (p2 x hx) hi g2 g1)
    · exact chain_split.2 ⟨chain_snoc.2 ⟨p4, by rw [p5]; exact hBG _ _ h3⟩, q4⟩
    · rw [top_app]; exact q5
    · exact any_split.2 (.inl (any_snoc.2 (.inr (by rw [p5]; exact h3))))
end
/-! ### ranks -/
theorem bts_yes {G B : Rel} {n a b i k : Int} (h0 : 0 ≤ i) (h1 : i < n) (h2 : 0 ≤ k) (h3 : k < n) (c : (B i k = true ∧ ledB G n a i = true) ∧ ledB G n k b = true) : true = btsV G B n a b :=
  (bts_iff.2 ⟨i, k, ⟨h0, h1⟩, ⟨h2, h3⟩, c.1.1, c.1.2, c.2⟩).symm
theorem bts_no {G B : Rel} {n a b i : Int} (hi : n ≤ i) (h : ∀ x y, 0 ≤ x → x < i → 0 ≤ y → y < n → ¬ ((B x y = true ∧ ledB G n a x = true) ∧ ledB G n y b = true)) : false = btsV G B n a b := by
  cases hq : btsV G B n a b with
  | false => rfl
  | true =>
    obtain ⟨x, y, hx, hy, h1, h2, h3⟩ := bts_iff.1 hq
    exact absurd ⟨⟨h1, h2⟩, h3⟩ (h x y hx.1 (by omega) hy.1 hy.2)
def RkI (l : List Sale) (a b : Int) (out : List Int) : Prop := out.length = l.length ∧ ∀ i, 0 ≤ i → i < (l.length : Int) → ix 0 out i + (if i < a then 0 else if i = a then cntR (beatsV (gS l) (bS l) l.length) a (rng b l.length) else cntR (beatsV (gS l) (bS l) l.length) i (rng 0 l.length)) = cntR (beatsV (gS l) (bS l) l.length) i (rng 0 l.length) ∧ 0 ≤ ix 0 out i
theorem rk_start {l : List Sale} : RkI l 0 0 (List.replicate l.length 0) := by
  refine ⟨by simp, fun i i0 i1 => ?_⟩
  rw [ix_rep i0 (by omega), if_neg (by omega)]
  refine ⟨?_, Int.le_refl _⟩
  split
  · rename_i h; rw [h]; omega
  · omega
theorem rk_yes {l : List Sale} {a b : Int} {out : List Int} (h : RkI l a b out) (h0 : 0 ≤ a) (h1 : a < l.length) (hb : b < l.length) (c : ¬ a = b ∧ beatsV (gS l) (bS l) l.length a b = true) : RkI l a (b + 1) (out.set a.toNat (ix 0 out a + 1)) := by
  have hl := h.1
  refine ⟨by rw [List.length_set]; exact hl, fun i i0 i1 => ?_⟩
  have hi := h.2 i i0 i1
  rw [ix_set' h0 (by omega) i0]
  by_cases e : i = a
  · subst e
    rw [if_neg (by omega), if_pos rfl, cntR_yes hb c] at hi
    rw [if_pos rfl, if_neg (by omega), if_pos rfl]
    omega
  · rw [if_neg e]
    rw [if_neg e] at hi ⊢
    exact hi
theorem rk_no {l : List Sale} {a b : Int} {out : List Int} (h : RkI l a b out) (hb : b < l.length) (c : a = b ∨ beatsV (gS l) (bS l) l.length a b = false) : RkI l a (b + 1) out := by
  refine ⟨h.1, fun i i0 i1 => ?_⟩
  have hi := h.2 i i0 i1
  rw [← cntR_no hb c]
  exact hi
theorem rk_row {l : List Sale} {a b : Int} {out : List Int} (h : RkI l a b out) (hb : (l.length : Int) ≤ b) : RkI l (a + 1) 0 out := by
  refine ⟨h.1, fun i i0 i1 => ?_⟩
  have hi := h.2 i i0 i1
  rw [cntR_end hb] at hi
  by_cases e : i < a
  · rw [if_pos e] at hi; rw [if_pos (by omega)]; exact hi
  · rw [if_neg e] at hi
    by_cases e2 : i = a
    · rw [if_pos e2] at hi; rw [if_pos (by omega)]; exact hi
    · rw [if_neg e2] at hi
      rw [if_neg (by omega)]
      split
      · rename_i h'; rw [← h']; exact hi
      · exact hi
theorem rk_end {g : Int} {l : List Sale} {a b : Int} {out : List Int} (h : RkI l a b out) (ha : (l.length : Int) ≤ a) (hr : ranksX g l = 0) : ranksL g l = out := by
  have hl := h.1
  have hrl := rng_length (i := 0) (n := (l.length : Int)) (by omega)
  rw [ranksL, if_pos hr]
  refine (ix_ext (by rw [List.length_map]; omega) fun i i0 i1 => ?_).symm
  have hi := (h.2 i i0 (by omega)).1
  rw [if_pos (by omega)] at hi
  rw [ix_mapR i0 (by omega)]
  omega
theorem cntR_bd {f : Rel} {a n : Int} (h : 0 ≤ n) : cntR f a (rng 0 n) ≤ n := by
  have := List.countP_le_length (p := fun b => decide (a ≠ b) && f a b) (l := rng 0 n)
  have := rng_length h
  rw [cntR]; omega
theorem cntR_nn {f : Rel} {a : Int} {bs : List Int} : 0 ≤ cntR f a bs := by rw [cntR]; omega
theorem rk_bd {l : List Sale} {a b : Int} {out : List Int} (h : RkI l a b out) (h0 : 0 ≤ a) (h1 : a < l.length) : 0 ≤ ix 0 out a ∧ ix 0 out a ≤ l.length := by
  have hi := h.2 a h0 h1
  have h2 := cntR_bd (f := beatsV (gS l) (bS l) l.length) (a := a) (n := l.length) (by omega)
  have h3 := cntR_nn (f := beatsV (gS l) (bS l) l.length) (a := a) (bs := rng b l.length)
  rw [if_neg (by omega), if_pos rfl] at hi
  omega
theorem ranks_err {g : Int} {l : List Sale} (h : ¬ checkE g l = 0) : ranksL g l = [] ∧ ranksX g l = checkE g l := by
  have e : ranksX g l = checkE g l := by rw [ranksX, if_neg h]
  exact ⟨by rw [ranksL, if_neg (by rw [e]; exact h)], e⟩
theorem ranks_ring {g : Int} {l : List Sale} (h : checkE g l = 0) (hj : jdgV l ≠ []) : ranksL g l = [] ∧ ranksX g l = 13 := by
  have e : ranksX g l = 13 := by rw [ranksX, if_pos h, if_neg (fun q => hj (jdg_nil.2 q))]
  exact ⟨by rw [ranksL, if_neg (by rw [e]; decide)], e⟩
end Go.Proofs.Ytjbcpggikaeleaa

namespace Go.Proofs.Ytjbcpggikaeleaa
open Go.Wk Go
set_option linter.unusedVariables false
/-! ### classes in their order -/
theorem compT_mem {x : Int} : ∀ (r : List Int) (a : Int), x ∈ a :: compT a r ↔ x ∈ a :: r
  | [], a => Iff.rfl
  | b :: r, a => by
    rw [compT]
    have ih := compT_mem (x := x) r b
    by_cases e : b = a
    · rw [if_pos e]
      subst e
      rw [ih]; simp
    · rw [if_neg e, List.mem_cons, ih, List.mem_cons (a := x) (b := a) (l := b :: r)]
theorem comp_mem {x : Int} {ys : List Int} : x ∈ compI ys ↔ x ∈ ys := by
  cases ys with
  | nil => exact Iff.rfl
  | cons a r => exact compT_mem r a
theorem compT_asc : ∀ (r : List Int) (a : Int), (a :: r).Pairwise (· ≤ ·) → (a :: compT a r).Pairwise (· < ·)
  | [], a, _ => by simp [compT]
  | b :: r, a, h => by
    rw [compT]
    have hc := List.pairwise_cons.1 h
    have ih := compT_asc r b hc.2
    by_cases e : b = a
    · rw [if_pos e]; subst e; exact ih
    · rw [if_neg e]
      refine List.pairwise_cons.2 ⟨fun x hx => ?_, ih⟩
      have h1 := hc.1 b (by simp)
      have h2 := (compT_mem r b).1 hx
      have h3 : b ≤ x := by
        rcases List.mem_cons.1 h2 with e | e
        · omega
        · exact (List.pairwise_cons.1 hc.2).1 x e
      omega
theorem comp_asc {ys : List Int} (h : ys.Pairwise (· ≤ ·)) : (compI ys).Pairwise (· < ·) := by
  cases ys with
  | nil => exact List.Pairwise.nil
  | cons a r => exact compT_asc r a h
theorem sortI_perm (ys : List Int) : (sortI ys).Perm ys := sortF_perm (d := (0 : Int)) (lt := ltI) (fun {_ _ _} h k => ltI_T _ _ _ h k) (fun {_ _} h => ltI_A _ _ h) ys
theorem sortI_asc (ys : List Int) : (sortI ys).Pairwise (· ≤ ·) := by
  refine (sortF_sorted (d := (0 : Int)) (lt := ltI) (fun {_ _ _} h k => ltI_T _ _ _ h k) (fun {_ _} h => ltI_A _ _ h) ys).imp fun {x y} h => ?_
  rw [ltI, decide_eq_false_iff_not] at h; omega
theorem idx_get {x : Int} {ys : List Int} (h : x ∈ ys) : (0 ≤ idxI x 0 ys ∧ idxI x 0 ys < ys.length) ∧ ix 0 ys (idxI x 0 ys) = x := by
  have hk := idxI_at x ys 0 h
  have hlt : idxL ys x < ys.length := List.findIdx_lt_length_of_exists ⟨_, h, by simp⟩
  refine ⟨by omega, ?_⟩
  rw [hk, ix, show (0 + (idxL ys x : Int)).toNat = idxL ys x by omega, List.getD_eq_getElem?_getD, List.getElem?_eq_getElem hlt]
  have := List.findIdx_getElem (xs := ys) (p := fun y => decide (y = x)) (w := hlt)
  exact of_decide_eq_true this
theorem idx_lt {x y : Int} {ys : List Int} (hs : ys.Pairwise (· < ·)) (hx : x ∈ ys) (hy : y ∈ ys) (h : x < y) : idxI x 0 ys < idxI y 0 ys := by
  obtain ⟨⟨a0, a1⟩, a2⟩ := idx_get hx
  obtain ⟨⟨b0, b1⟩, b2⟩ := idx_get hy
  refine Classical.byContradiction fun hn => ?_
  rw [List.pairwise_iff_getElem] at hs
  have hg : ∀ (i : Int) (h0 : 0 ≤ i) (h1 : i < ys.length), ix 0 ys i = ys[i.toNat]'(by omega) := fun i h0 h1 => by
    rw [ix, List.getD_eq_getElem?_getD, List.getElem?_eq_getElem (by omega)]; rfl
  by_cases e : idxI x 0 ys = idxI y 0 ys
  · rw [e, b2] at a2; omega
  · have := hs (idxI y 0 ys).toNat (idxI x 0 ys).toNat (by omega) (by omega) (by omega)
    rw [← hg _ b0 b1, ← hg _ a0 a1, a2, b2] at this
    omega
theorem idx_le {x y : Int} {ys : List Int} (hs : ys.Pairwise (· < ·)) (hx : x ∈ ys) (hy : y ∈ ys) (h : x ≤ y) : idxI x 0 ys ≤ idxI y 0 ys := by
  by_cases e : x = y
  · rw [e]; exact Int.le_refl _
  · exact Int.le_of_lt (idx_lt hs hx hy (by omega))
theorem kinds_asc (l : List Sale) : (kindsL l).Pairwise (· < ·) := comp_asc (sortI_asc _)
theorem kinds_mem {l : List Sale} {x : Int} : x ∈ kindsL l ↔ x ∈ cntsL l := by rw [kindsL, comp_mem, (sortI_perm _).mem_iff]
theorem class_len (l : List Sale) : (classL l).length = l.length := by rw [classL, List.length_map, cnts_len]
theorem cnts_at {l : List Sale} {i : Int} (i0 : 0 ≤ i) (i1 : i < l.length) : ix 0 (cntsL l) i = (aboveV (gS l) l.length i : Int) := by rw [cntsL, ix_mapR i0 i1]; rfl
theorem ix_memI {ys : List Int} {i : Int} (i0 : 0 ≤ i) (i1 : i < ys.length) : ix 0 ys i ∈ ys := List.mem_of_getElem? (ix_get (d := (0 : Int)) i1 i0)
theorem class_at {l : List Sale} {i : Int} (i0 : 0 ≤ i) (i1 : i < l.length) : ix 0 (classL l) i = idxI (ix 0 (cntsL l) i) 0 (kindsL l) := by
  have hl := cnts_len l
  rw [classL, ix, ix, List.getD_eq_getElem?_getD, List.getD_eq_getElem?_getD, List.getElem?_map, List.getElem?_eq_getElem (show i.toNat < (cntsL l).length by omega)]; rfl
theorem class_bd {l : List Sale} (h6 : (l.length : Int) ≤ 6) {i : Int} (i0 : 0 ≤ i) (i1 : i < l.length) : 0 ≤ ix 0 (classL l) i ∧ ix 0 (classL l) i ≤ 5 := by
  have hl := cnts_len l
  have hm := kinds_mem.2 (ix_memI i0 (show i < (cntsL l).length by omega))
  have := (idx_get hm).1
  have hk := kinds_len (cntsL l)
  rw [class_at i0 i1]
  have hk' : ((kindsL l).length : Int) ≤ (cntsL l).length := hk
  omega
theorem class_lt {l : List Sale} {a b : Int} (ha : 0 ≤ a ∧ a < l.length) (hb : 0 ≤ b ∧ b < l.length) (h : aboveV (gS l) l.length b < aboveV (gS l) l.length a) : ix 0 (classL l) b < ix 0 (classL l) a := by
  have hl := cnts_len l
  rw [class_at ha.1 ha.2, class_at hb.1 hb.2]
  refine idx_lt (kinds_asc l) (kinds_mem.2 (ix_memI hb.1 (by omega))) (kinds_mem.2 (ix_memI ha.1 (by omega))) ?_
  rw [cnts_at ha.1 ha.2, cnts_at hb.1 hb.2]; omega
theorem class_le {l : List Sale} {a b : Int} (ha : 0 ≤ a ∧ a < l.length) (hb : 0 ≤ b ∧ b < l.length) (h : aboveV (gS l) l.length b ≤ aboveV (gS l) l.length a) : ix 0 (classL l) b ≤ ix 0 (classL l) a := by
  have hl := cnts_len l
  rw [class_at ha.1 ha.2, class_at hb.1 hb.2]
  refine idx_le (kinds_asc l) (kinds_mem.2 (ix_memI hb.1 (by omega))) (kinds_mem.2 (ix_memI ha.1 (by omega))) ?_
  rw [cnts_at ha.1 ha.2, cnts_at hb.1 hb.2]; omega
/-! ### the greatest lead, the greatest class -/
def ldB (l : List Sale) (a : Int) (m : Int) (bs : List Int) : Int := bs.foldl (fun m b => max m (leadS (ix ([], []) l a) (ix ([], []) l b))) m
def ldA (l : List Sale) (m : Int) (xs : List Int) : Int := xs.foldl (fun m a => ldB l a m (rng 0 l.length)) m
def leadM (l : List Sale) : Int := ldA l 1 (rng 0 l.length)
theorem ldB_next {l : List Sale} {a b m n : Int} (h : b < n) : ldB l a m (rng b n) = ldB l a (max m (leadS (ix ([], []) l a) (ix ([], []) l b))) (rng (b + 1) n) := by rw [ldB, rng_cons h]; rfl
theorem ldB_end {l : List Sale} {a b m n : Int} (h : n ≤ b) : ldB l a m (rng b n) = m := by rw [rng_nil h]; rfl
theorem ldA_next {l : List Sale} {a m n : Int} (h : a < n) : ldA l m (rng a n) = ldA l (ldB l a m (rng 0 l.length)) (rng (a + 1) n) := by rw [ldA, rng_cons h]; rfl
theorem ldA_end {l : List Sale} {a m n : Int} (h : n ≤ a) : ldA l m (rng a n) = m := by rw [rng_nil h]; rfl
theorem ldB_le {l : List Sale} {a M : Int} : ∀ (bs : List Int) (m : Int), m ≤ ldB l a m bs ∧ (∀ b ∈ bs, leadS (ix ([], []) l a) (ix ([], []) l b) ≤ ldB l a m bs) ∧ ((∀ b ∈ bs, leadS (ix ([], []) l a) (ix ([], []) l b) ≤ M) → m ≤ M → ldB l a m bs ≤ M)
  | [], m => ⟨Int.le_refl _, fun _ h => (by cases h), fun _ h => h⟩
  | b :: bs, m => by
    obtain ⟨h1, h2, h3⟩ := ldB_le (M := M) bs (max m (leadS (ix ([], []) l a) (ix ([], []) l b)))
    have e : ldB l a m (b :: bs) = ldB l a (max m (leadS (ix ([], []) l a) (ix ([], []) l b))) bs := rfl
    rw [e]
    refine ⟨by omega, fun c hc => ?_, fun hb hm => h3 (fun c hc => hb c (List.mem_cons_of_mem _ hc)) (by have := hb b (by simp); omega)⟩
    rcases List.mem_cons.1 hc with rfl | hc
    · omega
    · exact h2 c hc
theorem ldA_le {l : List Sale} {M : Int} : ∀ (xs : List Int) (m : Int), m ≤ ldA l m xs ∧ (∀ a ∈ xs, ∀ b ∈ rng 0 l.length, leadS (ix ([], []) l a) (ix ([], []) l b) ≤ ldA l m xs) ∧ ((∀ a ∈ xs, ∀ b ∈ rng 0 l.length, leadS (ix ([], []) l a) (ix ([], []) l b) ≤ M) → m ≤ M → ldA l m xs ≤ M)
  | [], m => ⟨Int.le_refl _, fun _ h => (by cases h), fun _ h => h⟩
  | a :: xs, m => by
    obtain ⟨h1, h2, h3⟩ := ldA_le (l := l) (M := M) xs (ldB l a m (rng 0 l.length))
    obtain ⟨g1, g2, g3⟩ := ldB_le (l := l) (a := a) (M := M) (rng 0 l.length) m
    have e : ldA l m (a :: xs) = ldA l (ldB l a m (rng 0 l.length)) xs := rfl
    rw [e]
    refine ⟨by omega, fun c hc b hb => ?_, fun hb hm => h3 (fun c hc => hb c (List.mem_cons_of_mem _ hc)) (g3 (hb a (by simp)) hm)⟩
    rcases List.mem_cons.1 hc with rfl | hc
    · have := g2 b hb; omega
    · exact h2 c hc b hb
theorem lead_bd {l : List Sale} (hok : SalesOK l) {a b : Int} (ha : 0 ≤ a ∧ a < l.length) (hb : 0 ≤ b ∧ b < l.length) : leadS (ix ([], []) l a) (ix ([], []) l b) ≤ 243 ∧ -243 ≤ leadS (ix ([], []) l a) (ix ([], []) l b) := by
  obtain ⟨g, hg, hat⟩ := hok.at
  have h1 := (hat a ha.1 ha.2).cost hg.2 (hat b hb.1 hb.2)
  have h2 := (hat a ha.1 ha.2).cost hg.2 (hat a ha.1 ha.2)
  rw [leadS, costS, costS]; omega
theorem leadM_bd {l : List Sale} (hok : SalesOK l) : 1 ≤ leadM l ∧ leadM l ≤ 243 :=
  ⟨(ldA_le (M := 0) (rng 0 l.length) 1).1, (ldA_le (M := 243) (rng 0 l.length) 1).2.2 (fun a ha b hb => (lead_bd hok (rng_mem.1 ha) (rng_mem.1 hb)).1) (by decide)⟩
theorem leadM_le {l : List Sale} {a b : Int} (ha : 0 ≤ a ∧ a < l.length) (hb : 0 ≤ b ∧ b < l.length) : leadS (ix ([], []) l a) (ix ([], []) l b) ≤ leadM l := (ldA_le (M := 0) (rng 0 l.length) 1).2.1 a (rng_mem.2 ha) b (rng_mem.2 hb)
def topM (cl : List Int) : Int := cl.foldl max 0
theorem topM_next {cl : List Int} {k m : Int} (h0 : 0 ≤ k) (h1 : k < cl.length) (h : (cl.drop k.toNat).foldl max m = topM cl) : (cl.drop (k + 1).toNat).foldl max (max m (ix 0 cl k)) = topM cl := by rw [← h, drop_ix (d := 0) h0 h1]; rfl
theorem topM_end {cl : List Int} {k m : Int} (h1 : (cl.length : Int) ≤ k) (h : (cl.drop k.toNat).foldl max m = topM cl) : m = topM cl := by rw [← h, drop_end h1]; rfl
theorem top_bd {l : List Sale} (h6 : (l.length : Int) ≤ 6) : 0 ≤ topM (classL l) ∧ topM (classL l) ≤ 5 ∧ ∀ i, 0 ≤ i → i < (l.length : Int) → ix 0 (classL l) i ≤ topM (classL l) := by
  obtain ⟨h1, h2, h3⟩ := fold_max (classL l) 0
  have hl := class_len l
  refine ⟨h1, ?_, fun i i0 i1 => h2 _ (ix_memI i0 (by omega))⟩
  rcases h3 with h3 | h3
  · rw [topM, h3]; decide
  · obtain ⟨i, hi, e⟩ := List.mem_iff_getElem.1 h3
    have hc := class_bd h6 (i := (i : Int)) (by omega) (by omega)
    rw [ix, Int.toNat_natCast, List.getD_eq_getElem?_getD, List.getElem?_eq_getElem hi] at hc
    rw [topM, ← e]; exact hc.2
/-! ### numbers -/
def blw (l : List Sale) (c : Int) : Int := btV (leadM l) (topM (classL l) - c).toNat
def wghL (l : List Sale) : List Int := (classL l).map fun c => max 1 (blw l c)
def wrtL (l : List Sale) : List Int := (classL l).map fun c => blw l 0 - blw l c
theorem blw_bd {l : List Sale} (hok : SalesOK l) {c : Int} (h : 0 ≤ c) : 0 ≤ blw l c ∧ blw l c ≤ 1000000000000 := by
  have h1 := leadM_bd hok
  have h2 := top_bd hok.1
  exact ⟨bt_nn h1.1 _, bt_max h1.1 h1.2 (by omega)⟩
theorem blw_zero {l : List Sale} {c : Int} (hok : SalesOK l) (h : 0 ≤ c) : blw l c ≤ blw l 0 := by
  have h1 := leadM_bd hok
  have h2 := top_bd hok.1
  have := bt_mono h1.1 (t := (topM (classL l) - c).toNat) ((topM (classL l) - 0).toNat - (topM (classL l) - c).toNat)
  rw [show (topM (classL l) - c).toNat + ((topM (classL l) - 0).toNat - (topM (classL l) - c).toNat) = (topM (classL l) - 0).toNat by omega] at this
  exact this
theorem blw_next {l : List Sale} {c : Int} (h0 : 0 < c) (h1 : c ≤ topM (classL l)) : blw l c + max 1 (blw l c) * leadM l = blw l (c - 1) := by
  rw [blw, blw, show (topM (classL l) - (c - 1)).toNat = (topM (classL l) - c).toNat + 1 by omega, btV]
theorem blw_top (l : List Sale) : blw l (topM (classL l)) = 0 := by rw [blw, show (topM (classL l) - topM (classL l)).toNat = 0 by omega]; rfl
theorem ix_mapC {f : Int → Int} {cl : List Int} {i : Int} (i0 : 0 ≤ i) (i1 : i < cl.length) : ix 0 (cl.map f) i = f (ix 0 cl i) := by
  rw [ix, ix, List.getD_eq_getElem?_getD, List.getD_eq_getElem?_getD, List.getElem?_map, List.getElem?_eq_getElem (show i.toNat < cl.length by omega)]; rfl
theorem num_agrees {g : Int} {l : List Sale} (h : checkE g l = 0) (hj : jdgV l = []) : agreesE g l (wrtL l) (wghL l) = 0 := by
  have hok := SalesOK.of h
  have hcl := class_len l
  have hno := jdg_nil.1 hj
  have hlb := leadM_bd hok
  have wa : ∀ i, 0 ≤ i → i < (l.length : Int) → ix 0 (wrtL l) i = blw l 0 - blw l (ix 0 (classL l) i) := fun i i0 i1 => ix_mapC i0 (by omega)
  have wu : ∀ i, 0 ≤ i → i < (l.length : Int) → ix 0 (wghL l) i = max 1 (blw l (ix 0 (classL l) i)) := fun i i0 i1 => ix_mapC i0 (by omega)
  rw [agreesE, if_pos h, if_pos ⟨by rw [wrtL, List.length_map, hcl], by rw [wghL, List.length_map, hcl]⟩, if_pos, if_pos]
  · intro a b a0 a1 b0 b1
    have ca := class_bd hok.1 a0 a1
    have cb := class_bd hok.1 b0 b1
    have ta := (top_bd hok.1).2.2 a a0 a1
    have tb := (top_bd hok.1).2.2 b b0 b1
    have hD : costV (ix ([], []) l a).1 (ix ([], []) l b).2 - costV (ix ([], []) l a).1 (ix ([], []) l a).2 = -(leadS (ix ([], []) l a) (ix ([], []) l b)) := by rw [leadS, costS, costS]; omega
    rw [agr2, wa a a0 a1, wa b b0 b1, wu a a0 a1, hD, Int.mul_neg]
    have key := numbers_ok (L := leadM l) (D := leadS (ix ([], []) l a) (ix ([], []) l b)) (ta := (topM (classL l) - ix 0 (classL l) a).toNat) (tb := (topM (classL l) - ix 0 (classL l) b).toNat) hlb.1 (leadM_le ⟨a0, a1⟩ ⟨b0, b1⟩) (fun hp => ?_) (fun hz => ?_)
    · have e1 : blw l (ix 0 (classL l) a) = btV (leadM l) (topM (classL l) - ix 0 (classL l) a).toNat := rfl
      have e2 : blw l (ix 0 (classL l) b) = btV (leadM l) (topM (classL l) - ix 0 (classL l) b).toNat := rfl
      rw [← e1, ← e2] at key
      omega
    · have hB : bS l a b = true := decide_eq_true hp
      have h1 := led_one (G := gS l) (n := l.length) ⟨a0, a1⟩ ⟨b0, b1⟩ (bS_gS l a b hB)
      have h2 : ledB (gS l) l.length b a = false := by
        cases hq : ledB (gS l) l.length b a with
        | false => rfl
        | true => exact absurd hno (ring_of (bS_gS l) ⟨a0, a1⟩ ⟨b0, b1⟩ hB hq)
      have := class_lt ⟨a0, a1⟩ ⟨b0, b1⟩ (above_lt ⟨a0, a1⟩ ⟨b0, b1⟩ h1 h2)
      omega
    · have hG : gS l a b = true := decide_eq_true (by rw [hz]; exact Int.le_refl _)
      have h1 := led_one (G := gS l) (n := l.length) ⟨a0, a1⟩ ⟨b0, b1⟩ hG
      have := class_le ⟨a0, a1⟩ ⟨b0, b1⟩ (above_le ⟨a0, a1⟩ ⟨b0, b1⟩ h1)
      omega
  · intro i i0 i1
    have ci := class_bd hok.1 i0 i1
    have h1 := blw_bd hok ci.1
    have h2 := blw_bd hok (Int.le_refl 0)
    have h3 := blw_zero hok ci.1
    rw [agr1, wa i i0 i1, wu i i0 i1]
    omega
/-! ### numbers, one class after the other -/
def NmI (l : List Sale) (c i : Int) (W U : List Int) : Prop := (W.length = l.length ∧ U.length = l.length) ∧ ∀ q, 0 ≤ q → q < (l.length : Int) → (c < ix 0 (classL l) q ∨ (ix 0 (classL l) q = c ∧ q < i)) → ix 0 W q = -(blw l (ix 0 (classL l) q)) ∧ ix 0 U q = max 1 (blw l (ix 0 (classL l) q))
theorem nm_start {l : List Sale} (h6 : (l.length : Int) ≤ 6) : NmI l (topM (classL l)) 0 (List.replicate l.length 0) (List.replicate l.length 0) := by
  refine ⟨⟨by simp, by simp⟩, fun q q0 q1 h => ?_⟩
  have := (top_bd h6).2.2 q q0 q1
  omega
theorem nm_yes {l : List Sale} {c i : Int} {W U : List Int} (h : NmI l c i W U) (i0 : 0 ≤ i) (i1 : i < l.length) (e : ix 0 (classL l) i = c) : NmI l c (i + 1) (W.set i.toNat (-(blw l c))) (U.set i.toNat (max 1 (blw l c))) := by
  have h1 := h.1
  refine ⟨⟨by rw [List.length_set]; exact h1.1, by rw [List.length_set]; exact h1.2⟩, fun q q0 q1 hq => ?_⟩
  rw [ix_set' i0 (by omega) q0, ix_set' i0 (by omega) q0]
  by_cases eq : q = i
  · rw [if_pos eq, if_pos eq, eq, e]; exact ⟨rfl, rfl⟩
  · rw [if_neg eq, if_neg eq]
    exact h.2 q q0 q1 (by omega)
theorem nm_no {l : List Sale} {c i : Int} {W U : List Int} (h : NmI l c i W U) (e : ¬ ix 0 (classL l) i = c) : NmI l c (i + 1) W U := by
  refine ⟨h.1, fun q q0 q1 hq => h.2 q q0 q1 ?_⟩
  by_cases eq : q = i
  · subst eq; omega
  · omega
theorem nm_next {l : List Sale} {c i : Int} {W U : List Int} (h : NmI l c i W U) (hi : (l.length : Int) ≤ i) : NmI l (c - 1) 0 W U := ⟨h.1, fun q q0 q1 hq => h.2 q q0 q1 (by omega)⟩
def UpI (l : List Sale) (i : Int) (W : List Int) : Prop := W.length = l.length ∧ ∀ q, 0 ≤ q → q < (l.length : Int) → ix 0 W q = if q < i then blw l 0 - blw l (ix 0 (classL l) q) else -(blw l (ix 0 (classL l) q))
theorem up_start {l : List Sale} {c i : Int} {W U : List Int} (h6 : (l.length : Int) ≤ 6) (h : NmI l c i W U) (hc : c < 0) : UpI l 0 W := by
  refine ⟨h.1.1, fun q q0 q1 => ?_⟩
  have := class_bd h6 q0 q1
  rw [(h.2 q q0 q1 (by omega)).1, if_neg (by omega)]
theorem up_at {l : List Sale} {i : Int} {W : List Int} (h : UpI l i W) (i0 : 0 ≤ i) (i1 : i < l.length) : ix 0 W i = -(blw l (ix 0 (classL l) i)) := by rw [h.2 i i0 i1, if_neg (by omega)]
theorem up_step {l : List Sale} {i : Int} {W : List Int} (h : UpI l i W) (i0 : 0 ≤ i) (i1 : i < l.length) : UpI l (i + 1) (W.set i.toNat (ix 0 W i + blw l 0)) := by
  have h1 := h.1
  refine ⟨by rw [List.length_set]; exact h1, fun q q0 q1 => ?_⟩
  rw [ix_set' i0 (by omega) q0, up_at h i0 i1]
  by_cases eq : q = i
  · rw [if_pos eq, if_pos (by omega), eq]; omega
  · rw [if_neg eq, h.2 q q0 q1]
    by_cases e2 : q < i
    · rw [if_pos e2, if_pos (by omega)]
    · rw [if_neg e2, if_neg (by omega)]
theorem up_end {l : List Sale} {i : Int} {W : List Int} (h : UpI l i W) (hi : (l.length : Int) ≤ i) : wrtL l = W := by
  have h1 := h.1
  have hcl := class_len l
  refine (ix_ext (by rw [wrtL, List.length_map]; omega) fun q q0 q1 => ?_).symm
  rw [h.2 q q0 (by omega), if_pos (by omega), wrtL, ix_mapC q0 (by omega)]
theorem nm_end {l : List Sale} {c i : Int} {W U : List Int} (h6 : (l.length : Int) ≤ 6) (h : NmI l c i W U) (hc : c < 0) : wghL l = U := by
  have h1 := h.1.2
  have hcl := class_len l
  refine (ix_ext (by rw [wghL, List.length_map]; omega) fun q q0 q1 => ?_).symm
  have := class_bd h6 q0 (show q < (l.length : Int) by omega)
  rw [(h.2 q q0 (by omega) (by omega)).2, wghL, ix_mapC q0 (by omega)]
def numX (g : Int) (l : List Sale) : Int := if checkE g l = 0 then (if jdgV l = [] then 0 else 13) else checkE g l
def numW (g : Int) (l : List Sale) : List Int := if numX g l = 0 then wrtL l else []
def numU (g : Int) (l : List Sale) : List Int := if numX g l = 0 then wghL l else []
theorem num_err {g : Int} {l : List Sale} (h : ¬ checkE g l = 0) : numX g l = checkE g l ∧ numW g l = [] ∧ numU g l = [] := by
  have e : numX g l = checkE g l := by rw [numX, if_neg h]
  exact ⟨e, by rw [numW, if_neg (by rw [e]; exact h)], by rw [numU, if_neg (by rw [e]; exact h)]⟩
theorem num_ring {g : Int} {l : List Sale} (h : checkE g l = 0) (hj : jdgV l ≠ []) : numX g l = 13 ∧ numW g l = [] ∧ numU g l = [] := by
  have e : numX g l = 13 := by rw [numX, if_pos h, if_neg hj]
  exact ⟨e, by rw [numW, if_neg (by rw [e]; decide)], by rw [numU, if_neg (by rw [e]; decide)]⟩
theorem num_ok {g : Int} {l : List Sale} (h : checkE g l = 0) (hj : jdgV l = []) : numX g l = 0 ∧ numW g l = wrtL l ∧ numU g l = wghL l := by
  have e : numX g l = 0 := by rw [numX, if_pos h, if_pos hj]
  exact ⟨e, by rw [numW, if_pos e], by rw [numU, if_pos e]⟩
end Go.Proofs.Ytjbcpggikaeleaa

namespace Go.Proofs.Ytjbcpggikaeleaa
open Go.Wk Go
set_option linter.unusedVariables false
def idxP (P : Int → Bool) : Int → List Int → Int
  | _, [] => -1
  | i, f :: fs => if P f = true then i else idxP P (i + 1) fs
theorem idxP_any (P : Int → Bool) : ∀ (fs : List Int) (i : Int), 0 ≤ i → decide (0 ≤ idxP P i fs) = fs.any P
  | [], _, _ => by simp [idxP]
  | f :: fs, i, hi => by
    rw [idxP]
    split
    · rename_i h; simp [h, hi]
    · rename_i h; rw [idxP_any P fs (i + 1) (by omega)]; simp [h]
theorem idxP_bd (P : Int → Bool) : ∀ (fs : List Int) (i : Int), 0 ≤ i → -1 ≤ idxP P i fs ∧ idxP P i fs ≤ i + fs.length
  | [], i, hi => by simp [idxP]; omega
  | f :: fs, i, hi => by
    rw [idxP]
    have := idxP_bd P fs (i + 1) (by omega)
    rw [List.length_cons]
    split <;> omega
def ag1 (w : Int) : Bool := decide (w < 0) || decide (1000000000000 < w)
def ag2 (w : Int) : Bool := decide (w < 1) || decide (1000000000000 < w)
theorem any_no {P : Int → Bool} {ws : List Int} (h : ws.any P = false) {i : Int} (i0 : 0 ≤ i) (i1 : i < ws.length) : P (ix 0 ws i) = false := by
  have := List.any_eq_false.1 h _ (ix_memI i0 i1)
  cases hq : P (ix 0 ws i) with
  | false => rfl
  | true => exact absurd hq this
theorem ag1_no {w : Int} (h : ag1 w = false) : 0 ≤ w ∧ w ≤ 1000000000000 := by
  rw [ag1, Bool.or_eq_false_iff, decide_eq_false_iff_not, decide_eq_false_iff_not] at h; omega
theorem ag2_no {w : Int} (h : ag2 w = false) : 1 ≤ w ∧ w ≤ 1000000000000 := by
  rw [ag2, Bool.or_eq_false_iff, decide_eq_false_iff_not, decide_eq_false_iff_not] at h; omega
theorem ag1_yes {w : Int} (h : ag1 w = true) : ¬ (0 ≤ w ∧ w ≤ 1000000000000) := by
  rw [ag1, Bool.or_eq_true, decide_eq_true_eq, decide_eq_true_eq] at h; omega
theorem ag2_yes {w : Int} (h : ag2 w = true) : ¬ (1 ≤ w ∧ w ≤ 1000000000000) := by
  rw [ag2, Bool.or_eq_true, decide_eq_true_eq, decide_eq_true_eq] at h; omega
theorem any_yes {P : Int → Bool} {ws : List Int} (h : ws.any P = true) : ∃ i : Int, (0 ≤ i ∧ i < ws.length) ∧ P (ix 0 ws i) = true := by
  obtain ⟨x, hx, hp⟩ := List.any_eq_true.1 h
  obtain ⟨i, hi, e⟩ := List.mem_iff_getElem.1 hx
  refine ⟨(i : Int), by omega, ?_⟩
  rw [ix, Int.toNat_natCast, List.getD_eq_getElem?_getD, List.getElem?_eq_getElem hi]
  show P ws[i] = true
  rw [e]; exact hp
theorem agr_bad {n : Int} {worth weight : List Int} (h1 : (worth.length : Int) = n) (h2 : (weight.length : Int) = n) (h : worth.any ag1 = true ∨ weight.any ag2 = true) : ¬ ∀ i : Int, 0 ≤ i → i < n → agr1 worth weight i := by
  intro hh
  rcases h with h | h
  · obtain ⟨i, hi, hp⟩ := any_yes h
    exact ag1_yes hp (hh i hi.1 (by omega)).1
  · obtain ⟨i, hi, hp⟩ := any_yes h
    exact ag2_yes hp (hh i hi.1 (by omega)).2
theorem agr_good {n : Int} {worth weight : List Int} (h1 : (worth.length : Int) = n) (h2 : (weight.length : Int) = n) (h : worth.any ag1 = false ∧ weight.any ag2 = false) : ∀ i : Int, 0 ≤ i → i < n → (0 ≤ ix 0 worth i ∧ ix 0 worth i ≤ 1000000000000) ∧ 1 ≤ ix 0 weight i ∧ ix 0 weight i ≤ 1000000000000 :=
  fun i i0 i1 => ⟨ag1_no (any_no h.1 i0 (by omega)), ag2_no (any_no h.2 i0 (by omega))⟩
theorem mul_lead {w x : Int} (h1 : 1 ≤ w) (h2 : w ≤ 1000000000000) (hx : -243 ≤ x ∧ x ≤ 243) : -243000000000000 ≤ -w * x ∧ -w * x ≤ 243000000000000 := by
  have := mul_lim (w := w) (x := 0 + 243) (y := x + 243) h1 h2
  have a : w * x ≤ w * 243 := Int.mul_le_mul_of_nonneg_left (by omega) (by omega)
  have b : w * (-243) ≤ w * x := Int.mul_le_mul_of_nonneg_left (by omega) (by omega)
  rw [Int.neg_mul]
  omega
theorem agr2_lead {l : List Sale} {worth weight : List Int} {a b : Int} : agr2 l worth weight a b ↔ ¬ (-(ix 0 weight a) * leadS (ix ([], []) l a) (ix ([], []) l b) < ix 0 worth b - ix 0 worth a) := by
  have hD : costV (ix ([], []) l a).1 (ix ([], []) l b).2 - costV (ix ([], []) l a).1 (ix ([], []) l a).2 = -(leadS (ix ([], []) l a) (ix ([], []) l b)) := by rw [leadS, costS, costS]; omega
  rw [agr2, hD, Int.mul_neg, Int.neg_mul]
  omega
theorem PrI.out {g : Int} {l : List Sale} {ring : List Int} {i e : Int} (h : PrI g l ring i e) (he : e ≠ 0) : provesE g l ring = e := by
  rcases h with ⟨h1, _⟩ | ⟨_, h2⟩
  · exact absurd h1 he
  · rw [provesE, ← h2, if_neg he]
theorem prv_no {g : Int} {l : List Sale} {ring : List Int} (h : (0 : Int) = preE g l ring) (hc : closesB (gS l) (bS l) ring = false) : provesE g l ring = 14 := by
  rw [provesE, ← h, if_pos rfl, if_neg (by rw [hc]; decide)]
theorem prv_yes {g : Int} {l : List Sale} {ring : List Int} (h : (0 : Int) = preE g l ring) (hc : closesB (gS l) (bS l) ring = true) : provesE g l ring = 0 := by
  rw [provesE, ← h, if_pos rfl, if_pos hc]
theorem prv_err {g : Int} {l : List Sale} {ring : List Int} (h : ¬ checkE g l = 0) : provesE g l ring = checkE g l := by
  have e : preE g l ring = checkE g l := by rw [preE, if_neg h]
  rw [provesE, e, if_neg h]
theorem PrI.go {g : Int} {l : List Sale} {ring : List Int} (h : checkE g l = 0) : PrI g l ring 0 0 := by
  have := PrI.start (g := g) (l := l) (ring := ring)
  rwa [h] at this
end Go.Proofs.Ytjbcpggikaeleaa

namespace Go.Proofs.Ytjbcpggikaeleaa
open Go.Wk Go
set_option linter.unusedVariables false
/-! ### choices, by numbers -/
def bitB (s i : Int) : Bool := decide (s / 2 ^ i.toNat % 2 = 1)
def outS (n s : Int) : List Int := (rng 0 n).filter (bitB s)
def leftF (l : List Sale) (f : Int → Bool) : List Sale := ((rng 0 l.length).filter fun i => !f i).map fun i => ix ([], []) l i
def leftS (l : List Sale) (s : Int) : List Sale := leftF l (bitB s)
theorem leftF_mem {l : List Sale} {f : Int → Bool} {x : Sale} (h : x ∈ leftF l f) : x ∈ l := by
  obtain ⟨i, hi, rfl⟩ := List.mem_map.1 h
  have := rng_mem.1 (List.mem_filter.1 hi).1
  exact List.mem_of_getElem? (ix_get this.2 this.1)
theorem leftF_len (l : List Sale) (f : Int → Bool) : ((leftF l f).length : Int) ≤ l.length := by
  have h1 := List.length_filter_le (fun i => !f i) (rng 0 l.length)
  have h2 := rng_length (i := 0) (n := (l.length : Int)) (by omega)
  rw [leftF, List.length_map]; omega
theorem check_left {g : Int} {l : List Sale} (h : checkE g l = 0) (f : Int → Bool) : checkE g (leftF l f) = 0 := by
  obtain ⟨h1, h2, h3⟩ := check_ok h
  have := leftF_len l f
  rw [checkE, if_neg (by omega), if_neg (by omega), salesE_ok]
  exact fun s hs => h3 s (leftF_mem hs)
def noR (L : List Sale) : Bool := decide (jdgV L = [])
theorem noR_iff {L : List Sale} : noR L = true ↔ ringsV (gS L) (bS L) L.length = [] := by rw [noR, decide_eq_true_eq, jdg_nil]
/-! ### the least of all choices -/
def stepW (l : List Sale) (st : List Int × Bool) (s : Int) : List Int × Bool := if noR (leftS l s) = true ∧ (st.2 = false ∨ ltRB (outS l.length s) st.1 = true) then (outS l.length s, true) else st
def wrgV (l : List Sale) : List Int := ((rng 0 (2 ^ l.length)).foldl (stepW l) ([], false)).1
/-! ### lists by their length and order -/
def wrongE (g : Int) (l : List Sale) : List Int := if checkE g l = 0 then wrgV l else []
end Go.Proofs.Ytjbcpggikaeleaa

namespace Go.Proofs.Ytjbcpggikaeleaa
open Go.Wk Go
set_option linter.unusedVariables false
theorem bit_and {s i : Int} (h0 : 0 ≤ s) (h1 : s < 64) (i0 : 0 ≤ i) (i1 : i < 6) : bits .and .i64 (s / 2 ^ min i.toNat IntKind.i64.bits) 1 = s / 2 ^ i.toNat % 2 := by
  have key : ∀ a < 64, ∀ b < 6, bits .and .i64 (((a : Nat) : Int) / 2 ^ min (((b : Nat) : Int)).toNat IntKind.i64.bits) 1 = ((a : Nat) : Int) / 2 ^ (((b : Nat) : Int)).toNat % 2 := by decide +kernel
  have := key s.toNat (by omega) i.toNat (by omega)
  rwa [show ((s.toNat : Nat) : Int) = s by omega, show ((i.toNat : Nat) : Int) = i by omega] at this
theorem pow_len {n : Nat} (h : (n : Int) ≤ 6) : IntKind.i64.wrap (1 * 2 ^ min ((n : Int)).toNat IntKind.i64.bits) = 2 ^ n ∧ 1 ≤ (2 : Int) ^ n ∧ (2 : Int) ^ n ≤ 64 := by
  have key : ∀ n < 7, IntKind.i64.wrap (1 * 2 ^ min (((n : Nat) : Int)).toNat IntKind.i64.bits) = 2 ^ n ∧ 1 ≤ (2 : Int) ^ n ∧ (2 : Int) ^ n ≤ 64 := by decide +kernel
  exact key n (by omega)
def lfP (l : List Sale) (f : Int → Bool) (k : Int) : List Sale := ((rng 0 k).filter fun i => !f i).map fun i => ix ([], []) l i
theorem lfP_yes {l : List Sale} {f : Int → Bool} {k : Int} (h : 0 ≤ k) (c : f k = false) : lfP l f (k + 1) = lfP l f k ++ [ix ([], []) l k] := by
  rw [lfP, rng_snoc h, List.filter_append, List.filter_cons, if_pos (by rw [c]; rfl), List.map_append]; rfl
theorem lfP_no {l : List Sale} {f : Int → Bool} {k : Int} (h : 0 ≤ k) (c : f k = true) : lfP l f (k + 1) = lfP l f k := by
  rw [lfP, rng_snoc h, List.filter_append, List.filter_cons, if_neg (by rw [c]; decide), List.filter_nil, List.append_nil]; rfl
def otP (s k : Int) : List Int := (rng 0 k).filter (bitB s)
theorem otP_yes {s k : Int} (h : 0 ≤ k) (c : bitB s k = true) : otP s (k + 1) = otP s k ++ [k] := by
  rw [otP, rng_snoc h, List.filter_append, List.filter_cons, if_pos c]; rfl
theorem otP_no {s k : Int} (h : 0 ≤ k) (c : bitB s k = false) : otP s (k + 1) = otP s k := by
  rw [otP, rng_snoc h, List.filter_append, List.filter_cons, if_neg (by rw [c]; decide), List.filter_nil, List.append_nil]; rfl
theorem step_yes {l : List Sale} {best : List Int} {fd : Bool} {s : Int} (c : fd = false ∨ ((outS l.length s).length : Int) ≤ best.length ∧ (¬ ((outS l.length s).length : Int) = best.length ∨ ¬ 0 < cmpL (outS l.length s) best)) (hn : jdgV (leftS l s) = []) : stepW l (best, fd) s = (outS l.length s, true) := by
  have hn' : noR (leftS l s) = true := decide_eq_true hn
  rw [stepW]
  by_cases hc : noR (leftS l s) = true ∧ ((best, fd).2 = false ∨ ltRB (outS l.length s) (best, fd).1 = true)
  · rw [if_pos hc]
  · rw [if_neg hc]
    have h1 : fd = true := by cases fd with | true => rfl | false => exact absurd ⟨hn', .inl rfl⟩ hc
    have h2 : ¬ ltR (outS l.length s) best := fun k => hc ⟨hn', .inr (ltRB_iff.2 k)⟩
    rcases c with c | ⟨c1, c2⟩
    · rw [h1] at c; cases c
    · have hl : ¬ (outS l.length s).length < best.length := fun k => h2 (.inl k)
      have he : (outS l.length s).length = best.length := by omega
      have hg : ¬ 0 < cmpL (outS l.length s) best := c2.resolve_left (fun k => k (by omega))
      have hlt : ¬ ltL (outS l.length s) best := fun k => h2 (.inr ⟨he, k⟩)
      rcases ltL_total (outS l.length s) best with k | k | k
      · exact absurd k hlt
      · rw [← k, h1]
      · exfalso
        have : 0 < cmpL (outS l.length s) best := by
          have sym : ∀ (p q : List Int), ltL p q → 0 < cmpL q p := by
            intro p
            induction p with
            | nil => intro q h; cases q with | nil => exact absurd h (by simp [ltL]) | cons b q => show (0 : Int) < 1; decide
            | cons a p ih =>
              intro q h
              cases q with
              | nil => exact absurd h (by simp [ltL])
              | cons b q =>
                have h' : a < b ∨ (a = b ∧ ltL p q) := h
                rw [cmpL, cmpI]
                rcases h' with h' | ⟨rfl, h'⟩
                · rw [if_neg (show ¬ b < a by omega), if_pos h']; simp
                · rw [if_neg (Int.lt_irrefl a)]; simp; exact ih q h'
          exact sym _ _ k
        exact hg this
theorem step_no {l : List Sale} {st : List Int × Bool} {s : Int} (hn : jdgV (leftS l s) ≠ []) : stepW l st s = st := by
  rw [stepW, if_neg (fun k => hn (of_decide_eq_true k.1))]
theorem step_skip {l : List Sale} {best : List Int} {fd : Bool} {s : Int} (c : fd = true ∧ ((best.length : Int) < (outS l.length s).length ∨ ((outS l.length s).length : Int) = best.length ∧ 0 < cmpL (outS l.length s) best)) : stepW l (best, fd) s = (best, fd) := by
  rw [stepW, if_neg]
  rintro ⟨_, h | h⟩
  · rw [c.1] at h; cases h
  · rcases ltRB_iff.1 h with h | ⟨h1, h2⟩
    · rcases c.2 with k | k
      · have h' : (outS l.length s).length < best.length := h
        omega
      · have h' : (outS l.length s).length < best.length := h
        omega
    · have h2' := cmpL_lt.2 h2
      rcases c.2 with k | k
      · have h1' : (outS l.length s).length = best.length := h1
        omega
      · have h2'' : cmpL (outS l.length s) best < 0 := h2'
        omega
theorem wr_cond {fd : Bool} {n m : Int} {q : Prop} (c : fd = false ∨ ¬ m < n ∧ (¬ n = m ∨ q)) : fd = false ∨ n ≤ m ∧ (¬ n = m ∨ q) := by
  rcases c with c | ⟨c1, c2⟩
  · exact .inl c
  · exact .inr ⟨by omega, c2⟩
end Go.Proofs.Ytjbcpggikaeleaa

namespace Go.Wk
open Go.RowKit Go.ChangeShapes
section
variable {H : Type} {enc : TypeId × Value → H} {P : Program} {W : World}
end
section
variable {P : Program} {σ : Fr} {w : World} {x : Operand} {ty : TypeId}
end
end Go.Wk

namespace Go.Proofs.Ytjbcpggikaeleaa
open Go.Wk Go
set_option linter.unusedVariables false
def sS : List Sale := [([1, 2], [2, 1]), ([2, 1], [1, 2]), ([1, 1], [2, 2])]
def sT : List Sale := [([2, 1], [2, 1]), ([1, 2], [1, 2])]
theorem all_rng {n : Int} {P : Int → Prop} [DecidablePred P] : (rng 0 n).all (fun i => decide (P i)) = true ↔ ∀ i : Int, 0 ≤ i → i < n → P i := by
  rw [List.all_eq_true]
  exact ⟨fun h i i0 i1 => of_decide_eq_true (h i (rng_mem.2 ⟨i0, i1⟩)), fun h i hi => decide_eq_true (h i (rng_mem.1 hi).1 (rng_mem.1 hi).2)⟩
instance (worth weight : List Int) (i : Int) : Decidable (agr1 worth weight i) := by unfold agr1; infer_instance
instance (l : List Sale) (worth weight : List Int) (a b : Int) : Decidable (agr2 l worth weight a b) := by unfold agr2; infer_instance
def agrC (g : Int) (l : List Sale) (worth weight : List Int) : Int :=
  if checkE g l = 0 then (if (worth.length : Int) = l.length ∧ (weight.length : Int) = l.length then
    (if (rng 0 l.length).all (fun i => decide (agr1 worth weight i)) = true then (if (rng 0 l.length).all (fun a => (rng 0 l.length).all fun b => decide (agr2 l worth weight a b)) = true then 0 else 14) else 1) else 5) else checkE g l
theorem agrC_eq (g : Int) (l : List Sale) (worth weight : List Int) : agreesE g l worth weight = agrC g l worth weight := by
  have e2 : (∀ a b : Int, 0 ≤ a → a < l.length → 0 ≤ b → b < l.length → agr2 l worth weight a b) ↔ (rng 0 l.length).all (fun a => (rng 0 l.length).all fun b => decide (agr2 l worth weight a b)) = true := by
    rw [List.all_eq_true]
    constructor
    · intro h a ha
      rw [all_rng]
      exact fun b b0 b1 => h a b (rng_mem.1 ha).1 (rng_mem.1 ha).2 b0 b1
    · intro h a b a0 a1 b0 b1
      exact all_rng.1 (h a (rng_mem.2 ⟨a0, a1⟩)) b b0 b1
  rw [agreesE, agrC]
  by_cases h0 : checkE g l = 0
  · rw [if_pos h0, if_pos h0]
    by_cases h1 : (worth.length : Int) = l.length ∧ (weight.length : Int) = l.length
    · rw [if_pos h1, if_pos h1]
      by_cases h2 : ∀ i : Int, 0 ≤ i → i < l.length → agr1 worth weight i
      · rw [if_pos h2, if_pos (all_rng.2 h2)]
        by_cases h3 : ∀ a b : Int, 0 ≤ a → a < l.length → 0 ≤ b → b < l.length → agr2 l worth weight a b
        · rw [if_pos h3, if_pos (e2.1 h3)]
        · rw [if_neg h3, if_neg (fun k => h3 (e2.2 k))]
      · rw [if_neg h2, if_neg (fun k => h2 (all_rng.1 k))]
    · rw [if_neg h1, if_neg h1]
  · rw [if_neg h0, if_neg h0]
theorem num_bad {g : Int} {l : List Sale} (h : ¬ checkE g l = 0 ∨ tasteE g l = false) : numX g l = (if checkE g l = 0 then 13 else checkE g l) ∧ numW g l = [] ∧ numU g l = [] := by
  by_cases h0 : checkE g l = 0
  · have ht : tasteE g l = false := h.resolve_left (fun k => k h0)
    have hj : jdgV l ≠ [] := fun e => by rw [taste_yes h0 e] at ht; cases ht
    rw [if_pos h0]; exact num_ring h0 hj
  · rw [if_neg h0]; exact num_err h0
theorem num_good {g : Int} {l : List Sale} (h : checkE g l = 0 ∧ tasteE g l = true) : numX g l = 0 ∧ agreesE g l (numW g l) (numU g l) = 0 := by
  have hj : jdgV l = [] := Classical.byContradiction fun e => by have := taste_no h.1 e; rw [h.2] at this; cases this
  obtain ⟨h1, h2, h3⟩ := num_ok h.1 hj
  exact ⟨h1, by rw [h2, h3]; exact num_agrees h.1 hj⟩
end Go.Proofs.Ytjbcpggikaeleaa

namespace Go.Wk
open Go.RowKit
theorem ix_zero_or {zs : List Int} (j : Int) : ix 0 zs j = 0 ∨ ix 0 zs j ∈ zs := by
  rw [ix, List.getD_eq_getElem?_getD]
  cases h : zs[j.toNat]? with
  | none => exact .inl rfl
  | some x => exact .inr (List.mem_of_getElem? h)
theorem ix_u8 {zs : List Int} (h : ∀ z ∈ zs, InK .u8 z) (j : Int) : 0 ≤ ix 0 zs j ∧ ix 0 zs j ≤ 255 := by
  rcases ix_zero_or (zs := zs) j with hj | hj
  · rw [hj]; omega
  · exact bd_u8 (h _ hj)
end Go.Wk

namespace Go.Proofs.Ytjbcpggikaeleaa
open Go.Wk Go.RowKit
def shG (zs : List Int) : Int := 1 + ix 0 zs 0 % 3
def shS (g : Int) (s : Sale) : Prop := okS g s ∧ ∀ x ∈ s.1, x ≤ 4
def shopP (zs : List Int) (most : Int) (l : List Sale) : Prop := (l.length : Int) = ix 0 zs 1 % (most + 1) ∧ ∀ s ∈ l, shS (shG zs) s
theorem shG_bd (zs : List Int) : 1 ≤ shG zs ∧ shG zs ≤ 3 := by rw [shG]; omega
theorem snoc_all {α : Type} {Q : α → Prop} {l : List α} {x : α} (h : ∀ y ∈ l, Q y) (hx : Q x) : ∀ y ∈ l ++ [x], Q y := by
  intro y hy
  rcases List.mem_append.1 hy with hy | hy
  · exact h y hy
  · rw [List.mem_singleton.1 hy]; exact hx
theorem shop_one {zs p t : List Int} (hp : (p.length : Int) = shG zs) (ht : (t.length : Int) = shG zs) (bp : ∀ x ∈ p, 1 ≤ x ∧ x ≤ 4) (bt : ∀ x ∈ t, 0 ≤ x ∧ x ≤ 4) : shS (shG zs) (p, t) :=
  ⟨⟨⟨hp, ht⟩, fun x hx => by have := bp x hx; omega, fun x hx => by have := bt x hx; omega⟩, fun x hx => (bp x hx).2⟩
theorem take3 {x y z g : Int} (hx : 0 ≤ x ∧ x ≤ 4) (hy : 0 ≤ y ∧ y ≤ 4) (hz : 0 ≤ z ∧ z ≤ 4) : ∀ q ∈ ([x, y, z] : List Int).take g.toNat, 0 ≤ q ∧ q ≤ 4 := by
  intro q hq
  have := List.mem_of_mem_take hq
  simp only [List.mem_cons, List.not_mem_nil, or_false] at this
  rcases this with rfl | rfl | rfl <;> assumption
theorem len3 {x y z g : Int} (h : 1 ≤ g ∧ g ≤ 3) : ((([x, y, z] : List Int).take g.toNat).length : Int) = g := by
  rw [List.length_take]; simp only [List.length_cons, List.length_nil]; omega
theorem mul16 {a b : Int} (ha : 1 ≤ a ∧ a ≤ 4) (hb : 0 ≤ b ∧ b ≤ 4) : 0 ≤ a * b ∧ a * b ≤ 16 := by
  have h1 := Int.mul_nonneg (show 0 ≤ a by omega) hb.1
  have h2 := Int.mul_le_mul ha.2 hb.2 hb.1 (by decide)
  exact ⟨h1, by omega⟩
theorem mul7 {w f : Int} (hw : 1 ≤ w) (hf : 1 ≤ f ∧ f ≤ 7) : 1 ≤ w * f ∧ w * f ≤ 7 * w := by
  have h1 := Int.mul_le_mul hw hf.1 (by decide) (by omega)
  have h2 := Int.mul_le_mul_of_nonneg_left hf.2 (show 0 ≤ w by omega)
  exact ⟨by omega, by omega⟩
theorem shop_ok {zs : List Int} {most : Int} {l : List Sale} (h0 : 0 ≤ most) (h6 : most ≤ 6) (h : shopP zs most l) : checkE (shG zs) l = 0 ∧ SalesOK l ∧ (l.length : Int) ≤ most := by
  have hg := shG_bd zs
  have hm := Int.emod_lt_of_pos (ix 0 zs 1) (show 0 < most + 1 by omega)
  have hc : checkE (shG zs) l = 0 := by
    rw [checkE, if_neg (by omega), if_neg (by have := h.1; omega)]
    exact salesE_ok.2 fun s hs => (h.2 s hs).1
  exact ⟨hc, SalesOK.of hc, by have := h.1; omega⟩
theorem cost_cons {p t : List Int} {k : Int} (h0 : 0 ≤ k) (h1 : k < p.length) (h2 : k < t.length) : costV (p.drop k.toNat) (t.drop k.toNat) = ix 0 p k * ix 0 t k + costV (p.drop (k + 1).toNat) (t.drop (k + 1).toNat) := by
  rw [drop_ix (d := (0 : Int)) h0 h1, drop_ix (d := (0 : Int)) h0 h2]; rfl
theorem lead_next {p q t : List Int} {k out r : Int} (h0 : 0 ≤ k) (h1 : k < p.length) (h2 : k < q.length) (h3 : k < t.length) (h : out + (costV (p.drop k.toNat) (q.drop k.toNat) - costV (p.drop k.toNat) (t.drop k.toNat)) = r) :
    out + ix 0 p k * (ix 0 q k - ix 0 t k) + (costV (p.drop (k + 1).toNat) (q.drop (k + 1).toNat) - costV (p.drop (k + 1).toNat) (t.drop (k + 1).toNat)) = r := by
  rw [cost_cons h0 h1 h2, cost_cons h0 h1 h3] at h
  rw [← h, Int.mul_sub]; omega
theorem lead_end {p q t : List Int} {k out r : Int} (h1 : (p.length : Int) ≤ k) (h : out + (costV (p.drop k.toNat) (q.drop k.toNat) - costV (p.drop k.toNat) (t.drop k.toNat)) = r) : r = out := by
  rw [drop_end h1] at h
  rw [← h]; simp [costV]
theorem mul81 {a b c : Int} (ha : 1 ≤ a ∧ a ≤ 9) (hb : 0 ≤ b ∧ b ≤ 9) (hc : 0 ≤ c ∧ c ≤ 9) : -81 ≤ a * (b - c) ∧ a * (b - c) ≤ 81 := by
  have h1 := mul_bd ha hb
  have h2 := mul_bd ha hc
  rw [Int.mul_sub]; omega
end Go.Proofs.Ytjbcpggikaeleaa

namespace Go.Proofs.Ytjbcpggikaeleaa
open Go.Wk Go.RowKit
set_option linter.unusedVariables false
/-! ### a table of six by six -/
def tbR (ys : List Bool) : Rel := fun a b => ix false ys (a * 6 + b)
theorem ix_setB {zs : List Bool} {n j : Int} {x : Bool} (hn : 0 ≤ n) (hl : n < zs.length) (hj : 0 ≤ j) : ix false (zs.set n.toNat x) j = if j = n then x else ix false zs j := by
  simp only [ix, List.getD_eq_getElem?_getD]
  rw [List.getElem?_set]
  by_cases h : j = n
  · subst h
    rw [if_pos rfl, if_pos (by omega), if_pos rfl]; rfl
  · rw [if_neg (by omega), if_neg h]
theorem tb_set {ys : List Bool} {a b x y : Int} {v : Bool} (hl : (ys.length : Int) = 36) (ha : 0 ≤ a ∧ a < 6) (hb : 0 ≤ b ∧ b < 6) (hx : 0 ≤ x ∧ x < 6) (hy : 0 ≤ y ∧ y < 6) : tbR (ys.set (a * 6 + b).toNat v) x y = if x = a ∧ y = b then v else tbR ys x y := by
  rw [tbR, ix_setB (by omega) (by omega) (by omega)]
  by_cases h : x = a ∧ y = b
  · rw [if_pos (by omega), if_pos h]
  · rw [if_neg (by omega), if_neg h]; rfl
section
variable {G : Rel} {n : Int}
theorem tb_fill {ys : List Bool} {a b : Int} {v : Bool} (hn : n ≤ 6) (hl : (ys.length : Int) = 36) (ha : 0 ≤ a ∧ a < n) (hb : 0 ≤ b ∧ b < n) (hv : v = G a b) (h : fillI G n a b (tbR ys)) : fillI G n a (b + 1) (tbR (ys.set (a * 6 + b).toNat v)) := by
  intro i j hi hj hc
  rw [tb_set hl (by omega) (by omega) (by omega) (by omega)]
  by_cases e : i = a ∧ j = b
  · rw [if_pos e, hv, e.1, e.2]
  · rw [if_neg e]; exact h i j hi hj (by omega)
def rchLe (G : Rel) (n r x y : Int) : Prop := ∃ d : Nat, (d : Int) ≤ r ∧ rchB G n y d x = true
def RngI (G : Rel) (n r a b c : Int) (T : Rel) : Prop :=
  (∀ x y, (0 ≤ x ∧ x < n) → (0 ≤ y ∧ y < n) → T x y = true → ledB G n x y = true) ∧ (∀ x y, (0 ≤ x ∧ x < n) → (0 ≤ y ∧ y < n) → rchLe G n r x y → T x y = true) ∧
  ∀ x z y, (0 ≤ x ∧ x < n) → (0 ≤ z ∧ z < n) → (0 ≤ y ∧ y < n) → (x < a ∨ (x = a ∧ (z < b ∨ (z = b ∧ y < c)))) → G x z = true → rchLe G n r z y → T x y = true
theorem rg_start {a b : Int} {T : Rel} (hG : ∀ i, 0 ≤ i → i < n → G i i = true) (h : fillI G n a b T) (ha : n ≤ a) : RngI G n 1 0 0 0 T := by
  have e : ∀ x y, (0 ≤ x ∧ x < n) → (0 ≤ y ∧ y < n) → T x y = G x y := fun x y hx hy => h x y hx hy (by omega)
  refine ⟨fun x y hx hy ht => led_one hx hy (by rw [← e x y hx hy]; exact ht), fun x y hx hy hr => ?_, fun x z y hx hz hy hc => by omega⟩
  rw [e x y hx hy]
  obtain ⟨d, hd, hr⟩ := hr
  match d, hd, hr with
  | 0, _, hr => rw [show x = y from of_decide_eq_true hr]; exact hG y hy.1 hy.2
  | 1, _, hr =>
    obtain ⟨k, hk, h1, h2⟩ := rch_step.1 hr
    rw [show k = y from of_decide_eq_true h2] at h1; exact h1
  | d + 2, hd, _ => omega
theorem rg_step {r a b c : Int} {ys : List Bool} (hn : n ≤ 6) (hl : (ys.length : Int) = 36) (hr : 1 ≤ r) (ha : 0 ≤ a ∧ a < n) (hb : 0 ≤ b ∧ b < n) (hc : 0 ≤ c ∧ c < n) (h : RngI G n r a b c (tbR ys)) :
    RngI G n r a b (c + 1) (tbR (ys.set (a * 6 + c).toNat (tbR ys a c || (tbR ys a b && tbR ys b c)))) := by
  have up : ∀ x y, (0 ≤ x ∧ x < n) → (0 ≤ y ∧ y < n) → tbR ys x y = true → tbR (ys.set (a * 6 + c).toNat (tbR ys a c || (tbR ys a b && tbR ys b c))) x y = true := by
    intro x y hx hy ht
    rw [tb_set hl (by omega) (by omega) (by omega) (by omega)]
    by_cases e : x = a ∧ y = c
    · rw [if_pos e, ← e.1, ← e.2, ht, Bool.true_or]
    · rw [if_neg e]; exact ht
  refine ⟨fun x y hx hy ht => ?_, fun x y hx hy hk => up x y hx hy (h.2.1 x y hx hy hk), fun x z y hx hz hy hlt hg hk => ?_⟩
  · rw [tb_set hl (by omega) (by omega) (by omega) (by omega)] at ht
    by_cases e : x = a ∧ y = c
    · rw [if_pos e, Bool.or_eq_true, Bool.and_eq_true] at ht
      rw [e.1, e.2]
      rcases ht with ht | ⟨h1, h2⟩
      · exact h.1 a c ha hc ht
      · exact led_trans ha hb hc (h.1 a b ha hb h1) (h.1 b c hb hc h2)
    · rw [if_neg e] at ht; exact h.1 x y hx hy ht
  · by_cases e : x = a ∧ z = b ∧ y = c
    · obtain ⟨rfl, rfl, rfl⟩ := e
      rw [tb_set hl (by omega) (by omega) (by omega) (by omega), if_pos ⟨rfl, rfl⟩, Bool.or_eq_true, Bool.and_eq_true]
      exact .inr ⟨h.2.1 x z hx hz ⟨1, by omega, rch_step.2 ⟨z, hz, hg, decide_eq_true rfl⟩⟩, h.2.1 z y hz hy hk⟩
    · exact up x y hx hy (h.2.2 x z y hx hz hy (by omega) hg hk)
theorem rg_col {r a b c : Int} {T : Rel} (h : RngI G n r a b c T) (hc : n ≤ c) : RngI G n r a (b + 1) 0 T := ⟨h.1, h.2.1, fun x z y hx hz hy hk => h.2.2 x z y hx hz hy (by omega)⟩
theorem rg_row {r a b c : Int} {T : Rel} (h : RngI G n r a b c T) (hb : n ≤ b) : RngI G n r (a + 1) 0 0 T := ⟨h.1, h.2.1, fun x z y hx hz hy hk => h.2.2 x z y hx hz hy (by omega)⟩
theorem rg_next {r a b c : Int} {T : Rel} (hr : 0 ≤ r) (h : RngI G n r a b c T) (ha : n ≤ a) : RngI G n (r + 1) 0 0 0 T := by
  refine ⟨h.1, fun x y hx hy hk => ?_, fun x z y hx hz hy hc => by omega⟩
  obtain ⟨d, hd, hk⟩ := hk
  by_cases e : (d : Int) ≤ r
  · exact h.2.1 x y hx hy ⟨d, e, hk⟩
  · match d, hd, hk, e with
    | 0, _, _, e => exact absurd hr (by omega)
    | d + 1, hd, hk, e =>
      obtain ⟨z, hz, h1, h2⟩ := rch_step.1 hk
      exact h.2.2 x z y hx hz hy (by omega) h1 ⟨d, by omega, h2⟩
theorem rg_end {r : Int} {T : Rel} (h : RngI G n r 0 0 0 T) (hr : n ≤ r) : ∀ x y, (0 ≤ x ∧ x < n) → (0 ≤ y ∧ y < n) → T x y = ledB G n x y := by
  intro x y hx hy
  rw [Bool.eq_iff_iff]
  refine ⟨h.1 x y hx hy, fun hk => h.2.1 x y hx hy ?_⟩
  rw [ledB, List.any_eq_true] at hk
  obtain ⟨d, hd, hk⟩ := hk
  exact ⟨d, by rw [List.mem_range] at hd; omega, hk⟩
end
/-! ### whether there is a ring -/
theorem noR_false {l : List Sale} {a b : Int} (ha : 0 ≤ a ∧ a < l.length) (hb : 0 ≤ b ∧ b < l.length) (h : bS l a b = true) (k : ledB (gS l) l.length b a = true) : noR l = false := by
  have := ring_of (bS_gS l) ha hb h k
  rw [← Bool.not_eq_true, noR_iff]; exact this
theorem noR_true {l : List Sale} {a : Int} (ha : (l.length : Int) ≤ a) (h : ∀ x y, (0 ≤ x ∧ x < (l.length : Int)) → (0 ≤ y ∧ y < (l.length : Int)) → x < a → ¬ (bS l x y = true ∧ ledB (gS l) l.length y x = true)) : noR l = true := by
  rw [noR_iff]
  refine Decidable.byContradiction fun hne => ?_
  obtain ⟨x, y, hx, hy, h1, h2⟩ := (ring_iff (bS_gS l)).1 hne
  exact h x y hx hy (by omega) ⟨h1, h2⟩
/-! ### whether numbers are right -/
def nbP (l : List Sale) (worth weight : List Int) : Prop :=
  ((worth.length : Int) = l.length ∧ (weight.length : Int) = l.length) ∧ (∀ i : Int, 0 ≤ i → i < l.length → agr1 worth weight i) ∧ ∀ a b : Int, 0 ≤ a → a < l.length → 0 ≤ b → b < l.length → agr2 l worth weight a b
open Classical in
noncomputable def nbB (l : List Sale) (worth weight : List Int) : Bool := decide (nbP l worth weight)
theorem nb_agrees {g : Int} {l : List Sale} {worth weight : List Int} (h : checkE g l = 0) : agreesE g l worth weight = 0 ↔ nbP l worth weight := by
  rw [agreesE, if_pos h, nbP]
  by_cases h1 : (worth.length : Int) = l.length ∧ (weight.length : Int) = l.length
  · rw [if_pos h1]
    by_cases h2 : ∀ i : Int, 0 ≤ i → i < l.length → agr1 worth weight i
    · rw [if_pos h2]
      by_cases h3 : ∀ a b : Int, 0 ≤ a → a < l.length → 0 ≤ b → b < l.length → agr2 l worth weight a b
      · rw [if_pos h3]; exact ⟨fun _ => ⟨h1, h2, h3⟩, fun _ => rfl⟩
      · rw [if_neg h3]; exact ⟨fun k => absurd k (by decide), fun k => absurd k.2.2 h3⟩
    · rw [if_neg h2]; exact ⟨fun k => absurd k (by decide), fun k => absurd k.2.1 h2⟩
  · rw [if_neg h1]; exact ⟨fun k => absurd k (by decide), fun k => absurd k.1 h1⟩
/-! ### the walk of the tests -/
theorem mul_ld {w x : Int} (h1 : 1 ≤ w) (h2 : w ≤ 1000000000000) (hx : -243 ≤ x ∧ x ≤ 243) : -243000000000000 ≤ w * x ∧ w * x ≤ 243000000000000 := by
  have a : w * x ≤ w * 243 := Int.mul_le_mul_of_nonneg_left hx.2 (by omega)
  have b : w * (-243) ≤ w * x := Int.mul_le_mul_of_nonneg_left hx.1 (by omega)
  omega
theorem lead_bd9 {g : Int} {s t : Sale} (hs : OkAt g s) (hg : g ≤ 3) (ht : OkAt g t) : -243 ≤ leadS s t ∧ leadS s t ≤ 243 := by
  have h1 := hs.cost hg hs
  have h2 := hs.cost hg ht
  show -243 ≤ costV s.1 s.2 - costV s.1 t.2 ∧ _
  exact ⟨by omega, by show costV s.1 s.2 - costV s.1 t.2 ≤ 243; omega⟩
open Classical in
theorem nbB_true {l : List Sale} {worth weight : List Int} (h : nbP l worth weight) : nbB l worth weight = true := decide_eq_true h
open Classical in
theorem nbB_len {l : List Sale} {worth weight : List Int} (h : ¬ (worth.length : Int) = l.length ∨ ¬ (weight.length : Int) = l.length) : nbB l worth weight = false := decide_eq_false fun k => by have := k.1; omega
open Classical in
theorem nbB_one {l : List Sale} {worth weight : List Int} {i : Int} (h0 : 0 ≤ i) (h1 : i < l.length) (h : ¬ agr1 worth weight i) : nbB l worth weight = false := decide_eq_false fun k => h (k.2.1 i h0 h1)
open Classical in
theorem nbB_two {l : List Sale} {worth weight : List Int} {a b : Int} (a0 : 0 ≤ a) (a1 : a < l.length) (b0 : 0 ≤ b) (b1 : b < l.length) (h : ¬ agr2 l worth weight a b) : nbB l worth weight = false := decide_eq_false fun k => h (k.2.2 a b a0 a1 b0 b1)
theorem agr2_is {l : List Sale} {worth weight : List Int} {a b : Int} : agr2 l worth weight a b ↔ ¬ ix 0 worth a - ix 0 weight a * leadS (ix ([], []) l a) (ix ([], []) l b) < ix 0 worth b := by
  rw [agr2_lead, Int.neg_mul]; omega
end Go.Proofs.Ytjbcpggikaeleaa

namespace Go.Proofs.Ytjbcpggikaeleaa
open Go.Wk Go.RowKit
set_option linter.unusedVariables false
theorem taste_noR {g : Int} {l : List Sale} (h : checkE g l = 0) : tasteE g l = noR l := by
  rw [tasteE, decide_eq_true h, Bool.true_and, Bool.eq_iff_iff, decide_eq_true_eq, noR_iff]
theorem rings_in {l : List Sale} (h : noR l = false) : ix [] (ringsV (gS l) (bS l) l.length) 0 ∈ ringsV (gS l) (bS l) l.length := by
  have hne : ringsV (gS l) (bS l) l.length ≠ [] := fun k => by rw [← noR_iff, h] at k; cases k
  match hr : ringsV (gS l) (bS l) l.length, hne with
  | a :: r, _ => exact List.mem_cons_self
theorem af_yes {g : Int} {l : List Sale} (h : checkE g l = 0) (hn : noR l = true) : numX g l = 0 ∧ nbB l (numW g l) (numU g l) = true ∧ agreesE g l (numW g l) (numU g l) = 0 ∧ ringX g l = 13 ∧ ringE g l = [] := by
  have hr := noR_iff.1 hn
  obtain ⟨h1, h2⟩ := num_good ⟨h, by rw [taste_noR h]; exact hn⟩
  exact ⟨h1, nbB_true ((nb_agrees h).1 h2), h2, by rw [ringX, if_pos h, if_pos hr], by rw [ringE, if_pos h, hr]; rfl⟩
theorem af_no {g : Int} {l : List Sale} (h : checkE g l = 0) (hn : noR l = false) : numX g l = 13 ∧ numW g l = [] ∧ numU g l = [] ∧ ringX g l = 0 ∧ ringP (gS l) (bS l) l.length (ringE g l) := by
  have hne : ringsV (gS l) (bS l) l.length ≠ [] := fun k => by rw [← noR_iff, hn] at k; cases k
  obtain ⟨h1, h2, h3⟩ := num_bad (.inr (show tasteE g l = false by rw [taste_noR h]; exact hn))
  refine ⟨by rw [h1, if_pos h], h2, h3, by rw [ringX, if_pos h, if_neg hne], ?_⟩
  rw [ringE, if_pos h]
  exact mem_rings.1 (rings_in hn)
end Go.Proofs.Ytjbcpggikaeleaa

namespace Go.Proofs.Ytjbcpggikaeleaa
open Go.Wk Go.RowKit
set_option linter.unusedVariables false
section
variable {G B : Rel} {n : Int}
theorem chain_pot {S : Int → Prop} {w : Int → Int} (hG : ∀ x y, S x → S y → G x y = true → w y ≤ w x) : ∀ {e : List Int} {a : Int}, chainP G a e → S a → (∀ x ∈ e, S x) → w (topI (a :: e)) ≤ w a
  | [], a, _, _, _ => Int.le_refl _
  | x :: e, a, h, ha, hS => by
    have h1 := hG a x ha (hS x (by simp)) h.1
    have h2 := chain_pot hG h.2 (hS x (by simp)) fun y hy => hS y (by simp [hy])
    rw [top_cons]; omega
theorem any_pot {S : Int → Prop} {w : Int → Int} (hG : ∀ x y, S x → S y → G x y = true → w y ≤ w x) (hB : ∀ x y, S x → S y → B x y = true → w y < w x) : ∀ {e : List Int} {a : Int}, chainP G a e → anyP B a e → S a → (∀ x ∈ e, S x) → w (topI (a :: e)) < w a
  | [], a, _, h, _, _ => h.elim
  | x :: e, a, h, hb, ha, hS => by
    have hx := hS x (by simp)
    have he : ∀ y ∈ e, S y := fun y hy => hS y (by simp [hy])
    rw [top_cons]
    rcases hb with hb | hb
    · have h1 := hB a x ha hx hb
      have h2 := chain_pot hG h.2 hx he
      omega
    · have h1 := hG a x ha hx h.1
      have h2 := any_pot hG hB h.2 hb hx he
      omega
end
/-! ### what is left out -/
end Go.Proofs.Ytjbcpggikaeleaa

namespace Go.Proofs.Ytjbcpggikaeleaa
open Go.Wk Go.RowKit
set_option linter.unusedVariables false
end Go.Proofs.Ytjbcpggikaeleaa

namespace Go.Proofs.Ytjbcpggikaeleaa
open Go.Wk Go.RowKit
set_option linter.unusedVariables false
end Go.Proofs.Ytjbcpggikaeleaa

namespace Go.Proofs.Ytjbcpggikaeleaa
open Go.Wk Go.RowKit
set_option linter.unusedVariables false
/-! ### turned round -/
section
variable {α : Type} {d : α}
end
/-! ### goods turned round -/
/-! ### prices doubled -/
/-! ### in another order -/
end Go.Proofs.Ytjbcpggikaeleaa

namespace Go.Proofs.Ytjbcpggikaeleaa
open Go.Wk Go.RowKit
set_option linter.unusedVariables false
def EachN (P : Go.Program) (fe : Go.FuncId) (fs cs : List Go.Value) (n : Int) (Tl : List (List Int) → List Ob → Prop) : Prop :=
  ∀ (ls : List (List Int)) (l : List Int) (lv : Go.Value) (pre ob : List Ob) (w0 w : Go.World) (O : List (Option Nat)), 1 ≤ (l.length : Int) → (l.length : Int) ≤ n → (∀ x ∈ l, 0 ≤ x ∧ x < n) → l.Nodup → Tl ls ob → St w0 O w (pre ++ ob) → V (tSl (tI .i64)) l lv (fb (pre ++ ob) O) w →
    Go.Calls P fe (fs ++ [lv] ++ cs).toArray w (Bk fun r w' => r = .tuple #[] ∧ ∃ ob', Tl (ls ++ [l]) ob' ∧ St w0 O w' (pre ++ ob'))
theorem eachN_pre {P : Go.Program} {fe : Go.FuncId} {fs cs : List Go.Value} {n : Int} {Tl : List (List Int) → List Ob → Prop} (h : EachN P fe fs cs n Tl) (A : List Ob) : EachN P fe fs cs n (fun ls ob => ∃ ob', ob = A ++ ob' ∧ Tl ls ob') := by
  rintro ls l lv pre ob w0 w O h1 hl hb hd ⟨ob', rfl, hT⟩ hS hv
  rw [← List.append_assoc] at hS hv
  refine (h ls l lv (pre ++ A) ob' w0 w O h1 hl hb hd hT hS hv).mono ?_
  rintro e w' ⟨r, he, hr, ob2, hT2, hS2⟩
  exact ⟨r, he, hr, A ++ ob2, ⟨ob2, rfl, hT2⟩, by rw [← List.append_assoc]; exact hS2⟩
/-! ### all lists -/
def allX (n : Int) (g : List Int → List (List Int)) (begun : List Int) : Nat → List (List Int)
  | 0 => []
  | k + 1 => (if hasL begun (n - (k + 1)) = true then [] else g (begun ++ [n - (k + 1)])) ++ allX n g begun k
def hdL (l : List Int) : List (List Int) := if l = [] then [] else [l]
def allP (n : Int) : Nat → List Int → List (List Int)
  | 0, _ => []
  | m + 1, l => hdL l ++ allX n (allP n m) l n.toNat
def allQ (n : Int) : List (List Int) := allP n (n + 1).toNat []
theorem allX_cons (n : Int) (g : List Int → List (List Int)) (begun : List Int) {x : Int} (h : x < n) :
    allX n g begun (n - x).toNat = (if hasL begun x = true then [] else g (begun ++ [x])) ++ allX n g begun (n - (x + 1)).toNat := by
  rw [show (n - x).toNat = (n - (x + 1)).toNat + 1 by omega, allX, show n - (((n - (x + 1)).toNat : Nat) + 1 : Int) = x by omega]
theorem snoc_nodup {l : List Int} {n x : Int} (hn : 0 ≤ n) (h : l.Nodup) (hb : ∀ y ∈ l, 0 ≤ y ∧ y < n) (h0 : 0 ≤ x) (h1 : x < n) (hx : hasL l x = false) : (l ++ [x]).Nodup ∧ (l.length : Int) + 1 ≤ n := by
  have hx' : x ∉ l := fun k => by rw [hasL_iff.2 k] at hx; cases hx
  have hd : (l ++ [x]).Nodup := List.pairwise_append.2 ⟨h, List.pairwise_singleton _ _, fun a ha b hb => by rw [List.mem_singleton.1 hb]; exact fun e => hx' (by rw [← e]; exact ha)⟩
  refine ⟨hd, ?_⟩
  have := short_of hn hd (snoc_in hb h0 h1)
  simpa using this
theorem hd_yes {l : List Int} (h : 0 < (l.length : Int)) : hdL l = [l] := by rw [hdL, if_neg]; rintro rfl; simp at h
theorem hd_no {l : List Int} (h : ¬ 0 < (l.length : Int)) : hdL l = [] := by rw [hdL, if_pos]; exact List.eq_nil_of_length_eq_zero (by omega)
theorem mem_allX {n : Int} {g : List Int → List (List Int)} {b r : List Int} : ∀ k : Nat, (k : Int) ≤ n → (r ∈ allX n g b k ↔ ∃ x : Int, (n - k ≤ x ∧ x < n) ∧ x ∉ b ∧ r ∈ g (b ++ [x]))
  | 0, _ => by
    rw [allX]
    refine ⟨fun h => (nomatch h), fun ⟨x, hx, _⟩ => ?_⟩
    omega
  | k + 1, hk => by
    rw [allX, List.mem_append, mem_allX k (by omega)]
    constructor
    · rintro (h | ⟨x, hx, h1, h2⟩)
      · by_cases hc : hasL b (n - ((k : Int) + 1)) = true
        · rw [if_pos hc] at h; cases h
        · rw [if_neg hc] at h
          exact ⟨n - (k + 1), ⟨by omega, by omega⟩, fun hm => hc (hasL_iff.2 hm), h⟩
      · exact ⟨x, ⟨by omega, hx.2⟩, h1, h2⟩
    · rintro ⟨x, hx, h1, h2⟩
      by_cases e : x = n - ((k : Int) + 1)
      · subst e
        exact .inl (by rw [if_neg (fun hc => h1 (hasL_iff.1 hc))]; exact h2)
      · exact .inr ⟨x, ⟨by omega, hx.2⟩, h1, h2⟩
theorem mem_allP {n : Int} (hn : 0 ≤ n) : ∀ (m : Nat) {b r : List Int}, (n + 1 - (b.length : Int)).toNat = m → b.Nodup → (∀ x ∈ b, 0 ≤ x ∧ x < n) → (r ∈ allP n m b ↔ ∃ e, r = b ++ e ∧ r ≠ [] ∧ r.Nodup ∧ ∀ x ∈ r, 0 ≤ x ∧ x < n)
  | 0, b, r, hm, hd, hb => by
    have := short_of hn hd hb
    omega
  | m + 1, b, r, hm, hd, hb => by
    rw [allP, List.mem_append, mem_allX n.toNat (by omega)]
    constructor
    · rintro (h | ⟨x, hx, h1, h2⟩)
      · rw [hdL] at h
        by_cases hc : b = []
        · rw [if_pos hc] at h; cases h
        · rw [if_neg hc, List.mem_singleton] at h
          subst h
          exact ⟨[], (List.append_nil _).symm, hc, hd, hb⟩
      · obtain ⟨k1, k2⟩ := snoc_nodup hn hd hb (x := x) (by omega) hx.2 (by rw [← Bool.not_eq_true, hasL_iff]; exact h1)
        obtain ⟨e, rfl, h3⟩ := (mem_allP hn m (by simp only [List.length_append, List.length_cons, List.length_nil]; omega) k1 (snoc_in hb (by omega) hx.2)).1 h2
        exact ⟨x :: e, by rw [List.append_assoc]; rfl, h3⟩
    · rintro ⟨e, rfl, h3, h4, h5⟩
      match e with
      | [] =>
        rw [List.append_nil] at h3 ⊢
        exact .inl (by rw [hdL, if_neg h3]; exact List.mem_singleton.2 rfl)
      | x :: e =>
        have hx := h5 x (by simp)
        have hd' := h4
        rw [show b ++ x :: e = (b ++ [x]) ++ e by simp] at h4 h5 h3 ⊢
        have hd2 : (b ++ [x]).Nodup := (List.pairwise_append.1 h4).1
        have hxb : x ∉ b := fun hm' => (List.pairwise_append.1 hd2).2.2 x hm' x (by simp) rfl
        obtain ⟨k1, k2⟩ := snoc_nodup hn hd hb hx.1 hx.2 (by rw [← Bool.not_eq_true, hasL_iff]; exact hxb)
        exact .inr ⟨x, ⟨by omega, hx.2⟩, hxb, (mem_allP hn m (by simp only [List.length_append, List.length_cons, List.length_nil]; omega) k1 (snoc_in hb hx.1 hx.2)).2 ⟨e, rfl, h3, h4, h5⟩⟩
theorem mem_allQ {n : Int} (hn : 0 ≤ n) {r : List Int} : r ∈ allQ n ↔ r ≠ [] ∧ r.Nodup ∧ ∀ x ∈ r, 0 ≤ x ∧ x < n := by
  rw [allQ, mem_allP hn _ (by simp) List.nodup_nil (fun x hx => nomatch hx)]
  exact ⟨fun ⟨_, _, h⟩ => h, fun h => ⟨r, rfl, h⟩⟩
end Go.Proofs.Ytjbcpggikaeleaa

namespace Go.Proofs.Ytjbcpggikaeleaa
open Go.Wk Go.RowKit
set_option linter.unusedVariables false
section
variable {P : Go.Program} {σ : Fr} {w : Go.World} {x y : Go.Operand} {ty T T' : Go.TypeId} {k : Go.IntKind} {a b : Int}
end
end Go.Proofs.Ytjbcpggikaeleaa

namespace Go.Proofs.Ytjbcpggikaeleaa
open Go.Wk Go.RowKit
set_option linter.unusedVariables false
def chB (f : Rel) (r : List Int) (k : Int) : Bool := f (ix 0 r (k - 1)) (ix 0 r k)
def chainB (l : List Sale) (r : List Int) : Bool := (rng 1 r.length).all (chB (gS l) r)
def anyB (l : List Sale) (r : List Int) : Bool := (rng 1 r.length).any (chB (bS l) r)
def isPath (l : List Sale) (a b : Int) (r : List Int) : Bool := (decide (ix 0 r 0 = a) && decide (ix 0 r ((r.length : Int) - 1) = b)) && chainB l r
def isBeat (l : List Sale) (a b : Int) (r : List Int) : Bool := isPath l a b r && anyB l r
theorem chain_iff {l : List Sale} {a : Int} {e : List Int} : chainB l (a :: e) = true ↔ chainP (gS l) a e := by
  rw [chainB, List.all_eq_true, chain_ix]
  constructor
  · intro h i i0 i1
    have := h (i + 1) (rng_mem.2 ⟨by omega, by simp only [List.length_cons]; omega⟩)
    rw [chB, show i + 1 - 1 = i by omega] at this; exact this
  · intro h k hk
    have hk := rng_mem.1 hk
    have := h (k - 1) (by omega) (by have := hk.2; simp only [List.length_cons] at this; omega)
    rw [show k - 1 + 1 = k by omega] at this; exact this
theorem any_iff {l : List Sale} {a : Int} {e : List Int} : anyB l (a :: e) = true ↔ anyP (bS l) a e := by
  rw [anyB, List.any_eq_true, any_ix]
  constructor
  · rintro ⟨k, hk, h⟩
    have hk := rng_mem.1 hk
    refine ⟨k - 1, ⟨by omega, by have := hk.2; simp only [List.length_cons] at this; omega⟩, ?_⟩
    rw [show k - 1 + 1 = k by omega]; exact h
  · rintro ⟨i, hi, h⟩
    refine ⟨i + 1, rng_mem.2 ⟨by omega, by simp only [List.length_cons]; omega⟩, ?_⟩
    rw [chB, show i + 1 - 1 = i by omega]; exact h
theorem path_iff {l : List Sale} {a b : Int} {r : List Int} (h0 : r ≠ []) (h1 : r.Nodup) (h2 : ∀ x ∈ r, 0 ≤ x ∧ x < (l.length : Int)) : isPath l a b r = true ↔ pathP (gS l) l.length a r ∧ topI r = b := by
  match r, h0 with
  | c :: e, _ =>
    rw [isPath, Bool.and_eq_true, Bool.and_eq_true, decide_eq_true_eq, decide_eq_true_eq, chain_iff]
    constructor
    · rintro ⟨⟨k1, k2⟩, k3⟩
      have k1 : c = a := k1
      subst k1
      exact ⟨⟨e, rfl, h2, h1, k3⟩, k2⟩
    · rintro ⟨⟨e', he, _, _, k3⟩, k2⟩
      injection he with e1 e2
      subst e1; subst e2
      exact ⟨⟨rfl, k2⟩, k3⟩
theorem path_all {l : List Sale} {a : Int} {r : List Int} (h : pathP (gS l) l.length a r) : r ∈ allQ l.length := by
  obtain ⟨e, rfl, h1, h2, _⟩ := h
  exact (mem_allQ (by omega)).2 ⟨by simp, h2, h1⟩
theorem any_path {l : List Sale} {a b : Int} (ha : 0 ≤ a ∧ a < l.length) (hb : 0 ≤ b ∧ b < l.length) : (allQ l.length).any (isPath l a b) = ledB (gS l) l.length a b := by
  rw [Bool.eq_iff_iff, List.any_eq_true]
  constructor
  · rintro ⟨r, hr, h⟩
    obtain ⟨k1, k2, k3⟩ := (mem_allQ (by omega)).1 hr
    obtain ⟨⟨e, rfl, _, _, hc⟩, ht⟩ := (path_iff k1 k2 k3).1 h
    exact (led_rch ha hb).2 ⟨_, chain_rch hc (fun x hx => k3 x (by simp [hx])) ht⟩
  · intro h
    obtain ⟨e, hp, ht⟩ := led_path ha hb h
    have hm := path_all hp
    obtain ⟨k1, k2, k3⟩ := (mem_allQ (by omega)).1 hm
    exact ⟨_, hm, (path_iff k1 k2 k3).2 ⟨hp, ht⟩⟩
theorem any_beat {l : List Sale} {a b : Int} (ha : 0 ≤ a ∧ a < l.length) : (allQ l.length).any (isBeat l a b) = beatsV (gS l) (bS l) l.length a b := by
  rw [Bool.eq_iff_iff, List.any_eq_true, beats_iff ha]
  constructor
  · rintro ⟨r, hr, h⟩
    rw [isBeat, Bool.and_eq_true] at h
    obtain ⟨k1, k2, k3⟩ := (mem_allQ (by omega)).1 hr
    obtain ⟨⟨e, rfl, h1, h2, hc⟩, ht⟩ := (path_iff k1 k2 k3).1 h.1
    exact ⟨e, ⟨e, rfl, h1, h2, hc⟩, ht, any_iff.1 h.2⟩
  · rintro ⟨e, hp, ht, hy⟩
    have hm := path_all hp
    obtain ⟨k1, k2, k3⟩ := (mem_allQ (by omega)).1 hm
    exact ⟨_, hm, by rw [isBeat, Bool.and_eq_true]; exact ⟨(path_iff k1 k2 k3).2 ⟨hp, ht⟩, any_iff.2 hy⟩⟩
/-! ### the shortest list -/
theorem chain_bad {l : List Sale} {r : List Int} {k : Int} (h0 : 1 ≤ k) (h1 : k < r.length) (h : chB (gS l) r k = false) : chainB l r = false := by
  rw [← Bool.not_eq_true, chainB, List.all_eq_true]
  intro hh
  have := hh k (rng_mem.2 ⟨h0, h1⟩)
  rw [h] at this; cases this
end Go.Proofs.Ytjbcpggikaeleaa

namespace Go.Proofs.Ytjbcpggikaeleaa
open Go.Wk Go.RowKit
set_option linter.unusedVariables false
end Go.Proofs.Ytjbcpggikaeleaa

namespace Go.Proofs.Ytjbcpggikaeleaa
open Go.Wk Go.RowKit
set_option linter.unusedVariables false
def stL (l : List Sale) (r : List Int) (T : List Bool) : List Bool := if chainB l r = true then T.set (ix 0 r 0 * 6 + ix 0 r ((r.length : Int) - 1)).toNat true else T
def stB (l : List Sale) (r : List Int) (T : List Bool) : List Bool := if chainB l r = true then T.set (ix 0 r 0 * 6 + ix 0 r ((r.length : Int) - 1)).toNat (ix false T (ix 0 r 0 * 6 + ix 0 r ((r.length : Int) - 1)) || anyB l r) else T
theorem chain_good {l : List Sale} {r : List Int} {k : Int} (hk : (r.length : Int) ≤ k) (hc : ∀ i : Int, 1 ≤ i → i < k → chB (gS l) r i = true) : chainB l r = true :=
  List.all_eq_true.2 fun i hi => hc i (rng_mem.1 hi).1 (by have := (rng_mem.1 hi).2; omega)
theorem any_snoc1 {f : Int → Bool} {k : Int} (h : 1 ≤ k) : (rng 1 (k + 1)).any f = ((rng 1 k).any f || f k) := by rw [rng_snoc h, List.any_append]; simp
theorem tk_len {l : List Sale} {r : List Int} {T : List Bool} (h : (T.length : Int) = 36) : ((stL l r T).length : Int) = 36 ∧ ((stB l r T).length : Int) = 36 := by
  rw [stL, stB]
  split
  · rw [List.length_set, List.length_set]; exact ⟨h, h⟩
  · exact ⟨h, h⟩
theorem tk_leads {l : List Sale} {r : List Int} {T : List Bool} {ls : List (List Int)} (h6 : (l.length : Int) ≤ 6) (hl : (T.length : Int) = 36) (h1 : 1 ≤ (r.length : Int)) (hb : ∀ x ∈ r, 0 ≤ x ∧ x < (l.length : Int)) (h : ∀ a b, (0 ≤ a ∧ a < (l.length : Int)) → (0 ≤ b ∧ b < (l.length : Int)) → tbR T a b = ls.any (isPath l a b)) :
    ∀ a b, (0 ≤ a ∧ a < (l.length : Int)) → (0 ≤ b ∧ b < (l.length : Int)) → tbR (stL l r T) a b = (ls ++ [r]).any (isPath l a b) := by
  intro a b ha hb'
  have h0 := ring_in hb (i := 0) (by omega) (by omega)
  have hz := ring_in hb (i := (r.length : Int) - 1) (by omega) (by omega)
  rw [List.any_append, ← h a b ha hb', stL]
  simp only [List.any_cons, List.any_nil, Bool.or_false]
  by_cases hc : chainB l r = true
  · rw [if_pos hc, tb_set hl (by omega) (by omega) (by omega) (by omega), isPath, hc, Bool.and_true]
    by_cases e : a = ix 0 r 0 ∧ b = ix 0 r ((r.length : Int) - 1)
    · rw [if_pos e, decide_eq_true e.1.symm, decide_eq_true e.2.symm, Bool.and_self, Bool.or_true]
    · rw [if_neg e]
      by_cases e1 : a = ix 0 r 0
      · rw [decide_eq_false (p := ix 0 r ((r.length : Int) - 1) = b) (fun k => e ⟨e1, k.symm⟩), Bool.and_false, Bool.or_false]
      · rw [decide_eq_false (p := ix 0 r 0 = a) (fun k => e1 k.symm), Bool.false_and, Bool.or_false]
  · rw [if_neg hc, isPath, Bool.not_eq_true _ |>.mp hc, Bool.and_false, Bool.or_false]
theorem tk_beats {l : List Sale} {r : List Int} {T : List Bool} {ls : List (List Int)} (h6 : (l.length : Int) ≤ 6) (hl : (T.length : Int) = 36) (h1 : 1 ≤ (r.length : Int)) (hb : ∀ x ∈ r, 0 ≤ x ∧ x < (l.length : Int)) (h : ∀ a b, (0 ≤ a ∧ a < (l.length : Int)) → (0 ≤ b ∧ b < (l.length : Int)) → tbR T a b = ls.any (isBeat l a b)) :
    ∀ a b, (0 ≤ a ∧ a < (l.length : Int)) → (0 ≤ b ∧ b < (l.length : Int)) → tbR (stB l r T) a b = (ls ++ [r]).any (isBeat l a b) := by
  intro a b ha hb'
  have h0 := ring_in hb (i := 0) (by omega) (by omega)
  have hz := ring_in hb (i := (r.length : Int) - 1) (by omega) (by omega)
  rw [List.any_append, ← h a b ha hb', stB]
  simp only [List.any_cons, List.any_nil, Bool.or_false]
  by_cases hc : chainB l r = true
  · rw [if_pos hc, tb_set hl (by omega) (by omega) (by omega) (by omega), isBeat, isPath, hc, Bool.and_true]
    by_cases e : a = ix 0 r 0 ∧ b = ix 0 r ((r.length : Int) - 1)
    · rw [if_pos e, decide_eq_true e.1.symm, decide_eq_true e.2.symm, Bool.and_self, Bool.true_and, tbR, e.1, e.2]
    · rw [if_neg e]
      by_cases e1 : a = ix 0 r 0
      · rw [decide_eq_false (p := ix 0 r ((r.length : Int) - 1) = b) (fun k => e ⟨e1, k.symm⟩), Bool.and_false, Bool.false_and, Bool.or_false]
      · rw [decide_eq_false (p := ix 0 r 0 = a) (fun k => e1 k.symm), Bool.false_and, Bool.false_and, Bool.or_false]
  · rw [if_neg hc, isBeat, isPath, Bool.not_eq_true _ |>.mp hc, Bool.and_false, Bool.false_and, Bool.or_false]
/-! ### what numbers follow -/
theorem nb_pot {l : List Sale} {worth weight : List Int} (h : nbP l worth weight) : ∀ a b : Int, (0 ≤ a ∧ a < (l.length : Int)) → (0 ≤ b ∧ b < (l.length : Int)) → (gS l a b = true → ix 0 worth b ≤ ix 0 worth a) ∧ (bS l a b = true → ix 0 worth b < ix 0 worth a) := by
  obtain ⟨h0, h1, h2⟩ := h
  intro a b ha hb
  have k1 := (h1 a ha.1 ha.2).2.1
  have k2 := h2 a b ha.1 ha.2 hb.1 hb.2
  rw [agr2_lead] at k2
  show (decide (0 ≤ leadS (ix ([], []) l a) (ix ([], []) l b)) = true → _) ∧ (decide (0 < leadS (ix ([], []) l a) (ix ([], []) l b)) = true → _)
  generalize hx : leadS (ix ([], []) l a) (ix ([], []) l b) = x at *
  rw [Int.neg_mul] at k2
  rw [decide_eq_true_eq, decide_eq_true_eq]
  constructor
  · intro hg
    have k3 := Int.mul_nonneg (show 0 ≤ ix 0 weight a by omega) hg
    omega
  · intro hp
    have k4 : 0 < ix 0 weight a * x := Int.mul_pos (by omega) hp
    omega
theorem nb_led {l : List Sale} {worth weight : List Int} (h : nbP l worth weight) {a b : Int} (ha : 0 ≤ a ∧ a < (l.length : Int)) (hb : 0 ≤ b ∧ b < (l.length : Int)) (hl : ledB (gS l) l.length a b = true) : ix 0 worth b ≤ ix 0 worth a := by
  obtain ⟨e, ⟨e', he, h1, _, hc⟩, ht⟩ := led_path ha hb hl
  injection he with _ he; subst he
  have := chain_pot (S := fun x => 0 ≤ x ∧ x < (l.length : Int)) (w := fun x => ix 0 worth x) (fun x y hx hy => (nb_pot h x y hx hy).1) hc ha fun x hx => h1 x (by simp [hx])
  rw [ht] at this; exact this
theorem nb_beat {l : List Sale} {worth weight : List Int} (h : nbP l worth weight) {a b : Int} (ha : 0 ≤ a ∧ a < (l.length : Int)) (hl : beatsV (gS l) (bS l) l.length a b = true) : ix 0 worth b < ix 0 worth a := by
  obtain ⟨e, ⟨e', he, h1, _, hc⟩, ht, hy⟩ := (beats_iff ha).1 hl
  injection he with _ he; subst he
  have := any_pot (S := fun x => 0 ≤ x ∧ x < (l.length : Int)) (w := fun x => ix 0 worth x) (fun x y hx hy => (nb_pot h x y hx hy).1) (fun x y hx hy => (nb_pot h x y hx hy).2) hc hy ha fun x hx => h1 x (by simp [hx])
  rw [ht] at this; exact this
theorem nbB_nbP {l : List Sale} {worth weight : List Int} (h : nbB l worth weight = true) : nbP l worth weight := by
  classical
  rw [nbB] at h
  simpa using h
theorem rk_false {p q r : Bool} {x y : Int} (h1 : p = true → y < x) (h2 : q = true → y ≤ x) (h3 : r = true → x ≤ y) : (((p && decide (x ≤ y)) || (q && decide (x < y))) || ((q && r) && decide (x ≠ y))) = false := by
  cases p with
  | true => have := h1 rfl; rw [decide_eq_false (p := x ≤ y) (by omega)]; cases q with
    | true => rw [decide_eq_false (p := x < y) (by omega)]; cases r with
      | true => have := h3 rfl; omega
      | false => rfl
    | false => rfl
  | false => cases q with
    | true => have := h2 rfl; rw [decide_eq_false (p := x < y) (by omega)]; cases r with
      | true => have := h3 rfl; rw [decide_eq_false (p := x ≠ y) (by omega)]; rfl
      | false => rfl
    | false => rfl
theorem tb_zero (a b : Int) : tbR (List.replicate 36 false) a b = false := by
  rw [tbR, ix, List.getD_eq_getElem?_getD, List.getElem?_replicate]
  split <;> rfl
theorem beats_irr {l : List Sale} {a : Int} (ha : 0 ≤ a ∧ a < (l.length : Int)) : beatsV (gS l) (bS l) l.length a a = false := by
  rw [← Bool.not_eq_true, beats_iff ha]
  rintro ⟨e, ⟨e', he, _, hd, _⟩, ht, hy⟩
  match e, hd, ht, hy with
  | [], _, _, hy => exact hy
  | x :: e, hd, ht, _ =>
    have hd := (List.nodup_cons.1 hd).1
    rw [top_cons] at ht
    refine hd ?_
    have : topI (x :: e) ∈ x :: e := List.mem_of_getElem? (ix_get (d := (0 : Int)) (by simp only [List.length_cons]; omega) (by simp only [List.length_cons]; omega))
    rw [ht] at this; exact this
theorem cnt_next {l : List Sale} {i j many : Int} {T : List Bool} (hi : 0 ≤ i ∧ i < (l.length : Int)) (hj : 0 ≤ j ∧ j < (l.length : Int)) (h : ix false T (i * 6 + j) = beatsV (gS l) (bS l) l.length i j) (hc : ix false T (i * 6 + j) = true) (hm : many + cntR (beatsV (gS l) (bS l) l.length) i (rng j l.length) = cntR (beatsV (gS l) (bS l) l.length) i (rng 0 l.length)) :
    many + 1 + cntR (beatsV (gS l) (bS l) l.length) i (rng (j + 1) l.length) = cntR (beatsV (gS l) (bS l) l.length) i (rng 0 l.length) := by
  rw [h] at hc
  rw [cntR_yes hj.2 ⟨fun e => by (rw [e, beats_irr hj] at hc; cases hc), hc⟩] at hm
  omega
theorem cnt_skip {l : List Sale} {i j many : Int} {T : List Bool} (hj : 0 ≤ j ∧ j < (l.length : Int)) (h : ix false T (i * 6 + j) = beatsV (gS l) (bS l) l.length i j) (hc : ix false T (i * 6 + j) = false) (hm : many + cntR (beatsV (gS l) (bS l) l.length) i (rng j l.length) = cntR (beatsV (gS l) (bS l) l.length) i (rng 0 l.length)) :
    many + cntR (beatsV (gS l) (bS l) l.length) i (rng (j + 1) l.length) = cntR (beatsV (gS l) (bS l) l.length) i (rng 0 l.length) := by
  rw [h] at hc
  rw [cntR_no hj.2 (.inr hc)] at hm
  exact hm
theorem ranks_yes {g : Int} {l : List Sale} (h : checkE g l = 0) (hn : noR l = true) : ranksX g l = 0 ∧ ranksL g l = (rng 0 l.length).map fun a => cntR (beatsV (gS l) (bS l) l.length) a (rng 0 l.length) := by
  have hx : ranksX g l = 0 := by rw [ranksX, if_pos h, if_pos (noR_iff.1 hn)]
  exact ⟨hx, by rw [ranksL, if_pos hx]⟩
theorem ranks_no {g : Int} {l : List Sale} (h : checkE g l = 0) (hn : noR l = false) : ranksX g l = 13 ∧ ranksL g l = [] := by
  have hx : ranksX g l = 13 := by rw [ranksX, if_pos h, if_neg]; intro k; rw [← noR_iff, hn] at k; cases k
  exact ⟨hx, by rw [ranksL, if_neg (by rw [hx]; decide)]⟩
end Go.Proofs.Ytjbcpggikaeleaa

namespace Go.Proofs.Ytjbcpggikaeleaa
open Go.Wk Go.RowKit Go.Lib
set_option linter.unusedVariables false
set_option linter.unusedSimpArgs false
theorem foKa_88_0 : fldOff Try.prog 88 0 = some 0 := by kernel_rfl
theorem mixedKa_ : Try.prog.follows .mixedOrders = true := by kernel_rfl
theorem foKa_88_1 : fldOff Try.prog 88 1 = some 1 := by kernel_rfl
theorem foKa_62_0 : fldOff Try.prog 62 0 = some 0 := by kernel_rfl
theorem foKa_62_1 : fldOff Try.prog 62 1 = some 1 := by kernel_rfl

theorem F73 {n : Int} {lo : Int} {hi : Int} {w : World} (i_n : InK .i64 n) (i_lo : InK .i64 lo) (i_hi : InK .i64 hi) : Calls Try.prog 73 #[.int .i64 n, .int .i64 lo, .int .i64 hi] w (Ret w (fun r _ => r = .bool (decide (lo ≤ n) && decide (n ≤ hi)))) := by
  have b_hi := bd_i64 i_hi
  have b_lo := bd_i64 i_lo
  have b_n := bd_i64 i_n
  have hS := St.start0 w
  refine enterR Try.func73 rfl Try.ntmps73 Try.results73 rfl ?_
  refine W.seq ?_
  refine W.reg ?_
  refine Wx.rd (v := .bool false) (rd_assign rfl) rfl ?_
  refine Wx.nil ?_
  refine W.seq ?_
  refine W.reg ?_
  refine Wx.rd (v := .int .i64 n) (rd_move rfl) rfl ?_
  refine Wx.rd (v := .int .i64 lo) (rd_move rfl) rfl ?_
  refine Wx.rd (v := .bool (decide (lo ≤ n))) (rd_geq rfl rfl) rfl ?_
  refine Wx.rd (v := .bool (decide (lo ≤ n))) (rd_move rfl) rfl ?_
  refine Wx.cut (X := Unit) 4 [11, 12, 13, 14] (fun _ => [(14, .bool (decide (lo ≤ n) && decide (n ≤ hi)))]) (fun _ w' => St w [] w' []) ?_ ?_
  · rcases Bool.eq_false_or_eq_true (decide (lo ≤ n)) with g_1 | g_1
    · -- True
      have gp_2 := of_decide_eq_true g_1
      refine Wx.gyes rfl rfl (congrArg Value.bool g_1) ?_
      refine Wx.rd (v := .int .i64 n) (rd_move rfl) rfl ?_
      refine Wx.gyes rfl rfl (congrArg Value.bool g_1) ?_
      refine Wx.rd (v := .int .i64 hi) (rd_move rfl) rfl ?_
      refine Wx.gyes rfl rfl (congrArg Value.bool g_1) ?_
      refine Wx.rd (v := .bool (decide (n ≤ hi))) (rd_leq rfl rfl) rfl ?_
      refine Wx.rd (v := .bool (decide (n ≤ hi))) (rd_pickT (congrArg Value.bool g_1) rfl) rfl ?_
      refine Wx.nil ⟨(), hS, ⟨?_, trivial⟩, Out.look rfl Out.refl⟩
      show Value.bool (decide (n ≤ hi)) = Value.bool (decide (lo ≤ n) && decide (n ≤ hi))
      first | rw [g_1, Bool.true_and] | (rw [g_1]; rfl)
    · -- False
      have gp_3 := of_decide_eq_false g_1
      refine Wx.gnoB rfl rfl (congrArg Value.bool g_1) rfl rfl ?_
      refine Wx.gnoB rfl rfl (congrArg Value.bool g_1) rfl rfl ?_
      refine Wx.gnoB rfl rfl (congrArg Value.bool g_1) rfl rfl ?_
      refine Wx.rd (v := .bool false) (rd_pickF (congrArg Value.bool g_1) rfl) rfl ?_
      refine Wx.nil ⟨(), hS, ⟨?_, trivial⟩, Out.look rfl Out.refl⟩
      show Value.bool false = Value.bool (decide (lo ≤ n) && decide (n ≤ hi))
      first | rw [g_1, Bool.false_and] | (rw [g_1]; rfl)
  rintro ⟨⟩ u_5 w_4 hS
  refine Wx.rd (v := .bool (decide (lo ≤ n) && decide (n ≤ hi))) (rd_assign rfl) rfl ?_
  refine Wx.nil ?_
  exact W.ret ⟨.bool (decide (lo ≤ n) && decide (n ≤ hi)), ResIs.one, hS.bel, rfl⟩

theorem F65 {pv : Value} {p : List Int} {Fr_pv : List (Option Nat)} {qv : Value} {q : List Int} {Fr_qv : List (Option Nat)} {uv : Value} {u : List Int} {Fr_uv : List (Option Nat)} {tv : Value} {t : List Int} {Fr_tv : List (Option Nat)} {w : World} (h_pv : V (tSl (tI .i64)) p pv Fr_pv w) (h_qv : V (tSl (tI .i64)) q qv Fr_qv w) (h_uv : V (tSl (tI .i64)) u uv Fr_uv w) (h_tv : V (tSl (tI .i64)) t tv Fr_tv w) (p_p : ∀ x ∈ p, 1 ≤ x ∧ x ≤ 9) (p_t : ∀ x ∈ t, 0 ≤ x ∧ x ≤ 9) (p_3 : (p.length : Int) ≤ 3) (p_e : (t.length : Int) = p.length) : Calls Try.prog 65 #[.agg #[pv, qv], .agg #[uv, tv]] w (Ret w (fun r _ => r = .int .i64 (costV p t))) := by
  have a_pv := h_pv.any
  have l_pv := h_pv.len63
  have a_qv := h_qv.any
  have l_qv := h_qv.len63
  have a_uv := h_uv.any
  have l_uv := h_uv.len63
  have a_tv := h_tv.any
  have l_tv := h_tv.len63
  have hS := St.start0 w
  refine enterR Try.func65 rfl Try.ntmps65 Try.results65 rfl ?_
  refine W.seq ?_
  refine W.reg ?_
  refine Wx.box (cs := [pv, qv]) hS rfl rfl rfl (fun g_1 w_2 hx_4 hb_3 hS => ?_)
  refine Wx.box (cs := [uv, tv]) hS rfl rfl rfl (fun g_5 w_6 hx_8 hb_7 hS => ?_)
  refine Wx.rd (v := .int .i64 0) (rd_assign rfl) rfl ?_
  refine Wx.nil ?_
  refine W.seq ?_
  refine W.reg ?_
  refine Wx.rd (v := .int .i64 0) (rd_assign rfl) rfl ?_
  refine Wx.nil ?_
  refine W.seq ?_
  refine W.seq ?_
  refine W.reg ?_
  refine Wx.rd (v := .int .i64 0) (rd_assign rfl) rfl ?_
  refine Wx.nil ?_
  refine W.block ?_
  refine W.loop [5, 6, 7, 8, 9, 10, 11, 12, 13, 14, 15, 16, 17, 18, 19, 20, 21, 22, 23, 24, 25, 26] (fun x : Int × Int => match x with | (out, g) => [(5, .int .i64 out), (6, .int .i64 g)]) (fun (x : Int × Int) w' => match x with | (out, g) => St w [] w' [.box g_5 88 [uv, tv], .box g_1 88 [pv, qv]] ∧ 0 ≤ g ∧ g ≤ p.length ∧ out + costV (p.drop g.toNat) (t.drop g.toNat) = costV p t ∧ 0 ≤ out ∧ out ≤ 81 * g) (fun x : Int × Int => match x with | (out, g) => (p.length - g).toNat) (0, 0) ⟨rfl, rfl, trivial⟩ ⟨hS, (by first | omega | simp), (by first | omega | simp), (Int.zero_add _), (Int.le_refl 0), (by decide)⟩ ?_
  rintro ⟨out, g⟩ u_10 w_9 ⟨hS, h0, h1, h2, h3, h4⟩
  refine W.seq ?_
  refine W.seq ?_
  refine W.reg ?_
  refine Wx.rd (v := .int .i64 g) (rd_move rfl) rfl ?_
  refine Wx.rd (v := .pointer (some ⟨g_1, 0, none⟩)) (rd_fieldAddr rfl foKa_88_0) rfl ?_
  refine Wx.rd (v := pv) (rd_loadX hS 1 rfl rfl rfl Try.isAgg39) rfl ?_
  refine Wx.rd (v := .int .i64 (p.length : Int)) (rd_lenV rfl (hS.arg a_pv) Try.underlying39) rfl ?_
  refine Wx.rd (v := .bool (decide (g < (p.length : Int)))) (rd_lss rfl rfl) rfl ?_
  refine Wx.nil ?_
  refine W.condD rfl (fun c0 => ?_) (fun c0 => ?_)
  · -- yes
    have hm9 := mul9 (k := g) p_p p_t h0 (by omega) (by omega)
    refine W.skip ?_
    refine W.seq ?_
    refine W.block ?_
    refine W.regQ mixedKa_ (by kernel_rfl) ?_
    refine Wx.rd (v := .int .i64 out) (rd_move rfl) rfl ?_
    refine Wx.rd (v := .pointer (some ⟨g_1, 0, none⟩)) (rd_fieldAddr rfl foKa_88_0) rfl ?_
    refine Wx.rd (v := pv) (rd_loadX hS 1 rfl rfl rfl Try.isAgg39) rfl ?_
    refine Wx.rd (v := .int .i64 g) (rd_move rfl) rfl ?_
    refine Wx.ex (rd_index 0 (hS.arg a_pv) rfl rfl Try.underlying39 Try.sizeOf3 (by first | omega | (simp only [List.length_set, List.length_append, List.length_cons, List.length_nil, List.length_replicate]; omega)) (by first | omega | (simp only [List.length_set, List.length_append, List.length_cons, List.length_nil, List.length_replicate]; omega))) rfl (fun p_11 hp_12 => ?_)
    refine Wx.rd (v := .int .i64 (ix 0 p g)) (rd_loadI hp_12 rfl Try.isAgg3 Try.sizeOf3) rfl ?_
    have bd_13 := bd_i64 hp_12.inK
    refine Wx.rd (v := .pointer (some ⟨g_5, 1, none⟩)) (rd_fieldAddr rfl foKa_88_1) rfl ?_
    refine Wx.rd (v := tv) (rd_loadX hS 0 rfl rfl rfl Try.isAgg39) rfl ?_
    refine Wx.rd (v := .int .i64 g) (rd_move rfl) rfl ?_
    refine Wx.ex (rd_index 0 (hS.arg a_tv) rfl rfl Try.underlying39 Try.sizeOf3 (by first | omega | (simp only [List.length_set, List.length_append, List.length_cons, List.length_nil, List.length_replicate]; omega)) (by first | omega | (simp only [List.length_set, List.length_append, List.length_cons, List.length_nil, List.length_replicate]; omega))) rfl (fun p_14 hp_15 => ?_)
    refine Wx.rd (v := .int .i64 (ix 0 t g)) (rd_loadI hp_15 rfl Try.isAgg3 Try.sizeOf3) rfl ?_
    have bd_16 := bd_i64 hp_15.inK
    refine Wx.rd (v := .int .i64 ((ix 0 p g) * (ix 0 t g))) (rd_mul rfl rfl (in_i64 (by omega) (by omega))) rfl ?_
    refine Wx.rd (v := .int .i64 (out + ((ix 0 p g) * (ix 0 t g)))) (rd_add rfl rfl (in_i64 (by omega) (by omega))) rfl ?_
    refine Wx.rd (v := .int .i64 (out + ((ix 0 p g) * (ix 0 t g)))) (rd_assign rfl) rfl ?_
    refine Wx.nilQ (fun w_17 hx_18 => ?_)
    have hS := hS.ext hx_18
    refine W.reg ?_
    refine Wx.rd (v := .int .i64 g) (rd_move rfl) rfl ?_
    refine Wx.rd (v := .int .i64 (g + 1)) (rd_add rfl rfl (in_i64 (by omega) (by omega))) rfl ?_
    refine Wx.rd (v := .int .i64 (g + 1)) (rd_assign rfl) rfl ?_
    refine Wx.nil ?_
    have hm9 := mul9 (k := g) p_p p_t h0 (by omega) (by omega)
    refine ⟨(out + ((ix 0 p g) * (ix 0 t g)), g + 1), (by show (p.length - (g + 1)).toNat < (p.length - g).toNat; omega), ?_, ?_, Out.look rfl Out.self⟩
    · exact ⟨hS, (by first | omega | assumption), (by first | omega | assumption), (cost_next h0 (by omega) (by omega) h2), (by first | omega | assumption), (by first | omega | assumption)⟩
    · exact ⟨rfl, rfl, trivial⟩
  · -- no
    refine W.exit rfl ?_
    refine W.seq ?_
    refine W.reg ?_
    refine Wx.rd (v := .int .i64 out) (rd_move rfl) rfl ?_
    refine Wx.rd (v := .int .i64 out) (rd_assign rfl) rfl ?_
    refine Wx.nil ?_
    have e0_0 : (costV p t) = (out : Int) := by exact cost_end (by omega) h2
    exact W.ret ⟨.int .i64 out, ResIs.one, hS.bel, (by rw [e0_0])⟩

theorem F63 {pv : Value} {p : List Int} {Fr_pv : List (Option Nat)} {qv : Value} {q : List Int} {Fr_qv : List (Option Nat)} {uv : Value} {u : List Int} {Fr_uv : List (Option Nat)} {tv : Value} {t : List Int} {Fr_tv : List (Option Nat)} {w : World} (h_pv : V (tSl (tI .i64)) p pv Fr_pv w) (h_qv : V (tSl (tI .i64)) q qv Fr_qv w) (h_uv : V (tSl (tI .i64)) u uv Fr_uv w) (h_tv : V (tSl (tI .i64)) t tv Fr_tv w) (p_p : ∀ x ∈ p, 1 ≤ x ∧ x ≤ 9) (p_t : ∀ x ∈ t, 0 ≤ x ∧ x ≤ 9) (p_3 : (p.length : Int) ≤ 3) (p_e : (t.length : Int) = p.length) : Calls Try.prog 63 #[.agg #[pv, qv], .agg #[uv, tv]] w (Ret w (fun r _ => r = .int .i64 (costV p t))) := by
  have a_pv := h_pv.any
  have l_pv := h_pv.len63
  have a_qv := h_qv.any
  have l_qv := h_qv.len63
  have a_uv := h_uv.any
  have l_uv := h_uv.len63
  have a_tv := h_tv.any
  have l_tv := h_tv.len63
  have hS := St.start0 w
  refine enterR Try.func63 rfl Try.ntmps63 Try.results63 rfl ?_
  refine W.seq ?_
  refine W.reg ?_
  refine Wx.box (cs := [pv, qv]) hS rfl rfl rfl (fun g_1 w_2 hx_4 hb_3 hS => ?_)
  refine Wx.box (cs := [uv, tv]) hS rfl rfl rfl (fun g_5 w_6 hx_8 hb_7 hS => ?_)
  refine Wx.rd (v := .int .i64 0) (rd_assign rfl) rfl ?_
  refine Wx.nil ?_
  refine W.seq ?_
  refine W.reg ?_
  refine Wx.rd (v := .int .i64 0) (rd_assign rfl) rfl ?_
  refine Wx.nil ?_
  refine W.seq ?_
  refine W.seq ?_
  refine W.reg ?_
  refine Wx.rd (v := .pointer (some ⟨g_1, 0, none⟩)) (rd_fieldAddr rfl foKa_62_0) rfl ?_
  refine Wx.rd (v := pv) (rd_loadX hS 1 rfl rfl rfl Try.isAgg39) rfl ?_
  refine Wx.rd (v := .int .i64 (p.length : Int)) (rd_lenV rfl (hS.arg a_pv) Try.underlying39) rfl ?_
  refine Wx.rd (v := .int .i64 0) (rd_move rfl) rfl ?_
  refine Wx.nil ?_
  refine W.block ?_
  refine W.loop [5, 6, 7, 11, 12, 13, 14, 15, 16, 17, 18, 19, 20, 21, 22, 23, 24, 25] (fun x : Int × Int => match x with | (out, g) => [(5, .int .i64 out), (11, .int .i64 g)]) (fun (x : Int × Int) w' => match x with | (out, g) => St w [] w' [.box g_5 62 [uv, tv], .box g_1 62 [pv, qv]] ∧ 0 ≤ g ∧ g ≤ p.length ∧ out + costV (p.drop g.toNat) (t.drop g.toNat) = costV p t ∧ 0 ≤ out ∧ out ≤ 81 * g) (fun x : Int × Int => match x with | (out, g) => (p.length - g).toNat) (0, 0) ⟨rfl, rfl, trivial⟩ ⟨hS, (by first | omega | simp), (by first | omega | simp), (Int.zero_add _), (Int.le_refl 0), (by decide)⟩ ?_
  rintro ⟨out, g⟩ u_10 w_9 ⟨hS, h0, h1, h2, h3, h4⟩
  refine W.seq ?_
  refine W.reg ?_
  refine Wx.rd (v := .bool (decide (g < (p.length : Int)))) (rd_lss rfl rfl) rfl ?_
  refine Wx.nil ?_
  refine W.seq ?_
  refine W.condD rfl (fun c0 => ?_) (fun c0 => ?_)
  · -- yes
    have hm9 := mul9 (k := g) p_p p_t h0 (by omega) (by omega)
    refine W.skip ?_
    refine W.seq ?_
    refine W.block ?_
    refine W.seq ?_
    refine W.reg ?_
    refine Wx.rd (v := .int .i64 g) (rd_move rfl) rfl ?_
    refine Wx.ex (rd_index 0 (hS.arg a_pv) rfl rfl Try.underlying39 Try.sizeOf3 (by first | omega | (simp only [List.length_set, List.length_append, List.length_cons, List.length_nil, List.length_replicate]; omega)) (by first | omega | (simp only [List.length_set, List.length_append, List.length_cons, List.length_nil, List.length_replicate]; omega))) rfl (fun p_11 hp_12 => ?_)
    refine Wx.rd (v := .int .i64 (ix 0 p g)) (rd_loadI hp_12 rfl Try.isAgg3 Try.sizeOf3) rfl ?_
    have bd_13 := bd_i64 hp_12.inK
    refine Wx.rd (v := .int .i64 g) (rd_assign rfl) rfl ?_
    refine Wx.rd (v := .int .i64 (ix 0 p g)) (rd_assign rfl) rfl ?_
    refine Wx.nil ?_
    refine W.reg ?_
    refine Wx.rd (v := .int .i64 out) (rd_move rfl) rfl ?_
    refine Wx.rd (v := .int .i64 (ix 0 p g)) (rd_move rfl) rfl ?_
    refine Wx.rd (v := .pointer (some ⟨g_5, 1, none⟩)) (rd_fieldAddr rfl foKa_62_1) rfl ?_
    refine Wx.rd (v := tv) (rd_loadX hS 0 rfl rfl rfl Try.isAgg39) rfl ?_
    refine Wx.rd (v := .int .i64 g) (rd_move rfl) rfl ?_
    refine Wx.ex (rd_index 0 (hS.arg a_tv) rfl rfl Try.underlying39 Try.sizeOf3 (by first | omega | (simp only [List.length_set, List.length_append, List.length_cons, List.length_nil, List.length_replicate]; omega)) (by first | omega | (simp only [List.length_set, List.length_append, List.length_cons, List.length_nil, List.length_replicate]; omega))) rfl (fun p_14 hp_15 => ?_)
    refine Wx.rd (v := .int .i64 (ix 0 t g)) (rd_loadI hp_15 rfl Try.isAgg3 Try.sizeOf3) rfl ?_
    have bd_16 := bd_i64 hp_15.inK
    refine Wx.rd (v := .int .i64 ((ix 0 p g) * (ix 0 t g))) (rd_mul rfl rfl (in_i64 (by omega) (by omega))) rfl ?_
    refine Wx.rd (v := .int .i64 (out + ((ix 0 p g) * (ix 0 t g)))) (rd_add rfl rfl (in_i64 (by omega) (by omega))) rfl ?_
    refine Wx.rd (v := .int .i64 (out + ((ix 0 p g) * (ix 0 t g)))) (rd_assign rfl) rfl ?_
    refine Wx.nil ?_
    refine W.reg ?_
    refine Wx.rd (v := .int .i64 (g + 1)) (rd_add rfl rfl (in_i64 (by omega) (by omega))) rfl ?_
    refine Wx.rd (v := .int .i64 (g + 1)) (rd_move rfl) rfl ?_
    refine Wx.nil ?_
    have hm9 := mul9 (k := g) p_p p_t h0 (by omega) (by omega)
    refine ⟨(out + ((ix 0 p g) * (ix 0 t g)), g + 1), (by show (p.length - (g + 1)).toNat < (p.length - g).toNat; omega), ?_, ?_, Out.look rfl Out.self⟩
    · exact ⟨hS, (by first | omega | assumption), (by first | omega | assumption), (cost_next h0 (by omega) (by omega) h2), (by first | omega | assumption), (by first | omega | assumption)⟩
    · exact ⟨rfl, rfl, trivial⟩
  · -- no
    refine W.exit rfl ?_
    refine W.seq ?_
    refine W.reg ?_
    refine Wx.rd (v := .int .i64 out) (rd_move rfl) rfl ?_
    refine Wx.rd (v := .int .i64 out) (rd_assign rfl) rfl ?_
    refine Wx.nil ?_
    have e0_0 : (costV p t) = (out : Int) := by exact cost_end (by omega) h2
    exact W.ret ⟨.int .i64 out, ResIs.one, hS.bel, (by rw [e0_0])⟩
end Go.Proofs.Ytjbcpggikaeleaa

namespace Go.Proofs.Ytjbcpggikaeleaa
open Go.Wk Go.RowKit Go.Lib
set_option linter.unusedVariables false
set_option linter.unusedSimpArgs false
theorem mixedKb_ : Try.prog.follows .mixedOrders = true := by kernel_rfl

theorem F80 {pv : Value} {p : List Int} {Fr_pv : List (Option Nat)} {qv : Value} {q : List Int} {Fr_qv : List (Option Nat)} {uv : Value} {u : List Int} {Fr_uv : List (Option Nat)} {tv : Value} {t : List Int} {Fr_tv : List (Option Nat)} {w : World} (h_pv : V (tSl (tI .i64)) p pv Fr_pv w) (h_qv : V (tSl (tI .i64)) q qv Fr_qv w) (h_uv : V (tSl (tI .i64)) u uv Fr_uv w) (h_tv : V (tSl (tI .i64)) t tv Fr_tv w) (p_p : ∀ x ∈ p, 1 ≤ x ∧ x ≤ 9) (p_q : ∀ x ∈ q, 0 ≤ x ∧ x ≤ 9) (p_t : ∀ x ∈ t, 0 ≤ x ∧ x ≤ 9) (p_3 : (p.length : Int) ≤ 3) (p_e : (q.length : Int) = p.length) (p_f : (t.length : Int) = p.length) : Calls Try.prog 80 #[.agg #[pv, qv], .agg #[uv, tv]] w (Ret w (fun r _ => r = .int .i64 (leadS (p, q) (u, t)))) := by
  have cb1 := cost_bd p_p p_q
  have cb2 := cost_bd p_p p_t
  have a_pv := h_pv.any
  have l_pv := h_pv.len63
  have a_qv := h_qv.any
  have l_qv := h_qv.len63
  have a_uv := h_uv.any
  have l_uv := h_uv.len63
  have a_tv := h_tv.any
  have l_tv := h_tv.len63
  have hS := St.start0 w
  refine enterR Try.func80 rfl Try.ntmps80 Try.results80 rfl ?_
  refine W.seq ?_
  refine W.reg ?_
  refine Wx.box (cs := [pv, qv]) hS rfl rfl rfl (fun g_1 w_2 hx_4 hb_3 hS => ?_)
  refine Wx.box (cs := [uv, tv]) hS rfl rfl rfl (fun g_5 w_6 hx_8 hb_7 hS => ?_)
  refine Wx.rd (v := .int .i64 0) (rd_assign rfl) rfl ?_
  refine Wx.nil ?_
  refine W.seq ?_
  refine W.regQ mixedKb_ (by kernel_rfl) ?_
  refine Wx.rd (v := .agg #[pv, qv]) (rd_loadXs (ds := [pv, qv]) hS 1 rfl rfl rfl rfl Try.isAgg62 Try.sizeOf62) rfl ?_
  refine Wx.rd (v := .agg #[pv, qv]) (rd_loadXs (ds := [pv, qv]) hS 1 rfl rfl rfl rfl Try.isAgg62 Try.sizeOf62) rfl ?_
  refine Wx.callV (v := .int .i64 (costV p q)) (run_callF Try.call63 rfl) (fun w_9 hw_10 => (F63 ((hS.arg a_pv).ext hw_10) ((hS.arg a_qv).ext hw_10) ((hS.arg a_pv).ext hw_10) ((hS.arg a_qv).ext hw_10) p_p p_q (by omega) p_e)) rfl ?_
  refine Wx.rd (v := .agg #[pv, qv]) (rd_loadXs (ds := [pv, qv]) hS 1 rfl rfl rfl rfl Try.isAgg62 Try.sizeOf62) rfl ?_
  refine Wx.rd (v := .agg #[uv, tv]) (rd_loadXs (ds := [uv, tv]) hS 0 rfl rfl rfl rfl Try.isAgg62 Try.sizeOf62) rfl ?_
  refine Wx.callV (v := .int .i64 (costV p t)) (run_callF Try.call63 rfl) (fun w_11 hw_12 => (F63 ((hS.arg a_pv).ext hw_12) ((hS.arg a_qv).ext hw_12) ((hS.arg a_uv).ext hw_12) ((hS.arg a_tv).ext hw_12) p_p p_t (by omega) p_f)) rfl ?_
  refine Wx.rd (v := .int .i64 ((costV p q) - (costV p t))) (rd_sub rfl rfl (in_i64 (by omega) (by omega))) rfl ?_
  refine Wx.rd (v := .int .i64 ((costV p q) - (costV p t))) (rd_assign rfl) rfl ?_
  refine Wx.nilQ (fun w_13 hx_14 => ?_)
  have hS := hS.ext hx_14
  have e0_0 : (leadS (p, q) (u, t)) = ((costV p q) - (costV p t) : Int) := by rfl
  exact W.ret ⟨.int .i64 ((costV p q) - (costV p t)), ResIs.one, hS.bel, (by rw [e0_0])⟩

theorem F67 {pv : Value} {p : List Int} {Fr_pv : List (Option Nat)} {qv : Value} {q : List Int} {Fr_qv : List (Option Nat)} {uv : Value} {u : List Int} {Fr_uv : List (Option Nat)} {tv : Value} {t : List Int} {Fr_tv : List (Option Nat)} {w : World} (h_pv : V (tSl (tI .i64)) p pv Fr_pv w) (h_qv : V (tSl (tI .i64)) q qv Fr_qv w) (h_uv : V (tSl (tI .i64)) u uv Fr_uv w) (h_tv : V (tSl (tI .i64)) t tv Fr_tv w) (p_p : ∀ x ∈ p, 1 ≤ x ∧ x ≤ 9) (p_q : ∀ x ∈ q, 0 ≤ x ∧ x ≤ 9) (p_t : ∀ x ∈ t, 0 ≤ x ∧ x ≤ 9) (p_3 : (p.length : Int) ≤ 3) (p_e : (q.length : Int) = p.length) (p_f : (t.length : Int) = p.length) : Calls Try.prog 67 #[.agg #[pv, qv], .agg #[uv, tv]] w (Ret w (fun r _ => r = .bool (goodS (p, q) (u, t)))) := by
  have cb1 := cost_bd p_p p_q
  have cb2 := cost_bd p_p p_t
  have lb : leadS (p, q) (u, t) = costV p q - costV p t := rfl
  have a_pv := h_pv.any
  have l_pv := h_pv.len63
  have a_qv := h_qv.any
  have l_qv := h_qv.len63
  have a_uv := h_uv.any
  have l_uv := h_uv.len63
  have a_tv := h_tv.any
  have l_tv := h_tv.len63
  have hS := St.start0 w
  refine enterR Try.func67 rfl Try.ntmps67 Try.results67 rfl ?_
  refine W.seq ?_
  refine W.reg ?_
  refine Wx.box (cs := [pv, qv]) hS rfl rfl rfl (fun g_1 w_2 hx_4 hb_3 hS => ?_)
  refine Wx.box (cs := [uv, tv]) hS rfl rfl rfl (fun g_5 w_6 hx_8 hb_7 hS => ?_)
  refine Wx.rd (v := .bool false) (rd_assign rfl) rfl ?_
  refine Wx.nil ?_
  refine W.seq ?_
  refine W.reg ?_
  refine Wx.rd (v := .agg #[pv, qv]) (rd_loadXs (ds := [pv, qv]) hS 1 rfl rfl rfl rfl Try.isAgg62 Try.sizeOf62) rfl ?_
  refine Wx.rd (v := .agg #[uv, tv]) (rd_loadXs (ds := [uv, tv]) hS 0 rfl rfl rfl rfl Try.isAgg62 Try.sizeOf62) rfl ?_
  refine Wx.callF (run_callF Try.call80 rfl) (F80 (hS.arg a_pv) (hS.arg a_qv) (hS.arg a_uv) (hS.arg a_tv) p_p p_q p_t p_3 p_e p_f) rfl ?_
  rintro r_9 w_10 hx_11 rfl
  have hS := hS.ext hx_11
  refine Wx.rd (v := .bool (decide (0 ≤ (leadS (p, q) (u, t))))) (rd_geq rfl rfl) rfl ?_
  refine Wx.rd (v := .bool (decide (0 ≤ (leadS (p, q) (u, t))))) (rd_assign rfl) rfl ?_
  refine Wx.nil ?_
  have e0_0 : (goodS (p, q) (u, t)) = (decide (0 ≤ (leadS (p, q) (u, t)))) := by rfl
  exact W.ret ⟨.bool (decide (0 ≤ (leadS (p, q) (u, t)))), ResIs.one, hS.bel, (by rw [e0_0])⟩

theorem F69 {pv : Value} {p : List Int} {Fr_pv : List (Option Nat)} {qv : Value} {q : List Int} {Fr_qv : List (Option Nat)} {uv : Value} {u : List Int} {Fr_uv : List (Option Nat)} {tv : Value} {t : List Int} {Fr_tv : List (Option Nat)} {w : World} (h_pv : V (tSl (tI .i64)) p pv Fr_pv w) (h_qv : V (tSl (tI .i64)) q qv Fr_qv w) (h_uv : V (tSl (tI .i64)) u uv Fr_uv w) (h_tv : V (tSl (tI .i64)) t tv Fr_tv w) (p_p : ∀ x ∈ p, 1 ≤ x ∧ x ≤ 9) (p_q : ∀ x ∈ q, 0 ≤ x ∧ x ≤ 9) (p_t : ∀ x ∈ t, 0 ≤ x ∧ x ≤ 9) (p_3 : (p.length : Int) ≤ 3) (p_e : (q.length : Int) = p.length) (p_f : (t.length : Int) = p.length) : Calls Try.prog 69 #[.agg #[pv, qv], .agg #[uv, tv]] w (Ret w (fun r _ => r = .bool (betterS (p, q) (u, t)))) := by
  have cb1 := cost_bd p_p p_q
  have cb2 := cost_bd p_p p_t
  have lb : leadS (p, q) (u, t) = costV p q - costV p t := rfl
  have a_pv := h_pv.any
  have l_pv := h_pv.len63
  have a_qv := h_qv.any
  have l_qv := h_qv.len63
  have a_uv := h_uv.any
  have l_uv := h_uv.len63
  have a_tv := h_tv.any
  have l_tv := h_tv.len63
  have hS := St.start0 w
  refine enterR Try.func69 rfl Try.ntmps69 Try.results69 rfl ?_
  refine W.seq ?_
  refine W.reg ?_
  refine Wx.box (cs := [pv, qv]) hS rfl rfl rfl (fun g_1 w_2 hx_4 hb_3 hS => ?_)
  refine Wx.box (cs := [uv, tv]) hS rfl rfl rfl (fun g_5 w_6 hx_8 hb_7 hS => ?_)
  refine Wx.rd (v := .bool false) (rd_assign rfl) rfl ?_
  refine Wx.nil ?_
  refine W.seq ?_
  refine W.reg ?_
  refine Wx.rd (v := .agg #[pv, qv]) (rd_loadXs (ds := [pv, qv]) hS 1 rfl rfl rfl rfl Try.isAgg62 Try.sizeOf62) rfl ?_
  refine Wx.rd (v := .agg #[uv, tv]) (rd_loadXs (ds := [uv, tv]) hS 0 rfl rfl rfl rfl Try.isAgg62 Try.sizeOf62) rfl ?_
  refine Wx.callF (run_callF Try.call80 rfl) (F80 (hS.arg a_pv) (hS.arg a_qv) (hS.arg a_uv) (hS.arg a_tv) p_p p_q p_t p_3 p_e p_f) rfl ?_
  rintro r_9 w_10 hx_11 rfl
  have hS := hS.ext hx_11
  refine Wx.rd (v := .bool (decide (0 < (leadS (p, q) (u, t))))) (rd_gtr rfl rfl) rfl ?_
  refine Wx.rd (v := .bool (decide (0 < (leadS (p, q) (u, t))))) (rd_assign rfl) rfl ?_
  refine Wx.nil ?_
  have e0_0 : (betterS (p, q) (u, t)) = (decide (0 < (leadS (p, q) (u, t)))) := by rfl
  exact W.ret ⟨.bool (decide (0 < (leadS (p, q) (u, t)))), ResIs.one, hS.bel, (by rw [e0_0])⟩

theorem F71 {v : Value} {l : List Int} {Fr_v : List (Option Nat)} {w : World} (h_v : V (tSl (tI .i64)) l v Fr_v w) (p_ne : 1 ≤ (l.length : Int)) : Calls Try.prog 71 #[v] w (Ret w (fun r _ => r = .int .i64 (minL l))) := by
  have a_v := h_v.any
  have l_v := h_v.len63
  have hS := St.start0 w
  refine enterR Try.func71 rfl Try.ntmps71 Try.results71 rfl ?_
  refine W.seq ?_
  refine W.reg ?_
  refine Wx.rd (v := .int .i64 0) (rd_assign rfl) rfl ?_
  refine Wx.nil ?_
  refine W.seq ?_
  refine W.seq ?_
  refine W.reg ?_
  refine Wx.rd (v := v) (rd_move rfl) rfl ?_
  refine Wx.rd (v := .int .i64 (l.length : Int)) (rd_lenV rfl (hS.arg a_v) Try.underlying39) rfl ?_
  refine Wx.rd (v := .bool (decide ((l.length : Int) < 1))) (rd_lss rfl rfl) rfl ?_
  refine Wx.nil ?_
  refine W.condF rfl (by simp; omega) ?_
  refine W.skip ?_
  refine W.seq ?_
  refine W.reg ?_
  refine Wx.rd (v := v) (rd_move rfl) rfl ?_
  refine Wx.ex (rd_index 0 (hS.arg a_v) rfl rfl Try.underlying39 Try.sizeOf3 (by first | omega | (simp only [List.length_set, List.length_append, List.length_cons, List.length_nil, List.length_replicate]; omega)) (by first | omega | (simp only [List.length_set, List.length_append, List.length_cons, List.length_nil, List.length_replicate]; omega))) rfl (fun p_1 hp_2 => ?_)
  refine Wx.rd (v := .int .i64 (ix 0 l 0)) (rd_loadI hp_2 rfl Try.isAgg3 Try.sizeOf3) rfl ?_
  have bd_3 := bd_i64 hp_2.inK
  refine Wx.rd (v := .int .i64 (ix 0 l 0)) (rd_assign rfl) rfl ?_
  refine Wx.nil ?_
  refine W.seq ?_
  refine W.seq ?_
  refine W.reg ?_
  refine Wx.rd (v := .int .i64 1) (rd_assign rfl) rfl ?_
  refine Wx.nil ?_
  refine W.block ?_
  refine W.loop [3, 4, 12, 13, 14, 15, 16, 17, 18, 19, 20, 21, 22, 23] (fun x : Int × Int => match x with | (m, k) => [(3, .int .i64 m), (4, .int .i64 k)]) (fun (x : Int × Int) w' => match x with | (m, k) => St w [] w' [] ∧ 1 ≤ k ∧ k ≤ l.length ∧ (l.drop k.toNat).foldl min m = minL l) (fun x : Int × Int => match x with | (m, k) => (l.length - k).toNat) (ix 0 l 0, 1) ⟨rfl, rfl, trivial⟩ ⟨hS, (by first | omega | simp), (by first | omega | simp), (min_start p_ne)⟩ ?_
  rintro ⟨m, k⟩ u_5 w_4 ⟨hS, h0, h1, h2⟩
  refine W.seq ?_
  refine W.seq ?_
  refine W.reg ?_
  refine Wx.rd (v := .int .i64 k) (rd_move rfl) rfl ?_
  refine Wx.rd (v := v) (rd_move rfl) rfl ?_
  refine Wx.rd (v := .int .i64 (l.length : Int)) (rd_lenV rfl (hS.arg a_v) Try.underlying39) rfl ?_
  refine Wx.rd (v := .bool (decide (k < (l.length : Int)))) (rd_lss rfl rfl) rfl ?_
  refine Wx.nil ?_
  refine W.condD rfl (fun c1 => ?_) (fun c1 => ?_)
  · -- yes
    refine W.skip ?_
    refine W.seq ?_
    refine W.block ?_
    refine W.reg ?_
    refine Wx.rd (v := .int .i64 m) (rd_move rfl) rfl ?_
    refine Wx.rd (v := v) (rd_move rfl) rfl ?_
    refine Wx.rd (v := .int .i64 k) (rd_move rfl) rfl ?_
    refine Wx.ex (rd_index 0 (hS.arg a_v) rfl rfl Try.underlying39 Try.sizeOf3 (by first | omega | (simp only [List.length_set, List.length_append, List.length_cons, List.length_nil, List.length_replicate]; omega)) (by first | omega | (simp only [List.length_set, List.length_append, List.length_cons, List.length_nil, List.length_replicate]; omega))) rfl (fun p_6 hp_7 => ?_)
    refine Wx.rd (v := .int .i64 (ix 0 l k)) (rd_loadI hp_7 rfl Try.isAgg3 Try.sizeOf3) rfl ?_
    have bd_8 := bd_i64 hp_7.inK
    refine Wx.rd (v := .int .i64 (min m (ix 0 l k))) (rd_min rfl rfl) rfl ?_
    refine Wx.rd (v := .int .i64 (min m (ix 0 l k))) (rd_assign rfl) rfl ?_
    refine Wx.nil ?_
    refine W.reg ?_
    refine Wx.rd (v := .int .i64 k) (rd_move rfl) rfl ?_
    refine Wx.rd (v := .int .i64 (k + 1)) (rd_add rfl rfl (in_i64 (by omega) (by omega))) rfl ?_
    refine Wx.rd (v := .int .i64 (k + 1)) (rd_assign rfl) rfl ?_
    refine Wx.nil ?_
    refine ⟨(min m (ix 0 l k), k + 1), (by show (l.length - (k + 1)).toNat < (l.length - k).toNat; omega), ?_, ?_, Out.look rfl Out.self⟩
    · exact ⟨hS, (by first | omega | assumption), (by first | omega | assumption), (min_next (by omega) (by omega) h2)⟩
    · exact ⟨rfl, rfl, trivial⟩
  · -- no
    refine W.exit rfl ?_
    refine W.seq ?_
    refine W.reg ?_
    refine Wx.rd (v := .int .i64 m) (rd_move rfl) rfl ?_
    refine Wx.rd (v := .int .i64 m) (rd_assign rfl) rfl ?_
    refine Wx.nil ?_
    have e0_0 : (minL l) = (m : Int) := by rw [← h2, drop_end (by omega)]; rfl
    exact W.ret ⟨.int .i64 m, ResIs.one, hS.bel, (by rw [e0_0])⟩

theorem F72 {v : Value} {l : List Int} {Fr_v : List (Option Nat)} {w : World} (h_v : V (tSl (tI .i64)) l v Fr_v w) (p_ne : 1 ≤ (l.length : Int)) : Calls Try.prog 72 #[v] w (Ret w (fun r _ => r = .int .i64 (maxL l))) := by
  have a_v := h_v.any
  have l_v := h_v.len63
  have hS := St.start0 w
  refine enterR Try.func72 rfl Try.ntmps72 Try.results72 rfl ?_
  refine W.seq ?_
  refine W.reg ?_
  refine Wx.rd (v := .int .i64 0) (rd_assign rfl) rfl ?_
  refine Wx.nil ?_
  refine W.seq ?_
  refine W.seq ?_
  refine W.reg ?_
  refine Wx.rd (v := v) (rd_move rfl) rfl ?_
  refine Wx.rd (v := .int .i64 (l.length : Int)) (rd_lenV rfl (hS.arg a_v) Try.underlying39) rfl ?_
  refine Wx.rd (v := .bool (decide ((l.length : Int) < 1))) (rd_lss rfl rfl) rfl ?_
  refine Wx.nil ?_
  refine W.condF rfl (by simp; omega) ?_
  refine W.skip ?_
  refine W.seq ?_
  refine W.reg ?_
  refine Wx.rd (v := v) (rd_move rfl) rfl ?_
  refine Wx.ex (rd_index 0 (hS.arg a_v) rfl rfl Try.underlying39 Try.sizeOf3 (by first | omega | (simp only [List.length_set, List.length_append, List.length_cons, List.length_nil, List.length_replicate]; omega)) (by first | omega | (simp only [List.length_set, List.length_append, List.length_cons, List.length_nil, List.length_replicate]; omega))) rfl (fun p_1 hp_2 => ?_)
  refine Wx.rd (v := .int .i64 (ix 0 l 0)) (rd_loadI hp_2 rfl Try.isAgg3 Try.sizeOf3) rfl ?_
  have bd_3 := bd_i64 hp_2.inK
  refine Wx.rd (v := .int .i64 (ix 0 l 0)) (rd_assign rfl) rfl ?_
  refine Wx.nil ?_
  refine W.seq ?_
  refine W.seq ?_
  refine W.reg ?_
  refine Wx.rd (v := .int .i64 1) (rd_assign rfl) rfl ?_
  refine Wx.nil ?_
  refine W.block ?_
  refine W.loop [3, 4, 12, 13, 14, 15, 16, 17, 18, 19, 20, 21, 22, 23] (fun x : Int × Int => match x with | (m, k) => [(3, .int .i64 m), (4, .int .i64 k)]) (fun (x : Int × Int) w' => match x with | (m, k) => St w [] w' [] ∧ 1 ≤ k ∧ k ≤ l.length ∧ (l.drop k.toNat).foldl max m = maxL l) (fun x : Int × Int => match x with | (m, k) => (l.length - k).toNat) (ix 0 l 0, 1) ⟨rfl, rfl, trivial⟩ ⟨hS, (by first | omega | simp), (by first | omega | simp), (max_start p_ne)⟩ ?_
  rintro ⟨m, k⟩ u_5 w_4 ⟨hS, h0, h1, h2⟩
  refine W.seq ?_
  refine W.seq ?_
  refine W.reg ?_
  refine Wx.rd (v := .int .i64 k) (rd_move rfl) rfl ?_
  refine Wx.rd (v := v) (rd_move rfl) rfl ?_
  refine Wx.rd (v := .int .i64 (l.length : Int)) (rd_lenV rfl (hS.arg a_v) Try.underlying39) rfl ?_
  refine Wx.rd (v := .bool (decide (k < (l.length : Int)))) (rd_lss rfl rfl) rfl ?_
  refine Wx.nil ?_
  refine W.condD rfl (fun c1 => ?_) (fun c1 => ?_)
  · -- yes
    refine W.skip ?_
    refine W.seq ?_
    refine W.block ?_
    refine W.reg ?_
    refine Wx.rd (v := .int .i64 m) (rd_move rfl) rfl ?_
    refine Wx.rd (v := v) (rd_move rfl) rfl ?_
    refine Wx.rd (v := .int .i64 k) (rd_move rfl) rfl ?_
    refine Wx.ex (rd_index 0 (hS.arg a_v) rfl rfl Try.underlying39 Try.sizeOf3 (by first | omega | (simp only [List.length_set, List.length_append, List.length_cons, List.length_nil, List.length_replicate]; omega)) (by first | omega | (simp only [List.length_set, List.length_append, List.length_cons, List.length_nil, List.length_replicate]; omega))) rfl (fun p_6 hp_7 => ?_)
    refine Wx.rd (v := .int .i64 (ix 0 l k)) (rd_loadI hp_7 rfl Try.isAgg3 Try.sizeOf3) rfl ?_
    have bd_8 := bd_i64 hp_7.inK
    refine Wx.rd (v := .int .i64 (max m (ix 0 l k))) (rd_max rfl rfl) rfl ?_
    refine Wx.rd (v := .int .i64 (max m (ix 0 l k))) (rd_assign rfl) rfl ?_
    refine Wx.nil ?_
    refine W.reg ?_
    refine Wx.rd (v := .int .i64 k) (rd_move rfl) rfl ?_
    refine Wx.rd (v := .int .i64 (k + 1)) (rd_add rfl rfl (in_i64 (by omega) (by omega))) rfl ?_
    refine Wx.rd (v := .int .i64 (k + 1)) (rd_assign rfl) rfl ?_
    refine Wx.nil ?_
    refine ⟨(max m (ix 0 l k), k + 1), (by show (l.length - (k + 1)).toNat < (l.length - k).toNat; omega), ?_, ?_, Out.look rfl Out.self⟩
    · exact ⟨hS, (by first | omega | assumption), (by first | omega | assumption), (max_next (by omega) (by omega) h2)⟩
    · exact ⟨rfl, rfl, trivial⟩
  · -- no
    refine W.exit rfl ?_
    refine W.seq ?_
    refine W.reg ?_
    refine Wx.rd (v := .int .i64 m) (rd_move rfl) rfl ?_
    refine Wx.rd (v := .int .i64 m) (rd_assign rfl) rfl ?_
    refine Wx.nil ?_
    have e0_0 : (maxL l) = (m : Int) := by rw [← h2, drop_end (by omega)]; rfl
    exact W.ret ⟨.int .i64 m, ResIs.one, hS.bel, (by rw [e0_0])⟩
end Go.Proofs.Ytjbcpggikaeleaa
