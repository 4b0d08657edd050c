/-
  WHAT IS PROVED HERE, TEXT BY TEXT (several texts of one prover, joined to one file; the conditions stand in each statement):
  * WHAT IS SAID HERE, WITH PLAIN LAWS: lists of different numbers, each of which leads to the next one: all of them, in ascending order. No program in sight. Conditions stand in each statement.
  * WHAT IS PROVED HERE: plain laws of the shortest lists that lead from a number to another one: how far each number is from the last one, the first of the shortest lists. No program in sight. Conditions stand in each statement.
  * WHAT IS PROVED HERE: plain laws of rings: a ring turned is a ring, from the smallest number on; the shortest way back and a step that shows better are a ring; the first of all rings is the least one. No program in sight. Conditions stand in each statement.
  * WHAT IS PROVED HERE: plain laws of the ring that is found: of all steps that show better, each with the shortest ways back, turned to the smallest number, the least one is the first of all rings. No program in sight. Conditions stand in each statement.
  * WHAT IS PROVED HERE: plain laws: the ring that is found is the first of all rings, or there is none; what leads to what, found by way of one number after the other. No program in sight. Conditions stand in each statement.
  * WHAT IS PROVED HERE: plain laws of classes and of numbers: what leads to something and is not led back to is of a higher class; numbers by classes are right, and not too large. No program in sight. Conditions stand in each statement.
  * WHAT IS SAID HERE, WITH PLAIN LAWS: shores, what reaches the river over places that are not too high, and the sill of a place. No program in sight. Conditions stand in each statement.
  * WHAT IS PROVED HERE: plain laws of water that comes in from the river, always over the lowest place beside what it has: what it finds are the sills. No program in sight. Conditions stand in each statement.
  * WHAT IS PROVED HERE: plain laws of places that are gone through from one on, neighbour by neighbour: all that can be reached. No program in sight. Conditions stand in each statement.
  * WHAT IS PROVED HERE: plain laws of neighbours: the four places that are looked at are the neighbours, in ascending order. No program in sight. Conditions stand in each statement.
  * WHAT IS SAID HERE, WITH PLAIN LAWS: what shores answer: checked ones, sills, depths, bare places, pools, hours. No program in sight. Conditions stand in each statement.
  * WHAT IS PROVED HERE: plain laws of the first number of which something holds. No program in sight. Conditions stand in each statement.
  * WHAT IS PROVED HERE: plain laws of pools: each is told by its first place. No program in sight. Conditions stand in each statement.
  * WHAT IS PROVED HERE: plain laws of hours, and of barriers. No program in sight. Conditions stand in each statement.
  * WHAT IS PROVED HERE: plain laws of the shortest ways to the river over places that are not too high: found in rounds, or neighbour by neighbour. No program in sight. Conditions stand in each statement.
  * WHAT IS PROVED HERE: plain laws of what is answered about ways, basins and barriers. No program in sight. Conditions stand in each statement.
  * WHAT IS PROVED HERE: plain laws of ways between two places, and of trees of joints: joints that are taken, the lowest first, connect what ways connect. No program in sight. Conditions stand in each statement.
  * WHAT IS PROVED HERE: plain laws of labels: what is connected has the same one. No program in sight. Conditions stand in each statement.
  * WHAT IS PROVED HERE: plain laws of the neighbours that have come so far. No program in sight. Conditions stand in each statement.
  * WHAT IS PROVED HERE: plain laws of sills that are found place by place, in lists. No program in sight. Conditions stand in each statement.
  * WHAT IS PROVED HERE: plain laws of comparing two rows of numbers. No program in sight.
  * DERIVED: THE SHELF's CONTRACTS AT THIS DUMP, IN PLAIN WORDS (tools/lay-plain.mjs out of 'TryzShelf.lean', which tools/lay-shelf.mjs wrote): THE SAME DECLARATIONS UNDER THE SAME NAMES: 'import', 'namespace', 'open', 'def', 'theorem' AND NOTHING ELSE: no command of the shelf's: FOR A HAND-IN. Each laying: the table of numbers ('.._ren') and one theorem, a field a fact of the dump's own or the kernel's comparison; each contract: ONE APPLICATION.
  * WHAT IS PROVED HERE: what functions hand back, each out of its own code; the conditions stand in each statement.
  * WHAT IS PROVED HERE: queues: the tail of a slice of the call's own, which is appended to. Nothing here speaks of a program.
  * WHAT IS PROVED HERE: plain laws of places that are gone through from a queue. No program in sight.
  * WHAT IS PROVED HERE: plain laws of the shortest ways to the river, found from the river on, one place after the other. No program in sight.
  * WHAT IS PROVED HERE: plain laws of all joints, in their order. No program in sight.
  * WHAT IS PROVED HERE: plain laws of places that are put together, each under another one; and of the joints that are taken. No program in sight.
  * WHAT IS SAID HERE, WITH PLAIN LAWS: ways along pointers, rings, and that the rings of all are told by who is in them. No program in sight. Conditions stand in each statement.
  * WHAT IS SAID HERE, WITH PLAIN LAWS: how rings are looked for along pointers, each holder marked once. No program in sight. Conditions stand in each statement.
  * WHAT IS SAID HERE, WITH PLAIN LAWS: exchanges in rounds: who is there points to whom holds the best stretch left; rings go, round by round, until all are gone. No program in sight. Conditions stand in each statement.
  * WHAT IS PROVED HERE: elements of one cell that are told by a function from data to values. Conditions stand in each statement; they hold over any program.
  * WHAT IS SAID HERE, WITH PLAIN LAWS: holders as values, how a wish is found, and how an exchange's state is kept. Conditions stand in each statement.
-/
import Derived.Test.YtlibemgaepkceaaGreatDoorU1
import Derived.Shelf.Strings.Builder1
import Derived.Shelf.SlSortCmp.Whole1
import Derived.Shelf.Small.Utf8
import Derived.Shelf.Small.Bits
import Derived.Shelf.Small.Strs
import Derived.Shelf.Strings.BuilderF
import Derived.Shelf.Strings.BuilderK
import Derived.Shelf.Strconv.Itoa0
import Derived.Shelf.Strings.Search1
import Derived.Shelf.Unicode.Latin
import Derived.Shelf.Unicode.Props
import Derived.Shelf.Strings.Runes
import Derived.Shelf.Bits.Mul64
import Derived.Shelf.Unicode.Is16White
import Derived.Shelf.Unicode.IsSpaceAny
import Derived.Shelf.Unicode.CaseLookup
import Derived.Shelf.Unicode.CaseConvert
import Derived.Shelf.Unicode.CaseTo
import Derived.Shelf.Unicode.CaseLaid
import Derived.Shelf.Unicode.Is16Any
import Derived.Shelf.Unicode.Is32Any
import Derived.Shelf.Unicode.ExclAny
import Derived.Shelf.Unicode.PredsAny
import Derived.Shelf.Unicode.PredsPay
import Derived.Test.YtlibemgaepkceaaGreatDoorProg

set_option linter.unusedVariables false
set_option linter.unusedSimpArgs false

namespace Go.Proofs.YtlibemgaepkceaaGreatDoor
open Go.Wk
set_option linter.unusedVariables false
def rng (i n : Int) : List Int := (List.range (n - i).toNat).map fun (k : Nat) => i + k
theorem rng_mem {i n x : Int} : x ∈ rng i n ↔ i ≤ x ∧ x < n := by
  rw [rng, List.mem_map]
  constructor
  · rintro ⟨k, hk, rfl⟩
    rw [List.mem_range] at hk
    omega
  · intro h
    exact ⟨(x - i).toNat, List.mem_range.2 (by omega), by omega⟩
theorem rng_nil {i n : Int} (h : n ≤ i) : rng i n = [] := by rw [rng, show (n - i).toNat = 0 by omega]; rfl
theorem rng_cons {i n : Int} (h : i < n) : rng i n = i :: rng (i + 1) n := by
  rw [rng, show (n - i).toNat = (n - (i + 1)).toNat + 1 by omega, List.range_succ_eq_map, List.map_cons, List.map_map, rng]
  simp only [List.cons.injEq]
  refine ⟨by omega, List.map_congr_left fun k _ => ?_⟩
  show i + ((k + 1 : Nat) : Int) = i + 1 + (k : Int)
  omega
theorem rng_snoc {i n : Int} (h : i ≤ n) : rng i (n + 1) = rng i n ++ [n] := by
  rw [rng, show (n + 1 - i).toNat = (n - i).toNat + 1 by omega, List.range_succ, List.map_append, rng]
  simp only [List.map_cons, List.map_nil, List.append_cancel_left_eq, List.cons.injEq, and_true]
  omega
theorem rng_asc (i n : Int) : (rng i n).Pairwise (· < ·) := by
  rw [rng, List.pairwise_map]
  exact List.pairwise_lt_range.imp fun h => by omega
theorem rng_length {i n : Int} (h : i ≤ n) : ((rng i n).length : Int) = n - i := by rw [rng, List.length_map, List.length_range]; omega
theorem short_of {n : Int} {l : List Int} (hn : 0 ≤ n) (h : l.Nodup) (hb : ∀ x ∈ l, 0 ≤ x ∧ x < n) : (l.length : Int) ≤ n := by
  have := List.Nodup.length_le_of_subset h (l₂ := rng 0 n) fun x hx => rng_mem.2 (hb x hx)
  have h2 := rng_length hn
  omega
def topI (l : List Int) : Int := ix 0 l (l.length - 1)
def chainP (G : Int → Int → Bool) : Int → List Int → Prop
  | _, [] => True
  | a, b :: l => G a b = true ∧ chainP G b l
variable {G : Int → Int → Bool} {n : Int}
def hasL (l : List Int) (x : Int) : Bool := l.any fun y => decide (y = x)
theorem hasL_iff {l : List Int} {x : Int} : hasL l x = true ↔ x ∈ l := by
  rw [hasL, List.any_eq_true]
  exact ⟨fun ⟨y, hy, h⟩ => by rw [← of_decide_eq_true h]; exact hy, fun h => ⟨x, h, decide_eq_true rfl⟩⟩
/-! ### ascending order -/
def ltL : List Int → List Int → Prop
  | [], [] => False
  | [], _ :: _ => True
  | _ :: _, [] => False
  | a :: p, b :: q => a < b ∨ (a = b ∧ ltL p q)
theorem ltL_irr : ∀ p : List Int, ¬ ltL p p
  | [], h => h
  | a :: p, h => h.elim (fun k => Int.lt_irrefl _ k) fun k => ltL_irr p k.2
theorem ltL_trans : ∀ {p q r : List Int}, ltL p q → ltL q r → ltL p r
  | [], [], _, h, _ => h.elim
  | [], _ :: _, [], _, k => k.elim
  | [], _ :: _, _ :: _, _, _ => trivial
  | _ :: _, [], _, h, _ => h.elim
  | _ :: _, _ :: _, [], _, k => k.elim
  | a :: p, b :: q, c :: r, h, k => by
    rcases h with h | ⟨rfl, h⟩
    · rcases k with k | ⟨rfl, k⟩
      · exact .inl (by omega)
      · exact .inl h
    · rcases k with k | ⟨rfl, k⟩
      · exact .inl k
      · exact .inr ⟨rfl, ltL_trans h k⟩
theorem ltL_total : ∀ p q : List Int, ltL p q ∨ p = q ∨ ltL q p
  | [], [] => .inr (.inl rfl)
  | [], _ :: _ => .inl trivial
  | _ :: _, [] => .inr (.inr trivial)
  | a :: p, b :: q => by
    by_cases h : a < b
    · exact .inl (.inl h)
    · by_cases h2 : b < a
      · exact .inr (.inr (.inl h2))
      · have : a = b := by omega
        subst this
        rcases ltL_total p q with k | rfl | k
        · exact .inl (.inr ⟨rfl, k⟩)
        · exact .inr (.inl rfl)
        · exact .inr (.inr (.inr ⟨rfl, k⟩))
end Go.Proofs.YtlibemgaepkceaaGreatDoor

namespace Go.Proofs.YtlibemgaepkceaaGreatDoor
open Go.Wk
set_option linter.unusedVariables false
def rchB (G : Int → Int → Bool) (n b : Int) : Nat → Int → Bool
  | 0, i => decide (i = b)
  | d + 1, i => (rng 0 n).any fun k => G i k && rchB G n b d k
def isFar (G : Int → Int → Bool) (n b i s : Int) : Prop := 1 ≤ s ∧ rchB G n b (s - 1).toNat i = true ∧ ∀ d < (s - 1).toNat, rchB G n b d i = false
variable {G : Int → Int → Bool} {n b : Int}
theorem rch_step {d : Nat} {i : Int} : rchB G n b (d + 1) i = true ↔ ∃ k, (0 ≤ k ∧ k < n) ∧ G i k = true ∧ rchB G n b d k = true := by
  rw [rchB, List.any_eq_true]
  constructor
  · rintro ⟨k, hk, h⟩
    rw [Bool.and_eq_true] at h
    exact ⟨k, rng_mem.1 hk, h⟩
  · rintro ⟨k, hk, h⟩
    exact ⟨k, rng_mem.2 hk, by rw [Bool.and_eq_true]; exact h⟩
theorem top_cons (a x : Int) (e : List Int) : topI (a :: x :: e) = topI (x :: e) := by
  rw [topI, topI, ix, ix, List.length_cons]
  rw [show (((x :: e).length + 1 : Nat) : Int) - 1 = (((x :: e).length - 1 + 1 : Nat) : Int) by simp]
  rw [Int.toNat_natCast, List.getD_cons_succ]
  congr 1
  simp
theorem chain_rch : ∀ {e : List Int} {a : Int}, chainP G a e → (∀ x ∈ e, 0 ≤ x ∧ x < n) → topI (a :: e) = b → rchB G n b e.length a = true
  | [], a, _, _, ht => decide_eq_true ht
  | x :: e, a, hc, hr, ht => by
    rw [top_cons] at ht
    exact rch_step.2 ⟨x, hr x (by simp), hc.1, chain_rch hc.2 (fun y hy => hr y (List.mem_cons_of_mem _ hy)) ht⟩
theorem rch_chain (hb : 0 ≤ b ∧ b < n) : ∀ {d : Nat} {a : Int}, rchB G n b d a = true → ∃ e, e.length = d ∧ chainP G a e ∧ (∀ x ∈ e, 0 ≤ x ∧ x < n) ∧ topI (a :: e) = b
  | 0, a, h => ⟨[], rfl, trivial, fun _ h => (by cases h), of_decide_eq_true h⟩
  | d + 1, a, h => by
    obtain ⟨k, hk, h1, h2⟩ := rch_step.1 h
    obtain ⟨e, h3, h4, h5, h6⟩ := rch_chain hb h2
    refine ⟨k :: e, by rw [List.length_cons, h3], ⟨h1, h4⟩, fun x hx => ?_, by rw [top_cons]; exact h6⟩
    rcases List.mem_cons.1 hx with rfl | hx
    · exact hk
    · exact h5 x hx
theorem far_next {a x s : Int} (h : isFar G n b a (s + 1)) (h0 : 1 ≤ s) (hg : G a x = true) (hx : 0 ≤ x ∧ x < n) (hr : rchB G n b (s - 1).toNat x = true) : isFar G n b x s := by
  refine ⟨h0, hr, fun d hd => ?_⟩
  cases hq : rchB G n b d x with
  | false => rfl
  | true =>
    have := h.2.2 (d + 1) (by omega)
    rw [rch_step.2 ⟨x, hx, hg, hq⟩] at this; cases this
theorem chain_app : ∀ {u v : List Int} {a x : Int}, chainP G a (u ++ x :: v) → chainP G x v
  | [], v, a, x, h => h.2
  | y :: u, v, a, x, h => chain_app (u := u) h.2
theorem top_app : ∀ (u v : List Int) (a x : Int), topI (a :: (u ++ x :: v)) = topI (x :: v)
  | [], v, a, x => top_cons a x v
  | y :: u, v, a, x => by rw [List.cons_append, top_cons, top_app u v y x]
theorem far_nodup : ∀ {e : List Int} {a : Int}, isFar G n b a ((e.length : Int) + 1) → chainP G a e → (∀ x ∈ e, 0 ≤ x ∧ x < n) → topI (a :: e) = b → (a :: e).Nodup
  | [], a, _, _, _, _ => by simp
  | x :: e, a, hf, hc, hr, ht => by
    rw [top_cons] at ht
    have hre : ∀ y ∈ e, 0 ≤ y ∧ y < n := fun y hy => hr y (List.mem_cons_of_mem _ hy)
    have h1 := chain_rch hc.2 hre ht
    have h2 : isFar G n b x ((e.length : Int) + 1) := by
      refine far_next (s := (e.length : Int) + 1) ?_ (by omega) hc.1 (hr x (by simp)) (by rw [show ((e.length : Int) + 1 - 1).toNat = e.length by omega]; exact h1)
      rw [List.length_cons] at hf
      rw [show (e.length : Int) + 1 + 1 = ((e.length + 1 : Nat) : Int) + 1 by omega]; exact hf
    refine List.nodup_cons.2 ⟨fun hm => ?_, far_nodup h2 hc.2 hre ht⟩
    obtain ⟨u, v, huv⟩ := List.append_of_mem hm
    have hlen := congrArg List.length huv
    rw [List.length_append, List.length_cons, List.length_cons] at hlen
    have hch : chainP G a (u ++ a :: v) := by rw [← huv]; exact hc
    have htv : topI (a :: v) = b := by
      have h3 : topI (a :: (u ++ a :: v)) = b := by rw [← huv, top_cons]; exact ht
      rwa [top_app] at h3
    have h4 := chain_rch (chain_app hch) (fun y hy => hr y (by rw [huv]; simp [hy])) htv
    have h5 := hf.2.2 v.length (by rw [List.length_cons]; omega)
    rw [h4] at h5; cases h5

theorem far_le (hb : 0 ≤ b ∧ b < n) {i s : Int} (hi : 0 ≤ i ∧ i < n) (h : isFar G n b i s) : s ≤ n := by
  obtain ⟨e, h4, h5, h6, h7⟩ := rch_chain hb h.2.1
  have h0 := h.1
  have h8 := far_nodup (by rw [h4, show (((s - 1).toNat : Nat) : Int) + 1 = s by omega]; exact h) h5 h6 h7
  have h9 := short_of (n := n) (by omega) h8 (fun x hx => by
    rcases List.mem_cons.1 hx with rfl | hx
    · exact hi
    · exact h6 x hx)
  rw [List.length_cons, h4] at h9
  omega
/-! ### how far, found step by step -/
/-! ### the first of the shortest lists -/
theorem find_rng {p : Int → Bool} {m k : Int} (h : (rng 0 m).find? p = some k) : (0 ≤ k ∧ k < m) ∧ p k = true ∧ ∀ q, 0 ≤ q → q < k → p q = false := by
  obtain ⟨h1, asx, bs, h2, h3⟩ := List.find?_eq_some_iff_append.1 h
  have hk : k ∈ rng 0 m := by rw [h2]; simp
  refine ⟨rng_mem.1 hk, h1, fun q q0 q1 => ?_⟩
  have hq : q ∈ rng 0 m := rng_mem.2 ⟨q0, by have := rng_mem.1 hk; omega⟩
  rw [h2] at hq
  have hs := rng_asc 0 m
  rw [h2, List.pairwise_append] at hs
  rcases List.mem_append.1 hq with hq | hq
  · simpa using h3 q hq
  · rcases List.mem_cons.1 hq with rfl | hq
    · omega
    · have := (List.pairwise_cons.1 hs.2.1).1 q hq; omega
end Go.Proofs.YtlibemgaepkceaaGreatDoor

namespace Go.Proofs.YtlibemgaepkceaaGreatDoor
open Go.Wk
set_option linter.unusedVariables false
variable {G B : Int → Int → Bool} {n : Int}
/-! ### turned to the smallest -/
def idxL (l : List Int) (x : Int) : Nat := l.findIdx fun y => decide (y = x)
/-! ### all rings -/
end Go.Proofs.YtlibemgaepkceaaGreatDoor

namespace Go.Proofs.YtlibemgaepkceaaGreatDoor
open Go.Wk
set_option linter.unusedVariables false
variable {G B : Int → Int → Bool} {n : Int}
theorem far_of {b i : Int} : ∀ (d : Nat), rchB G n b d i = true → ∃ s, isFar G n b i s ∧ s ≤ (d : Int) + 1
  | d, h => by
    induction d using Nat.strongRecOn with
    | ind d ih =>
      by_cases hq : ∃ d' < d, rchB G n b d' i = true
      · obtain ⟨d', h1, h2⟩ := hq
        obtain ⟨s, h3, h4⟩ := ih d' h1 h2
        exact ⟨s, h3, by omega⟩
      · refine ⟨(d : Int) + 1, ⟨by omega, by rw [show ((d : Int) + 1 - 1).toNat = d by omega]; exact h, fun d' hd => ?_⟩, Int.le_refl _⟩
        cases hr : rchB G n b d' i with
        | false => rfl
        | true => exact absurd ⟨d', by omega, hr⟩ hq
def ledB (G : Int → Int → Bool) (n a b : Int) : Bool := (List.range n.toNat).any fun d => rchB G n b d a
theorem led_iff {a b : Int} (ha : 0 ≤ a ∧ a < n) (hb : 0 ≤ b ∧ b < n) : ledB G n a b = true ↔ ∃ s, isFar G n b a s := by
  rw [ledB, List.any_eq_true]
  constructor
  · rintro ⟨d, _, h⟩
    obtain ⟨s, h1, _⟩ := far_of d h
    exact ⟨s, h1⟩
  · rintro ⟨s, h⟩
    have := far_le hb ha h
    have := h.1
    exact ⟨(s - 1).toNat, List.mem_range.2 (by omega), h.2.1⟩
theorem led_rch {a b : Int} (ha : 0 ≤ a ∧ a < n) (hb : 0 ≤ b ∧ b < n) : ledB G n a b = true ↔ ∃ d, rchB G n b d a = true :=
  (led_iff ha hb).trans ⟨fun ⟨s, h⟩ => ⟨_, h.2.1⟩, fun ⟨d, h⟩ => by obtain ⟨s, h1, _⟩ := far_of d h; exact ⟨s, h1⟩⟩

/-! ### the least of some lists, kept as they come -/
def cmpI (x y : Int) : Int := if x < y then -1 else if y < x then 1 else 0
def cmpL : List Int → List Int → Int
  | [], [] => 0
  | [], _ :: _ => -1
  | _ :: _, [] => 1
  | a :: p, b :: q => if cmpI a b ≠ 0 then cmpI a b else cmpL p q
theorem cmpL_lt : ∀ {p q : List Int}, cmpL p q < 0 ↔ ltL p q
  | [], [] => by simp [cmpL, ltL]
  | [], _ :: _ => by simp [cmpL, ltL]
  | _ :: _, [] => by simp [cmpL, ltL]
  | a :: p, b :: q => by
    rw [cmpL, cmpI]
    show _ ↔ a < b ∨ (a = b ∧ ltL p q)
    by_cases h1 : a < b
    · rw [if_pos h1]; simp [h1]
    · rw [if_neg h1]
      by_cases h2 : b < a
      · rw [if_pos h2]; simp [h1]; omega
      · rw [if_neg h2]
        have : a = b := by omega
        simp [this, cmpL_lt (p := p) (q := q)]
/-! ### the ring that is found -/
end Go.Proofs.YtlibemgaepkceaaGreatDoor

namespace Go.Proofs.YtlibemgaepkceaaGreatDoor
open Go.Wk
set_option linter.unusedVariables false
variable {G B : Int → Int → Bool} {n : Int}
/-! ### what leads to what -/
inductive viaP (G : Int → Int → Bool) (n k : Int) : Int → Int → Prop
  | one {a b : Int} : G a b = true → viaP G n k a b
  | two {a c b : Int} : 0 ≤ c → c < k → viaP G n k a c → viaP G n k c b → viaP G n k a b
theorem rch_trans {a c b : Int} : ∀ {d d' : Nat}, rchB G n c d a = true → rchB G n b d' c = true → rchB G n b (d + d') a = true
  | 0, d', h, k => by rw [Nat.zero_add, of_decide_eq_true h]; exact k
  | d + 1, d', h, k => by
    obtain ⟨x, hx, h1, h2⟩ := rch_step.1 h
    rw [show d + 1 + d' = (d + d') + 1 by omega]
    exact rch_step.2 ⟨x, hx, h1, rch_trans h2 k⟩
end Go.Proofs.YtlibemgaepkceaaGreatDoor

namespace Go.Proofs.YtlibemgaepkceaaGreatDoor
open Go.Wk
set_option linter.unusedVariables false
variable {G B : Int → Int → Bool} {n : Int}
theorem led_trans {a c b : Int} (ha : 0 ≤ a ∧ a < n) (hc : 0 ≤ c ∧ c < n) (hb : 0 ≤ b ∧ b < n) (h : ledB G n a c = true) (k : ledB G n c b = true) : ledB G n a b = true := by
  obtain ⟨d, hd⟩ := (led_rch ha hc).1 h
  obtain ⟨d', hd'⟩ := (led_rch hc hb).1 k
  exact (led_rch ha hb).2 ⟨d + d', rch_trans hd hd'⟩
theorem led_refl {a : Int} (ha : 0 ≤ a ∧ a < n) : ledB G n a a = true := (led_rch ha ha).2 ⟨0, decide_eq_true rfl⟩
theorem led_one {a b : Int} (ha : 0 ≤ a ∧ a < n) (hb : 0 ≤ b ∧ b < n) (h : G a b = true) : ledB G n a b = true := (led_rch ha hb).2 ⟨1, rch_step.2 ⟨b, hb, h, decide_eq_true rfl⟩⟩
/-! ### numbers -/
end Go.Proofs.YtlibemgaepkceaaGreatDoor

namespace Go.Proofs.YtlibemgaepkceaaGreatDoor
open Go.Wk
set_option linter.unusedVariables false
abbrev RelE := Int → Int → Bool
def adjB (C a b : Int) : Bool := if a / C = b / C then decide (a - b = 1) || decide (b - a = 1) else decide (a - b = C) || decide (b - a = C)
theorem adj_symm (C a b : Int) : adjB C a b = adjB C b a := by
  rw [adjB, adjB]
  by_cases h : a / C = b / C
  · rw [if_pos h, if_pos h.symm, Bool.or_comm]
  · rw [if_neg h, if_neg (fun k => h k.symm), Bool.or_comm]
def gH (C : Int) (H : List Int) (h : Int) : RelE := fun a b => adjB C a b && (decide (ix 0 H a ≤ h) && decide (ix 0 H b ≤ h))
def lastB (C : Int) (H : List Int) (a : Int) : Bool := decide ((H.length : Int) - C ≤ a)
def fallsB (C : Int) (H : List Int) (h a : Int) : Bool := decide (ix 0 H a ≤ h) && (rng 0 H.length).any fun b => lastB C H b && ledB (gH C H h) H.length a b
section
variable {C : Int} {H : List Int}
theorem gH_iff {h a b : Int} : gH C H h a b = true ↔ adjB C a b = true ∧ ix 0 H a ≤ h ∧ ix 0 H b ≤ h := by
  rw [gH, Bool.and_eq_true, Bool.and_eq_true, decide_eq_true_eq, decide_eq_true_eq]
theorem falls_iff {h a : Int} : fallsB C H h a = true ↔ ix 0 H a ≤ h ∧ ∃ b, (0 ≤ b ∧ b < (H.length : Int)) ∧ lastB C H b = true ∧ ledB (gH C H h) H.length a b = true := by
  rw [fallsB, Bool.and_eq_true, decide_eq_true_eq, List.any_eq_true]
  constructor
  · rintro ⟨h1, b, hb, h2⟩
    rw [Bool.and_eq_true] at h2
    exact ⟨h1, b, rng_mem.1 hb, h2⟩
  · rintro ⟨h1, b, hb, h2⟩
    exact ⟨h1, b, rng_mem.2 hb, by rw [Bool.and_eq_true]; exact h2⟩
theorem rch_monoG {G G' : RelE} {n b : Int} (hG : ∀ x y, G x y = true → G' x y = true) : ∀ (d : Nat) {a : Int}, rchB G n b d a = true → rchB G' n b d a = true
  | 0, a, h => h
  | d + 1, a, h => by
    obtain ⟨k, hk, h1, h2⟩ := rch_step.1 h
    exact rch_step.2 ⟨k, hk, hG _ _ h1, rch_monoG hG d h2⟩
theorem falls_mono {h k a : Int} (hk : h ≤ k) (hf : fallsB C H h a = true) (ha : 0 ≤ a ∧ a < (H.length : Int)) : fallsB C H k a = true := by
  obtain ⟨h1, b, hb, h2, h3⟩ := falls_iff.1 hf
  refine falls_iff.2 ⟨by omega, b, hb, h2, ?_⟩
  obtain ⟨d, hd⟩ := (led_rch ha hb).1 h3
  exact (led_rch ha hb).2 ⟨d, rch_monoG (fun x y hxy => by
    obtain ⟨e1, e2, e3⟩ := gH_iff.1 hxy
    exact gH_iff.2 ⟨e1, by omega, by omega⟩) d hd⟩
theorem falls_last {h a : Int} (ha : 0 ≤ a ∧ a < (H.length : Int)) (hl : lastB C H a = true) (hh : ix 0 H a ≤ h) : fallsB C H h a = true := falls_iff.2 ⟨hh, a, ha, hl, led_refl ha⟩
theorem falls_step {h a b : Int} (ha : 0 ≤ a ∧ a < (H.length : Int)) (hb : 0 ≤ b ∧ b < (H.length : Int)) (hab : adjB C a b = true) (hh : ix 0 H a ≤ h) (hf : fallsB C H h b = true) : fallsB C H h a = true := by
  obtain ⟨h1, c, hc, h2, h3⟩ := falls_iff.1 hf
  exact falls_iff.2 ⟨hh, c, hc, h2, led_trans ha hb hc (led_one ha hb (gH_iff.2 ⟨hab, hh, h1⟩)) h3⟩
theorem falls_shut {h : Int} {U : Int → Prop} (hU : ∀ x, (0 ≤ x ∧ x < (H.length : Int)) → U x → ix 0 H x ≤ h → ¬ lastB C H x = true ∧ ∀ y, (0 ≤ y ∧ y < (H.length : Int)) → adjB C x y = true → ¬ U y → ¬ fallsB C H h y = true) {a : Int} (ha : 0 ≤ a ∧ a < (H.length : Int)) (hu : U a) : ¬ fallsB C H h a = true := by
  intro hf
  obtain ⟨h1, b, hb, h2, h3⟩ := falls_iff.1 hf
  obtain ⟨d, hd⟩ := (led_rch ha hb).1 h3
  have key : ∀ (d : Nat) (x : Int), (0 ≤ x ∧ x < (H.length : Int)) → ix 0 H x ≤ h → rchB (gH C H h) H.length b d x = true → U x → False := by
    intro d
    induction d with
    | zero =>
      intro x hx hl hr hux
      have : x = b := of_decide_eq_true hr
      subst this
      exact (hU x hx hux hl).1 h2
    | succ d ih =>
      intro x hx hl hr hux
      obtain ⟨k, hk, e1, e2⟩ := rch_step.1 hr
      obtain ⟨f1, f2, f3⟩ := gH_iff.1 e1
      by_cases huk : U k
      · exact ih k hk f3 e2 huk
      · exact (hU x hx hux hl).2 k hk f1 huk (falls_iff.2 ⟨f3, b, hb, h2, (led_rch hk hb).2 ⟨d, e2⟩⟩)
  exact key d a ha h1 hd hu
def sillV (C : Int) (H : List Int) (a : Int) : Int := ((rng 0 30).find? fun h => fallsB C H h a).getD 30
structure ShoreOK (C : Int) (H : List Int) : Prop where
  c : 1 ≤ C
  r : ∃ R : Int, 1 ≤ R ∧ (H.length : Int) = R * C
  b : ∀ x ∈ H, 0 ≤ x ∧ x ≤ 30
theorem ShoreOK.at (h : ShoreOK C H) {a : Int} (h0 : 0 ≤ a) (h1 : a < H.length) : 0 ≤ ix 0 H a ∧ ix 0 H a ≤ 30 := h.b _ (List.mem_of_getElem? (ix_get h1 h0))
theorem adj_down {a : Int} (hC : 1 ≤ C) : adjB C a (a + C) = true := by
  have e : (a + C) / C = a / C + 1 := by
    rw [Int.add_ediv_of_dvd_right (Int.dvd_refl C), Int.ediv_self (by omega)]
  rw [adjB, if_neg (by omega), Bool.or_eq_true, decide_eq_true_eq, decide_eq_true_eq]
  exact .inr (by omega)
theorem falls_top (h : ShoreOK C H) {k : Int} (hk : 30 ≤ k) : ∀ (m : Nat) {a : Int}, ((H.length : Int) - a).toNat = m → 0 ≤ a → a < H.length → fallsB C H k a = true := by
  intro m
  induction m using Nat.strongRecOn with
  | _ m ih =>
    intro a hm h0 h1
    have hb := h.at h0 h1
    by_cases hl : lastB C H a = true
    · exact falls_last ⟨h0, h1⟩ hl (by omega)
    · have hl' : ¬ (H.length : Int) - C ≤ a := fun q => hl (decide_eq_true q)
      have hc := h.c
      exact falls_step ⟨h0, h1⟩ ⟨by omega, by omega⟩ (adj_down hc) (by omega) (ih _ (by omega) rfl (by omega) (by omega))
theorem sill_iff (h : ShoreOK C H) {a k : Int} (ha : 0 ≤ a ∧ a < (H.length : Int)) : sillV C H a ≤ k ↔ fallsB C H k a = true := by
  have hb := h.at ha.1 ha.2
  have hneg : ∀ k : Int, k < 0 → ¬ fallsB C H k a = true := fun k hk hf => by have := (falls_iff.1 hf).1; omega
  rw [sillV]
  cases hf : (rng 0 30).find? fun h => fallsB C H h a with
  | none =>
    show (30 : Int) ≤ k ↔ _
    constructor
    · intro hk; exact falls_top h hk _ rfl ha.1 ha.2
    · intro hk
      refine Decidable.byContradiction fun hlt => ?_
      by_cases h0 : 0 ≤ k
      · have := List.find?_eq_none.1 hf k (rng_mem.2 ⟨h0, by omega⟩)
        exact this hk
      · exact hneg k (by omega) hk
  | some s =>
    show s ≤ k ↔ _
    obtain ⟨⟨s0, s1⟩, hs, hmin⟩ := find_rng hf
    constructor
    · intro hk; exact falls_mono hk hs ha
    · intro hk
      refine Decidable.byContradiction fun hlt => ?_
      by_cases h0 : 0 ≤ k
      · have := hmin k h0 (by omega)
        rw [hk] at this; cases this
      · exact hneg k (by omega) hk
theorem sill_bd (h : ShoreOK C H) {a : Int} (ha : 0 ≤ a ∧ a < (H.length : Int)) : ix 0 H a ≤ sillV C H a ∧ 0 ≤ sillV C H a ∧ sillV C H a ≤ 30 := by
  have h1 := (falls_iff.1 ((sill_iff h ha).1 (Int.le_refl _))).1
  have h2 := (sill_iff h ha).2 (falls_top h (Int.le_refl 30) _ rfl ha.1 ha.2)
  have h3 := h.at ha.1 ha.2
  exact ⟨h1, by omega, h2⟩
theorem sill_last (h : ShoreOK C H) {a : Int} (ha : 0 ≤ a ∧ a < (H.length : Int)) (hl : lastB C H a = true) : sillV C H a = ix 0 H a := by
  have h1 := (sill_bd h ha).1
  have h2 := (sill_iff h ha).2 (falls_last ha hl (Int.le_refl _))
  omega
theorem sill_step (h : ShoreOK C H) {a b : Int} (ha : 0 ≤ a ∧ a < (H.length : Int)) (hb : 0 ≤ b ∧ b < (H.length : Int)) (hab : adjB C a b = true) : sillV C H a ≤ max (sillV C H b) (ix 0 H a) :=
  (sill_iff h ha).2 (falls_step ha hb hab (by omega) ((sill_iff h hb).1 (by omega)))
theorem sill_shut (h : ShoreOK C H) {k : Int} {U : Int → Prop} (hU : ∀ x, (0 ≤ x ∧ x < (H.length : Int)) → U x → ix 0 H x ≤ k → ¬ lastB C H x = true ∧ ∀ y, (0 ≤ y ∧ y < (H.length : Int)) → adjB C x y = true → ¬ U y → k < sillV C H y) {a : Int} (ha : 0 ≤ a ∧ a < (H.length : Int)) (hu : U a) : k < sillV C H a := by
  have := falls_shut (C := C) (H := H) (h := k) (U := U) (fun x hx hux hl => ⟨(hU x hx hux hl).1, fun y hy hxy hny hf => by
    have h1 := (hU x hx hux hl).2 y hy hxy hny
    have h2 := (sill_iff h hy).2 hf
    omega⟩) ha hu
  rw [← sill_iff h ha] at this
  omega
end
end Go.Proofs.YtlibemgaepkceaaGreatDoor

namespace Go.Proofs.YtlibemgaepkceaaGreatDoor
open Go.Wk
set_option linter.unusedVariables false
section
variable {C : Int} {H : List Int} {D : Int → Bool} {o : Int → Int}
def inR (H : List Int) (x : Int) : Prop := 0 ≤ x ∧ x < (H.length : Int)
def DjI (C : Int) (H : List Int) (D : Int → Bool) (o : Int → Int) : Prop :=
  (∀ x, inR H x → sillV C H x ≤ o x) ∧ (∀ x, inR H x → D x = true → o x = sillV C H x) ∧ (∀ x, inR H x → D x = false → lastB C H x = true → o x ≤ ix 0 H x) ∧
  ∀ x y, inR H x → inR H y → D x = false → D y = true → adjB C x y = true → o x ≤ max (o y) (ix 0 H x)
theorem dj_start (h : ShoreOK C H) (hD : ∀ x, inR H x → D x = false) (ho : ∀ x, inR H x → o x = if lastB C H x = true then ix 0 H x else 31) : DjI C H D o := by
  refine ⟨fun x hx => ?_, fun x hx hd => ?_, fun x hx _ hl => ?_, fun x y hx hy _ hd _ => ?_⟩
  · rw [ho x hx]
    by_cases hl : lastB C H x = true
    · rw [if_pos hl, sill_last h hx hl]; exact Int.le_refl _
    · rw [if_neg hl]; have := (sill_bd h hx).2.2; omega
  · rw [hD x hx] at hd; cases hd
  · rw [ho x hx, if_pos hl]; exact Int.le_refl _
  · rw [hD y hy] at hd; cases hd
theorem dj_next (h : ShoreOK C H) (hI : DjI C H D o) {z : Int} (hz : inR H z) (hd : D z = false) (hmin : ∀ x, inR H x → D x = false → o z ≤ o x) : o z = sillV C H z := by
  have h1 := hI.1 z hz
  refine Decidable.byContradiction fun hne => ?_
  have := sill_shut h (k := sillV C H z) (U := fun x => D x = false) (fun x hx hu hl => ⟨fun hlast => ?_, fun y hy hxy hny => ?_⟩) hz hd
  · omega
  · have h2 := hI.2.2.1 x hx hu hlast
    have h3 := hmin x hx hu
    omega
  · have hdy : D y = true := by simpa using hny
    have h2 := hI.2.2.2 x y hx hy hu hdy hxy
    have h3 := hmin x hx hu
    have h4 := hI.2.1 y hy hdy
    omega
def DjP (C : Int) (H : List Int) (D : Int → Bool) (z : Int) (P : Int → Prop) (o : Int → Int) : Prop :=
  (∀ x, inR H x → sillV C H x ≤ o x) ∧ (∀ x, inR H x → D x = true ∨ x = z → o x = sillV C H x) ∧ (∀ x, inR H x → D x = false → x ≠ z → lastB C H x = true → o x ≤ ix 0 H x) ∧
  (∀ x y, inR H x → inR H y → D x = false → x ≠ z → D y = true → adjB C x y = true → o x ≤ max (o y) (ix 0 H x)) ∧ ∀ x, inR H x → D x = false → x ≠ z → adjB C x z = true → P x → o x ≤ max (o z) (ix 0 H x)
theorem dj_open (h : ShoreOK C H) (hI : DjI C H D o) {z : Int} (hz : inR H z) (hd : D z = false) (hmin : ∀ x, inR H x → D x = false → o z ≤ o x) : DjP C H D z (fun _ => False) o :=
  ⟨hI.1, fun x hx hc => hc.elim (hI.2.1 x hx) (fun e => by rw [e]; exact dj_next h hI hz hd hmin), fun x hx hdx _ => hI.2.2.1 x hx hdx, fun x y hx hy hdx _ => hI.2.2.2 x y hx hy hdx, fun x hx _ _ _ hp => hp.elim⟩
theorem dj_look (h : ShoreOK C H) {z m : Int} {P : Int → Prop} (hz : inR H z) (hI : DjP C H D z P o) (hm : inR H m) (hadj : adjB C m z = true) {o' : Int → Int} (ho : ∀ x, inR H x → o' x = if x = m then min (o m) (max (o z) (ix 0 H m)) else o x) : DjP C H D z (fun x => P x ∨ x = m) o' := by
  obtain ⟨i1, i2, i3, i4, i5⟩ := hI
  have hzs := i2 z hz (.inr rfl)
  have hst := sill_step h hm hz hadj
  have hle : ∀ x, inR H x → o' x ≤ o x := fun x hx => by rw [ho x hx]; split <;> (try subst_vars) <;> omega
  have hsame : ∀ x, inR H x → D x = true ∨ x = z → o' x = o x := fun x hx hc => by
    rw [ho x hx]
    split
    · rename_i e
      subst e
      have := i2 x hx hc
      omega
    · rfl
  refine ⟨fun x hx => ?_, fun x hx hc => by rw [hsame x hx hc]; exact i2 x hx hc, fun x hx hd hne hl => Int.le_trans (hle x hx) (i3 x hx hd hne hl), fun x y hx hy hd hne hdy hxy => ?_, fun x hx hd hne hxz hp => ?_⟩
  · rw [ho x hx]
    split
    · rename_i e
      subst e
      have := i1 x hx
      omega
    · exact i1 x hx
  · rw [hsame y hy (.inl hdy)]
    exact Int.le_trans (hle x hx) (i4 x y hx hy hd hne hdy hxy)
  · rw [hsame z hz (.inr rfl)]
    rcases hp with hp | rfl
    · exact Int.le_trans (hle x hx) (i5 x hx hd hne hxz hp)
    · rw [ho x hx, if_pos rfl]; omega
theorem dj_close {z : Int} {P : Int → Prop} (hz : inR H z) (hI : DjP C H D z P o) (hP : ∀ x, inR H x → adjB C x z = true → P x) {D' : Int → Bool} (hD : ∀ x, inR H x → D' x = (D x || decide (x = z))) : DjI C H D' o := by
  obtain ⟨i1, i2, i3, i4, i5⟩ := hI
  have hf : ∀ x, inR H x → D' x = false → D x = false ∧ x ≠ z := fun x hx hd => by
    rw [hD x hx, Bool.or_eq_false_iff, decide_eq_false_iff_not] at hd; exact hd
  have ht : ∀ x, inR H x → D' x = true → D x = true ∨ x = z := fun x hx hd => by
    rw [hD x hx, Bool.or_eq_true, decide_eq_true_eq] at hd; exact hd
  refine ⟨i1, fun x hx hd => i2 x hx (ht x hx hd), fun x hx hd hl => i3 x hx (hf x hx hd).1 (hf x hx hd).2 hl, fun x y hx hy hd hdy hxy => ?_⟩
  obtain ⟨f1, f2⟩ := hf x hx hd
  rcases ht y hy hdy with hdy | rfl
  · exact i4 x y hx hy f1 f2 hdy hxy
  · exact i5 x hx f1 f2 hxy (hP x hx hxy)
theorem dj_end (hI : DjI C H D o) (hD : ∀ x, inR H x → D x = true) : ∀ x, inR H x → o x = sillV C H x := fun x hx => hI.2.1 x hx (hD x hx)
end
end Go.Proofs.YtlibemgaepkceaaGreatDoor

namespace Go.Proofs.YtlibemgaepkceaaGreatDoor
open Go.Wk
set_option linter.unusedVariables false
section
variable {A : RelE} {n : Int} {f : Int → Bool}
def rM (A : RelE) (f : Int → Bool) : RelE := fun a b => A a b && (f a && f b)
end
end Go.Proofs.YtlibemgaepkceaaGreatDoor

namespace Go.Proofs.YtlibemgaepkceaaGreatDoor
open Go.Wk
set_option linter.unusedVariables false
theorem asc_ext : ∀ {l m : List Int}, l.Pairwise (· < ·) → m.Pairwise (· < ·) → (∀ x, x ∈ l ↔ x ∈ m) → l = m
  | [], [], _, _, _ => rfl
  | [], y :: m, _, _, h => absurd ((h y).2 (by simp)) (by simp)
  | x :: l, [], _, _, h => absurd ((h x).1 (by simp)) (by simp)
  | x :: l, y :: m, hl, hm, h => by
    obtain ⟨l1, l2⟩ := List.pairwise_cons.1 hl
    obtain ⟨m1, m2⟩ := List.pairwise_cons.1 hm
    have hxy : x = y := by
      have h1 := (h x).1 (by simp)
      have h2 := (h y).2 (by simp)
      rcases List.mem_cons.1 h1 with e | h1
      · exact e
      · rcases List.mem_cons.1 h2 with e | h2
        · exact e.symm
        · have := m1 x h1; have := l1 y h2; omega
    subst hxy
    congr 1
    refine asc_ext l2 m2 fun z => ⟨fun hz => ?_, fun hz => ?_⟩
    · rcases List.mem_cons.1 ((h z).1 (List.mem_cons_of_mem _ hz)) with e | hz'
      · have := l1 z hz; omega
      · exact hz'
    · rcases List.mem_cons.1 ((h z).2 (List.mem_cons_of_mem _ hz)) with e | hz'
      · have := m1 z hz; omega
      · exact hz'
def four (C a : Int) : List Int := [a - C, a - 1, a + 1, a + C]
def outB (C n a k : Int) : Bool := ((decide (ix 0 (four C a) k < 0) || decide (n ≤ ix 0 (four C a) k)) || (decide (k = 1) && decide (a % C = 0))) || (decide (k = 2) && decide (ix 0 (four C a) k % C = 0))
def nbK (C n a k : Int) : List Int := if outB C n a k = true then [] else [ix 0 (four C a) k]
def nbL (C n a k : Int) : List Int := (rng k 4).flatMap (nbK C n a)
def nbV (C n a : Int) : List Int := (rng 0 n).filter (adjB C a)
def riverL (C n a : Int) : List Int := if n - C ≤ a then [n] else []
def nbW (C n a : Int) : List Int := nbV C n a ++ riverL C n a
theorem mod_step {C a q : Int} (hC : 1 ≤ C) (h : C * q ≤ a ∧ a < C * q + C) : a / C = q ∧ a % C = a - C * q := by
  have h1 := Int.emod_nonneg a (show C ≠ 0 by omega)
  have h2 := Int.emod_lt_of_pos a (show 0 < C by omega)
  have h3 := Int.mul_ediv_add_emod a C
  have : a / C = q := by
    rcases Int.lt_trichotomy (a / C) q with hlt | heq | hgt
    · have : C * (a / C) ≤ C * (q - 1) := Int.mul_le_mul_of_nonneg_left (by omega) (by omega)
      rw [Int.mul_sub C q] at this; omega
    · exact heq
    · have : C * (q + 1) ≤ C * (a / C) := Int.mul_le_mul_of_nonneg_left (by omega) (by omega)
      rw [Int.mul_add] at this; omega
  exact ⟨this, by rw [this] at h3; omega⟩
theorem adj_iff {C a b : Int} (hC : 1 ≤ C) : adjB C a b = true ↔ b = a - C ∨ (b = a - 1 ∧ a % C ≠ 0) ∨ (b = a + 1 ∧ (a + 1) % C ≠ 0) ∨ b = a + C := by
  have h1 := Int.emod_nonneg a (show C ≠ 0 by omega)
  have h2 := Int.emod_lt_of_pos a (show 0 < C by omega)
  have h3 := Int.mul_ediv_add_emod a C
  have key : ∀ d : Int, (a + d) / C = a / C ↔ 0 ≤ a % C + d ∧ a % C + d < C := by
    intro d
    have k1 := Int.emod_nonneg (a + d) (show C ≠ 0 by omega)
    have k2 := Int.emod_lt_of_pos (a + d) (show 0 < C by omega)
    have k3 := Int.mul_ediv_add_emod (a + d) C
    constructor
    · intro e; rw [e] at k3; omega
    · intro e; exact (mod_step hC (q := a / C) (by omega)).1
  have km := key (-1)
  have kp := key 1
  have kC : ¬ (a + C) / C = a / C := by rw [key]; omega
  have kD : ¬ (a + -C) / C = a / C := by rw [key]; omega
  have e1 : (a + 1) % C ≠ 0 ↔ a % C + 1 < C := by
    constructor
    · intro hne
      refine Decidable.byContradiction fun hlt => hne ?_
      have : (a + 1) / C = a / C + 1 ∧ (a + 1) % C = (a + 1) - C * (a / C + 1) := mod_step hC (by rw [Int.mul_add]; omega)
      rw [this.2, Int.mul_add]; omega
    · intro hlt e
      have := (mod_step hC (a := a + 1) (q := a / C) (by omega)).2
      omega
  rw [adjB]
  constructor
  · intro h
    split at h
    · rename_i hq
      rw [Bool.or_eq_true, decide_eq_true_eq, decide_eq_true_eq] at h
      rcases h with h | h
      · have : b = a + -1 := by omega
        subst this
        have := km.1 hq.symm
        exact .inr (.inl ⟨by omega, by omega⟩)
      · have : b = a + 1 := by omega
        subst this
        exact .inr (.inr (.inl ⟨rfl, e1.2 (kp.1 hq.symm).2⟩))
    · rw [Bool.or_eq_true, decide_eq_true_eq, decide_eq_true_eq] at h
      omega
  · rintro (rfl | ⟨rfl, hm⟩ | ⟨rfl, hm⟩ | rfl)
    · rw [if_neg (fun e => kD (by rw [show a + -C = a - C by omega]; exact e.symm)), Bool.or_eq_true, decide_eq_true_eq]; exact .inl (by omega)
    · rw [if_pos (by rw [show a - 1 = a + -1 by omega]; exact (km.2 (by omega)).symm), Bool.or_eq_true, decide_eq_true_eq]; exact .inl (by omega)
    · rw [if_pos (kp.2 (by have := e1.1 hm; omega)).symm, Bool.or_eq_true, decide_eq_true_eq, decide_eq_true_eq]; exact .inr (by omega)
    · rw [if_neg (fun e => kC e.symm), Bool.or_eq_true, decide_eq_true_eq, decide_eq_true_eq]; exact .inr (by omega)
theorem nbL_next {C n a k : Int} (h : k < 4) : nbL C n a k = nbK C n a k ++ nbL C n a (k + 1) := by rw [nbL, rng_cons h, List.flatMap_cons]; rfl
theorem nbL_end {C n a k : Int} (h : 4 ≤ k) : nbL C n a k = [] := by rw [nbL, rng_nil h]; rfl
theorem nbL_eq {C n a : Int} (hC : 1 ≤ C) : nbL C n a 0 = nbV C n a := by
  have e : nbL C n a 0 = nbK C n a 0 ++ (nbK C n a 1 ++ (nbK C n a 2 ++ nbK C n a 3)) := by
    rw [nbL_next (by decide), show (0 : Int) + 1 = 1 from rfl, nbL_next (by decide), show (1 : Int) + 1 = 2 from rfl, nbL_next (by decide), show (2 : Int) + 1 = 3 from rfl, nbL_next (by decide), nbL_end (by decide), List.append_nil]
  have q0 : ix 0 (four C a) 0 = a - C := rfl
  have q1 : ix 0 (four C a) 1 = a - 1 := rfl
  have q2 : ix 0 (four C a) 2 = a + 1 := rfl
  have q3 : ix 0 (four C a) 3 = a + C := rfl
  have m0 : ∀ x, x ∈ nbK C n a 0 ↔ x = a - C ∧ 0 ≤ x ∧ x < n := by
    intro x; rw [nbK, outB, q0]
    by_cases h : 0 ≤ a - C ∧ a - C < n
    · rw [if_neg (by simp; omega), List.mem_singleton]; omega
    · rw [if_pos (by simp; omega)]; simp; omega
  have m1 : ∀ x, x ∈ nbK C n a 1 ↔ (x = a - 1 ∧ a % C ≠ 0) ∧ 0 ≤ x ∧ x < n := by
    intro x; rw [nbK, outB, q1]
    by_cases h : (0 ≤ a - 1 ∧ a - 1 < n) ∧ a % C ≠ 0
    · rw [if_neg (by simp; omega), List.mem_singleton]; omega
    · rw [if_pos (by simp; omega)]; simp; omega
  have m2 : ∀ x, x ∈ nbK C n a 2 ↔ (x = a + 1 ∧ (a + 1) % C ≠ 0) ∧ 0 ≤ x ∧ x < n := by
    intro x; rw [nbK, outB, q2]
    by_cases h : (0 ≤ a + 1 ∧ a + 1 < n) ∧ (a + 1) % C ≠ 0
    · rw [if_neg (by simp; omega), List.mem_singleton]; omega
    · rw [if_pos (by simp; omega)]; simp; omega
  have m3 : ∀ x, x ∈ nbK C n a 3 ↔ x = a + C ∧ 0 ≤ x ∧ x < n := by
    intro x; rw [nbK, outB, q3]
    by_cases h : 0 ≤ a + C ∧ a + C < n
    · rw [if_neg (by simp; omega), List.mem_singleton]; omega
    · rw [if_pos (by simp; omega)]; simp; omega
  have one : ∀ k, (nbK C n a k).Pairwise (· < ·) := by
    intro k; rw [nbK]; split
    · exact .nil
    · exact List.pairwise_singleton _ _
  have hmod1 : C = 1 → a % C = 0 := by rintro rfl; exact Int.emod_one a
  have hmod2 : C = 1 → (a + 1) % C = 0 := by rintro rfl; exact Int.emod_one _
  rw [e]
  refine asc_ext ?_ ((rng_asc 0 n).filter _) fun x => ?_
  · refine List.pairwise_append.2 ⟨one 0, List.pairwise_append.2 ⟨one 1, List.pairwise_append.2 ⟨one 2, one 3, ?_⟩, ?_⟩, ?_⟩
    · intro x hx y hy
      rw [m2] at hx; rw [m3] at hy
      have : C ≠ 1 := fun e => hx.1.2 (hmod2 e)
      omega
    · intro x hx y hy
      rw [m1] at hx; rw [List.mem_append, m2, m3] at hy
      rcases hy with hy | hy <;> omega
    · intro x hx y hy
      rw [m0] at hx; rw [List.mem_append, List.mem_append, m1, m2, m3] at hy
      rcases hy with hy | hy | hy
      · have : C ≠ 1 := fun e => hy.1.2 (hmod1 e)
        omega
      · omega
      · omega
  · rw [List.mem_append, List.mem_append, List.mem_append, m0, m1, m2, m3, nbV, List.mem_filter, rng_mem, adj_iff hC]
    constructor
    · rintro (⟨h, k⟩ | ⟨h, k⟩ | ⟨h, k⟩ | ⟨h, k⟩)
      · exact ⟨k, .inl h⟩
      · exact ⟨k, .inr (.inl h)⟩
      · exact ⟨k, .inr (.inr (.inl h))⟩
      · exact ⟨k, .inr (.inr (.inr h))⟩
    · rintro ⟨k, h | h | h | h⟩
      · exact .inl ⟨h, k⟩
      · exact .inr (.inl ⟨h, k⟩)
      · exact .inr (.inr (.inl ⟨h, k⟩))
      · exact .inr (.inr (.inr ⟨h, k⟩))
theorem mem_nbV {C n a x : Int} : x ∈ nbV C n a ↔ (0 ≤ x ∧ x < n) ∧ adjB C a x = true := by rw [nbV, List.mem_filter, rng_mem]
theorem mem_nbW {C n a x : Int} : x ∈ nbW C n a ↔ ((0 ≤ x ∧ x < n) ∧ adjB C a x = true) ∨ (x = n ∧ n - C ≤ a) := by
  rw [nbW, List.mem_append, mem_nbV, riverL]
  split
  · rename_i h; rw [List.mem_singleton]; exact ⟨fun k => k.imp id fun e => ⟨e, h⟩, fun k => k.imp id fun e => e.1⟩
  · rename_i h; exact ⟨fun k => k.elim .inl fun e => (nomatch e), fun k => k.elim .inl fun e => absurd e.2 h⟩
end Go.Proofs.YtlibemgaepkceaaGreatDoor

namespace Go.Proofs.YtlibemgaepkceaaGreatDoor
open Go.Wk
set_option linter.unusedVariables false
def badH (h : Int) : Bool := !(decide (0 ≤ h) && decide (h ≤ 30))
def checkS (R C : Int) (H : List Int) : Int := if ¬ ((1 ≤ R ∧ R ≤ 6) ∧ (1 ≤ C ∧ C ≤ 6)) then 1 else if ¬ (H.length : Int) = R * C then 5 else if H.any badH = true then 1 else 0
structure SOK (R C : Int) (H : List Int) : Prop where
  r : 1 ≤ R ∧ R ≤ 6
  c : 1 ≤ C ∧ C ≤ 6
  e : (H.length : Int) = R * C
  n : 1 ≤ (H.length : Int) ∧ (H.length : Int) ≤ 36
  k : C ≤ (H.length : Int)
  o : ShoreOK C H
theorem SOK.of {R C : Int} {H : List Int} (h : checkS R C H = 0) : SOK R C H := by
  rw [checkS] at h
  split at h
  · cases h
  · rename_i h1
    rw [Decidable.not_not] at h1
    split at h
    · cases h
    · rename_i h2
      rw [Decidable.not_not] at h2
      split at h
      · cases h
      · rename_i h3
        obtain ⟨hr, hc⟩ := h1
        have q1 : 1 * C ≤ R * C := Int.mul_le_mul_of_nonneg_right hr.1 (by omega)
        have q2 : R * C ≤ 6 * C := Int.mul_le_mul_of_nonneg_right hr.2 (by omega)
        refine ⟨hr, hc, h2, ⟨by omega, by omega⟩, by omega, ⟨hc.1, ⟨R, hr.1, h2⟩, fun x hx => ?_⟩⟩
        have h4 : H.any badH = false := by simpa using h3
        have h5 := List.any_eq_false.1 h4 x hx
        rw [badH] at h5
        simp only [Bool.not_eq_true, Bool.not_eq_false', Bool.and_eq_true, decide_eq_true_eq] at h5
        exact h5
theorem SOK.sill {R C : Int} {H : List Int} (h : SOK R C H) {a : Int} (h0 : 0 ≤ a) (h1 : a < H.length) : ix 0 H a ≤ sillV C H a ∧ 0 ≤ sillV C H a ∧ sillV C H a ≤ 30 := sill_bd h.o ⟨h0, h1⟩
section
variable {A : RelE} {n : Int} {f : Int → Bool} {a i y : Int} {met : List Int}
end
/-! ### depths, bare places, pools -/
def sillsL (C : Int) (H : List Int) : List Int := (rng 0 H.length).map (sillV C H)
def sillsE (R C : Int) (H : List Int) : List Int := if checkS R C H = 0 then sillsL C H else []
end Go.Proofs.YtlibemgaepkceaaGreatDoor

namespace Go.Proofs.YtlibemgaepkceaaGreatDoor
open Go.Wk
set_option linter.unusedVariables false
def idxP (P : Int → Bool) : Int → List Int → Int
  | _, [] => -1
  | i, f :: fs => if P f = true then i else idxP P (i + 1) fs
theorem idxP_any (P : Int → Bool) : ∀ (fs : List Int) (i : Int), 0 ≤ i → decide (0 ≤ idxP P i fs) = fs.any P
  | [], _, _ => by simp [idxP]
  | f :: fs, i, hi => by
    rw [idxP]
    split
    · rename_i h; simp [h, hi]
    · rename_i h; rw [idxP_any P fs (i + 1) (by omega)]; simp [h]
theorem idxP_bd (P : Int → Bool) : ∀ (fs : List Int) (i : Int), 0 ≤ i → -1 ≤ idxP P i fs ∧ idxP P i fs ≤ i + fs.length
  | [], i, hi => by simp [idxP]; omega
  | f :: fs, i, hi => by
    rw [idxP]
    have := idxP_bd P fs (i + 1) (by omega)
    rw [List.length_cons]
    split <;> omega
theorem check_range {R C : Int} {H : List Int} (h : ¬ ((1 ≤ R ∧ R ≤ 6) ∧ (1 ≤ C ∧ C ≤ 6))) : checkS R C H = 1 := by rw [checkS, if_pos h]
theorem check_shape {R C : Int} {H : List Int} (h : (1 ≤ R ∧ R ≤ 6) ∧ (1 ≤ C ∧ C ≤ 6)) (h2 : ¬ (H.length : Int) = R * C) : checkS R C H = 5 := by rw [checkS, if_neg (not_not_intro h), if_pos h2]
theorem check_any {R C : Int} {H : List Int} (h : (1 ≤ R ∧ R ≤ 6) ∧ (1 ≤ C ∧ C ≤ 6)) (h2 : (H.length : Int) = R * C) : checkS R C H = if H.any badH = true then 1 else 0 := by rw [checkS, if_neg (not_not_intro h), if_neg (not_not_intro h2)]
theorem mul36 {a b : Int} (ha : 1 ≤ a ∧ a ≤ 6) (hb : 1 ≤ b ∧ b ≤ 6) : 0 ≤ a * b ∧ a * b ≤ 36 := by
  have h1 : 0 ≤ a * b := Int.mul_nonneg (by omega) (by omega)
  have h2 : a * b ≤ 6 * b := Int.mul_le_mul_of_nonneg_right ha.2 (by omega)
  omega
end Go.Proofs.YtlibemgaepkceaaGreatDoor

namespace Go.Proofs.YtlibemgaepkceaaGreatDoor
open Go.Wk
set_option linter.unusedVariables false
section
variable {A : RelE} {n : Int} {f : Int → Bool}
theorem ix_inl {l : List Int} {j : Int} (h0 : 0 ≤ j) (h1 : j < l.length) : ix 0 l j ∈ l := List.mem_of_getElem? (ix_get h1 h0)
/-! ### pools, told by their first places -/
end
end Go.Proofs.YtlibemgaepkceaaGreatDoor

namespace Go.Proofs.YtlibemgaepkceaaGreatDoor
open Go.Wk
set_option linter.unusedVariables false
section
variable {R C : Int} {H ws : List Int} {p : Int}
theorem idxP_step {P : Int → Bool} {l : List Int} {k : Int} (h0 : 0 ≤ k) (h1 : k < l.length) (h : idxP P k (l.drop k.toNat) = idxP P 0 l) (hk : P (ix 0 l k) = false) : idxP P (k + 1) (l.drop (k + 1).toNat) = idxP P 0 l := by
  rw [← h, drop_ix (d := 0) h0 h1, idxP, if_neg (by rw [hk]; decide)]
theorem idxP_here {P : Int → Bool} {l : List Int} {k : Int} (h0 : 0 ≤ k) (h1 : k < l.length) (h : idxP P k (l.drop k.toNat) = idxP P 0 l) (hk : P (ix 0 l k) = true) : idxP P 0 l = k := by
  rw [← h, drop_ix (d := 0) h0 h1, idxP, if_pos hk]
theorem idxP_out {P : Int → Bool} {l : List Int} {k : Int} (h1 : (l.length : Int) ≤ k) (h : idxP P k (l.drop k.toNat) = idxP P 0 l) : idxP P 0 l = -1 := by
  rw [← h, drop_end h1]; rfl
end
end Go.Proofs.YtlibemgaepkceaaGreatDoor

namespace Go.Proofs.YtlibemgaepkceaaGreatDoor
open Go.Wk
set_option linter.unusedVariables false
def rW (C : Int) (H : List Int) (h : Int) : Nat → Int → Bool
  | 0, a => decide (ix 0 H a ≤ h) && lastB C H a
  | d + 1, a => decide (ix 0 H a ≤ h) && (rng 0 H.length).any fun q => adjB C a q && rW C H h d q
section
variable {C : Int} {H : List Int} {h : Int}
/-! ### in rounds -/
theorem ix_set0 {l : List Int} {i p v : Int} (h0 : 0 ≤ i) (h1 : i < l.length) (hp : 0 ≤ p) : ix 0 (l.set i.toNat v) p = if p = i then v else ix 0 l p := by
  simp only [ix, List.getD_eq_getElem?_getD, List.getElem?_set]
  by_cases e : p = i
  · subst e; rw [if_pos rfl, if_pos rfl, if_pos (by omega)]; rfl
  · rw [if_neg (by omega), if_neg e]
/-! ### the way itself -/
end
end Go.Proofs.YtlibemgaepkceaaGreatDoor

namespace Go.Proofs.YtlibemgaepkceaaGreatDoor
open Go.Wk
set_option linter.unusedVariables false
section
variable {R C : Int} {H ps : List Int} {h : Int}
end
end Go.Proofs.YtlibemgaepkceaaGreatDoor

namespace Go.Proofs.YtlibemgaepkceaaGreatDoor
open Go.Wk
set_option linter.unusedVariables false
def nearB (C n a b : Int) : Bool := if a = n ∨ b = n then decide (a ≠ b) && decide (n - C ≤ min a b) else adjB C a b
def highV (H : List Int) (x : Int) : Int := if x = (H.length : Int) then 0 else ix 0 H x
def lowB (H : List Int) (h x : Int) : Bool := decide (highV H x ≤ h)
def gN (C : Int) (H : List Int) (h : Int) : RelE := rM (nearB C H.length) (lowB H h)
def ledN (C : Int) (H : List Int) (h a b : Int) : Bool := ledB (gN C H h) (H.length + 1) a b
def betwV (C : Int) (H : List Int) (a b : Int) : Int := ((rng (highV H a) 30).find? fun h => ledN C H h a b).getD 30
section
variable {C : Int} {H : List Int}
end
/-! ### what joints connect -/
abbrev Ends := Int × Int
def addE (E : Int → Int → Bool) (e : Ends) : Int → Int → Bool := fun x y => E x y || ((E x e.1 && E e.2 y) || (E x e.2 && E e.1 y))
def conF (l : List Ends) : Int → Int → Bool := l.foldl addE fun x y => decide (x = y)
structure EqR (E : Int → Int → Bool) : Prop where
  r : ∀ x, E x x = true
  s : ∀ x y, E x y = true → E y x = true
  t : ∀ x y z, E x y = true → E y z = true → E x z = true
/-! ### joints, the lowest first -/
structure Jt where
  a : Int
  b : Int
  h : Int
def Jt.e (j : Jt) : Ends := (j.a, j.b)
def jointI (C : Int) (H : List Int) (a b : Int) : Int := if b = (H.length : Int) then (if lastB C H a = true then ix 0 H a else -1) else if a < b ∧ adjB C a b = true then max (ix 0 H a) (ix 0 H b) else -1
def jB (C : Int) (H : List Int) (h a b : Int) : List Jt := if jointI C H a b = h then [⟨a, b, h⟩] else []
def jRow (C : Int) (H : List Int) (h a b : Int) : List Jt := (rng b (H.length + 1)).flatMap (jB C H h a)
def jLev (C : Int) (H : List Int) (h a : Int) : List Jt := (rng a H.length).flatMap fun a => jRow C H h a 0
def jAll (C : Int) (H : List Int) (h : Int) : List Jt := (rng h 31).flatMap fun h => jLev C H h 0
def kstep (out : List Jt) (j : Jt) : List Jt := if conF (out.map Jt.e) j.a j.b = true then out else out ++ [j]
def kru (l : List Jt) : List Jt := l.foldl kstep []
section
variable {C : Int} {H : List Int}
end
end Go.Proofs.YtlibemgaepkceaaGreatDoor

namespace Go.Proofs.YtlibemgaepkceaaGreatDoor
open Go.Wk
set_option linter.unusedVariables false
def LabI (n : Int) (l : List Int) (out : List Ends) : Prop := (l.length : Int) = n + 1 ∧ ∀ x y, (0 ≤ x ∧ x ≤ n) → (0 ≤ y ∧ y ≤ n) → decide (ix 0 l x = ix 0 l y) = conF out x y
def RelI (l l' : List Int) (old new k : Int) : Prop := l'.length = l.length ∧ ∀ x, 0 ≤ x → x < (l.length : Int) → ix 0 l' x = if x < k ∧ ix 0 l x = old then new else ix 0 l x
section
variable {n : Int} {l l' : List Int} {out : List Ends}
theorem ix_rng {x : Int} (h : 0 ≤ x ∧ x < n) : ix 0 (rng 0 n) x = x := by
  rw [ix, rng, List.getD_eq_getElem?_getD, List.getElem?_map, List.getElem?_range (show x.toNat < (n - 0).toNat by omega)]
  show (0 : Int) + ((x.toNat : Nat) : Int) = x
  omega
theorem rel_start {old new : Int} : RelI l l old new 0 := ⟨rfl, fun x h0 h1 => by rw [if_neg (by omega)]⟩
theorem rel_hit {old new k : Int} (h : RelI l l' old new k) (k0 : 0 ≤ k) (k1 : k < (l.length : Int)) (he : ix 0 l' k = old) : RelI l (l'.set k.toNat new) old new (k + 1) := by
  refine ⟨by rw [List.length_set]; exact h.1, fun x x0 x1 => ?_⟩
  rw [ix_set0 k0 (by rw [h.1]; exact k1) x0]
  have hk := h.2 k k0 k1
  rw [if_neg (by omega)] at hk
  by_cases e : x = k
  · subst e; rw [if_pos rfl, if_pos ⟨by omega, by rw [← hk]; exact he⟩]
  · rw [if_neg e, h.2 x x0 x1]
    by_cases e2 : x < k ∧ ix 0 l x = old
    · rw [if_pos e2, if_pos ⟨by omega, e2.2⟩]
    · rw [if_neg e2, if_neg (fun q => e2 ⟨by omega, q.2⟩)]
theorem rel_miss {old new k : Int} (h : RelI l l' old new k) (k0 : 0 ≤ k) (k1 : k < (l.length : Int)) (he : ¬ ix 0 l' k = old) : RelI l l' old new (k + 1) := by
  refine ⟨h.1, fun x x0 x1 => ?_⟩
  have hk := h.2 k k0 k1
  rw [if_neg (by omega)] at hk
  rw [h.2 x x0 x1]
  by_cases e2 : x < k ∧ ix 0 l x = old
  · rw [if_pos e2, if_pos ⟨by omega, e2.2⟩]
  · rw [if_neg e2, if_neg (fun q => ?_)]
    by_cases e : x = k
    · subst e; exact he (by rw [hk]; exact q.2)
    · exact e2 ⟨by omega, q.2⟩
end
section
variable {C : Int} {H : List Int} {out : List Ends}
end
end Go.Proofs.YtlibemgaepkceaaGreatDoor

namespace Go.Proofs.YtlibemgaepkceaaGreatDoor
open Go.Wk
set_option linter.unusedVariables false
def nbP (C n a k : Int) : List Int := (rng 0 k).flatMap (nbK C n a)
section
variable {C n a : Int}
theorem nbP_next {k : Int} (h0 : 0 ≤ k) : nbP C n a (k + 1) = nbP C n a k ++ nbK C n a k := by rw [nbP, rng_snoc h0, List.flatMap_append]; simp [nbP]
theorem nb_skip {k : Int} (h0 : 0 ≤ k) (h : outB C n a k = true) : nbP C n a (k + 1) = nbP C n a k := by rw [nbP_next h0, nbK, if_pos h, List.append_nil]
theorem nb_take {k : Int} (h0 : 0 ≤ k) (h : outB C n a k = false) : nbP C n a (k + 1) = nbP C n a k ++ [ix 0 (four C a) k] := by rw [nbP_next h0, nbK, if_neg (by rw [h]; decide)]
theorem nbP_pre {k : Int} : ∀ (d : Nat), (4 - k).toNat = d → 0 ≤ k → k ≤ 4 → nbP C n a k <+: nbP C n a 4 := by
  intro d
  induction d generalizing k with
  | zero => intro h h0 h4; rw [show k = 4 by omega]; exact List.prefix_refl _
  | succ d ih =>
    intro h h0 h4
    have := ih (k := k + 1) (by omega) (by omega) (by omega)
    rw [nbP_next h0] at this
    exact (List.prefix_append _ _).trans this
theorem nbP_all (hC : 1 ≤ C) : nbP C n a 4 = nbV C n a := nbL_eq hC
theorem nb_pre (hC : 1 ≤ C) {k : Int} (h0 : 0 ≤ k) (h4 : k < 4) (h : outB C n a k = false) : (nbP C n a k ++ [ix 0 (four C a) k]) <+: nbW C n a := by
  rw [← nb_take h0 h, nbW, ← nbP_all hC]
  exact (nbP_pre _ rfl (by omega) (by omega)).trans (List.prefix_append _ _)
theorem nb_river (hC : 1 ≤ C) (h : n - C ≤ a) : nbW C n a = nbP C n a 4 ++ [n] := by rw [nbW, nbP_all hC, riverL, if_pos h]
theorem nb_dry (hC : 1 ≤ C) (h : ¬ n - C ≤ a) : nbW C n a = nbP C n a 4 := by rw [nbW, nbP_all hC, riverL, if_neg h, List.append_nil]
theorem outB_iff {k : Int} : outB C n a k = true ↔ ((ix 0 [a - C, a - 1, a + 1, a + C] k < 0 ∨ n ≤ ix 0 [a - C, a - 1, a + 1, a + C] k) ∨ (k = 1 ∧ a % C = 0)) ∨ (k = 2 ∧ ix 0 [a - C, a - 1, a + 1, a + C] k % C = 0) := by
  rw [outB, four]
  simp only [Bool.or_eq_true, Bool.and_eq_true, decide_eq_true_eq]
theorem outB_no {k : Int} (h : ¬ (((ix 0 [a - C, a - 1, a + 1, a + C] k < 0 ∨ n ≤ ix 0 [a - C, a - 1, a + 1, a + C] k) ∨ (k = 1 ∧ a % C = 0)) ∨ (k = 2 ∧ ix 0 [a - C, a - 1, a + 1, a + C] k % C = 0))) : outB C n a k = false := by
  cases hq : outB C n a k with
  | false => rfl
  | true => exact absurd (outB_iff.1 hq) h
end
end Go.Proofs.YtlibemgaepkceaaGreatDoor

namespace Go.Proofs.YtlibemgaepkceaaGreatDoor
open Go.Wk
set_option linter.unusedVariables false
def DB (dn : List Bool) (x : Int) : Bool := ix false dn x
theorem ix_setB {l : List Bool} {i p : Int} {v : Bool} (h0 : 0 ≤ i) (h1 : i < l.length) (hp : 0 ≤ p) : ix false (l.set i.toNat v) p = if p = i then v else ix false l p := by
  simp only [ix, List.getD_eq_getElem?_getD, List.getElem?_set]
  by_cases e : p = i
  · subst e; rw [if_pos rfl, if_pos rfl, if_pos (by omega)]; rfl
  · rw [if_neg (by omega), if_neg e]
section
variable {C : Int} {H : List Int} {dn : List Bool} {y : List Int}
theorem db_zero {m : Nat} {x : Int} : DB (List.replicate m false) x = false := by
  rw [DB, ix, List.getD_eq_getElem?_getD, List.getElem?_replicate]; split <;> rfl
def iniV (C : Int) (H : List Int) (x : Int) : Int := if lastB C H x = true then ix 0 H x else 31
def IniI (C : Int) (H : List Int) (k : Int) (y : List Int) : Prop := ∀ x, 0 ≤ x → x < k → ix 0 y x = iniV C H x
theorem ini_step {k : Int} {v : Int} (h : IniI C H k y) (h0 : 0 ≤ k) (h1 : k < y.length) (hv : v = iniV C H k) : IniI C H (k + 1) (y.set k.toNat v) := fun x x0 x1 => by
  rw [ix_set0 h0 h1 x0]
  by_cases e : x = k
  · rw [if_pos e, e]; exact hv
  · rw [if_neg e]; exact h x x0 (by omega)
theorem ini_step2 {k : Int} {v u : Int} (h : IniI C H k y) (h0 : 0 ≤ k) (h1 : k < y.length) (hv : v = iniV C H k) : IniI C H (k + 1) ((y.set k.toNat u).set k.toNat v) := by
  rw [List.set_set]; exact ini_step h h0 h1 hv
theorem dj_ini (hok : ShoreOK C H) (h : IniI C H H.length y) (hd : ∀ x, DB dn x = false) : DjI C H (DB dn) (ix 0 y) := dj_start hok (fun x _ => hd x) (fun x hx => h x hx.1 hx.2)
def cntD (H : List Int) (dn : List Bool) : Nat := (rng 0 H.length).countP (DB dn)
theorem cnt_zero (h : ∀ x, DB dn x = false) : cntD H dn = 0 := by
  rw [cntD, List.countP_eq_zero]; intro x _; rw [h x]; decide
theorem cnt_all (h : (H.length : Int) ≤ (cntD H dn : Int)) : ∀ x, inR H x → DB dn x = true := by
  have hl := rng_length (i := 0) (n := H.length) (by omega)
  have he : (rng 0 H.length).countP (DB dn) = (rng 0 H.length).length := by
    have := List.countP_le_length (p := DB dn) (l := rng 0 H.length)
    rw [cntD] at h
    omega
  intro x hx
  exact List.countP_eq_length.1 he x (rng_mem.2 hx)
theorem cnt_some (h : (cntD H dn : Int) < H.length) : ∃ x, inR H x ∧ DB dn x = false := by
  refine Classical.byContradiction fun hn => ?_
  have : (rng 0 H.length).countP (DB dn) = (rng 0 H.length).length := List.countP_eq_length.2 fun x hx => by
    cases hq : DB dn x with
    | true => rfl
    | false => exact absurd ⟨x, rng_mem.1 hx, hq⟩ hn
  have hl := rng_length (i := 0) (n := H.length) (by omega)
  rw [cntD] at h
  omega
theorem db_set {z : Int} (hz : 0 ≤ z ∧ z < (dn.length : Int)) {x : Int} (hx : 0 ≤ x) : DB (dn.set z.toNat true) x = (DB dn x || decide (x = z)) := by
  rw [DB, ix_setB hz.1 hz.2 hx]
  by_cases e : x = z
  · rw [if_pos e, decide_eq_true e, Bool.or_true]
  · rw [if_neg e, decide_eq_false e, Bool.or_false]; rfl
theorem cnt_set {z : Int} (hz : inR H z) (hl : (dn.length : Int) = H.length) (hd : DB dn z = false) : cntD H (dn.set z.toNat true) = cntD H dn + 1 := by
  have key : ∀ (l : List Int), l.Pairwise (· < ·) → (∀ x ∈ l, 0 ≤ x) → l.countP (DB (dn.set z.toNat true)) = l.countP (DB dn) + if z ∈ l then 1 else 0 := by
    intro l
    induction l with
    | nil => intro _ _; rfl
    | cons a l ih =>
      intro hs h0
      obtain ⟨h1, h2⟩ := List.pairwise_cons.1 hs
      have ih := ih h2 fun x hx => h0 x (List.mem_cons_of_mem _ hx)
      rw [List.countP_cons, List.countP_cons, ih, db_set ⟨hz.1, by rw [hl]; exact hz.2⟩ (h0 a (by simp))]
      by_cases e : a = z
      · subst e
        have hnm : ¬ a ∈ l := fun hm => by have := h1 a hm; omega
        rw [hd, decide_eq_true rfl, if_neg hnm, if_pos (List.mem_cons_self)]; simp
      · rw [decide_eq_false e, Bool.or_false]
        by_cases hm : z ∈ l
        · rw [if_pos hm, if_pos (List.mem_cons_of_mem _ hm)]; omega
        · rw [if_neg hm, if_neg (fun q => (List.mem_cons.1 q).elim (fun q => e q.symm) hm)]; omega
  have := key (rng 0 H.length) (rng_asc _ _) fun x hx => (rng_mem.1 hx).1
  rw [if_pos (rng_mem.2 hz)] at this
  exact this
def NxI (dn : List Bool) (y : List Int) (k nx : Int) : Prop := (nx = -1 ∧ ∀ x, 0 ≤ x → x < k → DB dn x = true) ∨ ((0 ≤ nx ∧ nx < k) ∧ DB dn nx = false ∧ ∀ x, 0 ≤ x → x < k → DB dn x = false → ix 0 y nx ≤ ix 0 y x)
theorem nx_start : NxI dn y 0 (-1) := .inl ⟨rfl, fun x x0 x1 => by omega⟩
theorem nx_new {k nx : Int} (h : NxI dn y k nx) (h0 : 0 ≤ k) (hd : DB dn k = false) (hc : nx < 0 ∨ ix 0 y k < ix 0 y nx) : NxI dn y (k + 1) k := by
  refine .inr ⟨⟨h0, by omega⟩, hd, fun x x0 x1 hx => ?_⟩
  by_cases e : x = k
  · rw [e]; exact Int.le_refl _
  · rcases h with ⟨_, h⟩ | ⟨h1, _, h2⟩
    · have := h x x0 (by omega); rw [hx] at this; cases this
    · have := h2 x x0 (by omega) hx
      rcases hc with hc | hc <;> omega
theorem nx_old {k nx : Int} (h : NxI dn y k nx) (h0 : 0 ≤ k) (hc : DB dn k = true ∨ ¬ (nx < 0 ∨ ix 0 y k < ix 0 y nx)) : NxI dn y (k + 1) nx := by
  rcases h with ⟨h1, h2⟩ | ⟨h1, h2, h3⟩
  · refine .inl ⟨h1, fun x x0 x1 => ?_⟩
    by_cases e : x = k
    · rw [e]; rcases hc with hc | hc
      · exact hc
      · omega
    · exact h2 x x0 (by omega)
  · refine .inr ⟨⟨h1.1, by omega⟩, h2, fun x x0 x1 hx => ?_⟩
    by_cases e : x = k
    · subst e
      rcases hc with hc | hc
      · rw [hx] at hc; cases hc
      · omega
    · exact h3 x x0 (by omega) hx
theorem nx_end {nx : Int} (h : NxI dn y H.length nx) (hex : ∃ x, inR H x ∧ DB dn x = false) : inR H nx ∧ DB dn nx = false ∧ ∀ x, inR H x → DB dn x = false → ix 0 y nx ≤ ix 0 y x := by
  rcases h with ⟨_, h⟩ | ⟨h1, h2, h3⟩
  · obtain ⟨x, hx, hd⟩ := hex
    rw [h x hx.1 hx.2] at hd; cases hd
  · exact ⟨h1, h2, fun x hx hd => h3 x hx.1 hx.2 hd⟩
theorem djl_look (hok : ShoreOK C H) {D : Int → Bool} {z m : Int} {ls : List Int} (hz : inR H z) (hI : DjP C H D z (fun x => x ∈ ls) (ix 0 y)) (hl : (H.length : Int) ≤ y.length) (hm : inR H m) (hadj : adjB C z m = true) :
    DjP C H D z (fun x => x ∈ ls ++ [m]) (ix 0 (y.set m.toNat (min (ix 0 y m) (max (ix 0 y z) (ix 0 H m))))) := by
  have := dj_look hok hz hI hm (by rw [adj_symm]; exact hadj) (o' := ix 0 (y.set m.toNat (min (ix 0 y m) (max (ix 0 y z) (ix 0 H m))))) (fun x hx => by rw [ix_set0 hm.1 (by have := hm.2; omega) hx.1])
  obtain ⟨i1, i2, i3, i4, i5⟩ := this
  exact ⟨i1, i2, i3, i4, fun x hx hd hne hxz hp => i5 x hx hd hne hxz (by rcases List.mem_append.1 hp with q | q; exact .inl q; exact .inr (List.mem_singleton.1 q))⟩
theorem djl_river {D : Int → Bool} {z m : Int} {ls : List Int} (hI : DjP C H D z (fun x => x ∈ ls) (ix 0 y)) (hm : (H.length : Int) ≤ m) : DjP C H D z (fun x => x ∈ ls ++ [m]) (ix 0 y) := by
  obtain ⟨i1, i2, i3, i4, i5⟩ := hI
  exact ⟨i1, i2, i3, i4, fun x hx hd hne hxz hp => i5 x hx hd hne hxz (by
    rcases List.mem_append.1 hp with q | q
    · exact q
    · have := hx.2; rw [List.mem_singleton.1 q] at this; omega)⟩
theorem djl_open (hok : ShoreOK C H) (hI : DjI C H (DB dn) (ix 0 y)) {z : Int} (hz : inR H z) (hd : DB dn z = false) (hmin : ∀ x, inR H x → DB dn x = false → ix 0 y z ≤ ix 0 y x) : DjP C H (DB dn) z (fun x => x ∈ ([] : List Int)) (ix 0 y) := by
  obtain ⟨i1, i2, i3, i4, i5⟩ := dj_open hok hI hz hd hmin
  exact ⟨i1, i2, i3, i4, fun x _ _ _ _ hp => nomatch hp⟩
theorem djl_close {z : Int} (hz : inR H z) (hl : (dn.length : Int) = H.length) (hI : DjP C H (DB dn) z (fun x => x ∈ nbW C H.length z) (ix 0 y)) : DjI C H (DB (dn.set z.toNat true)) (ix 0 y) :=
  dj_close hz hI (fun x hx hxz => mem_nbW.2 (.inl ⟨hx, by rw [adj_symm]; exact hxz⟩)) (fun x hx => db_set ⟨hz.1, by rw [hl]; exact hz.2⟩ hx.1)
theorem mem_pre {ls L : List Int} {m : Int} (h : (ls ++ [m]) <+: L) : m ∈ L := by
  obtain ⟨t, rfl⟩ := h; simp
theorem take_map {f : Int → Int} {y : List Int} {n : Int} (h0 : 0 ≤ n) (hl : n ≤ y.length) (h : ∀ x, 0 ≤ x → x < n → ix 0 y x = f x) : y.take n.toNat = (rng 0 n).map f := by
  refine List.ext_getElem (by have := rng_length h0; simp; omega) fun i h1 h2 => ?_
  have hi : (i : Int) < n := by simp at h1; omega
  have hyl : i < y.length := by omega
  have e := h i (by omega) hi
  have hr := ix_rng (n := n) (x := (i : Int)) ⟨by omega, hi⟩
  rw [ix, Int.toNat_natCast, List.getD_eq_getElem?_getD, List.getElem?_eq_getElem (show i < y.length by omega)] at e
  rw [ix, Int.toNat_natCast, List.getD_eq_getElem?_getD, List.getElem?_eq_getElem (show i < (rng 0 n).length by simpa using h2)] at hr
  rw [List.getElem_take, List.getElem_map]
  have e' : y[i] = f i := e
  have hlr : i < (rng 0 n).length := by simpa using h2
  have hr' : (rng 0 n)[i]'hlr = (i : Int) := hr
  rw [hr', e']
theorem kn_in {f : Int → Int} {y : List Int} {n : Int} (hl : n ≤ y.length) (h : ∀ x, 0 ≤ x → x < n → ix 0 y x = f x) (hb : ∀ x, 0 ≤ x → x < n → 0 ≤ f x ∧ f x ≤ 1000) : ∀ x ∈ y.take n.toNat, InK .i64 x := by
  intro x hx
  obtain ⟨i, hi, e⟩ := List.mem_iff_getElem.1 hx
  rw [List.getElem_take] at e
  have hi' : (i : Int) < n := by simp at hi; omega
  have e2 := h i (by omega) hi'
  rw [ix, Int.toNat_natCast, List.getD_eq_getElem?_getD, List.getElem?_eq_getElem (show i < y.length by omega)] at e2
  have e3 : y[i] = f i := e2
  have := hb i (by omega) hi'
  exact in_i64 (by omega) (by omega)
end
end Go.Proofs.YtlibemgaepkceaaGreatDoor
namespace Go.Proofs.YtlibemgaepkceaaGreatDoor
open Go.Wk
def ZT (n : Int) (y : List Int) : Prop := ∀ x, n ≤ x → ix 0 y x = 0
theorem zt_zero {n : Int} {m : Nat} : ZT n (List.replicate m 0) := fun x _ => by
  rw [ix, List.getD_eq_getElem?_getD, List.getElem?_replicate]; split <;> rfl
theorem zt_set {n i v : Int} {y : List Int} (h : ZT n y) (h0 : 0 ≤ i) (h1 : i < n) : ZT n (y.set i.toNat v) := fun x hx => by
  have := h x hx
  rw [ix, List.getD_eq_getElem?_getD, List.getElem?_set, if_neg (by omega)]
  rwa [ix, List.getD_eq_getElem?_getD] at this
theorem rng_get {i : Int} (h0 : 0 ≤ i) {n : Int} (h1 : i < n) : (rng 0 n)[i.toNat]? = some i := by
  rw [rng, List.getElem?_map, List.getElem?_range (by omega)]; simp; omega
end Go.Proofs.YtlibemgaepkceaaGreatDoor

namespace Go.Proofs.YtlibemgaepkceaaGreatDoor
open Go.Wk
set_option linter.unusedVariables false
section
variable {xs ys : List Int} {k : Int}
theorem cmpl_next (h0 : 0 ≤ k) (c0 : k < xs.length) (c1 : k < ys.length) (h : cmpL (xs.drop k.toNat) (ys.drop k.toNat) = cmpL xs ys) (h2 : cmpI (ix 0 xs k) (ix 0 ys k) = 0) :
    cmpL (xs.drop (k + 1).toNat) (ys.drop (k + 1).toNat) = cmpL xs ys := by
  rw [drop_ix (d := 0) h0 c0, drop_ix (d := 0) h0 c1, cmpL, if_neg (by omega)] at h
  exact h
theorem cmpl_here (h0 : 0 ≤ k) (c0 : k < xs.length) (c1 : k < ys.length) (h : cmpL (xs.drop k.toNat) (ys.drop k.toNat) = cmpL xs ys) (h2 : cmpI (ix 0 xs k) (ix 0 ys k) ≠ 0) :
    cmpL xs ys = cmpI (ix 0 xs k) (ix 0 ys k) := by
  rw [drop_ix (d := 0) h0 c0, drop_ix (d := 0) h0 c1, cmpL, if_pos h2] at h
  exact h.symm
theorem cmpl_long (h0 : 0 ≤ k) (c0 : k < xs.length) (c1 : (ys.length : Int) ≤ k) (h : cmpL (xs.drop k.toNat) (ys.drop k.toNat) = cmpL xs ys) : cmpL xs ys = 1 := by
  rw [drop_ix (d := 0) h0 c0, drop_end c1] at h; exact h.symm
theorem cmpl_short (h0 : 0 ≤ k) (c0 : (xs.length : Int) ≤ k) (h : cmpL (xs.drop k.toNat) (ys.drop k.toNat) = cmpL xs ys) (c1 : k < ys.length) : cmpL xs ys = -1 := by
  rw [drop_end c0, drop_ix (d := 0) h0 c1] at h; exact h.symm
theorem cmpl_same (h0 : 0 ≤ k) (c0 : (xs.length : Int) ≤ k) (h : cmpL (xs.drop k.toNat) (ys.drop k.toNat) = cmpL xs ys) (c1 : (ys.length : Int) ≤ k) : cmpL xs ys = 0 := by
  rw [drop_end c0, drop_end c1] at h; exact h.symm
end
end Go.Proofs.YtlibemgaepkceaaGreatDoor
namespace Go.Proofs.YtlibemgaepkceaaGreatDoor
end Go.Proofs.YtlibemgaepkceaaGreatDoor

namespace Go.Proofs
open Go.Shelf
def Tryz.lays169_ren : Go.Shelf.Ren := ⟨fun | 169 => 109 | n => n, fun | 70 => 153 | 9 => 9 | 0 => 0 | 72 => 156 | 37 => 154 | 127 => 180 | 3 => 3 | 5 => 5 | n => n, fun | n => n⟩
theorem Tryz.lays169 : Go.Proofs.Lays.n169 Tryz.prog Tryz.lays169_ren := {
  mixed := by kernel_rfl
  f169 := Tryz.func109.trans (congrArg some (by kernel_rfl))
  t0 := Tryz.underlying0
  a0 := Tryz.isAgg0
  z0 := Tryz.sizeOf0
  v0 := Tryz.zeroValue0
  t3 := Tryz.underlying3
  a3 := Tryz.isAgg3
  z3 := Tryz.sizeOf3
  v3 := Tryz.zeroValue3
  t9 := Tryz.underlying9
  a9 := Tryz.isAgg9
  z9 := Tryz.sizeOf9
  v9 := Tryz.zeroValue9
  t37 := Tryz.underlying154
  a37 := Tryz.isAgg154
  z37 := Tryz.sizeOf154
  v37 := Tryz.zeroValue154
  t70 := Tryz.underlying153
  a70 := Tryz.isAgg153
  z70 := Tryz.sizeOf153
  v70 := Tryz.zeroValue153
  t72 := Tryz.underlying156
  a72 := Tryz.isAgg156
  z72 := Tryz.sizeOf156
  v72 := Tryz.zeroValue156
  t127 := Tryz.underlying180
  a127 := Tryz.isAgg180
  z127 := Tryz.sizeOf180
  v127 := Tryz.zeroValue180 }
theorem Tryz.Builder_Extra_169 : Builder.Extra Tryz.prog Tryz.lays169_ren := {
  sizeBuilder := by kernel_rfl
  liesBuilder := by kernel_rfl
  t5 := Tryz.underlying5
  a5 := Tryz.isAgg5
  z5 := Tryz.sizeOf5
  v5 := Tryz.zeroValue5
  infoByte := by kernel_rfl
  cellsByte := by kernel_rfl
  sizeByte := by kernel_rfl
  neB5 := by decide }
def Tryz.lays119_ren : Go.Shelf.Ren := ⟨fun | 119 => 129 | n => n, fun | 21 => 21 | 4 => 4 | n => n, fun | n => n⟩
theorem Tryz.lays119 : Go.Proofs.Lays.n119 Tryz.prog Tryz.lays119_ren := {
  mixed := by kernel_rfl
  f119 := Tryz.func129.trans (congrArg some (by kernel_rfl))
  t4 := Tryz.underlying4
  a4 := Tryz.isAgg4
  z4 := Tryz.sizeOf4
  v4 := Tryz.zeroValue4
  t21 := Tryz.underlying21
  a21 := Tryz.isAgg21
  z21 := Tryz.sizeOf21
  v21 := Tryz.zeroValue21 }
theorem Tryz.utf8_ValidRune (r : Int) (w : World) :
    Calls Tryz.prog 129 #[.int .i32 r] w fun e w' => e = .returned (.bool (Lib.validRune r)) ∧ w' = w := Any.utf8_ValidRune Tryz.lays119 r w
def Tryz.lays137_ren : Go.Shelf.Ren := ⟨fun | 137 => 128 | 217 => 137 | 266 => 141 | n => n, fun | 9 => 9 | 5 => 5 | 3 => 3 | n => n, fun | n => n⟩
theorem Tryz.lays137 : Go.Proofs.Lays.n137 Tryz.prog Tryz.lays137_ren := {
  mixed := by kernel_rfl
  f137 := Tryz.func128.trans (congrArg some (by kernel_rfl))
  f217 := Tryz.func137.trans (congrArg some (by kernel_rfl))
  f266 := Tryz.func141.trans (congrArg some (by kernel_rfl))
  t3 := Tryz.underlying3
  a3 := Tryz.isAgg3
  z3 := Tryz.sizeOf3
  v3 := Tryz.zeroValue3
  t5 := Tryz.underlying5
  a5 := Tryz.isAgg5
  z5 := Tryz.sizeOf5
  v5 := Tryz.zeroValue5
  t9 := Tryz.underlying9
  a9 := Tryz.isAgg9
  z9 := Tryz.sizeOf9
  v9 := Tryz.zeroValue9 }
open Go.RowKit in
theorem Tryz.strings_IndexByte (s : ByteArray) (c : Int) (w : World) :
    Calls Tryz.prog 128 #[.string s, .int .u8 c] w fun e w' => e = .returned (.int .i64 (Lib.indexByte s.data.toList c.toNat.toUInt8)) ∧ w' = w := Any.strings_IndexByte Tryz.lays137 s c w
open Go.RowKit in
theorem Tryz.Builder_String_any_f (B b : Nat) (l : List UInt8) (w : World) (h : Lib.IsBuilderF 156 5 B b (Lib.byteCells l) w) (hBw : B ≤ w.heap.size) :
    Calls Tryz.prog 109 #[.pointer (some ⟨b, 0, none⟩)] w fun e w' => e = .returned (.string ⟨l.toArray⟩) ∧ (Lib.IsBuilderF 156 5 B b (Lib.byteCells l) w' ∧ Below B w w') := Any.Builder_String_any_f Tryz.lays169 Tryz.Builder_Extra_169 B b l w h hBw
def Tryz.lays203_ren : Go.Shelf.Ren := ⟨fun | 203 => 140 | 262 => 143 | 313 => 146 | 274 => 147 | 275 => 148 | n => n, fun | 21 => 21 | 4 => 4 | 3 => 3 | 162 => 213 | 203 => 211 | 160 => 216 | 46 => 57 | 0 => 0 | 208 => 222 | 51 => 83 | 206 => 220 | n => n, fun | 13 => 4 | n => n⟩
theorem Tryz.lays203 : Go.Proofs.Lays.n203 Tryz.prog Tryz.lays203_ren := {
  mixed := by kernel_rfl
  f203 := Tryz.func140.trans (congrArg some (by kernel_rfl))
  f262 := Tryz.func143.trans (congrArg some (by kernel_rfl))
  f274 := Tryz.func147.trans (congrArg some (by kernel_rfl))
  f275 := Tryz.func148.trans (congrArg some (by kernel_rfl))
  f313 := Tryz.func146.trans (congrArg some (by kernel_rfl))
  t0 := Tryz.underlying0
  a0 := Tryz.isAgg0
  z0 := Tryz.sizeOf0
  v0 := Tryz.zeroValue0
  t3 := Tryz.underlying3
  a3 := Tryz.isAgg3
  z3 := Tryz.sizeOf3
  v3 := Tryz.zeroValue3
  t4 := Tryz.underlying4
  a4 := Tryz.isAgg4
  z4 := Tryz.sizeOf4
  v4 := Tryz.zeroValue4
  t21 := Tryz.underlying21
  a21 := Tryz.isAgg21
  z21 := Tryz.sizeOf21
  v21 := Tryz.zeroValue21
  t46 := Tryz.underlying57
  a46 := Tryz.isAgg57
  z46 := Tryz.sizeOf57
  v46 := Tryz.zeroValue57
  t51 := Tryz.underlying83
  a51 := Tryz.isAgg83
  z51 := Tryz.sizeOf83
  v51 := Tryz.zeroValue83
  t160 := Tryz.underlying216
  a160 := Tryz.isAgg216
  z160 := Tryz.sizeOf216
  v160 := Tryz.zeroValue216
  t162 := Tryz.underlying213
  a162 := Tryz.isAgg213
  z162 := Tryz.sizeOf213
  v162 := Tryz.zeroValue213
  t203 := Tryz.underlying211
  a203 := Tryz.isAgg211
  z203 := Tryz.sizeOf211
  v203 := Tryz.zeroValue211
  t206 := Tryz.underlying220
  a206 := Tryz.isAgg220
  z206 := Tryz.sizeOf220
  v206 := Tryz.zeroValue220
  t208 := Tryz.underlying222
  a208 := Tryz.isAgg222
  z208 := Tryz.sizeOf222
  v208 := Tryz.zeroValue222
  g13 := by kernel_rfl }
def Tryz.lays204_ren : Go.Shelf.Ren := ⟨fun | 204 => 139 | 262 => 143 | 313 => 146 | 274 => 147 | 275 => 148 | n => n, fun | 21 => 21 | 4 => 4 | 3 => 3 | 162 => 213 | 203 => 211 | 160 => 216 | 46 => 57 | 0 => 0 | 208 => 222 | 51 => 83 | 206 => 220 | n => n, fun | 13 => 4 | n => n⟩
theorem Tryz.lays204 : Go.Proofs.Lays.n204 Tryz.prog Tryz.lays204_ren := {
  mixed := by kernel_rfl
  f204 := Tryz.func139.trans (congrArg some (by kernel_rfl))
  f262 := Tryz.func143.trans (congrArg some (by kernel_rfl))
  f274 := Tryz.func147.trans (congrArg some (by kernel_rfl))
  f275 := Tryz.func148.trans (congrArg some (by kernel_rfl))
  f313 := Tryz.func146.trans (congrArg some (by kernel_rfl))
  t0 := Tryz.underlying0
  a0 := Tryz.isAgg0
  z0 := Tryz.sizeOf0
  v0 := Tryz.zeroValue0
  t3 := Tryz.underlying3
  a3 := Tryz.isAgg3
  z3 := Tryz.sizeOf3
  v3 := Tryz.zeroValue3
  t4 := Tryz.underlying4
  a4 := Tryz.isAgg4
  z4 := Tryz.sizeOf4
  v4 := Tryz.zeroValue4
  t21 := Tryz.underlying21
  a21 := Tryz.isAgg21
  z21 := Tryz.sizeOf21
  v21 := Tryz.zeroValue21
  t46 := Tryz.underlying57
  a46 := Tryz.isAgg57
  z46 := Tryz.sizeOf57
  v46 := Tryz.zeroValue57
  t51 := Tryz.underlying83
  a51 := Tryz.isAgg83
  z51 := Tryz.sizeOf83
  v51 := Tryz.zeroValue83
  t160 := Tryz.underlying216
  a160 := Tryz.isAgg216
  z160 := Tryz.sizeOf216
  v160 := Tryz.zeroValue216
  t162 := Tryz.underlying213
  a162 := Tryz.isAgg213
  z162 := Tryz.sizeOf213
  v162 := Tryz.zeroValue213
  t203 := Tryz.underlying211
  a203 := Tryz.isAgg211
  z203 := Tryz.sizeOf211
  v203 := Tryz.zeroValue211
  t206 := Tryz.underlying220
  a206 := Tryz.isAgg220
  z206 := Tryz.sizeOf220
  v206 := Tryz.zeroValue220
  t208 := Tryz.underlying222
  a208 := Tryz.isAgg222
  z208 := Tryz.sizeOf222
  v208 := Tryz.zeroValue222
  g13 := by kernel_rfl }
def Tryz.lays201_ren : Go.Shelf.Ren := ⟨fun | 201 => 138 | 261 => 142 | 311 => 144 | 312 => 145 | n => n, fun | 21 => 21 | 4 => 4 | 51 => 83 | 5 => 5 | 119 => 196 | 0 => 0 | 141 => 198 | 196 => 203 | 193 => 200 | 3 => 3 | 198 => 206 | 49 => 204 | 194 => 201 | 201 => 209 | 226 => 214 | 46 => 57 | 227 => 215 | n => n, fun | 7 => 2 | 9 => 3 | n => n⟩
theorem Tryz.lays201 : Go.Proofs.Lays.n201 Tryz.prog Tryz.lays201_ren := {
  mixed := by kernel_rfl
  f201 := Tryz.func138.trans (congrArg some (by kernel_rfl))
  f261 := Tryz.func142.trans (congrArg some (by kernel_rfl))
  f311 := Tryz.func144.trans (congrArg some (by kernel_rfl))
  f312 := Tryz.func145.trans (congrArg some (by kernel_rfl))
  t0 := Tryz.underlying0
  a0 := Tryz.isAgg0
  z0 := Tryz.sizeOf0
  v0 := Tryz.zeroValue0
  t3 := Tryz.underlying3
  a3 := Tryz.isAgg3
  z3 := Tryz.sizeOf3
  v3 := Tryz.zeroValue3
  t4 := Tryz.underlying4
  a4 := Tryz.isAgg4
  z4 := Tryz.sizeOf4
  v4 := Tryz.zeroValue4
  t5 := Tryz.underlying5
  a5 := Tryz.isAgg5
  z5 := Tryz.sizeOf5
  v5 := Tryz.zeroValue5
  t21 := Tryz.underlying21
  a21 := Tryz.isAgg21
  z21 := Tryz.sizeOf21
  v21 := Tryz.zeroValue21
  t46 := Tryz.underlying57
  a46 := Tryz.isAgg57
  z46 := Tryz.sizeOf57
  v46 := Tryz.zeroValue57
  t49 := Tryz.underlying204
  a49 := Tryz.isAgg204
  z49 := Tryz.sizeOf204
  v49 := Tryz.zeroValue204
  t51 := Tryz.underlying83
  a51 := Tryz.isAgg83
  z51 := Tryz.sizeOf83
  v51 := Tryz.zeroValue83
  t119 := Tryz.underlying196
  a119 := Tryz.isAgg196
  z119 := Tryz.sizeOf196
  t141 := Tryz.underlying198
  a141 := Tryz.isAgg198
  z141 := Tryz.sizeOf198
  v141 := Tryz.zeroValue198
  t193 := Tryz.underlying200
  a193 := Tryz.isAgg200
  z193 := Tryz.sizeOf200
  v193 := Tryz.zeroValue200
  t194 := Tryz.underlying201
  a194 := Tryz.isAgg201
  z194 := Tryz.sizeOf201
  v194 := Tryz.zeroValue201
  t196 := Tryz.underlying203
  a196 := Tryz.isAgg203
  z196 := Tryz.sizeOf203
  v196 := Tryz.zeroValue203
  t198 := Tryz.underlying206
  a198 := Tryz.isAgg206
  z198 := Tryz.sizeOf206
  v198 := Tryz.zeroValue206
  t201 := Tryz.underlying209
  a201 := Tryz.isAgg209
  z201 := Tryz.sizeOf209
  v201 := Tryz.zeroValue209
  t226 := Tryz.underlying214
  a226 := Tryz.isAgg214
  z226 := Tryz.sizeOf214
  v226 := Tryz.zeroValue214
  t227 := Tryz.underlying215
  a227 := Tryz.isAgg215
  z227 := Tryz.sizeOf215
  v227 := Tryz.zeroValue215
  g7 := by kernel_rfl
  g9 := by kernel_rfl }
def Tryz.lays151_ren : Go.Shelf.Ren := ⟨fun | 151 => 106 | 152 => 118 | 137 => 128 | 119 => 129 | 224 => 130 | 225 => 131 | 217 => 137 | 266 => 141 | n => n, fun | 9 => 9 | 21 => 21 | 4 => 4 | 3 => 3 | 5 => 5 | 0 => 0 | 46 => 57 | n => n, fun | n => n⟩
theorem Tryz.lays151 : Go.Proofs.Lays.n151 Tryz.prog Tryz.lays151_ren := {
  mixed := by kernel_rfl
  f119 := Tryz.func129.trans (congrArg some (by kernel_rfl))
  f137 := Tryz.func128.trans (congrArg some (by kernel_rfl))
  f151 := Tryz.func106.trans (congrArg some (by kernel_rfl))
  f152 := Tryz.func118.trans (congrArg some (by kernel_rfl))
  f217 := Tryz.func137.trans (congrArg some (by kernel_rfl))
  f224 := Tryz.func130.trans (congrArg some (by kernel_rfl))
  f225 := Tryz.func131.trans (congrArg some (by kernel_rfl))
  f266 := Tryz.func141.trans (congrArg some (by kernel_rfl))
  t0 := Tryz.underlying0
  a0 := Tryz.isAgg0
  z0 := Tryz.sizeOf0
  v0 := Tryz.zeroValue0
  t3 := Tryz.underlying3
  a3 := Tryz.isAgg3
  z3 := Tryz.sizeOf3
  v3 := Tryz.zeroValue3
  t4 := Tryz.underlying4
  a4 := Tryz.isAgg4
  z4 := Tryz.sizeOf4
  v4 := Tryz.zeroValue4
  t5 := Tryz.underlying5
  a5 := Tryz.isAgg5
  z5 := Tryz.sizeOf5
  v5 := Tryz.zeroValue5
  t9 := Tryz.underlying9
  a9 := Tryz.isAgg9
  z9 := Tryz.sizeOf9
  v9 := Tryz.zeroValue9
  t21 := Tryz.underlying21
  a21 := Tryz.isAgg21
  z21 := Tryz.sizeOf21
  v21 := Tryz.zeroValue21
  t46 := Tryz.underlying57
  a46 := Tryz.isAgg57
  z46 := Tryz.sizeOf57
  v46 := Tryz.zeroValue57 }
open Go.RowKit Go.Lib in
theorem Tryz.strings_ContainsRune_ascii (s : ByteArray) (r : Int) (w : World) (h0 : 0 ≤ r) (h1 : r < 128) :
    Calls Tryz.prog 106 #[.string s, .int .i32 r] w fun e w' => e = .returned (.bool (decide (0 ≤ Lib.indexByte s.data.toList r.toNat.toUInt8))) ∧ w' = w := Any.strings_ContainsRune_ascii Tryz.lays151 s r w h0 h1
def Tryz.lays261_ren : Go.Shelf.Ren := ⟨fun | 261 => 142 | 311 => 144 | 312 => 145 | n => n, fun | 141 => 198 | 21 => 21 | 4 => 4 | 0 => 0 | 196 => 203 | 193 => 200 | 3 => 3 | 51 => 83 | 198 => 206 | 49 => 204 | 194 => 201 | 201 => 209 | 226 => 214 | 46 => 57 | 227 => 215 | n => n, fun | n => n⟩
theorem Tryz.lays261 : Go.Proofs.Lays.n261 Tryz.prog Tryz.lays261_ren := {
  mixed := by kernel_rfl
  f261 := Tryz.func142.trans (congrArg some (by kernel_rfl))
  f311 := Tryz.func144.trans (congrArg some (by kernel_rfl))
  f312 := Tryz.func145.trans (congrArg some (by kernel_rfl))
  t0 := Tryz.underlying0
  a0 := Tryz.isAgg0
  z0 := Tryz.sizeOf0
  v0 := Tryz.zeroValue0
  t3 := Tryz.underlying3
  a3 := Tryz.isAgg3
  z3 := Tryz.sizeOf3
  v3 := Tryz.zeroValue3
  t4 := Tryz.underlying4
  a4 := Tryz.isAgg4
  z4 := Tryz.sizeOf4
  v4 := Tryz.zeroValue4
  t21 := Tryz.underlying21
  a21 := Tryz.isAgg21
  z21 := Tryz.sizeOf21
  v21 := Tryz.zeroValue21
  t46 := Tryz.underlying57
  a46 := Tryz.isAgg57
  z46 := Tryz.sizeOf57
  v46 := Tryz.zeroValue57
  t49 := Tryz.underlying204
  a49 := Tryz.isAgg204
  z49 := Tryz.sizeOf204
  v49 := Tryz.zeroValue204
  t51 := Tryz.underlying83
  a51 := Tryz.isAgg83
  z51 := Tryz.sizeOf83
  v51 := Tryz.zeroValue83
  t141 := Tryz.underlying198
  a141 := Tryz.isAgg198
  z141 := Tryz.sizeOf198
  v141 := Tryz.zeroValue198
  t193 := Tryz.underlying200
  a193 := Tryz.isAgg200
  z193 := Tryz.sizeOf200
  v193 := Tryz.zeroValue200
  t194 := Tryz.underlying201
  a194 := Tryz.isAgg201
  z194 := Tryz.sizeOf201
  v194 := Tryz.zeroValue201
  t196 := Tryz.underlying203
  a196 := Tryz.isAgg203
  z196 := Tryz.sizeOf203
  v196 := Tryz.zeroValue203
  t198 := Tryz.underlying206
  a198 := Tryz.isAgg206
  z198 := Tryz.sizeOf206
  v198 := Tryz.zeroValue206
  t201 := Tryz.underlying209
  a201 := Tryz.isAgg209
  z201 := Tryz.sizeOf209
  v201 := Tryz.zeroValue209
  t226 := Tryz.underlying214
  a226 := Tryz.isAgg214
  z226 := Tryz.sizeOf214
  v226 := Tryz.zeroValue214
  t227 := Tryz.underlying215
  a227 := Tryz.isAgg215
  z227 := Tryz.sizeOf215
  v227 := Tryz.zeroValue215 }
def Tryz.lays262_ren : Go.Shelf.Ren := ⟨fun | 262 => 143 | 313 => 146 | 274 => 147 | 275 => 148 | n => n, fun | 3 => 3 | 21 => 21 | 162 => 213 | 203 => 211 | 4 => 4 | 160 => 216 | 46 => 57 | 0 => 0 | 208 => 222 | 51 => 83 | 206 => 220 | n => n, fun | 13 => 4 | n => n⟩
theorem Tryz.lays262 : Go.Proofs.Lays.n262 Tryz.prog Tryz.lays262_ren := {
  mixed := by kernel_rfl
  f262 := Tryz.func143.trans (congrArg some (by kernel_rfl))
  f274 := Tryz.func147.trans (congrArg some (by kernel_rfl))
  f275 := Tryz.func148.trans (congrArg some (by kernel_rfl))
  f313 := Tryz.func146.trans (congrArg some (by kernel_rfl))
  t0 := Tryz.underlying0
  a0 := Tryz.isAgg0
  z0 := Tryz.sizeOf0
  v0 := Tryz.zeroValue0
  t3 := Tryz.underlying3
  a3 := Tryz.isAgg3
  z3 := Tryz.sizeOf3
  v3 := Tryz.zeroValue3
  t4 := Tryz.underlying4
  a4 := Tryz.isAgg4
  z4 := Tryz.sizeOf4
  v4 := Tryz.zeroValue4
  t21 := Tryz.underlying21
  a21 := Tryz.isAgg21
  z21 := Tryz.sizeOf21
  v21 := Tryz.zeroValue21
  t46 := Tryz.underlying57
  a46 := Tryz.isAgg57
  z46 := Tryz.sizeOf57
  v46 := Tryz.zeroValue57
  t51 := Tryz.underlying83
  a51 := Tryz.isAgg83
  z51 := Tryz.sizeOf83
  v51 := Tryz.zeroValue83
  t160 := Tryz.underlying216
  a160 := Tryz.isAgg216
  z160 := Tryz.sizeOf216
  v160 := Tryz.zeroValue216
  t162 := Tryz.underlying213
  a162 := Tryz.isAgg213
  z162 := Tryz.sizeOf213
  v162 := Tryz.zeroValue213
  t203 := Tryz.underlying211
  a203 := Tryz.isAgg211
  z203 := Tryz.sizeOf211
  v203 := Tryz.zeroValue211
  t206 := Tryz.underlying220
  a206 := Tryz.isAgg220
  z206 := Tryz.sizeOf220
  v206 := Tryz.zeroValue220
  t208 := Tryz.underlying222
  a208 := Tryz.isAgg222
  z208 := Tryz.sizeOf222
  v208 := Tryz.zeroValue222
  g13 := by kernel_rfl }
open Go.RowKit Go.Lib in
theorem Tryz.unicode_ToLower_laid (r : Int) (w : World) (hV : CaseVar 4 caseA w) :
    Calls Tryz.prog 139 #[.int .i32 r] w fun e w' => e = .returned (.int .i32 (toLowerU r)) ∧ ∃ q, w' = w.drewN q := Any.unicode_ToLower_laid Tryz.lays204 r w hV
open Go.RowKit Go.Lib in
theorem Tryz.unicode_ToUpper_laid (r : Int) (w : World) (hV : CaseVar 4 caseA w) :
    Calls Tryz.prog 140 #[.int .i32 r] w fun e w' => e = .returned (.int .i32 (toUpperU r)) ∧ ∃ q, w' = w.drewN q := Any.unicode_ToUpper_laid Tryz.lays203 r w hV
open Go.RowKit Go.Lib in
theorem Tryz.unicode_IsUpper_all (r : Int) (w : World) (hlo : -2147483648 ≤ r) (hhi : r ≤ 2147483647) (htab : Lib.TabIs Tryz.prog w "unicode.properties" .u8 Lib.propertiesTab) (hV : RVar 3 upperT w) :
    Calls Tryz.prog 138 #[.int .i32 r] w fun e w' => e = .returned (.bool (isUpperU r)) ∧ Below w.heap.size w w' := Any.unicode_IsUpper_all Tryz.lays201 (by kernel_rfl) r w hlo hhi htab hV
def Tryz.lays167_ren : Go.Shelf.Ren := ⟨fun | 167 => 108 | 240 => 120 | 276 => 133 | n => n, fun | 0 => 0 | 4 => 4 | 5 => 5 | 9 => 9 | 20 => 20 | 37 => 154 | 70 => 153 | 72 => 156 | 75 => 161 | 80 => 163 | 164 => 191 | n => n, fun | n => n⟩
theorem Tryz.lays167 : Go.Proofs.Lays.n167 Tryz.prog Tryz.lays167_ren := {
  mixed := by kernel_rfl
  f167 := Tryz.func108.trans (congrArg some (by kernel_rfl))
  f240 := Tryz.func120.trans (congrArg some (by kernel_rfl))
  f276 := Tryz.func133.trans (congrArg some (by kernel_rfl))
  t0 := Tryz.underlying0
  a0 := Tryz.isAgg0
  z0 := Tryz.sizeOf0
  v0 := Tryz.zeroValue0
  t4 := Tryz.underlying4
  a4 := Tryz.isAgg4
  z4 := Tryz.sizeOf4
  v4 := Tryz.zeroValue4
  t5 := Tryz.underlying5
  a5 := Tryz.isAgg5
  z5 := Tryz.sizeOf5
  v5 := Tryz.zeroValue5
  t9 := Tryz.underlying9
  a9 := Tryz.isAgg9
  z9 := Tryz.sizeOf9
  v9 := Tryz.zeroValue9
  t20 := Tryz.underlying20
  a20 := Tryz.isAgg20
  z20 := Tryz.sizeOf20
  v20 := Tryz.zeroValue20
  t37 := Tryz.underlying154
  a37 := Tryz.isAgg154
  z37 := Tryz.sizeOf154
  v37 := Tryz.zeroValue154
  t70 := Tryz.underlying153
  a70 := Tryz.isAgg153
  z70 := Tryz.sizeOf153
  v70 := Tryz.zeroValue153
  t72 := Tryz.underlying156
  a72 := Tryz.isAgg156
  z72 := Tryz.sizeOf156
  v72 := Tryz.zeroValue156
  t75 := Tryz.underlying161
  a75 := Tryz.isAgg161
  z75 := Tryz.sizeOf161
  v75 := Tryz.zeroValue161
  t164 := Tryz.underlying191
  a164 := Tryz.isAgg191
  z164 := Tryz.sizeOf191
  v164 := Tryz.zeroValue191 }

theorem Tryz.Builder_Extra_167 : Builder.Extra Tryz.prog Tryz.lays167_ren := {
  sizeBuilder := by kernel_rfl
  liesBuilder := by kernel_rfl
  t5 := Tryz.underlying5
  a5 := Tryz.isAgg5
  z5 := Tryz.sizeOf5
  v5 := Tryz.zeroValue5
  infoByte := by kernel_rfl
  cellsByte := by kernel_rfl
  sizeByte := by kernel_rfl
  neB5 := by decide }
open Go.RowKit in
theorem Tryz.Builder_WriteByte_k (B b : Nat) (bs : List Value) (c : Int) (w : World) (h : Lib.IsBuilderF 156 5 B b bs w) (hlen : bs.length + 1 ≤ 140737488355328) (hBw : B ≤ w.heap.size) :
    Calls Tryz.prog 108 #[.pointer (some ⟨b, 0, none⟩), .int .u8 c] w fun e w' => e = .returned .nilIface ∧ (Lib.BuilderAtF 156 5 B b (.pointer (some ⟨b, 0, none⟩)) (bs ++ [.int .u8 c]) w' ∧ Below B w w' ∧ Lib.OthersKept 5 (some b) w w') := Any.Builder_WriteByte_k Tryz.lays167 Tryz.Builder_Extra_167 B b bs c w h hlen hBw


def Tryz.laysSlF06_f9_ren : Go.Shelf.Ren := ⟨fun | 6 => 9 | 15 => 22 | 14 => 21 | 28 => 43 | 29 => 44 | 20 => 35 | 21 => 36 | 22 => 37 | 23 => 38 | 24 => 39 | 25 => 40 | 26 => 41 | 27 => 42 | 46 => 58 | 47 => 59 | 48 => 60 | 49 => 61 | 50 => 62 | 57 => 73 | n => n, fun | 22 => 24 | 24 => 25 | 25 => 35 | 3 => 3 | 39 => 57 | 0 => 0 | 53 => 83 | 55 => 85 | 4 => 4 | 46 => 76 | 45 => 75 | 50 => 80 | 5 => 5 | 9 => 9 | 66 => 93 | 70 => 97 | 76 => 110 | 77 => 111 | n => n, fun | n => n⟩
theorem Tryz.laysSlF06_f9 : Go.Proofs.SlLaysF.n6 Tryz.prog Tryz.laysSlF06_f9_ren := {
  mixed := by kernel_rfl
  f6 := ⟨Tryz.f9.name, by decide, Tryz.func9.trans (congrArg some (by kernel_rfl))⟩
  f14 := ⟨Tryz.f21.name, by decide, Tryz.func21.trans (congrArg some (by kernel_rfl))⟩
  f15 := Tryz.func22.trans (congrArg some (by kernel_rfl))
  f20 := ⟨Tryz.f35.name, by decide, Tryz.func35.trans (congrArg some (by kernel_rfl))⟩
  f21 := ⟨Tryz.f36.name, by decide, Tryz.func36.trans (congrArg some (by kernel_rfl))⟩
  f22 := ⟨Tryz.f37.name, by decide, Tryz.func37.trans (congrArg some (by kernel_rfl))⟩
  f23 := ⟨Tryz.f38.name, by decide, Tryz.func38.trans (congrArg some (by kernel_rfl))⟩
  f24 := ⟨Tryz.f39.name, by decide, Tryz.func39.trans (congrArg some (by kernel_rfl))⟩
  f25 := ⟨Tryz.f40.name, by decide, Tryz.func40.trans (congrArg some (by kernel_rfl))⟩
  f26 := ⟨Tryz.f41.name, by decide, Tryz.func41.trans (congrArg some (by kernel_rfl))⟩
  f27 := ⟨Tryz.f42.name, by decide, Tryz.func42.trans (congrArg some (by kernel_rfl))⟩
  f28 := Tryz.func43.trans (congrArg some (by kernel_rfl))
  f29 := Tryz.func44.trans (congrArg some (by kernel_rfl))
  f46 := ⟨Tryz.f58.name, by decide, Tryz.func58.trans (congrArg some (by kernel_rfl))⟩
  f47 := Tryz.func59.trans (congrArg some (by kernel_rfl))
  f48 := Tryz.func60.trans (congrArg some (by kernel_rfl))
  f49 := ⟨Tryz.f61.name, by decide, Tryz.func61.trans (congrArg some (by kernel_rfl))⟩
  f50 := ⟨Tryz.f62.name, by decide, Tryz.func62.trans (congrArg some (by kernel_rfl))⟩
  f57 := ⟨Tryz.f73.name, by decide, Tryz.func73.trans (congrArg some (by kernel_rfl))⟩
  t0 := Tryz.underlying0
  a0 := Tryz.isAgg0
  z0 := Tryz.sizeOf0
  v0 := Tryz.zeroValue0
  t3 := Tryz.underlying3
  a3 := Tryz.isAgg3
  z3 := Tryz.sizeOf3
  v3 := Tryz.zeroValue3
  t4 := Tryz.underlying4
  a4 := Tryz.isAgg4
  z4 := Tryz.sizeOf4
  v4 := Tryz.zeroValue4
  t5 := Tryz.underlying5
  a5 := Tryz.isAgg5
  z5 := Tryz.sizeOf5
  v5 := Tryz.zeroValue5
  t9 := Tryz.underlying9
  a9 := Tryz.isAgg9
  z9 := Tryz.sizeOf9
  v9 := Tryz.zeroValue9
  t22 := Tryz.underlying24
  a22 := Tryz.isAgg24
  z22 := Tryz.sizeOf24
  v22 := Tryz.zeroValue24
  a24 := Tryz.isAgg25
  z24 := Tryz.sizeOf25
  t25 := Tryz.underlying35
  a25 := Tryz.isAgg35
  z25 := Tryz.sizeOf35
  v25 := Tryz.zeroValue35
  t39 := Tryz.underlying57
  a39 := Tryz.isAgg57
  z39 := Tryz.sizeOf57
  v39 := Tryz.zeroValue57
  t45 := Tryz.underlying75
  a45 := Tryz.isAgg75
  z45 := Tryz.sizeOf75
  v45 := Tryz.zeroValue75
  t46 := Tryz.underlying76
  a46 := Tryz.isAgg76
  z46 := Tryz.sizeOf76
  v46 := Tryz.zeroValue76
  t50 := Tryz.underlying80
  a50 := Tryz.isAgg80
  z50 := Tryz.sizeOf80
  v50 := Tryz.zeroValue80
  t53 := Tryz.underlying83
  a53 := Tryz.isAgg83
  z53 := Tryz.sizeOf83
  v53 := Tryz.zeroValue83
  t55 := Tryz.underlying85
  a55 := Tryz.isAgg85
  z55 := Tryz.sizeOf85
  v55 := Tryz.zeroValue85
  t66 := Tryz.underlying93
  a66 := Tryz.isAgg93
  z66 := Tryz.sizeOf93
  v66 := Tryz.zeroValue93
  t70 := Tryz.underlying97
  a70 := Tryz.isAgg97
  z70 := Tryz.sizeOf97
  v70 := Tryz.zeroValue97
  t76 := Tryz.underlying110
  a76 := Tryz.isAgg110
  z76 := Tryz.sizeOf110
  v76 := Tryz.zeroValue110
  t77 := Tryz.underlying111
  a77 := Tryz.isAgg111
  z77 := Tryz.sizeOf111
  v77 := Tryz.zeroValue111 }

end Go.Proofs

namespace Go.Proofs.YtlibemgaepkceaaGreatDoor
open Go.Wk Go.RowKit Go.Lib
set_option linter.unusedVariables false
set_option linter.unusedSimpArgs false


theorem X45 {x : Int} {w : World} (i_x : InK .i64 x) : Calls Tryz.prog 45 #[.int .i64 x] w (Bk fun r w' => r = .bool false ∧ w' = w) := by
  have b_x := bd_i64 i_x
  have hS := St.start0 w
  refine enterB Tryz.func45 rfl Tryz.ntmps45 Tryz.results45 rfl ?_
  refine W.seq ?_
  refine W.reg ?_
  refine Wx.rd (v := .bool false) (rd_assign rfl) rfl ?_
  refine Wx.nil ?_
  refine W.seq ?_
  refine W.reg ?_
  refine Wx.rd (v := .int .i64 x) (rd_move rfl) rfl ?_
  refine Wx.rd (v := .int .i64 x) (rd_move rfl) rfl ?_
  refine Wx.rd (v := .bool (decide (x ≠ x))) (rd_neq rfl rfl) rfl ?_
  refine Wx.rd (v := .bool (decide (x ≠ x))) (rd_assign rfl) rfl ?_
  refine Wx.nil ?_
  have e0_0 : (decide (x ≠ x)) = false := by simp
  exact W.ret ⟨.bool (decide (x ≠ x)), ResIs.one, (by rw [e0_0]), rfl⟩

theorem X23 {x : Int} {y : Int} {w : World} (i_x : InK .i64 x) (i_y : InK .i64 y) : Calls Tryz.prog 23 #[.int .i64 x, .int .i64 y] w (Bk fun r w' => r = .int .i64 (cmpI x y) ∧ w' = w) := by
  have b_y := bd_i64 i_y
  have b_x := bd_i64 i_x
  have hS := St.start0 w
  refine enterB Tryz.func23 rfl Tryz.ntmps23 Tryz.results23 rfl ?_
  refine W.seq ?_
  refine W.reg ?_
  refine Wx.rd (v := .int .i64 0) (rd_assign rfl) rfl ?_
  refine Wx.nil ?_
  refine W.seq ?_
  refine W.reg ?_
  refine Wx.rd (v := .int .i64 x) (rd_move rfl) rfl ?_
  refine Wx.callB (run_callF Tryz.call45 rfl) (X45 i_x) rfl ?_
  rintro r_1 w_2 ⟨rfl, hw⟩; subst w_2
  refine Wx.rd (v := .bool false) (rd_assign rfl) rfl ?_
  refine Wx.nil ?_
  refine W.seq ?_
  refine W.reg ?_
  refine Wx.rd (v := .int .i64 y) (rd_move rfl) rfl ?_
  refine Wx.callB (run_callF Tryz.call45 rfl) (X45 i_y) rfl ?_
  rintro r_4 w_5 ⟨rfl, hw⟩; subst w_5
  refine Wx.rd (v := .bool false) (rd_assign rfl) rfl ?_
  refine Wx.nil ?_
  refine W.seq ?_
  refine W.seq ?_
  refine W.reg ?_
  refine Wx.rd (v := .bool false) (rd_move rfl) rfl ?_
  refine Wx.nil ?_
  refine W.condF rfl rfl ?_
  refine W.skip ?_
  refine W.seq ?_
  refine W.seq ?_
  refine W.reg ?_
  refine Wx.rd (v := .bool false) (rd_move rfl) rfl ?_
  refine Wx.nil ?_
  refine W.condF rfl rfl ?_
  refine W.skip ?_
  refine W.seq ?_
  refine W.seq ?_
  refine W.reg ?_
  refine Wx.rd (v := .int .i64 x) (rd_move rfl) rfl ?_
  refine Wx.rd (v := .int .i64 y) (rd_move rfl) rfl ?_
  refine Wx.rd (v := .bool (decide (x < y))) (rd_lss rfl rfl) rfl ?_
  refine Wx.nil ?_
  refine W.condD rfl (fun c2 => ?_) (fun c2 => ?_)
  · -- yes
    refine W.seq ?_
    refine W.reg ?_
    refine Wx.rd (v := .int .i64 (-1)) (rd_assign rfl) rfl ?_
    refine Wx.nil ?_
    have e0_0 : (cmpI x y) = (-1 : Int) := by rw [cmpI]; (repeat' split) <;> omega
    exact W.ret ⟨.int .i64 (-1), ResIs.one, (by rw [e0_0]), rfl⟩
  · -- no
    refine W.skip ?_
    refine W.seq ?_
    refine W.seq ?_
    refine W.reg ?_
    refine Wx.rd (v := .int .i64 x) (rd_move rfl) rfl ?_
    refine Wx.rd (v := .int .i64 y) (rd_move rfl) rfl ?_
    refine Wx.rd (v := .bool (decide (y < x))) (rd_gtr rfl rfl) rfl ?_
    refine Wx.nil ?_
    refine W.condD rfl (fun c3 => ?_) (fun c3 => ?_)
    · -- yes
      refine W.seq ?_
      refine W.reg ?_
      refine Wx.rd (v := .int .i64 1) (rd_assign rfl) rfl ?_
      refine Wx.nil ?_
      have e1_0 : (cmpI x y) = (1 : Int) := by rw [cmpI]; (repeat' split) <;> omega
      exact W.ret ⟨.int .i64 1, ResIs.one, (by rw [e1_0]), rfl⟩
    · -- no
      refine W.skip ?_
      refine W.seq ?_
      refine W.reg ?_
      refine Wx.rd (v := .int .i64 0) (rd_assign rfl) rfl ?_
      refine Wx.nil ?_
      have e2_0 : (cmpI x y) = (0 : Int) := by rw [cmpI]; (repeat' split) <;> omega
      exact W.ret ⟨.int .i64 0, ResIs.one, (by rw [e2_0]), rfl⟩

theorem X10 {xv : Value} {xs : List Int} {Fr_xv : List (Option Nat)} {yv : Value} {ys : List Int} {Fr_yv : List (Option Nat)} {w : World} (h_xv : V (tSl (tI .i64)) xs xv Fr_xv w) (h_yv : V (tSl (tI .i64)) ys yv Fr_yv w) : Calls Tryz.prog 10 #[xv, yv] w (Bk fun r w' => r = .int .i64 (cmpL xs ys) ∧ w' = w) := by
  have a_xv := h_xv.any
  have l_xv := h_xv.len63
  have a_yv := h_yv.any
  have l_yv := h_yv.len63
  have hS := St.start0 w
  refine enterB Tryz.func10 rfl Tryz.ntmps10 Tryz.results10 rfl ?_
  refine W.seq ?_
  refine W.reg ?_
  refine Wx.rd (v := .int .i64 0) (rd_assign rfl) rfl ?_
  refine Wx.nil ?_
  refine W.seq ?_
  refine W.seq ?_
  refine W.reg ?_
  refine Wx.rd (v := xv) (rd_move rfl) rfl ?_
  refine Wx.rd (v := .int .i64 (xs.length : Int)) (rd_lenV rfl (hS.arg a_xv) Tryz.underlying25) rfl ?_
  refine Wx.rd (v := .int .i64 0) (rd_move rfl) rfl ?_
  refine Wx.nil ?_
  refine W.block ?_
  refine W.loop [4, 5, 6, 7, 8, 11, 12, 13, 14, 15, 16, 17, 18, 19, 20, 21, 22, 23, 24, 25, 26, 27, 28, 29, 30] (fun (k : Int) => [(11, .int .i64 k)]) (fun (k : Int) w' => w' = w ∧ 0 ≤ k ∧ k ≤ xs.length ∧ cmpL (xs.drop k.toNat) (ys.drop k.toNat) = cmpL xs ys) (fun (k : Int) => (xs.length - k).toNat) 0 ⟨rfl, trivial⟩ ⟨rfl, (by first | omega | simp), (by first | omega | simp), (by simp)⟩ ?_
  rintro k u_2 w_1 ⟨hw, h0, h1, h2⟩; subst w_1
  refine W.seq ?_
  refine W.reg ?_
  refine Wx.rd (v := .bool (decide (k < (xs.length : Int)))) (rd_lss rfl rfl) rfl ?_
  refine Wx.nil ?_
  refine W.seq ?_
  refine W.condD rfl (fun c0 => ?_) (fun c0 => ?_)
  · -- yes
    refine W.skip ?_
    refine W.seq ?_
    refine W.block ?_
    refine W.seq ?_
    refine W.reg ?_
    refine Wx.rd (v := .int .i64 k) (rd_move rfl) rfl ?_
    refine Wx.ex (rd_index 0 (hS.arg a_xv) rfl rfl Tryz.underlying25 Tryz.sizeOf3 (by first | omega | (simp only [List.length_set, List.length_append, List.length_cons, List.length_nil, List.length_replicate]; omega)) (by first | omega | (simp only [List.length_set, List.length_append, List.length_cons, List.length_nil, List.length_replicate]; omega))) rfl (fun p_3 hp_4 => ?_)
    refine Wx.rd (v := .int .i64 (ix 0 xs k)) (rd_loadI hp_4 rfl Tryz.isAgg3 Tryz.sizeOf3) rfl ?_
    have bd_5 := bd_i64 hp_4.inK
    refine Wx.rd (v := .int .i64 k) (rd_assign rfl) rfl ?_
    refine Wx.rd (v := .int .i64 (ix 0 xs k)) (rd_assign rfl) rfl ?_
    refine Wx.nil ?_
    refine W.seq ?_
    refine W.seq ?_
    refine W.reg ?_
    refine Wx.rd (v := .int .i64 k) (rd_move rfl) rfl ?_
    refine Wx.rd (v := yv) (rd_move rfl) rfl ?_
    refine Wx.rd (v := .int .i64 (ys.length : Int)) (rd_lenV rfl (hS.arg a_yv) Tryz.underlying25) rfl ?_
    refine Wx.rd (v := .bool (decide ((ys.length : Int) ≤ k))) (rd_geq rfl rfl) rfl ?_
    refine Wx.nil ?_
    refine W.condD rfl (fun c1 => ?_) (fun c1 => ?_)
    · -- yes
      refine W.seq ?_
      refine W.reg ?_
      refine Wx.rd (v := .int .i64 1) (rd_assign rfl) rfl ?_
      refine Wx.nil ?_
      have e0_0 : (cmpL xs ys) = (1 : Int) := by exact cmpl_long h0 c0 (by omega) h2
      exact W.ret ⟨.int .i64 1, ResIs.one, (by rw [e0_0]), rfl⟩
    · -- no
      refine W.skip ?_
      refine W.seq ?_
      refine W.reg ?_
      refine Wx.rd (v := yv) (rd_move rfl) rfl ?_
      refine Wx.rd (v := .int .i64 k) (rd_move rfl) rfl ?_
      refine Wx.ex (rd_index 0 (hS.arg a_yv) rfl rfl Tryz.underlying25 Tryz.sizeOf3 (by first | omega | (simp only [List.length_set, List.length_append, List.length_cons, List.length_nil, List.length_replicate]; omega)) (by first | omega | (simp only [List.length_set, List.length_append, List.length_cons, List.length_nil, List.length_replicate]; omega))) rfl (fun p_6 hp_7 => ?_)
      refine Wx.rd (v := .int .i64 (ix 0 ys k)) (rd_loadI hp_7 rfl Tryz.isAgg3 Tryz.sizeOf3) rfl ?_
      have bd_8 := bd_i64 hp_7.inK
      refine Wx.rd (v := .int .i64 (ix 0 ys k)) (rd_assign rfl) rfl ?_
      refine Wx.nil ?_
      refine W.seq ?_
      refine W.reg ?_
      refine Wx.rd (v := .int .i64 (ix 0 xs k)) (rd_move rfl) rfl ?_
      refine Wx.rd (v := .int .i64 (ix 0 ys k)) (rd_move rfl) rfl ?_
      refine Wx.callB (run_callF Tryz.call23 rfl) (X23 (in_i64 (by omega) (by omega)) (in_i64 (by omega) (by omega))) rfl ?_
      rintro r_9 w_10 ⟨rfl, hw⟩; subst w_10
      have hcb : -1 ≤ cmpI (ix 0 xs k) (ix 0 ys k) ∧ cmpI (ix 0 xs k) (ix 0 ys k) ≤ 1 := by rw [cmpI]; (repeat' split) <;> omega
      refine Wx.rd (v := .int .i64 (cmpI (ix 0 xs k) (ix 0 ys k))) (rd_assign rfl) rfl ?_
      refine Wx.nil ?_
      refine W.seq ?_
      refine W.reg ?_
      refine Wx.rd (v := .int .i64 (cmpI (ix 0 xs k) (ix 0 ys k))) (rd_move rfl) rfl ?_
      refine Wx.rd (v := .bool (decide ((cmpI (ix 0 xs k) (ix 0 ys k)) ≠ 0))) (rd_neq rfl rfl) rfl ?_
      refine Wx.nil ?_
      refine W.condD rfl (fun c2 => ?_) (fun c2 => ?_)
      · -- yes
        refine W.seq ?_
        refine W.reg ?_
        refine Wx.rd (v := .int .i64 (cmpI (ix 0 xs k) (ix 0 ys k))) (rd_move rfl) rfl ?_
        refine Wx.rd (v := .int .i64 (cmpI (ix 0 xs k) (ix 0 ys k))) (rd_assign rfl) rfl ?_
        refine Wx.nil ?_
        have e1_0 : (cmpL xs ys) = (cmpI (ix 0 xs k) (ix 0 ys k) : Int) := by exact cmpl_here h0 c0 (by omega) h2 c2
        exact W.ret ⟨.int .i64 (cmpI (ix 0 xs k) (ix 0 ys k)), ResIs.one, (by rw [e1_0]), rfl⟩
      · -- no
        refine W.skip ?_
        refine W.reg ?_
        refine Wx.rd (v := .int .i64 (k + 1)) (rd_add rfl rfl (in_i64 (by omega) (by omega))) rfl ?_
        refine Wx.rd (v := .int .i64 (k + 1)) (rd_move rfl) rfl ?_
        refine Wx.nil ?_
        refine ⟨k + 1, (by show (xs.length - (k + 1)).toNat < (xs.length - k).toNat; omega), ?_, ?_, Out.look rfl Out.self⟩
        · exact ⟨rfl, (by first | omega | assumption), (by first | omega | assumption), (cmpl_next h0 c0 (by omega) h2 (by omega))⟩
        · exact ⟨rfl, trivial⟩
  · -- no
    refine W.exit rfl ?_
    refine W.seq ?_
    refine W.seq ?_
    refine W.reg ?_
    refine Wx.rd (v := xv) (rd_move rfl) rfl ?_
    refine Wx.rd (v := .int .i64 (xs.length : Int)) (rd_lenV rfl (hS.arg a_xv) Tryz.underlying25) rfl ?_
    refine Wx.rd (v := yv) (rd_move rfl) rfl ?_
    refine Wx.rd (v := .int .i64 (ys.length : Int)) (rd_lenV rfl (hS.arg a_yv) Tryz.underlying25) rfl ?_
    refine Wx.rd (v := .bool (decide ((xs.length : Int) < (ys.length : Int)))) (rd_lss rfl rfl) rfl ?_
    refine Wx.nil ?_
    refine W.condD rfl (fun c3 => ?_) (fun c3 => ?_)
    · -- yes
      refine W.seq ?_
      refine W.reg ?_
      refine Wx.rd (v := .int .i64 (-1)) (rd_assign rfl) rfl ?_
      refine Wx.nil ?_
      have e2_0 : (cmpL xs ys) = (-1 : Int) := by exact cmpl_short h0 (by omega) h2 (by omega)
      exact W.ret ⟨.int .i64 (-1), ResIs.one, (by rw [e2_0]), rfl⟩
    · -- no
      refine W.skip ?_
      refine W.seq ?_
      refine W.reg ?_
      refine Wx.rd (v := .int .i64 0) (rd_assign rfl) rfl ?_
      refine Wx.nil ?_
      have e3_0 : (cmpL xs ys) = (0 : Int) := by exact cmpl_same h0 (by omega) h2 (by omega)
      exact W.ret ⟨.int .i64 0, ResIs.one, (by rw [e3_0]), rfl⟩
end Go.Proofs.YtlibemgaepkceaaGreatDoor

namespace Go.Wk
open Go.RowKit Go.Lib
set_option linter.unusedVariables false
variable {P : Program} {n : Nat} {w w0 : World} {O : List (Option Nat)} {obs : List Ob} {ops : Array Oper} {rest : List Oper} {kc : Cont} {d : Tmp} {ty : TypeId} {pos : String} {af : Array Edge}
  {l : List (Nat × Value)} {σ0 σ : Fr} {T : TypeId} {x y z lo : Operand} {k : IntKind}

structure MayF (P : Program) (gm : Nat) (cm : List Value) (f : Int → Bool) (m : Int) (w : World) : Prop where
  ent : ∀ args w', (callFunc gm args).run P w' = .ok (.enter gm args) w'
  call : ∀ x w', 0 ≤ x → x < m → Ext w w' → Calls P gm (.int .i64 x :: cm).toArray w' (Ret w' fun r _ => r = .bool (f x))
end Go.Wk
namespace Go.Wk
open Go.RowKit Go.Lib
set_option linter.unusedVariables false
theorem rd_loadOA {P : Program} {w w0 : World} {σ : Fr} {T e ty : TypeId} {x : Operand} {k : IntKind} {ys : List Int} {g : Nat} {fz : Nat × Nat} {i : Int} (hh : w0.heap[g]? = some (.cells (ys.map (Value.int k)).toArray e fz)) (hb : Ext w0 w) (hx : ev σ x = .pointer (some ⟨g, 0 + i.toNat * 1, none⟩))
    (h0 : 0 ≤ i) (h1 : i < ys.length) (hag : ∀ w', (isAgg T).run P w' = .ok false w') : Rd P σ (.load T x) ty w (.int k (ix 0 ys i)) := by
  refine rd_loadO hh hb hx ?_ hag
  have := ix_get (d := (0 : Int)) h1 h0
  simp [this]
end Go.Wk
namespace Go.Wk
open Go.RowKit Go.Lib
end Go.Wk

namespace Go.Proofs.YtlibemgaepkceaaGreatDoor
open Go.Wk
set_option linter.unusedVariables false
section
variable {A : RelE} {n : Int} {f : Int → Bool}
def Marks (n : Int) (met : List Bool) (out : List Int) : Prop := (met.length : Int) = n + 1 ∧ ∀ x, 0 ≤ x → x ≤ n → (ix false met x = true ↔ x ∈ out)
end
end Go.Proofs.YtlibemgaepkceaaGreatDoor
namespace Go.Proofs.YtlibemgaepkceaaGreatDoor
open Go.Wk
end Go.Proofs.YtlibemgaepkceaaGreatDoor
namespace Go.Proofs.YtlibemgaepkceaaGreatDoor
open Go.Wk
end Go.Proofs.YtlibemgaepkceaaGreatDoor

namespace Go.Proofs.YtlibemgaepkceaaGreatDoor
open Go.Wk
set_option linter.unusedVariables false
section
variable {C : Int} {H : List Int} {h : Int}
structure QI (C : Int) (H : List Int) (h b : Int) (far todo : List Int) : Prop where
  len : far.length = 37
  nd : todo.Nodup
  mem : ∀ x ∈ todo, (0 ≤ x ∧ x < (H.length : Int)) ∧ ix 0 H x ≤ h ∧ (0 < ix 0 far x ∧ ix 0 far x ≤ b + 1) ∧ rW C H h (ix 0 far x - 1).toNat x = true
  out : ∀ x, 0 ≤ x → x < (H.length : Int) → x ∉ todo → ix 0 far x = 0
  mono : todo.Pairwise fun x y => ix 0 far x ≤ ix 0 far y
  bd : b ≤ todo.length ∧ ∀ x ∈ todo, ix 0 far x ≤ todo.length
end
end Go.Proofs.YtlibemgaepkceaaGreatDoor

namespace Go.Proofs.YtlibemgaepkceaaGreatDoor
open Go.Wk
set_option linter.unusedVariables false
abbrev J3 := (Int × Int) × Int
def Jt.t (j : Jt) : J3 := ((j.a, j.b), j.h)
section
variable {C : Int} {H : List Int}
end
end Go.Proofs.YtlibemgaepkceaaGreatDoor

namespace Go.Proofs.YtlibemgaepkceaaGreatDoor
open Go.Wk
set_option linter.unusedVariables false
def upK (ys : List Int) : Nat → Int → Int
  | 0, x => x
  | d + 1, x => upK ys d (ix 0 ys x)
def topV (ys : List Int) (x : Int) : Int := upK ys 1000 x
structure UF (m : Nat) (ys : List Int) : Prop where
  len : ys.length = 37
  rng : ∀ x, (0 ≤ x ∧ x < 37) → 0 ≤ ix 0 ys x ∧ ix 0 ys x < 37
  rk : ∃ rk : Int → Nat, ∀ x, (0 ≤ x ∧ x < 37) → rk x ≤ m ∧ (ix 0 ys x = x → rk x = 0) ∧ (ix 0 ys x ≠ x → rk (ix 0 ys x) < rk x)
section
variable {ys : List Int} {m : Nat}
def tops (n : Int) (ys : List Int) : List Int := (rng 0 (n + 1)).map (topV ys)
end
/-! ### all is connected -/
section
variable {R C : Int} {H : List Int}
/-! ### the joints that are taken -/
def kruP (C : Int) (H : List Int) (k : Int) : List Jt := kru ((jAll C H 0).take k.toNat)
structure TrI (C : Int) (H : List Int) (a b k : Int) (ys : List Int) (out : List J3) (high : Int) : Prop where
  o : out = (kruP C H k).map Jt.t
  uf : UF out.length ys
  lab : LabI H.length (tops H.length ys) ((kruP C H k).map Jt.e)
  hi : conF ((kruP C H k).map Jt.e) a b = true → high = betwV C H a b
  bd : 0 ≤ high ∧ high ≤ 100
end
end Go.Proofs.YtlibemgaepkceaaGreatDoor
namespace Go.Proofs.YtlibemgaepkceaaGreatDoor
open Go.Wk
end Go.Proofs.YtlibemgaepkceaaGreatDoor
namespace Go.Proofs.YtlibemgaepkceaaGreatDoor
end Go.Proofs.YtlibemgaepkceaaGreatDoor

namespace Go.Proofs.YtlibemgaepkceaaGreatDoor
open Go.Wk
set_option linter.unusedVariables false
def Pth (to : List Int) : Int → List Int → Int → Prop
  | a, [], c => a = c
  | a, x :: l, c => x = a ∧ Pth to (ix 0 to a) l c
def pthB (to : List Int) : Int → List Int → Int → Bool
  | a, [], c => decide (a = c)
  | a, x :: l, c => decide (x = a) && pthB to (ix 0 to a) l c
section
variable {to : List Int}
theorem pthB_iff : ∀ {l : List Int} {a c : Int}, pthB to a l c = true ↔ Pth to a l c
  | [], a, c => decide_eq_true_iff
  | x :: l, a, c => by rw [pthB, Bool.and_eq_true, decide_eq_true_iff, pthB_iff (l := l)]; exact Iff.rfl
theorem pth_app : ∀ {l m : List Int} {a c e : Int}, Pth to a l c → Pth to c m e → Pth to a (l ++ m) e
  | [], m, a, c, e, h, k => by obtain rfl : a = c := h; exact k
  | x :: l, m, a, c, e, h, k => ⟨h.1, pth_app h.2 k⟩
theorem pth_split : ∀ {l m : List Int} {a e : Int}, Pth to a (l ++ m) e → ∃ c, Pth to a l c ∧ Pth to c m e
  | [], m, a, e, h => ⟨a, rfl, h⟩
  | x :: l, m, a, e, h => by obtain ⟨c, h1, h2⟩ := pth_split (l := l) h.2; exact ⟨c, ⟨h.1, h1⟩, h2⟩
theorem pth_one : ∀ {l m : List Int} {a c : Int}, Pth to a l c → Pth to a m c → c ∉ l → c ∉ m → l = m
  | [], [], _, _, _, _, _, _ => rfl
  | [], y :: m, a, c, h, k, _, hm => by obtain rfl : a = c := h; exact (hm (by rw [k.1]; exact List.mem_cons_self)).elim
  | x :: l, [], a, c, h, k, hl, _ => by obtain rfl : a = c := k; exact (hl (by rw [h.1]; exact List.mem_cons_self)).elim
  | x :: l, y :: m, a, c, h, k, hl, hm => by
    rw [h.1, k.1, pth_one h.2 k.2 (fun q => hl (List.mem_cons_of_mem _ q)) (fun q => hm (List.mem_cons_of_mem _ q))]
def RingP (to l : List Int) : Prop := ∃ m q, l = m :: q ∧ Pth to m l m ∧ l.Nodup ∧ ∀ x ∈ l, m ≤ x
def ringB (to : List Int) : List Int → Bool
  | [] => false
  | m :: q => pthB to m (m :: q) m && decide (m :: q).Nodup && (m :: q).all fun x => decide (m ≤ x)
theorem ringB_iff {l : List Int} : ringB to l = true → RingP to l := by
  cases l with
  | nil => intro h; cases h
  | cons m q =>
    intro h
    simp only [ringB, Bool.and_eq_true, decide_eq_true_iff, List.all_eq_true] at h
    exact ⟨m, q, rfl, pthB_iff.1 h.1.1, h.1.2, h.2⟩
theorem ring_turn {l : List Int} {m x : Int} (h : Pth to m l m) (hn : l.Nodup) (hx : x ∈ l) : ∃ p q, l = p ++ x :: q ∧ Pth to x (x :: q ++ p) x := by
  obtain ⟨p, q, rfl⟩ := List.append_of_mem hx
  obtain ⟨c, h1, h2⟩ := pth_split h
  have hc : x = c := h2.1
  exact ⟨p, q, rfl, by rw [hc] at h2 ⊢; exact pth_app h2 h1⟩
theorem ring_same {l l' : List Int} (h : RingP to l) (h' : RingP to l') {x : Int} (hx : x ∈ l) (hx' : x ∈ l') : l = l' := by
  obtain ⟨m, q, rfl, hp, hn, hm⟩ := h
  obtain ⟨m', q', rfl, hp', hn', hm'⟩ := h'
  obtain ⟨a, b, e1, k1⟩ := ring_turn hp hn hx
  obtain ⟨a', b', e2, k2⟩ := ring_turn hp' hn' hx'
  have n1 : (x :: b ++ a).Nodup := by rw [e1] at hn; exact (List.perm_append_comm.nodup_iff).1 hn
  have n2 : (x :: b' ++ a').Nodup := by rw [e2] at hn'; exact (List.perm_append_comm.nodup_iff).1 hn'
  have e3 : b ++ a = b' ++ a' := pth_one k1.2 k2.2 (List.nodup_cons.1 n1).1 (List.nodup_cons.1 n2).1
  have hmem : ∀ y, y ∈ m :: q ↔ y ∈ m' :: q' := fun y => by
    rw [e1, e2]
    have h1 : y ∈ a ++ x :: b ↔ y ∈ x :: (b ++ a) := by simp only [List.mem_append, List.mem_cons]; exact or_comm.trans or_assoc
    have h2 : y ∈ a' ++ x :: b' ↔ y ∈ x :: (b' ++ a') := by simp only [List.mem_append, List.mem_cons]; exact or_comm.trans or_assoc
    rw [h1, h2, e3]
  have e4 : m = m' := Int.le_antisymm (hm _ ((hmem m').2 List.mem_cons_self)) (hm' _ ((hmem m).1 List.mem_cons_self))
  subst e4
  rw [pth_one hp.2 hp'.2 (List.nodup_cons.1 hn).1 (List.nodup_cons.1 hn').1]
theorem rings_perm {R R' : List (List Int)} (h : ∀ l ∈ R, RingP to l) (h' : ∀ l ∈ R', RingP to l) (hn : R.flatten.Nodup) (hn' : R'.flatten.Nodup) (hm : ∀ x, x ∈ R.flatten ↔ x ∈ R'.flatten) : R.Perm R' := by
  have key : ∀ {R R' : List (List Int)}, (∀ l ∈ R, RingP to l) → (∀ l ∈ R', RingP to l) → (∀ x, x ∈ R.flatten ↔ x ∈ R'.flatten) → ∀ l, l ∈ R → l ∈ R' := by
    intro R R' h h' hm l hl
    obtain ⟨m, q, e, _⟩ := h l hl
    have : m ∈ R'.flatten := (hm m).1 (List.mem_flatten.2 ⟨l, hl, by rw [e]; exact List.mem_cons_self⟩)
    obtain ⟨l', hl', hx⟩ := List.mem_flatten.1 this
    rw [ring_same (h l hl) (h' l' hl') (by rw [e]; exact List.mem_cons_self) hx]
    exact hl'
  have nd : ∀ {R : List (List Int)}, (∀ l ∈ R, RingP to l) → R.flatten.Nodup → R.Nodup := by
    intro R h hn
    induction R with
    | nil => exact List.nodup_nil
    | cons l R ih =>
      rw [List.flatten_cons, List.nodup_append] at hn
      refine List.nodup_cons.2 ⟨fun hl => ?_, ih (fun l hl => h l (List.mem_cons_of_mem _ hl)) hn.2.1⟩
      obtain ⟨m, q, e, _⟩ := h l List.mem_cons_self
      exact hn.2.2 m (by rw [e]; exact List.mem_cons_self) m (List.mem_flatten.2 ⟨l, hl, by rw [e]; exact List.mem_cons_self⟩) rfl
  exact (List.perm_ext_iff_of_nodup (nd h hn) (nd h' hn')).2 fun l => ⟨key h h' hm l, key h' h (fun x => (hm x).symm) l⟩
theorem pth_map : ∀ {l : List Int} {a c : Int}, Pth to a l c → a :: l.map (fun x => ix 0 to x) = l ++ [c]
  | [], a, c, h => by obtain rfl : a = c := h; rfl
  | x :: l, a, c, h => by
    have := pth_map h.2
    rw [List.map_cons, h.1, this]; rfl
theorem ring_map {l : List Int} (h : RingP to l) : (l.map fun x => ix 0 to x).Perm l := by
  obtain ⟨m, q, rfl, hp, _, _⟩ := h
  have := pth_map hp
  rw [List.cons_append] at this
  rw [(List.cons.inj this).2]
  exact (List.perm_append_comm (l₁ := q) (l₂ := [m]))
theorem rings_map {R : List (List Int)} (h : ∀ l ∈ R, RingP to l) : (R.flatten.map fun x => ix 0 to x).Perm R.flatten := by
  induction R with
  | nil => exact List.Perm.refl _
  | cons l R ih =>
    rw [List.flatten_cons, List.map_append]
    exact (ring_map (h l List.mem_cons_self)).append (ih fun l hl => h l (List.mem_cons_of_mem _ hl))
theorem pth_other {to' : List Int} : ∀ {l : List Int} {a c : Int}, Pth to a l c → (∀ x ∈ l, ix 0 to' x = ix 0 to x) → Pth to' a l c
  | [], _, _, h, _ => h
  | x :: l, a, c, h, k => ⟨h.1, by rw [← h.1, k x List.mem_cons_self, h.1]; exact pth_other h.2 fun y hy => k y (List.mem_cons_of_mem _ hy)⟩
theorem ring_other {to' l : List Int} (h : RingP to l) (k : ∀ x ∈ l, ix 0 to' x = ix 0 to x) : RingP to' l := by
  obtain ⟨m, q, e, hp, hn, hm⟩ := h
  exact ⟨m, q, e, pth_other hp k, hn, hm⟩
end
end Go.Proofs.YtlibemgaepkceaaGreatDoor

namespace Go.Proofs.YtlibemgaepkceaaGreatDoor
open Go.Wk
set_option linter.unusedVariables false
theorem ix_setR {α : Type} {d : α} {xs : List α} {j q : Int} {x : α} (h0 : 0 ≤ j) (h1 : j < xs.length) (q0 : 0 ≤ q) : ix d (xs.set j.toNat x) q = if q = j then x else ix d xs q := by
  rw [ix, ix, List.getD_eq_getElem?_getD, List.getD_eq_getElem?_getD, List.getElem?_set]
  by_cases h : q = j
  · subst h; rw [if_pos rfl, if_pos rfl, if_pos (by omega)]; rfl
  · rw [if_neg h, if_neg (by omega)]
theorem ix_memR {α : Type} {d : α} {xs : List α} {j : Int} (h0 : 0 ≤ j) (h : j < xs.length) : ix d xs j ∈ xs := List.mem_of_getElem? (ix_get h h0)
theorem count_set0 {met : List Int} {a k : Int} (h0 : 0 ≤ a) (h1 : a < met.length) (hm : ix 0 met a = 0) (hk : k ≠ 0) : (met.set a.toNat k).count 0 + 1 = met.count 0 := by
  have hlt : a.toNat < met.length := by omega
  have hg : met[a.toNat] = 0 := by
    have := ix_get (d := (0 : Int)) h1 h0
    rw [hm, List.getElem?_eq_getElem hlt] at this
    exact Option.some.inj this
  have e1 : met = met.take a.toNat ++ (0 :: met.drop (a.toNat + 1)) := by
    rw [← hg, ← List.drop_eq_getElem_cons hlt, List.take_append_drop]
  have e2 : met.set a.toNat k = met.take a.toNat ++ (k :: met.drop (a.toNat + 1)) := by
    rw [List.set_eq_take_append_cons_drop, if_pos hlt]
  rw [e2]
  conv => rhs; rw [e1]
  rw [List.count_append, List.count_append, List.count_cons, List.count_cons]
  simp [hk]
  omega
def pthF (to : List Int) (k : Int) : Nat → List Int → Int → List Int × List Int × Int
  | 0, met, a => ([], met, a)
  | f + 1, met, a => if 0 ≤ ix 0 to a ∧ ix 0 met a = 0 then (a :: (pthF to k f (met.set a.toNat k) (ix 0 to a)).1, (pthF to k f (met.set a.toNat k) (ix 0 to a)).2) else ([], met, a)
def pthV (to : List Int) (k : Int) (met : List Int) (a : Int) : List Int × List Int × Int := pthF to k (met.count 0) met a
structure ToOK (n : Nat) (to : List Int) : Prop where
  l : to.length = n
  r : ∀ x : Int, 0 ≤ x → x < n → -1 ≤ ix 0 to x ∧ ix 0 to x < n
section
variable {to : List Int} {n : Nat} {k : Int} {met : List Int} {a : Int}
theorem count_pos0 (h0 : 0 ≤ a) (h1 : a < met.length) (hm : ix 0 met a = 0) : 0 < met.count 0 := List.count_pos_iff.2 (by rw [← hm]; exact ix_memR h0 h1)
theorem pthV_next (hk : k ≠ 0) (h0 : 0 ≤ a) (h1 : a < met.length) (ht : 0 ≤ ix 0 to a) (hm : ix 0 met a = 0) :
    pthV to k met a = (a :: (pthV to k (met.set a.toNat k) (ix 0 to a)).1, (pthV to k (met.set a.toNat k) (ix 0 to a)).2) := by
  rw [pthV, ← count_set0 h0 h1 hm hk, pthF, if_pos ⟨ht, hm⟩]; rfl
theorem pthV_end (h : ¬ (0 ≤ ix 0 to a ∧ ix 0 met a = 0)) : pthV to k met a = ([], met, a) := by
  rw [pthV]
  cases met.count 0 with
  | zero => rfl
  | succ f => rw [pthF, if_neg h]
structure PthP (n : Nat) (to : List Int) (k : Int) (met : List Int) (a : Int) (r : List Int × List Int × Int) : Prop where
  len : r.2.1.length = n
  fin : 0 ≤ r.2.2 ∧ r.2.2 < n
  pth : Pth to a r.1 r.2.2
  nd : r.1.Nodup
  mem : ∀ x ∈ r.1, (0 ≤ x ∧ x < n) ∧ ix 0 met x = 0 ∧ 0 ≤ ix 0 to x
  met : ∀ x : Int, 0 ≤ x → x < n → ix 0 r.2.1 x = if x ∈ r.1 then k else ix 0 met x
  stop : ¬ (0 ≤ ix 0 to r.2.2 ∧ ix 0 r.2.1 r.2.2 = 0)
theorem pthV_spec (hto : ToOK n to) (hk : 0 < k) : ∀ {f : Nat} {met : List Int} {a : Int}, met.count 0 = f → met.length = n → 0 ≤ a → a < n → PthP n to k met a (pthV to k met a) := by
  intro f
  induction f with
  | zero =>
    intro met a hf hl h0 h1
    have hs : ¬ (0 ≤ ix 0 to a ∧ ix 0 met a = 0) := fun h => by have := count_pos0 h0 (by omega) h.2; omega
    rw [pthV_end hs]
    exact ⟨hl, ⟨h0, h1⟩, rfl, List.nodup_nil, by simp, by simp, hs⟩
  | succ f ih =>
    intro met a hf hl h0 h1
    by_cases hs : 0 ≤ ix 0 to a ∧ ix 0 met a = 0
    · have hc := count_set0 (k := k) h0 (by omega) hs.2 (by omega)
      have hr := hto.r a h0 h1
      have h := ih (met := met.set a.toNat k) (a := ix 0 to a) (by omega) (by rw [List.length_set]; exact hl) hs.1 hr.2
      rw [pthV_next (by omega) h0 (by omega) hs.1 hs.2]
      have hna : a ∉ (pthV to k (met.set a.toNat k) (ix 0 to a)).1 := fun hx => by
        have := (h.mem a hx).2.1
        rw [ix_setR h0 (by omega) h0, if_pos rfl] at this
        omega
      refine ⟨h.len, h.fin, ⟨rfl, h.pth⟩, List.nodup_cons.2 ⟨hna, h.nd⟩, fun x hx => ?_, fun x x0 x1 => ?_, h.stop⟩
      · rcases List.mem_cons.1 hx with rfl | hx
        · exact ⟨⟨h0, h1⟩, hs.2, hs.1⟩
        · have hh := h.mem x hx
          rw [ix_setR h0 (by omega) hh.1.1] at hh
          by_cases hxa : x = a
          · subst hxa; exact (hna hx).elim
          · rw [if_neg hxa] at hh; exact hh
      · simp only
        rw [h.met x x0 x1, ix_setR h0 (by omega) x0]
        by_cases hxa : x = a
        · subst hxa; rw [if_neg hna, if_pos rfl, if_pos List.mem_cons_self]
        · rw [if_neg hxa]
          by_cases hx : x ∈ (pthV to k (met.set a.toNat k) (ix 0 to a)).1
          · rw [if_pos hx, if_pos (List.mem_cons_of_mem _ hx)]
          · rw [if_neg hx, if_neg (fun q => (List.mem_cons.1 q).elim hxa hx)]
    · rw [pthV_end hs]
      exact ⟨hl, ⟨h0, h1⟩, rfl, List.nodup_nil, by simp, by simp, hs⟩
end
def cyclV (r : List Int × List Int × Int) : List Int := r.1.dropWhile fun x => x != r.2.2
theorem dropWhile_mem {c : Int} : ∀ {l : List Int}, c ∈ l → ∃ p q, l = p ++ c :: q ∧ l.dropWhile (fun x => x != c) = c :: q
  | x :: l, h => by
    by_cases hx : x = c
    · subst hx; exact ⟨[], l, rfl, by rw [List.dropWhile_cons]; simp⟩
    · obtain ⟨p, q, e, k⟩ := dropWhile_mem (l := l) ((List.mem_cons.1 h).resolve_left fun q => hx q.symm)
      exact ⟨x :: p, q, by rw [e]; rfl, by rw [List.dropWhile_cons]; simp [hx, k]⟩
section
variable {to : List Int} {n : Nat} {k : Int} {met : List Int} {a : Int}
structure CycP (n : Nat) (to : List Int) (c : Int) (l : List Int) : Prop where
  pth : Pth to c l c
  ne : l ≠ []
  nd : l.Nodup
  mem : ∀ x ∈ l, (0 ≤ x ∧ x < n) ∧ 0 ≤ ix 0 to x
theorem cyc_ok {r : List Int × List Int × Int} (h : PthP n to k met a r) (hk : ∀ x ∈ met, x ≠ k) (hl : met.length = n) (hm : ix 0 r.2.1 r.2.2 = k) : r.2.2 ∈ r.1 ∧ CycP n to r.2.2 (cyclV r) ∧ ∀ x ∈ cyclV r, x ∈ r.1 := by
  have hin : r.2.2 ∈ r.1 := by
    refine Classical.byContradiction fun hx => ?_
    rw [h.met _ h.fin.1 h.fin.2, if_neg hx] at hm
    exact hk _ (ix_memR h.fin.1 (by have := h.fin.2; omega)) hm
  obtain ⟨p, q, e, e2⟩ := dropWhile_mem hin
  have hs : cyclV r = r.2.2 :: q := e2
  have hsub : ∀ x ∈ cyclV r, x ∈ r.1 := fun x hx => by rw [hs] at hx; rw [e]; exact List.mem_append.2 (.inr hx)
  have hp := h.pth
  rw [e] at hp
  obtain ⟨c, _, h2⟩ := pth_split hp
  refine ⟨hin, ⟨?_, by rw [hs]; exact List.cons_ne_nil _ _, ?_, fun x hx => ⟨(h.mem x (hsub x hx)).1, (h.mem x (hsub x hx)).2.2⟩⟩, hsub⟩
  · rw [hs]; rw [show c = r.2.2 from h2.1.symm] at h2; exact h2
  · rw [hs]; have := h.nd; rw [e, List.nodup_append] at this; exact this.2.1
end
def minR : List Int → Int
  | [] => 0
  | x :: l => l.foldl min x
theorem minR_le : ∀ {l : List Int} {x : Int}, l.foldl min x ≤ x ∧ (∀ y ∈ l, l.foldl min x ≤ y) ∧ (l.foldl min x = x ∨ l.foldl min x ∈ l)
  | [], x => ⟨Int.le_refl _, by simp, .inl rfl⟩
  | z :: l, x => by
    obtain ⟨h1, h2, h3⟩ := minR_le (l := l) (x := min x z)
    rw [List.foldl_cons]
    refine ⟨by omega, fun y hy => ?_, ?_⟩
    · rcases List.mem_cons.1 hy with rfl | hy
      · omega
      · exact h2 y hy
    · rcases h3 with h3 | h3
      · rw [h3]
        rcases Int.le_total x z with h | h
        · left; omega
        · right; rw [show min x z = z by omega]; exact List.mem_cons_self
      · exact .inr (List.mem_cons_of_mem _ h3)
theorem minR_ok {l : List Int} (h : l ≠ []) : minR l ∈ l ∧ ∀ y ∈ l, minR l ≤ y := by
  cases l with
  | nil => exact (h rfl).elim
  | cons x l =>
    obtain ⟨h1, h2, h3⟩ := minR_le (l := l) (x := x)
    refine ⟨?_, fun y hy => ?_⟩
    · rcases h3 with h3 | h3
      · rw [minR, h3]; exact List.mem_cons_self
      · exact List.mem_cons_of_mem _ h3
    · rcases List.mem_cons.1 hy with rfl | hy
      · exact h1
      · exact h2 y hy
def rotV (l : List Int) : List Int := l.drop (l.idxOf (minR l)) ++ l.take (l.idxOf (minR l))
theorem rotR_ring {to : List Int} {n : Nat} {c : Int} {l : List Int} (h : CycP n to c l) : RingP to (rotV l) ∧ (rotV l).Perm l := by
  obtain ⟨h1, h2⟩ := minR_ok h.ne
  have hp : (rotV l).Perm l := by
    have e : l.take (l.idxOf (minR l)) ++ l.drop (l.idxOf (minR l)) = l := List.take_append_drop _ _
    exact List.perm_append_comm.trans (by rw [e])
  refine ⟨?_, hp⟩
  have hlt := List.idxOf_lt_length_iff.2 h1
  have e : l.drop (l.idxOf (minR l)) = minR l :: l.drop (l.idxOf (minR l) + 1) := by
    rw [List.drop_eq_getElem_cons hlt, List.getElem_idxOf hlt]
  have h4 := h.pth
  rw [← List.take_append_drop (l.idxOf (minR l)) l] at h4
  obtain ⟨d, h5, h6⟩ := pth_split h4
  have hd : minR l = d := by rw [e] at h6; exact h6.1
  refine ⟨minR l, l.drop (l.idxOf (minR l) + 1) ++ l.take (l.idxOf (minR l)), by rw [rotV, e]; rfl, ?_, hp.nodup_iff.2 h.nd, fun x hx => h2 x (hp.mem_iff.1 hx)⟩
  rw [rotV]
  subst hd
  exact pth_app h6 h5
def scanS (to : List Int) (s : List Int × List (List Int)) (h : Int) : List Int × List (List Int) :=
  let r := pthV to (h + 1) s.1 h
  if ix 0 to r.2.2 < 0 ∨ ix 0 r.2.1 r.2.2 ≠ h + 1 then (r.2.1, s.2) else (r.2.1, s.2 ++ [rotV (cyclV r)])
def upR (n : Nat) : List Int := (List.range n).map fun (q : Nat) => (q : Int)
def scanK (to : List Int) (n : Nat) (i : Int) : List Int × List (List Int) := ((upR n).take i.toNat).foldl (scanS to) (List.replicate n 0, [])
def rndV (to : List Int) (n : Nat) : List (List Int) := ((upR n).foldl (scanS to) (List.replicate n 0, [])).2
section
variable {to : List Int} {n : Nat}
theorem upR_len : (upR n).length = n := by rw [upR, List.length_map, List.length_range]
theorem upR_mem {x : Int} : x ∈ upR n ↔ 0 ≤ x ∧ x < n := by
  rw [upR, List.mem_map]
  constructor
  · rintro ⟨q, hq, rfl⟩; rw [List.mem_range] at hq; omega
  · intro h; exact ⟨x.toNat, List.mem_range.2 (by omega), by omega⟩
theorem upR_ix {i : Int} (h0 : 0 ≤ i) (h1 : i < n) : ix 0 (upR n) i = i := by
  rw [ix, List.getD_eq_getElem?_getD, upR, List.getElem?_map, List.getElem?_range (by omega)]
  show ((i.toNat : Nat) : Int) = i
  omega
theorem upR_take {i : Int} (h0 : 0 ≤ i) (h1 : i < n) : (upR n).take (i + 1).toNat = (upR n).take i.toNat ++ [i] := by
  rw [take_ix (d := (0 : Int)) h0 (by rw [upR_len]; exact h1), upR_ix h0 h1]
theorem scan_next {i : Int} (h0 : 0 ≤ i) (h1 : i < n) : scanK to n (i + 1) = scanS to (scanK to n i) i := by
  rw [scanK, upR_take h0 h1, List.foldl_append]; rfl
theorem scan_all {i : Int} (h : (n : Int) ≤ i) : (scanK to n i).2 = rndV to n := by
  rw [scanK, List.take_of_length_le (by rw [upR_len]; omega)]; rfl
structure ScanI (n : Nat) (to : List Int) (i : Int) (s : List Int × List (List Int)) : Prop where
  len : s.1.length = n
  rng : ∀ x : Int, 0 ≤ x → x < n → 0 ≤ ix 0 s.1 x ∧ ix 0 s.1 x ≤ i
  ring : ∀ l ∈ s.2, RingP to l ∧ ∀ x ∈ l, (0 ≤ x ∧ x < n) ∧ 0 ≤ ix 0 to x ∧ ix 0 s.1 x ≠ 0
  nd : s.2.flatten.Nodup
  none : s.2 = [] → ∀ x : Int, 0 ≤ x → x < n → ix 0 s.1 x = 0
  some : s.2 = [] → ∀ x : Int, 0 ≤ x → x < i → ix 0 to x < 0
theorem ix_repR {α : Type} {d : α} {m : Nat} {x : α} {j : Int} (j0 : 0 ≤ j) (j1 : j < m) : ix d (List.replicate m x) j = x := by
  rw [ix, List.getD_eq_getElem?_getD, List.getElem?_replicate, if_pos (by omega)]; rfl
theorem ix_of_mem {met : List Int} {x : Int} (h : x ∈ met) : ∃ j : Int, 0 ≤ j ∧ j < met.length ∧ ix 0 met j = x := by
  obtain ⟨j, hj, e⟩ := List.mem_iff_getElem.1 h
  exact ⟨(j : Int), by omega, by omega, by rw [ix, List.getD_eq_getElem?_getD, show ((j : Int)).toNat = j by omega, List.getElem?_eq_getElem hj]; exact e⟩
theorem scan_start : ScanI n to 0 (List.replicate n 0, []) :=
  ⟨List.length_replicate, fun x h0 h1 => by rw [ix_repR h0 h1]; omega, by simp, List.nodup_nil, fun _ x h0 h1 => ix_repR h0 h1, fun _ x h0 h1 => by omega⟩
def Clo (n : Nat) (to : List Int) : Prop := ∀ x : Int, 0 ≤ x → x < n → 0 ≤ ix 0 to x → 0 ≤ ix 0 to (ix 0 to x)
theorem pth_clo (hto : ToOK n to) (hc : Clo n to) : ∀ {l : List Int} {a c : Int}, Pth to a l c → 0 ≤ a → a < n → 0 ≤ ix 0 to a → (∀ x ∈ l, 0 ≤ x ∧ x < n) → 0 ≤ ix 0 to c
  | [], a, c, h, _, _, ht, _ => by obtain rfl : a = c := h; exact ht
  | x :: l, a, c, h, h0, h1, ht, hl => pth_clo hto hc h.2 ht (hto.r a h0 h1).2 (hc a h0 h1 ht) fun y hy => hl y (List.mem_cons_of_mem _ hy)
theorem scan_step (hto : ToOK n to) (hc : Clo n to) {i : Int} {s : List Int × List (List Int)} (h : ScanI n to i s) (h0 : 0 ≤ i) (h1 : i < n) : ScanI n to (i + 1) (scanS to s i) := by
  have hp := pthV_spec (k := i + 1) hto (by omega) rfl h.len h0 h1
  generalize hr : pthV to (i + 1) s.1 i = r at hp
  have hk : ∀ x ∈ s.1, x ≠ i + 1 := fun x hx e => by
    obtain ⟨j, j0, j1, ej⟩ := ix_of_mem hx
    have := h.rng j j0 (by rw [h.len] at j1; exact j1)
    omega
  have hrng : ∀ x : Int, 0 ≤ x → x < n → 0 ≤ ix 0 r.2.1 x ∧ ix 0 r.2.1 x ≤ i + 1 := fun x x0 x1 => by
    rw [hp.met x x0 x1]
    have := h.rng x x0 x1
    split <;> omega
  have hold : ∀ l ∈ s.2, RingP to l ∧ ∀ x ∈ l, (0 ≤ x ∧ x < n) ∧ 0 ≤ ix 0 to x ∧ ix 0 r.2.1 x ≠ 0 := fun l hl => by
    refine ⟨(h.ring l hl).1, fun x hx => ?_⟩
    obtain ⟨k1, k2, k3⟩ := (h.ring l hl).2 x hx
    refine ⟨k1, k2, ?_⟩
    rw [hp.met x k1.1 k1.2]
    split <;> omega
  have hS : scanS to s i = if ix 0 to r.2.2 < 0 ∨ ix 0 r.2.1 r.2.2 ≠ i + 1 then (r.2.1, s.2) else (r.2.1, s.2 ++ [rotV (cyclV r)]) := by rw [scanS, hr]
  rw [hS]
  by_cases hq : ix 0 to r.2.2 < 0 ∨ ix 0 r.2.1 r.2.2 ≠ i + 1
  · rw [if_pos hq]
    have hno : s.2 = [] → ix 0 to i < 0 := fun he => by
      refine Classical.byContradiction fun hi => ?_
      have ht : 0 ≤ ix 0 to r.2.2 := pth_clo hto hc hp.pth h0 h1 (by omega) fun x hx => (hp.mem x hx).1
      have hm : ix 0 r.2.1 r.2.2 ≠ 0 := fun e => hp.stop ⟨ht, e⟩
      rw [hp.met _ hp.fin.1 hp.fin.2, h.none he _ hp.fin.1 hp.fin.2] at hm hq
      split at hm
      · rename_i hx; rw [if_pos hx] at hq; omega
      · exact hm rfl
    refine ⟨hp.len, hrng, hold, h.nd, fun he x x0 x1 => ?_, fun he x x0 x1 => ?_⟩
    · rw [hp.met x x0 x1, h.none he x x0 x1, if_neg]
      intro hx
      have hn := hno he
      have : r = ([], s.1, i) := by rw [← hr]; exact pthV_end (fun q => by omega)
      rw [this] at hx
      exact nomatch hx
    · by_cases hxi : x = i
      · rw [hxi]; exact hno he
      · exact h.some he x x0 (by omega)
  · rw [if_neg hq]
    obtain ⟨c1, c2, c3⟩ := cyc_ok hp hk h.len (by omega)
    obtain ⟨r1, r2⟩ := rotR_ring c2
    refine ⟨hp.len, hrng, fun l hl => ?_, ?_, fun he => by simp at he, fun he => by simp at he⟩
    · rcases List.mem_append.1 hl with hl | hl
      · exact hold l hl
      · obtain rfl := List.mem_singleton.1 hl
        refine ⟨r1, fun x hx => ?_⟩
        have hx := r2.mem_iff.1 hx
        have := hp.mem x (c3 x hx)
        refine ⟨this.1, this.2.2, ?_⟩
        rw [hp.met x this.1.1 this.1.2, if_pos (c3 x hx)]
        omega
    · rw [List.flatten_append, List.nodup_append]
      refine ⟨h.nd, by simpa using r2.nodup_iff.2 c2.nd, fun x hx y hy e => ?_⟩
      subst e
      obtain ⟨l, hl, hxl⟩ := List.mem_flatten.1 hx
      have h2 := ((h.ring l hl).2 x hxl).2.2
      have hy : x ∈ rotV (cyclV r) := by simpa using hy
      exact h2 (hp.mem x (c3 x (r2.mem_iff.1 hy))).2.1
theorem scan_ok (hto : ToOK n to) (hc : Clo n to) : ∀ (m : Nat), m ≤ n → ScanI n to m (scanK to n m)
  | 0, _ => scan_start
  | m + 1, h => by
    have := scan_step hto hc (scan_ok hto hc m (by omega)) (by omega) (by omega)
    rw [← scan_next (by omega) (by omega)] at this
    exact this
theorem rnd_ok (hto : ToOK n to) (hc : Clo n to) : (∀ l ∈ rndV to n, RingP to l ∧ ∀ x ∈ l, (0 ≤ x ∧ x < n) ∧ 0 ≤ ix 0 to x) ∧ (rndV to n).flatten.Nodup ∧ (rndV to n = [] → ∀ x : Int, 0 ≤ x → x < n → ix 0 to x < 0) := by
  have h := scan_ok hto hc n (Nat.le_refl n)
  rw [← scan_all (Int.le_refl _)]
  exact ⟨fun l hl => ⟨(h.ring l hl).1, fun x hx => ⟨((h.ring l hl).2 x hx).1, ((h.ring l hl).2 x hx).2.1⟩⟩, h.nd, fun he x x0 x1 => h.some he x x0 x1⟩
end
end Go.Proofs.YtlibemgaepkceaaGreatDoor

namespace Go.Proofs.YtlibemgaepkceaaGreatDoor
open Go.Wk
set_option linter.unusedVariables false
inductive HS where
  | w (p : Int)
  | g (r s : Int)
def HS.abs : HS → Option Int
  | .w _ => none
  | .g _ s => some s
abbrev hs0 : HS := .g 0 0
abbrev WW := List (List Int)
abbrev AA := List (Option Int)
def goneB (A : AA) (h : Int) : Bool := (ix (some 0) A h).isSome
def wishV (W : WW) (O : List Int) (A : AA) (h : Int) : Int := if goneB A h then -1 else ((ix [] W h).find? fun s => !goneB A (ix 0 O s)).getD (-1)
def toF (W : WW) (O : List Int) (A : AA) (h : Int) : Int := if 0 ≤ wishV W O A h then ix 0 O (wishV W O A h) else -1
def toV (W : WW) (O : List Int) (A : AA) (n : Nat) : List Int := (upR n).map (toF W O A)
structure WOK (n : Nat) (W : WW) (O : List Int) : Prop where
  l : W.length = n
  o : O.length = n
  wl : ∀ h : Int, 0 ≤ h → h < n → (ix [] W h).length = n
  wr : ∀ h : Int, 0 ≤ h → h < n → ∀ s ∈ ix [] W h, 0 ≤ s ∧ s < n
  wa : ∀ h : Int, 0 ≤ h → h < n → ∀ s : Int, 0 ≤ s → s < n → s ∈ ix [] W h
  or : ∀ s : Int, 0 ≤ s → s < n → 0 ≤ ix 0 O s ∧ ix 0 O s < n
  oa : ∀ h : Int, 0 ≤ h → h < n → ∃ s : Int, (0 ≤ s ∧ s < n) ∧ ix 0 O s = h
section
variable {n : Nat} {W : WW} {O : List Int} {A : AA}
theorem wish_there (hW : WOK n W O) {h : Int} (h0 : 0 ≤ h) (h1 : h < n) (hg : goneB A h = false) :
    wishV W O A h ∈ ix [] W h ∧ goneB A (ix 0 O (wishV W O A h)) = false ∧ 0 ≤ wishV W O A h ∧ wishV W O A h < n := by
  rw [wishV, hg, if_neg (by simp)]
  obtain ⟨s, ⟨s0, s1⟩, e⟩ := hW.oa h h0 h1
  cases hf : (ix [] W h).find? fun s => !goneB A (ix 0 O s) with
  | none =>
    have := List.find?_eq_none.1 hf s (hW.wa h h0 h1 s s0 s1)
    rw [e, hg] at this
    exact (this rfl).elim
  | some x =>
    have hx := List.mem_of_find?_eq_some hf
    have hp := List.find?_some hf
    rw [Bool.not_eq_true'] at hp
    exact ⟨hx, hp, hW.wr h h0 h1 x hx⟩
theorem wish_gone {h : Int} (hg : goneB A h = true) : wishV W O A h = -1 := by rw [wishV, if_pos hg]
theorem toV_ix {h : Int} (h0 : 0 ≤ h) (h1 : h < n) : ix 0 (toV W O A n) h = toF W O A h := by
  rw [ix, List.getD_eq_getElem?_getD, toV, List.getElem?_map, ix_get (d := (0 : Int)) (by rw [upR_len]; exact h1) h0, upR_ix h0 h1]; rfl
theorem toF_gone {h : Int} (hg : goneB A h = true) : toF W O A h = -1 := by rw [toF, wish_gone hg, if_neg (by omega)]
theorem toF_there (hW : WOK n W O) {h : Int} (h0 : 0 ≤ h) (h1 : h < n) (hg : goneB A h = false) : toF W O A h = ix 0 O (wishV W O A h) ∧ 0 ≤ toF W O A h ∧ toF W O A h < n ∧ goneB A (toF W O A h) = false := by
  obtain ⟨_, k2, k3, k4⟩ := wish_there hW h0 h1 hg
  have := hW.or _ k3 k4
  rw [toF, if_pos k3]
  exact ⟨rfl, this.1, this.2, k2⟩
theorem toF_iff (hW : WOK n W O) {h : Int} (h0 : 0 ≤ h) (h1 : h < n) : 0 ≤ toF W O A h ↔ goneB A h = false := by
  constructor
  · intro k
    cases hg : goneB A h with
    | false => rfl
    | true => rw [toF_gone hg] at k; omega
  · intro hg; exact (toF_there hW h0 h1 hg).2.1
theorem toV_ok (hW : WOK n W O) : ToOK n (toV W O A n) ∧ Clo n (toV W O A n) := by
  refine ⟨⟨by rw [toV, List.length_map, upR_len], fun x x0 x1 => ?_⟩, fun x x0 x1 h => ?_⟩
  · rw [toV_ix x0 x1]
    cases hg : goneB A x with
    | true => rw [toF_gone hg]; omega
    | false => have := toF_there hW x0 x1 hg; omega
  · rw [toV_ix x0 x1] at h ⊢
    have hg := (toF_iff hW x0 x1).1 h
    obtain ⟨_, k2, k3, k4⟩ := toF_there hW x0 x1 hg
    rw [toV_ix k2 k3]
    exact (toF_iff hW k2 k3).2 k4
def nextA (W : WW) (O : List Int) (n : Nat) (A : AA) (M : List Int) : AA := (upR n).map fun x => if x ∈ M then some (wishV W O A x) else ix (some 0) A x
theorem nextA_len {M : List Int} : (nextA W O n A M).length = n := by rw [nextA, List.length_map, upR_len]
theorem nextA_ix {M : List Int} {x : Int} (h0 : 0 ≤ x) (h1 : x < n) : ix (some 0) (nextA W O n A M) x = if x ∈ M then some (wishV W O A x) else ix (some 0) A x := by
  rw [ix, List.getD_eq_getElem?_getD, nextA, List.getElem?_map, ix_get (d := (0 : Int)) (by rw [upR_len]; exact h1) h0, upR_ix h0 h1]; rfl
inductive Runs (W : WW) (O : List Int) (n : Nat) : AA → List (List Int) → AA → List (List Int) → Prop where
  | done {A : AA} {R : List (List Int)} (h : rndV (toV W O A n) n = []) : Runs W O n A R A R
  | step {A A' : AA} {R R' : List (List Int)} (h : rndV (toV W O A n) n ≠ []) (k : Runs W O n (nextA W O n A (rndV (toV W O A n) n).flatten) (R ++ rndV (toV W O A n) n) A' R') : Runs W O n A R A' R'
theorem runs_one {A1 A2 : AA} {R R1 R2 : List (List Int)} (h : Runs W O n A R A1 R1) : Runs W O n A R A2 R2 → A1 = A2 ∧ R1 = R2 := by
  induction h with
  | done h => intro k; cases k with
    | done _ => exact ⟨rfl, rfl⟩
    | step h2 _ => exact (h2 h).elim
  | step h _ ih => intro k; cases k with
    | done h2 => exact (h h2).elim
    | step _ k => exact ih k
def ptsV (O : List Int) (n : Nat) (A : AA) : List Int := (upR n).map fun x => match ix (some 0) A x with
  | some s => ix 0 O s
  | none => -1
theorem pts_ix {x : Int} (h0 : 0 ≤ x) (h1 : x < n) : ix 0 (ptsV O n A) x = match ix (some 0) A x with
  | some s => ix 0 O s
  | none => -1 := by
  rw [ix, List.getD_eq_getElem?_getD, ptsV, List.getElem?_map, ix_get (d := (0 : Int)) (by rw [upR_len]; exact h1) h0, upR_ix h0 h1]; rfl
structure RunI (O : List Int) (n : Nat) (A : AA) (R : List (List Int)) : Prop where
  len : A.length = n
  mem : ∀ x, x ∈ R.flatten ↔ (0 ≤ x ∧ x < n) ∧ goneB A x = true
  nd : R.flatten.Nodup
  ring : ∀ l ∈ R, RingP (ptsV O n A) l
  rng : ∀ (x s : Int), 0 ≤ x → x < n → ix (some 0) A x = some s → 0 ≤ s ∧ s < n
theorem goneB_iff {x s : Int} (h : ix (some 0) A x = some s) : goneB A x = true := by rw [goneB, h]; rfl
theorem run_next (hW : WOK n W O) {R : List (List Int)} (h : RunI O n A R) : RunI O n (nextA W O n A (rndV (toV W O A n) n).flatten) (R ++ rndV (toV W O A n) n) := by
  obtain ⟨k1, k2⟩ := toV_ok hW (A := A)
  obtain ⟨r1, r2, _⟩ := rnd_ok k1 k2
  generalize hq : rndV (toV W O A n) n = Q at r1 r2 ⊢
  have hmem : ∀ x ∈ Q.flatten, (0 ≤ x ∧ x < n) ∧ goneB A x = false := fun x hx => by
    obtain ⟨l, hl, hxl⟩ := List.mem_flatten.1 hx
    obtain ⟨a, b⟩ := (r1 l hl).2 x hxl
    rw [toV_ix a.1 a.2] at b
    exact ⟨a, (toF_iff hW a.1 a.2).1 b⟩
  have hout : ∀ x, 0 ≤ x → x < (n : Int) → goneB A x = true → ix (some 0) (nextA W O n A Q.flatten) x = ix (some 0) A x := fun x x0 x1 hg => by
    rw [nextA_ix x0 x1, if_neg fun hx => by have := (hmem x hx).2; rw [hg] at this; cases this]
  have hin : ∀ x ∈ Q.flatten, ix (some 0) (nextA W O n A Q.flatten) x = some (wishV W O A x) := fun x hx => by
    rw [nextA_ix (hmem x hx).1.1 (hmem x hx).1.2, if_pos hx]
  refine ⟨nextA_len, fun x => ?_, ?_, fun l hl => ?_, fun x s x0 x1 e => ?_⟩
  · rw [List.flatten_append, List.mem_append, h.mem]
    constructor
    · rintro (⟨a, b⟩ | hx)
      · exact ⟨a, by rw [goneB, hout x a.1 a.2 b]; exact b⟩
      · exact ⟨(hmem x hx).1, goneB_iff (hin x hx)⟩
    · rintro ⟨a, b⟩
      by_cases hx : x ∈ Q.flatten
      · exact .inr hx
      · left
        rw [goneB, nextA_ix a.1 a.2, if_neg hx] at b
        exact ⟨a, b⟩
  · rw [List.flatten_append, List.nodup_append]
    refine ⟨h.nd, r2, fun x hx y hy e => ?_⟩
    subst e
    have := (hmem x hy).2
    rw [((h.mem x).1 hx).2] at this
    cases this
  · rcases List.mem_append.1 hl with hl | hl
    · refine ring_other (h.ring l hl) fun x hx => ?_
      obtain ⟨a, b⟩ := (h.mem x).1 (List.mem_flatten.2 ⟨l, hl, hx⟩)
      rw [pts_ix a.1 a.2, pts_ix a.1 a.2, hout x a.1 a.2 b]
    · refine ring_other (r1 l hl).1 fun x hx => ?_
      have hxf : x ∈ Q.flatten := List.mem_flatten.2 ⟨l, hl, hx⟩
      obtain ⟨a, b⟩ := hmem x hxf
      rw [pts_ix a.1 a.2, hin x hxf, toV_ix a.1 a.2]
      exact (toF_there hW a.1 a.2 b).1.symm
  · rw [nextA_ix x0 x1] at e
    by_cases hx : x ∈ Q.flatten
    · rw [if_pos hx] at e
      obtain rfl := Option.some.inj e
      exact (wish_there hW x0 x1 (hmem x hx).2).2.2
    · rw [if_neg hx] at e
      exact h.rng x s x0 x1 e
theorem runs_ok (hW : WOK n W O) {A' : AA} {R R' : List (List Int)} (h : Runs W O n A R A' R') : RunI O n A R → RunI O n A' R' ∧ ∀ x : Int, 0 ≤ x → x < n → goneB A' x = true := by
  induction h with
  | @done A R h =>
    intro hI
    obtain ⟨k1, k2⟩ := toV_ok hW (A := A)
    refine ⟨hI, fun x x0 x1 => ?_⟩
    have := (rnd_ok k1 k2).2.2 h x x0 x1
    rw [toV_ix x0 x1] at this
    cases hg : goneB A x with
    | true => rfl
    | false => have := (toF_iff hW x0 x1).2 hg; omega
  | step _ _ ih => intro hI; exact ih (run_next hW hI)
def none0 (n : Nat) : AA := List.replicate n none
theorem none0_ix {x : Int} (h0 : 0 ≤ x) (h1 : x < n) : ix (some 0) (none0 n) x = none := by
  rw [ix, List.getD_eq_getElem?_getD, none0, List.getElem?_replicate, if_pos (by omega)]; rfl
theorem run_start : RunI O n (none0 n) [] :=
  ⟨List.length_replicate, fun x => ⟨fun h => (nomatch h), fun ⟨a, b⟩ => by rw [goneB, none0_ix a.1 a.2] at b; cases b⟩, List.nodup_nil, fun l hl => (nomatch hl), fun x s x0 x1 e => by rw [none0_ix x0 x1] at e; cases e⟩
def cntA (A : AA) : Nat := A.countP Option.isNone
theorem next_cnt (hW : WOK n W O) (hl : A.length = n) (h : rndV (toV W O A n) n ≠ []) : cntA (nextA W O n A (rndV (toV W O A n) n).flatten) < cntA A := by
  obtain ⟨k1, k2⟩ := toV_ok hW (A := A)
  obtain ⟨r1, _, _⟩ := rnd_ok k1 k2
  generalize rndV (toV W O A n) n = Q at r1 h
  obtain ⟨l, hl'⟩ := List.exists_mem_of_ne_nil _ h
  obtain ⟨m, q, e, _⟩ := (r1 l hl').1
  obtain ⟨a, b⟩ := (r1 l hl').2 m (by rw [e]; exact List.mem_cons_self)
  rw [toV_ix a.1 a.2] at b
  have hg := (toF_iff hW a.1 a.2).1 b
  have hm : m ∈ Q.flatten := List.mem_flatten.2 ⟨l, hl', by rw [e]; exact List.mem_cons_self⟩
  have hA : A = (upR n).map fun x => ix (some 0) A x := by
    refine List.ext_getElem (by rw [List.length_map, upR_len, hl]) fun i h1 h2 => ?_
    rw [List.getElem_map]
    have : (upR n)[i]'(by rw [upR_len]; omega) = (i : Int) := by simp [upR]
    rw [this, ix, List.getD_eq_getElem?_getD, show ((i : Int)).toNat = i by omega, List.getElem?_eq_getElem h1]; rfl
  have key : ∀ (f g : Int → Option Int) (L : List Int), (∀ x ∈ L, (f x).isNone = true → (g x).isNone = true) → (∃ x ∈ L, (f x).isNone = false ∧ (g x).isNone = true) → (L.map f).countP Option.isNone < (L.map g).countP Option.isNone := by
    intro f g L h1 hx
    have hle : ∀ (K : List Int), (∀ x ∈ K, (f x).isNone = true → (g x).isNone = true) → (K.map f).countP Option.isNone ≤ (K.map g).countP Option.isNone := fun K hK => by
      rw [List.countP_map, List.countP_map]
      exact List.countP_mono_left fun x hx => hK x hx
    obtain ⟨x, hx, hf, hgx⟩ := hx
    obtain ⟨p, q, rfl⟩ := List.append_of_mem hx
    have h2 := hle p fun y hy => h1 y (List.mem_append.2 (.inl hy))
    have h3 := hle q fun y hy => h1 y (List.mem_append.2 (.inr (List.mem_cons_of_mem _ hy)))
    rw [List.map_append, List.map_append, List.countP_append, List.countP_append, List.map_cons, List.map_cons, List.countP_cons, List.countP_cons, if_neg (by rw [hf]; simp), if_pos hgx]
    omega
  rw [cntA, cntA]
  conv => rhs; rw [hA]
  refine key _ _ _ (fun x hx hn => ?_) ⟨m, upR_mem.2 a, by rw [if_pos hm]; rfl, ?_⟩
  · by_cases hxm : x ∈ Q.flatten
    · rw [if_pos hxm] at hn; cases hn
    · rw [if_neg hxm] at hn; exact hn
  · rw [goneB] at hg
    cases hi : ix (some 0) A m with
    | none => rfl
    | some s => rw [hi] at hg; cases hg
end
end Go.Proofs.YtlibemgaepkceaaGreatDoor

namespace Go.Wk
open Go.RowKit
def tE {α : Type} (enc : α → Value) (ok : α → Prop) (h1 : ∀ x, (enc x).oneCell' = true) : Ty α where
  n := 1
  agg := false
  rep := fun _ _ x cs => cs = [enc x] ∧ ok x
  len := by rintro _ _ _ _ ⟨rfl, _⟩; rfl
  one := by rintro _ _ _ _ ⟨rfl, _⟩ u hu; simp at hu; subst hu; exact h1 _
  mv := fun _ h => h
  flat := fun _ => rfl
theorem V.enc {α : Type} {enc : α → Value} {ok : α → Prop} {h1 : ∀ x, (enc x).oneCell' = true} {x : α} {v : Value} {O : List (Option Nat)} {w : World} (h : V (tE enc ok h1) x v O w) : v = enc x ∧ ok x := by
  obtain ⟨cs, rfl, rfl, h⟩ := h
  exact ⟨rfl, h⟩
theorem V.mkEnc {α : Type} {enc : α → Value} {ok : α → Prop} {h1 : ∀ x, (enc x).oneCell' = true} {x : α} {v : Value} {O : List (Option Nat)} {w : World} (hv : v = enc x) (h : ok x) : V (tE enc ok h1) x v O w :=
  ⟨[enc x], hv, rfl, h⟩
section
variable {P : Program} {σ : Fr} {w : World} {ty T xT : TypeId} {x : Operand} {v z u : Value}
theorem rd_assertA (hx : ev σ x = v) (hr : ∀ w', (Instr.typeAssert v xT T true).run P w' = .ok u w') : Rd P σ (.typeAssert x xT T true) ty w u :=
  Rd.of fun w' => by simp [xop, execOp, hx, hr]
end
end Go.Wk

namespace Go.Proofs.YtlibemgaepkceaaGreatDoor
open Go.Wk Go.RowKit
set_option linter.unusedVariables false
def hsV : HS → Value
  | .w p => .iface 73 (.agg #[.int .i64 p])
  | .g r s => .iface 48 (.agg #[.int .i64 r, .int .i64 s])
def hsK : HS → Prop
  | .w p => InK .i64 p
  | .g r s => InK .i64 r ∧ InK .i64 s
theorem hsV_one (x : HS) : (hsV x).oneCell' = true := by cases x <;> rfl
def tHS : Ty HS := tE hsV hsK hsV_one
def isWB : HS → Bool
  | .w _ => true
  | .g _ _ => false
def isGB : HS → Bool
  | .w _ => false
  | .g _ _ => true
def hsP : HS → Int
  | .w p => p
  | .g _ _ => 0
def gR : HS → Int
  | .w _ => 0
  | .g r _ => r
def gT : HS → Int
  | .w _ => 0
  | .g _ s => s
theorem hsP_in {x : HS} (h : hsK x) : InK .i64 (hsP x) := by cases x with
  | w p => exact h
  | g r s => exact (show InK .i64 0 from ⟨by decide, by decide⟩)
theorem gT_in {x : HS} (h : hsK x) : InK .i64 (gT x) := by cases x with
  | w p => exact (show InK .i64 0 from ⟨by decide, by decide⟩)
  | g r s => exact h.2
theorem gR_in {x : HS} (h : hsK x) : InK .i64 (gR x) := by cases x with
  | w p => exact (show InK .i64 0 from ⟨by decide, by decide⟩)
  | g r s => exact h.1
theorem assertW (x : HS) (w' : World) : (Instr.typeAssert (hsV x) 71 73 true).run Tryz.prog w' = .ok (.tuple #[.agg #[.int .i64 (hsP x)], .bool (isWB x)]) w' := by
  cases x with
  | w p => simp [hsV, Instr.typeAssert, run_underlying Tryz.underlying73, hsP, isWB]
  | g r s => simp [hsV, Instr.typeAssert, run_underlying Tryz.underlying73, hsP, isWB, Tryz.zeroValue73]
theorem assertG (x : HS) (w' : World) : (Instr.typeAssert (hsV x) 71 48 true).run Tryz.prog w' = .ok (.tuple #[.agg #[.int .i64 (gR x), .int .i64 (gT x)], .bool (isGB x)]) w' := by
  cases x with
  | w p => simp [hsV, Instr.typeAssert, run_underlying Tryz.underlying48, gR, gT, isGB, Tryz.zeroValue48]
  | g r s => simp [hsV, Instr.typeAssert, run_underlying Tryz.underlying48, gR, gT, isGB]
def absL (S : List HS) : AA := S.map HS.abs
section
variable {n : Nat} {W : WW} {Ow : List Int} {S : List HS}
theorem absL_len : (absL S).length = S.length := by rw [absL, List.length_map]
theorem absL_ix (x : Int) : ix (some 0) (absL S) x = (ix hs0 S x).abs := by
  rw [ix, ix, List.getD_eq_getElem?_getD, List.getD_eq_getElem?_getD, absL, List.getElem?_map]
  cases S[x.toNat]? <;> rfl
theorem gone_isW (x : Int) : goneB (absL S) x = !isWB (ix hs0 S x) := by
  rw [goneB, absL_ix]
  cases ix hs0 S x <;> rfl
theorem isG_isW (x : HS) : isGB x = !isWB x := by cases x <;> rfl
def SInv (n : Nat) (W : WW) (Ow : List Int) (S : List HS) : Prop :=
  S.length = n ∧ ∀ x : Int, 0 ≤ x → x < n → isWB (ix hs0 S x) = true → 0 ≤ hsP (ix hs0 S x) ∧ ∀ j : Int, 0 ≤ j → j < hsP (ix hs0 S x) → goneB (absL S) (ix 0 Ow (ix 0 (ix [] W x) j)) = true
theorem sinv_start {W : WW} {Ow : List Int} : SInv n W Ow (List.replicate n (.w 0)) := by
  refine ⟨List.length_replicate, fun x x0 x1 h => ?_⟩
  rw [ix_repR x0 x1]
  exact ⟨Int.le_refl _, fun j h0 h1 => by simp only [hsP] at h1; omega⟩
theorem wish_lt (hW : WOK n W Ow) (hI : SInv n W Ow S) {x : Int} (x0 : 0 ≤ x) (x1 : x < n) (h : isWB (ix hs0 S x) = true) : 0 ≤ hsP (ix hs0 S x) ∧ hsP (ix hs0 S x) < n := by
  obtain ⟨h1, h2⟩ := hI.2 x x0 x1 h
  refine ⟨h1, Classical.byContradiction fun hn => ?_⟩
  obtain ⟨s, ⟨s0, s1⟩, e⟩ := hW.oa x x0 x1
  obtain ⟨j, j0, j1, ej⟩ := ix_of_mem (hW.wa x x0 x1 s s0 s1)
  rw [hW.wl x x0 x1] at j1
  have := h2 j j0 (by omega)
  rw [ej, e, gone_isW, h] at this
  cases this
theorem wish_at (hW : WOK n W Ow) (hI : SInv n W Ow S) {x : Int} (x0 : 0 ≤ x) (x1 : x < n) (h : isWB (ix hs0 S x) = true) :
    (0 ≤ ix 0 (ix [] W x) (hsP (ix hs0 S x)) ∧ ix 0 (ix [] W x) (hsP (ix hs0 S x)) < n) ∧ 0 ≤ ix 0 Ow (ix 0 (ix [] W x) (hsP (ix hs0 S x))) ∧ ix 0 Ow (ix 0 (ix [] W x) (hsP (ix hs0 S x))) < n := by
  obtain ⟨h1, h2⟩ := wish_lt hW hI x0 x1 h
  have := hW.wr x x0 x1 _ (ix_memR (d := (0 : Int)) h1 (by rw [hW.wl x x0 x1]; exact h2))
  exact ⟨this, hW.or _ this.1 this.2⟩
theorem find_ix {p : Int → Bool} : ∀ {l : List Int} {k : Int}, 0 ≤ k → k < l.length → p (ix 0 l k) = true → (∀ j : Int, 0 ≤ j → j < k → p (ix 0 l j) = false) → l.find? p = some (ix 0 l k)
  | [], k, h0, h1, _, _ => by simp at h1; omega
  | a :: l, k, h0, h1, hp, hj => by
    by_cases hk : k = 0
    · subst hk; rw [List.find?_cons, show p a = true from hp]; rfl
    · have e : ∀ j : Int, 0 ≤ j → ix 0 (a :: l) (j + 1) = ix 0 l j := fun j j0 => by
        rw [ix, ix, List.getD_eq_getElem?_getD, List.getD_eq_getElem?_getD, show (j + 1).toNat = j.toNat + 1 by omega, List.getElem?_cons_succ]
      have ek : ix 0 (a :: l) k = ix 0 l (k - 1) := by have := e (k - 1) (by omega); rwa [show k - 1 + 1 = k by omega] at this
      rw [List.find?_cons, show p a = false from hj 0 (Int.le_refl _) (by omega), ek]
      exact find_ix (by omega) (by simp at h1; omega) (by rw [← ek]; exact hp) fun j j0 j1 => by rw [← e j j0]; exact hj (j + 1) (by omega) (by omega)
theorem wish_hit (hW : WOK n W Ow) (hI : SInv n W Ow S) {x : Int} (x0 : 0 ≤ x) (x1 : x < n) (h : isWB (ix hs0 S x) = true)
    (ht : isWB (ix hs0 S (ix 0 Ow (ix 0 (ix [] W x) (hsP (ix hs0 S x))))) = true) : wishV W Ow (absL S) x = ix 0 (ix [] W x) (hsP (ix hs0 S x)) := by
  obtain ⟨h1, h2⟩ := wish_lt hW hI x0 x1 h
  rw [wishV, gone_isW, h, if_neg (by simp), find_ix (k := hsP (ix hs0 S x)) h1 (by rw [hW.wl x x0 x1]; exact h2) (by rw [gone_isW, ht]; rfl) fun j j0 j1 => by rw [(hI.2 x x0 x1 h).2 j j0 j1]; rfl]
  rfl
theorem wish_none {x : Int} (h : isWB (ix hs0 S x) = false) : wishV W Ow (absL S) x = -1 := wish_gone (by rw [gone_isW, h]; rfl)
theorem set_abs {x : Int} {y : HS} (x0 : 0 ≤ x) (x1 : x < S.length) (h : (ix hs0 S x).abs = y.abs) : absL (S.set x.toNat y) = absL S := by
  rw [absL, absL, List.map_set, ← h]
  refine List.ext_getElem? fun i => ?_
  rw [List.getElem?_set]
  split
  · rename_i e
    subst e
    rw [List.length_map, if_pos (by omega), List.getElem?_map, ix_get (d := hs0) x1 x0]; rfl
  · rfl
theorem wish_step (hW : WOK n W Ow) (hI : SInv n W Ow S) {x : Int} (x0 : 0 ≤ x) (x1 : x < n) (h : isWB (ix hs0 S x) = true)
    (ht : isWB (ix hs0 S (ix 0 Ow (ix 0 (ix [] W x) (hsP (ix hs0 S x))))) = false) :
    absL (S.set x.toNat (.w (hsP (ix hs0 S x) + 1))) = absL S ∧ SInv n W Ow (S.set x.toNat (.w (hsP (ix hs0 S x) + 1))) := by
  have hx : x < S.length := by rw [hI.1]; exact x1
  have ha : absL (S.set x.toNat (.w (hsP (ix hs0 S x) + 1))) = absL S := set_abs x0 hx (by revert h; cases ix hs0 S x <;> intro h <;> first | rfl | cases h)
  refine ⟨ha, by rw [List.length_set]; exact hI.1, fun y y0 y1 hy => ?_⟩
  rw [ha]
  rw [ix_setR x0 hx y0] at hy ⊢
  by_cases hyx : y = x
  · subst hyx
    rw [if_pos rfl]
    obtain ⟨k1, k2⟩ := hI.2 y y0 y1 h
    refine ⟨by show 0 ≤ hsP (ix hs0 S y) + 1; omega, fun j j0 j1 => ?_⟩
    have j1 : j < hsP (ix hs0 S y) + 1 := j1
    by_cases hj : j < hsP (ix hs0 S y)
    · exact k2 j j0 hj
    · rw [show j = hsP (ix hs0 S y) by omega, gone_isW, ht]; rfl
  · rw [if_neg hyx] at hy ⊢
    exact hI.2 y y0 y1 hy
end
end Go.Proofs.YtlibemgaepkceaaGreatDoor
