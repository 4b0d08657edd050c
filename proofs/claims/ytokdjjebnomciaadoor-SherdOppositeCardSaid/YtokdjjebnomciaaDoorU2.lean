/-
  WHAT IS PROVED HERE, TEXT BY TEXT (several texts of one prover, joined to one file; the conditions stand in each statement):
  * WHAT IS PROVED HERE: plain laws of plans: a list of joins is among all plans just if its joins fit, ascend, and do not cross; the plans stand in one order. No program in sight. Conditions stand in each statement.
  * WHAT IS SAID HERE: plain functions: the reference's plans of a rim. No program in sight.
  * WHAT IS PROVED HERE: plain laws of plans: the reference's plans are the plans with so many joins, or more, in the one order. No program in sight. Conditions stand in each statement.
  * WHAT IS PROVED HERE: strings that are gone through, rune by rune. Conditions stand in each statement; they hold over any program.
  * WHAT IS SAID HERE: plain functions: letters, rims, and whether joins are a plan of a rim, as the program and as the reference ask it. No program in sight.
  * WHAT IS SAID HERE, WITH PLAIN LAWS: lists by their places; whether joins are a plan of a rim, as the program and as the reference ask it. No program in sight.
  * WHAT IS PROVED HERE: plain laws of the table of partners: with which edge each edge is joined. No program in sight. Conditions stand in each statement.
  * WHAT IS PROVED HERE: a variable that holds a string and a table of pairs, 13 times 13: what is read from it, what it holds after a pair is written. Conditions stand in each statement; they hold over any program.
  * WHAT IS PROVED HERE: plain laws of the table of parts: how its numbers are found one after the other, and how great they are. No program in sight. Conditions stand in each statement.
  * WHAT IS SAID HERE: what the program answers of a rim: how many joins, how many plans, the first plan, the joins of all. No program in sight.
  * WHAT IS PROVED HERE: plain laws of the reference's plans: what they are made of, how many there are at most, which are the greatest. No program in sight. Conditions stand in each statement.
  * WHAT IS SAID HERE, WITH PLAIN LAWS: the joins of all greatest plans, as the reference seeks them. No program in sight.
  * WHAT IS SAID HERE, WITH PLAIN LAWS: what is taken away from a rim and what is left, as the program seeks it (from the left to the right) and as the reference does (the first two neighbours that fit, again and again). No program in sight.
  * DERIVED: THE SHELF's CONTRACTS AT THIS DUMP, IN PLAIN WORDS (tools/lay-plain.mjs out of 'TrydShelf.lean', which tools/lay-shelf.mjs wrote): THE SAME DECLARATIONS UNDER THE SAME NAMES: 'import', 'namespace', 'open', 'def', 'theorem' AND NOTHING ELSE: no command of the shelf's: FOR A HAND-IN. Each laying: the table of numbers ('.._ren') and one theorem, a field a fact of the dump's own or the kernel's comparison; each contract: ONE APPLICATION.
  * WHAT IS PROVED HERE: what the library's functions hand back, out of the shelf's contracts, where its tables read as the program's text lays them. Conditions stand in each statement.
  * WHAT IS PROVED HERE: what functions of layer 5 hand back, each out of its own code; the conditions stand in each statement.
  * WHAT IS PROVED HERE: strings.ContainsRune over a string of letters alone: a letter is found just if it stands there; no other rune is. Conditions stand in the statement.
  * WHAT IS PROVED HERE: strings.Builder of the call's own, written byte by byte, beside a list of numbers of the call's own; strings made of a rim's bytes. Conditions stand in each statement. From the shelf's contracts.
  * WHAT IS SAID HERE, WITH PLAIN LAWS: the answers on steps, rests, cores, rims that are turned. No program in sight.
  * WHAT IS PROVED HERE: a string's runes as a slice of the call's own, and a string made of a slice of runes. Conditions stand in each statement; they hold over any program.
  * WHAT IS PROVED HERE: letters changed one by one, runes of a string of letters, by the library's contracts. Conditions stand in each statement.
  * WHAT IS SAID HERE, WITH PLAIN LAWS: lists turned round in their own place; rims alike. No program in sight.
  * WHAT IS SAID HERE, WITH PLAIN LAWS: the joins of all greatest plans, as the program seeks them; a list from which some elements are deleted in its own place. No program in sight.
  * WHAT IS PROVED HERE: plain laws of plans whose edges get other numbers: as many plans of each length, if the numbers go back. No program in sight. Conditions stand in each statement.
  * WHAT IS PROVED HERE: plain laws of plans of a rim that is turned, written backwards, or has an edge more. No program in sight. Conditions stand in each statement.
  * WHAT IS PROVED HERE: as many plans have a join as what is inside of it, and what is outside, have together. No program in sight. Conditions stand in each statement.
-/
import Derived.Test.YtokdjjebnomciaaDoorU1
import Derived.Lib.OthersKept
import Derived.Scope
import Derived.Shelf.Strings.Builder1
import Derived.Shelf.Strings.Builder2
import Derived.Shelf.Strings.OnBuilder
import Derived.Shelf.Small.Utf8
import Derived.Shelf.Small.Bits
import Derived.Shelf.Small.Strs
import Derived.Shelf.Strings.BuilderF
import Derived.Shelf.Strings.BuilderK
import Derived.Shelf.Strings.BuilderRune
import Derived.Shelf.Utf8.AppendRune
import Derived.Shelf.Utf8.AppendRunePlain
import Derived.Shelf.Strings.Builder2Cap
import Derived.Shelf.Strconv.Itoa0
import Derived.Shelf.Strings.Search1
import Derived.Shelf.Strings.Search2
import Derived.Shelf.Strings.Search3
import Derived.Shelf.LaysM
import Derived.Shelf.Strings.Shaped
import Derived.Shelf.Unicode.Latin
import Derived.Shelf.Unicode.Props
import Derived.Shelf.Unicode.PropsLaid
import Derived.Shelf.Unicode.Decode
import Derived.Shelf.Strings.Runes
import Derived.Shelf.Unicode.DecodeSlow
import Derived.Shelf.Unicode.DecodeAny
import Derived.Shelf.Unicode.Is16White
import Derived.Shelf.Unicode.IsSpaceAny
import Derived.Shelf.Unicode.CaseLookup
import Derived.Shelf.Unicode.CaseConvert
import Derived.Shelf.Unicode.CaseTo
import Derived.Shelf.Unicode.CaseLaid
import Derived.Shelf.Strings.MapAny
import Derived.Shelf.Strings.CaseAny
import Derived.Shelf.Unicode.Is16Any
import Derived.Shelf.Unicode.Is32Any
import Derived.Shelf.Unicode.ExclAny
import Derived.Shelf.Unicode.PredsAny
import Derived.Shelf.Unicode.PredsPay
import Derived.Shelf.Strings.BuilderCap
import Derived.Shelf.Strings.MapGrows
import Derived.Ground.Names2Prog
import Derived.Shelf.Slices.SearchI
import Derived.Ground.SlgnProg
import Derived.Shelf.SlicesE.Clone
import Derived.Test.YtokdjjebnomciaaDoorProg
import Derived.Laws.Cover4
import Derived.Laws.IdiomStrings

set_option linter.unusedVariables false
set_option linter.unusedSimpArgs false

namespace Go.Proofs.YtokdjjebnomciaaDoor
open Go.Wk

variable {F : Int → Int → Bool}

/-- The second join begins behind the first one's beginning, and lies behind it or within it. -/
def apartJ (x y : Join) : Prop := x.1 < y.1 ∧ (x.2 < y.1 ∨ y.2 < x.2)
def Plan (F : Int → Int → Bool) (lo hi : Int) (p : List Join) : Prop := (∀ x ∈ p, lo ≤ x.1 ∧ x.1 < x.2 ∧ x.2 < hi ∧ F x.1 x.2 = true) ∧ p.Pairwise apartJ
theorem Plan.nil {lo hi : Int} : Plan F lo hi [] := ⟨by simp, List.Pairwise.nil⟩
theorem Plan.wide {lo hi lo' hi' : Int} {p : List Join} (h : Plan F lo hi p) (h1 : lo' ≤ lo) (h2 : hi ≤ hi') : Plan F lo' hi' p :=
  ⟨fun x hx => by obtain ⟨a, b, c, d⟩ := h.1 x hx; exact ⟨by omega, b, by omega, d⟩, h.2⟩
theorem plan_cons {i j n : Int} {p q : List Join} (hij : i < j) (hj : j < n) (hF : F i j = true) (hp : Plan F (i + 1) j p) (hq : Plan F (j + 1) n q) : Plan F i n ((i, j) :: (p ++ q)) := by
  refine ⟨fun x hx => ?_, List.Pairwise.cons (fun x hx => ?_) (List.pairwise_append.2 ⟨hp.2, hq.2, fun x hx y hy => ?_⟩)⟩
  · rcases List.mem_cons.1 hx with rfl | hx
    · exact ⟨Int.le_refl _, hij, hj, hF⟩
    · rcases List.mem_append.1 hx with hx | hx
      · obtain ⟨a, b, c, d⟩ := hp.1 x hx; exact ⟨by omega, b, by omega, d⟩
      · obtain ⟨a, b, c, d⟩ := hq.1 x hx; exact ⟨by omega, b, c, d⟩
  · rcases List.mem_append.1 hx with hx | hx
    · obtain ⟨a, b, c, d⟩ := hp.1 x hx; exact ⟨by show i < x.1; omega, .inr c⟩
    · obtain ⟨a, b, c, d⟩ := hq.1 x hx; exact ⟨by show i < x.1; omega, .inl (by show j < x.1; omega)⟩
  · obtain ⟨a, b, c, d⟩ := hp.1 x hx
    obtain ⟨a', b', c', d'⟩ := hq.1 y hy
    exact ⟨by omega, .inl (by omega)⟩
theorem plans_plan (F : Int → Int → Bool) : ∀ (m : Nat) (i n : Int), (n - i).toNat ≤ m → ∀ p ∈ plansP F i n, Plan F i n p
  | 0, i, n, h, p, hp => by
    rw [plansP_nil (by omega)] at hp
    simp only [List.mem_singleton] at hp
    subst hp; exact Plan.nil
  | m + 1, i, n, h, p, hp => by
    by_cases hn : n ≤ i
    · rw [plansP_nil hn] at hp
      simp only [List.mem_singleton] at hp
      subst hp; exact Plan.nil
    · rw [plansP_eq (by omega)] at hp
      rcases List.mem_append.1 hp with hp | hp
      · obtain ⟨j, hj, hpj⟩ := List.mem_flatMap.1 hp
        rw [rng_mem] at hj
        by_cases hg : F i j = true
        · rw [if_pos hg] at hpj
          obtain ⟨a, ha, hpj⟩ := List.mem_flatMap.1 hpj
          obtain ⟨b, hb, rfl⟩ := List.mem_map.1 hpj
          exact plan_cons (by omega) (by omega) hg (plans_plan F m (i + 1) j (by omega) a ha) (plans_plan F m (j + 1) n (by omega) b hb)
        · rw [if_neg hg] at hpj; simp at hpj
      · exact (plans_plan F m (i + 1) n (by omega) p hp).wide (by omega) (Int.le_refl _)
/-- The joins of a plan behind its first one: those within it, then those behind it. -/
theorem plan_split {i j n : Int} : ∀ {r : List Join}, Plan F (i + 1) n r → (∀ x ∈ r, apartJ (i, j) x) → ∃ p q, r = p ++ q ∧ Plan F (i + 1) j p ∧ Plan F (j + 1) n q
  | [], _, _ => ⟨[], [], rfl, Plan.nil, Plan.nil⟩
  | x :: r, h, ha => by
    have hx := ha x (List.mem_cons_self ..)
    obtain ⟨a, b, c, d⟩ := h.1 x (List.mem_cons_self ..)
    have hp := List.pairwise_cons.1 h.2
    have hr : Plan F (i + 1) n r := ⟨fun y hy => h.1 y (List.mem_cons_of_mem _ hy), hp.2⟩
    by_cases hc : x.2 < j
    · obtain ⟨p, q, rfl, h1, h2⟩ := plan_split hr fun y hy => ha y (List.mem_cons_of_mem _ hy)
      refine ⟨x :: p, q, rfl, ⟨fun y hy => ?_, List.Pairwise.cons (fun y hy => hp.1 y (List.mem_append.2 (.inl hy))) h1.2⟩, h2⟩
      rcases List.mem_cons.1 hy with rfl | hy
      · exact ⟨a, b, hc, d⟩
      · exact h1.1 y hy
    · have hj : j < x.1 := by
        rcases hx.2 with h | h
        · exact h
        · exact absurd h hc
      refine ⟨[], x :: r, rfl, Plan.nil, ⟨fun y hy => ?_, h.2⟩⟩
      rcases List.mem_cons.1 hy with rfl | hy
      · exact ⟨by omega, b, c, d⟩
      · obtain ⟨a', b', c', d'⟩ := h.1 y (List.mem_cons_of_mem _ hy)
        have := (hp.1 y hy).1
        exact ⟨by omega, b', c', d'⟩
theorem plan_plans (F : Int → Int → Bool) : ∀ (m : Nat) (i n : Int), (n - i).toNat ≤ m → ∀ p, Plan F i n p → p ∈ plansP F i n
  | 0, i, n, h, p, hp => by
    rw [plansP_nil (by omega)]
    cases p with
    | nil => simp
    | cons x p =>
      obtain ⟨a, b, c, d⟩ := hp.1 x (List.mem_cons_self ..)
      omega
  | m + 1, i, n, h, p, hp => by
    by_cases hn : n ≤ i
    · rw [plansP_nil hn]
      cases p with
      | nil => simp
      | cons x p =>
        obtain ⟨a, b, c, d⟩ := hp.1 x (List.mem_cons_self ..)
        omega
    · rw [plansP_eq (by omega), List.mem_append]
      cases p with
      | nil => exact .inr (plan_plans F m (i + 1) n (by omega) [] Plan.nil)
      | cons x p =>
        obtain ⟨a, b, c, d⟩ := hp.1 x (List.mem_cons_self ..)
        have hpc := List.pairwise_cons.1 hp.2
        by_cases hx : x.1 = i
        · left
          have hr : Plan F (i + 1) n p := ⟨fun y hy => by
            obtain ⟨a', b', c', d'⟩ := hp.1 y (List.mem_cons_of_mem _ hy)
            have := (hpc.1 y hy).1
            exact ⟨by omega, b', c', d'⟩, hpc.2⟩
          obtain ⟨x1, x2⟩ := x
          simp only at hx a b c d
          subst hx
          obtain ⟨u, v, rfl, h1, h2⟩ := plan_split hr hpc.1
          refine List.mem_flatMap.2 ⟨x2, rng_mem.2 (by omega), ?_⟩
          rw [if_pos d]
          exact List.mem_flatMap.2 ⟨u, plan_plans F m (x1 + 1) x2 (by omega) u h1, List.mem_map.2 ⟨v, plan_plans F m (x2 + 1) n (by omega) v h2, rfl⟩⟩
        · right
          refine plan_plans F m (i + 1) n (by omega) (x :: p) ⟨fun y hy => ?_, hp.2⟩
          obtain ⟨a', b', c', d'⟩ := hp.1 y hy
          rcases List.mem_cons.1 hy with rfl | hy
          · exact ⟨by omega, b', c', d'⟩
          · have := (hpc.1 y hy).1
            exact ⟨by omega, b', c', d'⟩
theorem mem_plans {i n : Int} {p : List Join} : p ∈ plansP F i n ↔ Plan F i n p := ⟨plans_plan F _ i n (Nat.le_refl _) p, plan_plans F _ i n (Nat.le_refl _) p⟩
theorem plan_two (F : Int → Int → Bool) : ∀ (m : Nat) (i n : Int), (n - i).toNat ≤ m → i ≤ n → ∀ p ∈ plansP F i n, 2 * (p.length : Int) ≤ n - i
  | 0, i, n, h, hi, p, hp => by
    rw [plansP_nil (by omega)] at hp
    simp only [List.mem_singleton] at hp
    subst hp; simp; omega
  | m + 1, i, n, h, hi, p, hp => by
    by_cases hn : n ≤ i
    · rw [plansP_nil hn] at hp
      simp only [List.mem_singleton] at hp
      subst hp; simp; omega
    · rw [plansP_eq (by omega)] at hp
      rcases List.mem_append.1 hp with hp | hp
      · obtain ⟨j, hj, hpj⟩ := List.mem_flatMap.1 hp
        rw [rng_mem] at hj
        by_cases hg : F i j = true
        · rw [if_pos hg] at hpj
          obtain ⟨a, ha, hpj⟩ := List.mem_flatMap.1 hpj
          obtain ⟨b, hb, rfl⟩ := List.mem_map.1 hpj
          have h1 := plan_two F m (i + 1) j (by omega) (by omega) a ha
          have h2 := plan_two F m (j + 1) n (by omega) (by omega) b hb
          simp only [List.length_cons, List.length_append]
          omega
        · rw [if_neg hg] at hpj; simp at hpj
      · have := plan_two F m (i + 1) n (by omega) (by omega) p hp
        omega
theorem plan_len {i n : Int} (hi : i ≤ n) {p : List Join} (h : Plan F i n p) : 2 * (p.length : Int) ≤ n - i := plan_two F _ i n (Nat.le_refl _) hi p (mem_plans.2 h)

/-! ### the order of plans -/
def ltJ (x y : Join) : Prop := x.1 < y.1 ∨ (x.1 = y.1 ∧ x.2 < y.2)
/-- Ascending; what goes on stands ahead of what ends. -/
def ltP : List Join → List Join → Prop
  | [], _ => False
  | _ :: _, [] => True
  | x :: p, y :: q => ltJ x y ∨ (x = y ∧ ltP p q)
theorem ltJ.ne {x y : Join} (h : ltJ x y) : x ≠ y := by
  rintro rfl
  rcases h with h | h <;> omega
theorem ltJ.asymm {x y : Join} (h : ltJ x y) (k : ltJ y x) : False := by
  rcases h with h | h <;> rcases k with k | k <;> omega
theorem ltP.asymm : ∀ {p q : List Join}, ltP p q → ltP q p → False
  | [], _, h, _ => h
  | _ :: _, [], _, k => k
  | x :: p, y :: q, h, k => by
    rcases h with h | ⟨rfl, h⟩
    · rcases k with k | ⟨rfl, k⟩
      · exact h.asymm k
      · exact h.ne rfl
    · rcases k with k | ⟨_, k⟩
      · exact k.ne rfl
      · exact ltP.asymm h k
theorem ltP.ne {p q : List Join} (h : ltP p q) : p ≠ q := by rintro rfl; exact ltP.asymm h h
/-- Lists of one order, with the same members, are the same. -/
theorem sorted_ext : ∀ {ps qs : List (List Join)}, ps.Pairwise ltP → qs.Pairwise ltP → (∀ p, p ∈ ps ↔ p ∈ qs) → ps = qs
  | [], [], _, _, _ => rfl
  | [], q :: qs, _, _, h => by have := (h q).2 (List.mem_cons_self ..); simp at this
  | p :: ps, [], _, _, h => by have := (h p).1 (List.mem_cons_self ..); simp at this
  | p :: ps, q :: qs, hp, hq, h => by
    rw [List.pairwise_cons] at hp hq
    have e : p = q := by
      rcases List.mem_cons.1 ((h p).1 (List.mem_cons_self ..)) with e | h1
      · exact e
      · rcases List.mem_cons.1 ((h q).2 (List.mem_cons_self ..)) with e | h2
        · exact e.symm
        · exact ((hq.1 p h1).asymm (hp.1 q h2)).elim
    subst e
    rw [sorted_ext hp.2 hq.2 fun r => ?_]
    constructor
    · intro hr
      rcases List.mem_cons.1 ((h r).1 (List.mem_cons_of_mem _ hr)) with rfl | h1
      · exact ((hp.1 r hr).ne rfl).elim
      · exact h1
    · intro hr
      rcases List.mem_cons.1 ((h r).2 (List.mem_cons_of_mem _ hr)) with rfl | h1
      · exact ((hq.1 r hr).ne rfl).elim
      · exact h1
theorem ltP_app {j : Int} : ∀ {p p' q q' : List Join}, (∀ x ∈ p, x.1 < j) → (∀ x ∈ q', j < x.1) → ltP p p' → ltP (p ++ q) (p' ++ q')
  | [], _, _, _, _, _, h => h.elim
  | x :: p, [], q, q', hp, hq, _ => by
    cases q' with
    | nil => exact trivial
    | cons y q' =>
      have h1 := hp x (List.mem_cons_self ..)
      have h2 := hq y (List.mem_cons_self ..)
      exact .inl (.inl (by omega))
  | x :: p, y :: p', q, q', hp, hq, h => by
    rcases h with h | ⟨rfl, h⟩
    · exact .inl h
    · exact .inr ⟨rfl, ltP_app (fun z hz => hp z (List.mem_cons_of_mem _ hz)) hq h⟩
theorem ltP_pre : ∀ (p : List Join) {q q' : List Join}, ltP q q' → ltP (p ++ q) (p ++ q')
  | [], _, _, h => h
  | _ :: p, _, _, h => .inr ⟨rfl, ltP_pre p h⟩
theorem plans_sort (F : Int → Int → Bool) : ∀ (m : Nat) (i n : Int), (n - i).toNat ≤ m → (plansP F i n).Pairwise ltP
  | 0, i, n, h => by rw [plansP_nil (by omega)]; exact List.pairwise_singleton _ _
  | m + 1, i, n, h => by
    by_cases hn : n ≤ i
    · rw [plansP_nil hn]; exact List.pairwise_singleton _ _
    · rw [plansP_eq (by omega), List.pairwise_append]
      refine ⟨List.pairwise_flatMap.2 ⟨fun j hj => ?_, (rng_asc (i + 1) n).imp fun {j j'} hjj p hp q hq => ?_⟩, plans_sort F m (i + 1) n (by omega), fun p hp q hq => ?_⟩
      · rw [rng_mem] at hj
        by_cases hg : F i j = true
        · rw [if_pos hg, List.pairwise_flatMap]
          refine ⟨fun p _ => ?_, (List.Pairwise.imp_of_mem (fun {p p'} hp hp' hpp a ha b hb => ?_) (plans_sort F m (i + 1) j (by omega)))⟩
          · rw [List.pairwise_map]
            exact (plans_sort F m (j + 1) n (by omega)).imp fun hqq => .inr ⟨rfl, ltP_pre p hqq⟩
          · obtain ⟨q, _, rfl⟩ := List.mem_map.1 ha
            obtain ⟨q', hq', rfl⟩ := List.mem_map.1 hb
            refine .inr ⟨rfl, ltP_app (j := j) (fun x hx => ?_) (fun x hx => ?_) hpp⟩
            · obtain ⟨a1, a2, a3, _⟩ := (mem_plans.1 hp).1 x hx; omega
            · obtain ⟨a1, a2, a3, _⟩ := (mem_plans.1 hq').1 x hx; omega
        · rw [if_neg hg]; exact List.Pairwise.nil
      · by_cases hg : F i j = true
        · by_cases hg' : F i j' = true
          · rw [if_pos hg] at hp
            rw [if_pos hg'] at hq
            obtain ⟨a, _, hp⟩ := List.mem_flatMap.1 hp
            obtain ⟨b, _, rfl⟩ := List.mem_map.1 hp
            obtain ⟨a', _, hq⟩ := List.mem_flatMap.1 hq
            obtain ⟨b', _, rfl⟩ := List.mem_map.1 hq
            exact .inl (.inr ⟨rfl, hjj⟩)
          · rw [if_neg hg'] at hq; simp at hq
        · rw [if_neg hg] at hp; simp at hp
      · obtain ⟨j, hj, hpj⟩ := List.mem_flatMap.1 hp
        by_cases hg : F i j = true
        · rw [if_pos hg] at hpj
          obtain ⟨a, _, hpj⟩ := List.mem_flatMap.1 hpj
          obtain ⟨b, _, rfl⟩ := List.mem_map.1 hpj
          cases q with
          | nil => exact trivial
          | cons y q =>
            obtain ⟨a1, _⟩ := (mem_plans.1 hq).1 y (List.mem_cons_self ..)
            exact .inl (.inl (by show i < y.1; omega))
        · rw [if_neg hg] at hpj; simp at hpj
theorem plans_sorted (F : Int → Int → Bool) (i n : Int) : (plansP F i n).Pairwise ltP := plans_sort F _ i n (Nat.le_refl _)
theorem plans_nodup (F : Int → Int → Bool) (i n : Int) : (plansP F i n).Nodup := (plans_sorted F i n).imp fun h => h.ne
end Go.Proofs.YtokdjjebnomciaaDoor

namespace Go.Proofs.YtokdjjebnomciaaDoor
open Go.Wk

def usedB (l : List Join) (i : Int) : Bool := l.any fun x => decide (x.1 = i) || decide (x.2 = i)
def crossB (y x : Join) : Bool := ((decide (x.1 < y.1) && decide (y.1 < x.2)) && decide (x.2 < y.2)) || ((decide (y.1 < x.1) && decide (x.1 < y.2)) && decide (y.2 < x.2))
def crossesB (l : List Join) (x : Join) : Bool := l.any fun y => crossB y x
def goesB (F : Int → Int → Bool) (l : List Join) (i j : Int) : Bool := (F i j && !usedB l j) && !crossesB l (i, j)
/-- All plans with so many joins, or more, that begin with some joins. -/
def plansR (F : Int → Int → Bool) (n least : Int) : Nat → List Join → Int → List (List Join)
  | 0, begun, frm => if (begun.length : Int) + (n - frm) / 2 < least then [] else if least ≤ begun.length then [begun] else []
  | m + 1, begun, frm => if (begun.length : Int) + (n - frm) / 2 < least then [] else
    ((rng frm n).flatMap fun i => if usedB begun i = true then [] else (rng (i + 1) n).flatMap fun j => if goesB F begun i j = true then plansR F n least m (begun ++ [(i, j)]) (i + 1) else []) ++ (if least ≤ begun.length then [begun] else [])
end Go.Proofs.YtokdjjebnomciaaDoor

namespace Go.Proofs.YtokdjjebnomciaaDoor
open Go.Wk

variable {F : Int → Int → Bool}

theorem goes_apart {l : List Join} {i j : Int} (hij : i < j) (hl : ∀ x ∈ l, x.1 < i) : (usedB l i = false ∧ goesB F l i j = true) ↔ F i j = true ∧ ∀ x ∈ l, apartJ x (i, j) := by
  have key : ∀ x : Join, x.1 < i → ((¬ (x.1 = i ∨ x.2 = i) ∧ ¬ (x.1 = j ∨ x.2 = j) ∧ ¬ ((i < x.1 ∧ x.1 < j) ∧ j < x.2 ∨ (x.1 < i ∧ i < x.2) ∧ x.2 < j)) ↔ apartJ x (i, j)) := by
    intro x hx
    show _ ↔ x.1 < i ∧ (x.2 < i ∨ j < x.2)
    omega
  simp only [goesB, usedB, crossesB, crossB, Bool.and_eq_true, Bool.not_eq_true', List.any_eq_false, Bool.or_eq_true, decide_eq_true_eq]
  constructor
  · rintro ⟨h1, ⟨h2, h3⟩, h4⟩
    exact ⟨h2, fun x hx => (key x (hl x hx)).1 ⟨h1 x hx, h3 x hx, h4 x hx⟩⟩
  · rintro ⟨h1, h2⟩
    exact ⟨fun x hx => ((key x (hl x hx)).2 (h2 x hx)).1, ⟨h1, fun x hx => ((key x (hl x hx)).2 (h2 x hx)).2.1⟩, fun x hx => ((key x (hl x hx)).2 (h2 x hx)).2.2⟩
theorem plan_app {n : Int} {p q : List Join} (h : Plan F 0 n (p ++ q)) : Plan F 0 n p ∧ Plan F 0 n q ∧ ∀ x ∈ p, ∀ y ∈ q, apartJ x y := by
  have h2 := List.pairwise_append.1 h.2
  exact ⟨⟨fun x hx => h.1 x (List.mem_append.2 (.inl hx)), h2.1⟩, ⟨fun x hx => h.1 x (List.mem_append.2 (.inr hx)), h2.2.1⟩, h2.2.2⟩
theorem plan_snoc {n i j : Int} {p : List Join} (h : Plan F 0 n p) (i0 : 0 ≤ i) (hij : i < j) (hj : j < n) (hF : F i j = true) (ha : ∀ x ∈ p, apartJ x (i, j)) : Plan F 0 n (p ++ [(i, j)]) := by
  refine ⟨fun x hx => ?_, List.pairwise_append.2 ⟨h.2, List.pairwise_singleton _ _, fun x hx y hy => ?_⟩⟩
  · rcases List.mem_append.1 hx with hx | hx
    · exact h.1 x hx
    · rw [List.mem_singleton] at hx; subst hx; exact ⟨i0, hij, hj, hF⟩
  · rw [List.mem_singleton] at hy; subst hy; exact ha x hx
theorem mem_plansR (F : Int → Int → Bool) (n least : Int) : ∀ (m : Nat) (begun : List Join) (frm : Int), (n - frm).toNat ≤ m → 0 ≤ frm → frm ≤ n → Plan F 0 n begun → (∀ x ∈ begun, x.1 < frm) → ∀ r,
    (r ∈ plansR F n least m begun frm ↔ ∃ e, r = begun ++ e ∧ Plan F 0 n r ∧ (∀ x ∈ e, frm ≤ x.1) ∧ least ≤ r.length)
  | 0, begun, frm, hm, h0, hn, hP, hb, r => by
    have hfn : frm = n := by omega
    rw [plansR]
    constructor
    · intro h
      split at h
      · simp at h
      · split at h
        · rename_i hl
          rw [List.mem_singleton] at h
          subst h
          exact ⟨[], by simp, hP, by simp, hl⟩
        · simp at h
    · rintro ⟨e, rfl, h1, h2, h3⟩
      cases e with
      | cons x e =>
        obtain ⟨a, b, c, d⟩ := h1.1 x (List.mem_append.2 (.inr (List.mem_cons_self ..)))
        have := h2 x (List.mem_cons_self ..)
        omega
      | nil =>
        rw [List.append_nil] at h3 ⊢
        rw [if_neg (by omega), if_pos h3]; simp
  | m + 1, begun, frm, hm, h0, hn, hP, hb, r => by
    rw [plansR]
    constructor
    · intro h
      split at h
      · simp at h
      · rcases List.mem_append.1 h with h | h
        · obtain ⟨i, hi, h⟩ := List.mem_flatMap.1 h
          rw [rng_mem] at hi
          split at h
          · simp at h
          · rename_i hu
            obtain ⟨j, hj, h⟩ := List.mem_flatMap.1 h
            rw [rng_mem] at hj
            split at h
            · rename_i hg
              obtain ⟨hF, ha⟩ := (goes_apart (by omega) (fun x hx => by have := hb x hx; omega)).1 ⟨by simpa using hu, hg⟩
              have hP2 := plan_snoc hP (by omega) (by omega) (by omega) hF ha
              obtain ⟨e, rfl, h1, h2, h3⟩ := (mem_plansR F n least m (begun ++ [(i, j)]) (i + 1) (by omega) (by omega) (by omega) hP2 (fun x hx => by
                rcases List.mem_append.1 hx with hx | hx
                · have := hb x hx; omega
                · rw [List.mem_singleton] at hx; subst hx; show i < i + 1; omega) r).1 h
              refine ⟨(i, j) :: e, by simp, h1, fun x hx => ?_, h3⟩
              rcases List.mem_cons.1 hx with rfl | hx
              · exact hi.1
              · have := h2 x hx; omega
            · simp at h
        · split at h
          · rename_i hl
            rw [List.mem_singleton] at h
            subst h
            exact ⟨[], by simp, hP, by simp, hl⟩
          · simp at h
    · rintro ⟨e, rfl, h1, h2, h3⟩
      have hsplit := plan_app h1
      have hlen : 2 * (e.length : Int) ≤ n - frm := plan_len hn ⟨fun x hx => by obtain ⟨a, b, c, d⟩ := hsplit.2.1.1 x hx; exact ⟨h2 x hx, b, c, d⟩, hsplit.2.1.2⟩
      rw [List.length_append] at h3
      rw [if_neg (by omega)]
      cases e with
      | nil =>
        refine List.mem_append.2 (.inr ?_)
        rw [if_pos (by simpa using h3)]; simp
      | cons x e =>
        refine List.mem_append.2 (.inl ?_)
        obtain ⟨i, j⟩ := x
        obtain ⟨a, b, c, d⟩ := hsplit.2.1.1 (i, j) (List.mem_cons_self ..)
        have hfi : frm ≤ i := h2 (i, j) (List.mem_cons_self ..)
        simp only at a b c d
        have hg := (goes_apart (F := F) (l := begun) (i := i) (j := j) b (fun x hx => by have := hb x hx; omega)).2 ⟨d, fun x hx => hsplit.2.2 x hx (i, j) (List.mem_cons_self ..)⟩
        refine List.mem_flatMap.2 ⟨i, rng_mem.2 (by omega), ?_⟩
        rw [if_neg (by rw [hg.1]; decide)]
        refine List.mem_flatMap.2 ⟨j, rng_mem.2 (by omega), ?_⟩
        rw [if_pos hg.2]
        have hP2 := plan_snoc hP a b c d (fun x hx => hsplit.2.2 x hx (i, j) (List.mem_cons_self ..))
        refine (mem_plansR F n least m (begun ++ [(i, j)]) (i + 1) (by omega) (by omega) (by omega) hP2 (fun x hx => by
          rcases List.mem_append.1 hx with hx | hx
          · have := hb x hx; omega
          · rw [List.mem_singleton] at hx; subst hx; show i < i + 1; omega) _).2 ⟨e, by simp, by simpa using h1, fun x hx => ?_, by simp only [List.length_append, List.length_cons] at h3 ⊢; omega⟩
        have := (List.pairwise_cons.1 hsplit.2.1.2).1 x hx
        have h5 : i < x.1 := this.1
        omega
theorem sort_plansR (F : Int → Int → Bool) (n least : Int) : ∀ (m : Nat) (begun : List Join) (frm : Int), (plansR F n least m begun frm).Pairwise ltP ∧ ∀ r ∈ plansR F n least m begun frm, ∃ e, r = begun ++ e
  | 0, begun, frm => by
    rw [plansR]
    split
    · exact ⟨List.Pairwise.nil, by simp⟩
    · split
      · exact ⟨List.pairwise_singleton _ _, fun r hr => ⟨[], by simpa using hr⟩⟩
      · exact ⟨List.Pairwise.nil, by simp⟩
  | m + 1, begun, frm => by
    have ih := fun i j => sort_plansR F n least m (begun ++ [(i, j)]) (i + 1)
    have he : ∀ i j r, r ∈ plansR F n least m (begun ++ [(i, j)]) (i + 1) → ∃ e, r = begun ++ (i, j) :: e := fun i j r hr => by
      obtain ⟨e, rfl⟩ := (ih i j).2 r hr
      exact ⟨e, by simp⟩
    rw [plansR]
    split
    · exact ⟨List.Pairwise.nil, by simp⟩
    · have hin : ∀ r, r ∈ ((rng frm n).flatMap fun i => if usedB begun i = true then [] else (rng (i + 1) n).flatMap fun j => if goesB F begun i j = true then plansR F n least m (begun ++ [(i, j)]) (i + 1) else []) → ∃ i j e, r = begun ++ (i, j) :: e := fun r hr => by
        obtain ⟨i, _, h⟩ := List.mem_flatMap.1 hr
        split at h
        · simp at h
        · obtain ⟨j, _, h⟩ := List.mem_flatMap.1 h
          split at h
          · obtain ⟨e, h⟩ := he i j r h; exact ⟨i, j, e, h⟩
          · simp at h
      refine ⟨List.pairwise_append.2 ⟨List.pairwise_flatMap.2 ⟨fun i _ => ?_, (rng_asc frm n).imp fun {i i'} hii p hp q hq => ?_⟩, ?_, fun p hp q hq => ?_⟩, fun r hr => ?_⟩
      · split
        · exact List.Pairwise.nil
        · refine List.pairwise_flatMap.2 ⟨fun j _ => ?_, (rng_asc (i + 1) n).imp fun {j j'} hjj p hp q hq => ?_⟩
          · split
            · exact (ih i j).1
            · exact List.Pairwise.nil
          · split at hp
            · split at hq
              · obtain ⟨e, rfl⟩ := he i j p hp
                obtain ⟨e', rfl⟩ := he i j' q hq
                exact ltP_pre begun (.inl (.inr ⟨rfl, hjj⟩))
              · simp at hq
            · simp at hp
      · split at hp
        · simp at hp
        · split at hq
          · simp at hq
          · obtain ⟨j, _, hp⟩ := List.mem_flatMap.1 hp
            obtain ⟨j', _, hq⟩ := List.mem_flatMap.1 hq
            split at hp
            · split at hq
              · obtain ⟨e, rfl⟩ := he i j p hp
                obtain ⟨e', rfl⟩ := he i' j' q hq
                exact ltP_pre begun (.inl (.inl hii))
              · simp at hq
            · simp at hp
      · split
        · exact List.pairwise_singleton _ _
        · exact List.Pairwise.nil
      · obtain ⟨i, j, e, rfl⟩ := hin p hp
        split at hq
        · rw [List.mem_singleton] at hq
          subst hq
          have := ltP_pre q (q := (i, j) :: e) (q' := []) trivial
          rwa [List.append_nil] at this
        · simp at hq
      · rcases List.mem_append.1 hr with hr | hr
        · obtain ⟨i, j, e, h⟩ := hin r hr; exact ⟨_, h⟩
        · split at hr
          · rw [List.mem_singleton] at hr; exact ⟨[], by simpa using hr⟩
          · simp at hr
/-- The reference's plans with so many joins, or more. -/
theorem plansR_eq {n : Int} (hn : 0 ≤ n) (least : Int) : plansR F n least n.toNat [] 0 = (plansP F 0 n).filter fun r => decide (least ≤ r.length) := by
  refine sorted_ext (sort_plansR F n least n.toNat [] 0).1 ((plans_sorted F 0 n).filter _) fun r => ?_
  rw [mem_plansR F n least n.toNat [] 0 (by omega) (Int.le_refl _) hn Plan.nil (by simp), List.mem_filter, mem_plans, decide_eq_true_eq]
  constructor
  · rintro ⟨e, rfl, h1, h2, h3⟩; exact ⟨h1, h3⟩
  · rintro ⟨h1, h2⟩
    exact ⟨r, by simp, h1, fun x hx => (h1.1 x hx).1, h2⟩
end Go.Proofs.YtokdjjebnomciaaDoor

namespace Go.Wk
open Go.RowKit Go.Lib

theorem W.scope {P : Program} {n : Nat} {kn kr : Cont} {ke : List (Nat × Cont)} {σ : Fr} {w : World} {c : Code} (h : W P n c kn kr ke σ w) : W P n (.scope c) kn kr ke σ w :=
  fun T hT => wp_scope_straight (wp_mono (h T hT) fun e _ _ q => by cases e <;> exact q)

/-- The rune at a place of a string, and how many bytes it has. -/
def runeAt (s : ByteArray) (p : Int) : Int := ((Utf8.decode s p.toNat).1 : Nat)
def runeW (s : ByteArray) (p : Int) : Int := ((Utf8.decode s p.toNat).2 : Nat)

theorem get_tab (s : ByteArray) (i : Nat) : (((s.get! i).toNat : Nat) : Int) = tabAt s (i : Int) := by
  rw [tabAt]
  simp only [Int.toNat_natCast, ByteArray.get!, List.getD_eq_getElem?_getD]
  congr 2
  by_cases h : i < s.data.size
  · rw [getElem!_pos s.data i h, Array.getElem?_toList, Array.getElem?_eq_getElem h]; rfl
  · rw [getElem!_neg s.data i h, Array.getElem?_toList, Array.getElem?_eq_none (by omega)]; rfl
theorem tab_le (s : ByteArray) (p : Int) : 0 ≤ tabAt s p ∧ tabAt s p ≤ 255 := tabAt_bd s p
/-- What a decoder makes of four bytes, where the second one and so on belong to the rune. -/
def dec5 (b0 b1 b2 b3 : Nat) (c1 c2 c3 : Bool) : Nat × Nat :=
  if b0 < 128 then (b0, 1)
  else if (b0 / 32 == 6 && c1) = true then (if 128 ≤ (b0 % 32) * 64 + b1 % 64 then ((b0 % 32) * 64 + b1 % 64, 2) else (65533, 1))
  else if (b0 / 16 == 14 && c1 && c2) = true then (if (2048 ≤ (b0 % 16) * 4096 + (b1 % 64) * 64 + b2 % 64) ∧ Utf8.valid ((b0 % 16) * 4096 + (b1 % 64) * 64 + b2 % 64 : Nat) = true then ((b0 % 16) * 4096 + (b1 % 64) * 64 + b2 % 64, 3) else (65533, 1))
  else if (b0 / 8 == 30 && c1 && c2 && c3) = true then (if (65536 ≤ (b0 % 8) * 262144 + (b1 % 64) * 4096 + (b2 % 64) * 64 + b3 % 64) ∧ Utf8.valid ((b0 % 8) * 262144 + (b1 % 64) * 4096 + (b2 % 64) * 64 + b3 % 64 : Nat) = true then ((b0 % 8) * 262144 + (b1 % 64) * 4096 + (b2 % 64) * 64 + b3 % 64, 4) else (65533, 1))
  else (65533, 1)
theorem dec5_cases (b0 b1 b2 b3 : Nat) (c1 c2 c3 : Bool) (h0 : b0 < 256) : (b0 < 128 ∧ dec5 b0 b1 b2 b3 c1 c2 c3 = (b0, 1)) ∨ (128 ≤ b0 ∧ 128 ≤ (dec5 b0 b1 b2 b3 c1 c2 c3).1 ∧ (dec5 b0 b1 b2 b3 c1 c2 c3).1 ≤ 1114111 ∧ (dec5 b0 b1 b2 b3 c1 c2 c3).2 ≤ 4) := by
  have hv : ∀ c : Nat, Utf8.valid (c : Int) = true → c ≤ 1114111 := fun c hc => by
    simp only [Utf8.valid, Bool.and_eq_true, Bool.or_eq_true, decide_eq_true_eq] at hc
    omega
  have hr : (128 ≤ 65533 ∧ 65533 ≤ 1114111 ∧ 1 ≤ 4) := by decide
  by_cases h : b0 < 128
  · left; exact ⟨h, by rw [dec5, if_pos h]⟩
  · right
    refine ⟨by omega, ?_⟩
    rw [dec5, if_neg h]
    by_cases h1 : (b0 / 32 == 6 && c1) = true
    · rw [if_pos h1]
      by_cases g : 128 ≤ (b0 % 32) * 64 + b1 % 64
      · rw [if_pos g]
        exact ⟨g, by show _ ≤ 1114111; omega, by show 2 ≤ 4; omega⟩
      · rw [if_neg g]; exact hr
    · rw [if_neg h1]
      by_cases h2 : (b0 / 16 == 14 && c1 && c2) = true
      · rw [if_pos h2]
        by_cases g : (2048 ≤ (b0 % 16) * 4096 + (b1 % 64) * 64 + b2 % 64) ∧ Utf8.valid ((b0 % 16) * 4096 + (b1 % 64) * 64 + b2 % 64 : Nat) = true
        · rw [if_pos g]
          exact ⟨by show 128 ≤ _; omega, hv _ g.2, by show 3 ≤ 4; omega⟩
        · rw [if_neg g]; exact hr
      · rw [if_neg h2]
        by_cases h3 : (b0 / 8 == 30 && c1 && c2 && c3) = true
        · rw [if_pos h3]
          by_cases g : (65536 ≤ (b0 % 8) * 262144 + (b1 % 64) * 4096 + (b2 % 64) * 64 + b3 % 64) ∧ Utf8.valid ((b0 % 8) * 262144 + (b1 % 64) * 4096 + (b2 % 64) * 64 + b3 % 64 : Nat) = true
          · rw [if_pos g]
            exact ⟨by show 128 ≤ _; omega, hv _ g.2, by show 4 ≤ 4; omega⟩
          · rw [if_neg g]; exact hr
        · rw [if_neg h3]; exact hr
theorem decode_dec5 (s : ByteArray) (i : Nat) : Utf8.decode s i = dec5 (s.get! i).toNat (s.get! (i + 1)).toNat (s.get! (i + 2)).toNat (s.get! (i + 3)).toNat (decide (i + 1 < s.size) && (s.get! (i + 1)).toNat / 64 == 2) (decide (i + 2 < s.size) && (s.get! (i + 2)).toNat / 64 == 2) (decide (i + 3 < s.size) && (s.get! (i + 3)).toNat / 64 == 2) := by
  simp only [Utf8.decode, dec5, Utf8.runeError, Bool.and_eq_true, decide_eq_true_eq, ge_iff_le, Nat.add_zero]
theorem decode_cases (s : ByteArray) (i : Nat) : (tabAt s i < 128 ∧ Utf8.decode s i = ((tabAt s i).toNat, 1)) ∨ (128 ≤ tabAt s i ∧ 128 ≤ (Utf8.decode s i).1 ∧ (Utf8.decode s i).1 ≤ 1114111 ∧ (Utf8.decode s i).2 ≤ 4) := by
  have h0 := get_tab s i
  have hb := tab_le s i
  rw [decode_dec5]
  rcases dec5_cases (s.get! i).toNat (s.get! (i + 1)).toNat (s.get! (i + 2)).toNat (s.get! (i + 3)).toNat (decide (i + 1 < s.size) && (s.get! (i + 1)).toNat / 64 == 2) (decide (i + 2 < s.size) && (s.get! (i + 2)).toNat / 64 == 2) (decide (i + 3 < s.size) && (s.get! (i + 3)).toNat / 64 == 2) (by omega) with ⟨h1, h2⟩ | ⟨h1, h2⟩
  · left; exact ⟨by omega, by rw [h2, ← h0]; rfl⟩
  · right; exact ⟨by omega, h2⟩
theorem runeAt_ascii {s : ByteArray} {p : Int} (h0 : 0 ≤ p) (h : tabAt s p < 128) : runeAt s p = tabAt s p ∧ runeW s p = 1 := by
  have e : ((p.toNat : Nat) : Int) = p := Int.toNat_of_nonneg h0
  have := decode_cases s p.toNat
  have hb := tab_le s p
  rw [e] at this
  rcases this with ⟨_, h2⟩ | ⟨h1, _⟩
  · rw [runeAt, runeW, h2]; exact ⟨by omega, rfl⟩
  · omega
theorem runeAt_other {s : ByteArray} {p : Int} (h0 : 0 ≤ p) (h : 128 ≤ tabAt s p) : 128 ≤ runeAt s p := by
  have e : ((p.toNat : Nat) : Int) = p := Int.toNat_of_nonneg h0
  have := decode_cases s p.toNat
  rw [e] at this
  rcases this with ⟨h1, _⟩ | ⟨_, h1, _⟩
  · omega
  · rw [runeAt]; omega
theorem runeAt_bd (s : ByteArray) (p : Int) : 0 ≤ runeAt s p ∧ runeAt s p ≤ 1114111 := by
  have := decode_cases s p.toNat
  have hb := tab_le s (p.toNat : Int)
  rw [runeAt]
  rcases this with ⟨h1, h2⟩ | ⟨_, _, h1, _⟩
  · rw [h2]; show 0 ≤ (((tabAt s p.toNat).toNat : Nat) : Int) ∧ _; omega
  · omega
/-- The last byte of a rune that has more than one. -/
theorem encode_last {r : Int} (h : 128 ≤ r) : 2 ≤ (Utf8.encode r).size ∧ (Utf8.encode r).size ≤ 4 ∧ 128 ≤ tabAt (Utf8.encode r) ((Utf8.encode r).size - 1 : Int) := by
  have hc : ∀ c : Nat, 128 ≤ c → c < 2097152 → 2 ≤ (if c < 0x80 then (⟨#[UInt8.ofNat c]⟩ : ByteArray) else if c < 0x800 then ⟨#[UInt8.ofNat (0xC0 + c / 64), UInt8.ofNat (0x80 + c % 64)]⟩ else if c < 0x10000 then ⟨#[UInt8.ofNat (0xE0 + c / 4096), UInt8.ofNat (0x80 + c / 64 % 64), UInt8.ofNat (0x80 + c % 64)]⟩ else ⟨#[UInt8.ofNat (0xF0 + c / 262144), UInt8.ofNat (0x80 + c / 4096 % 64), UInt8.ofNat (0x80 + c / 64 % 64), UInt8.ofNat (0x80 + c % 64)]⟩).size ∧ (if c < 0x80 then (⟨#[UInt8.ofNat c]⟩ : ByteArray) else if c < 0x800 then ⟨#[UInt8.ofNat (0xC0 + c / 64), UInt8.ofNat (0x80 + c % 64)]⟩ else if c < 0x10000 then ⟨#[UInt8.ofNat (0xE0 + c / 4096), UInt8.ofNat (0x80 + c / 64 % 64), UInt8.ofNat (0x80 + c % 64)]⟩ else ⟨#[UInt8.ofNat (0xF0 + c / 262144), UInt8.ofNat (0x80 + c / 4096 % 64), UInt8.ofNat (0x80 + c / 64 % 64), UInt8.ofNat (0x80 + c % 64)]⟩).size ≤ 4 ∧
      128 ≤ tabAt (if c < 0x80 then (⟨#[UInt8.ofNat c]⟩ : ByteArray) else if c < 0x800 then ⟨#[UInt8.ofNat (0xC0 + c / 64), UInt8.ofNat (0x80 + c % 64)]⟩ else if c < 0x10000 then ⟨#[UInt8.ofNat (0xE0 + c / 4096), UInt8.ofNat (0x80 + c / 64 % 64), UInt8.ofNat (0x80 + c % 64)]⟩ else ⟨#[UInt8.ofNat (0xF0 + c / 262144), UInt8.ofNat (0x80 + c / 4096 % 64), UInt8.ofNat (0x80 + c / 64 % 64), UInt8.ofNat (0x80 + c % 64)]⟩) (((if c < 0x80 then (⟨#[UInt8.ofNat c]⟩ : ByteArray) else if c < 0x800 then ⟨#[UInt8.ofNat (0xC0 + c / 64), UInt8.ofNat (0x80 + c % 64)]⟩ else if c < 0x10000 then ⟨#[UInt8.ofNat (0xE0 + c / 4096), UInt8.ofNat (0x80 + c / 64 % 64), UInt8.ofNat (0x80 + c % 64)]⟩ else ⟨#[UInt8.ofNat (0xF0 + c / 262144), UInt8.ofNat (0x80 + c / 4096 % 64), UInt8.ofNat (0x80 + c / 64 % 64), UInt8.ofNat (0x80 + c % 64)]⟩).size : Nat) - 1 : Int) := by
    intro c h1 h2
    have hm : ∀ u : Nat, 128 ≤ u → u < 256 → (128 : Int) ≤ ((UInt8.ofNat u).toNat : Nat) := fun u h3 h4 => by
      rw [UInt8.toNat_ofNat']; omega
    have hb := hm (0x80 + c % 64) (by omega) (by omega)
    rw [if_neg (by omega)]
    split
    · exact ⟨Nat.le_refl 2, Nat.le_add_right 2 2, hb⟩
    · split
      · exact ⟨Nat.le_add_right 2 1, Nat.le_add_right 3 1, hb⟩
      · exact ⟨Nat.le_add_right 2 2, Nat.le_refl 4, hb⟩
  simp only [Utf8.encode]
  refine hc _ ?_ ?_
  · split <;> first | omega | decide
  · split
    · rename_i hv
      simp only [Utf8.valid, Bool.and_eq_true, Bool.or_eq_true, decide_eq_true_eq] at hv
      omega
    · decide

section
variable {P : Program} {n : Nat} {w w0 w' : World} {O : List (Option Nat)} {obs : List Ob} {ops : Array Oper} {rest : List Oper} {k : Cont} {d : Tmp} {ty : TypeId} {pos : String} {af : Array Edge}
  {l : List (Nat × Value)} {σ0 σ : Fr} {T T' : TypeId} {x y z lo hi mx : Operand}

/-- The halves of a pair, where it lies. -/
theorem rd_indexE1 {α β : Type} {t : Ty α} {u : Ty β} {q : α × β} {p : Value} {F : List (Option Nat)} {s e : TypeId} {kk : IntKind} {len : Nat} (hp : PtE (tP t u) q p F w) (hx : ev σ x = p) (hi : ev σ y = .int kk 0) (hu : P.underlying s = some (.array len e))
    (hl : 0 < len) (hsz : ∀ w', (sizeOf e).run P w' = .ok t.n w') : ∃ p', Rd P σ (.indexAddr s x y) ty w p' ∧ PtE t q.1 p' F w := by
  obtain ⟨b, o, es, rfl, ⟨c, d, rfl, h2, h3⟩, h4, h5, h6⟩ := hp
  refine ⟨_, rd_indexArr hx hi hu hsz (Int.le_refl 0) (by omega), b, o + (0 : Int).toNat * t.n, c, rfl, h2, h4, h5, fun j v hj => ?_⟩
  have := h6 j v (by rw [List.getElem?_append_left (List.getElem?_eq_some_iff.1 hj).1]; exact hj)
  simpa using this
theorem rd_indexE2 {α β : Type} {t : Ty α} {u : Ty β} {q : α × β} {p : Value} {F : List (Option Nat)} {s e : TypeId} {kk : IntKind} {len : Nat} (hp : PtE (tP t u) q p F w) (hx : ev σ x = p) (hi : ev σ y = .int kk 1) (hu : P.underlying s = some (.array len e))
    (hl : 1 < len) (hsz : ∀ w', (sizeOf e).run P w' = .ok t.n w') : ∃ p', Rd P σ (.indexAddr s x y) ty w p' ∧ PtE u q.2 p' F w := by
  obtain ⟨b, o, es, rfl, ⟨c, d, rfl, h2, h3⟩, h4, h5, h6⟩ := hp
  have hcl := t.len h2
  refine ⟨_, rd_indexArr hx hi hu hsz (by decide) (by omega), b, o + (1 : Int).toNat * t.n, d, rfl, h3, h4, h5, fun j v hj => ?_⟩
  have := h6 (c.length + j) v (by rw [List.getElem?_append_right (by omega), Nat.add_sub_cancel_left]; exact hj)
  rw [hcl] at this
  rw [show o + (1 : Int).toNat * t.n + j = o + (t.n + j) by simp; omega]
  exact this
/-- string(r), r a rune. -/
theorem rd_convRS {s dd : TypeId} {r : Int} (hx : ev σ x = .int .i32 r) (hs : P.underlying s = some (.int .i32)) (hd : P.underlying dd = some .string) :
    Rd P σ (.convert s dd x) ty w (.string (Utf8.encode r)) :=
  Rd.of fun w' => by
    simp [xop, execOp, hx, convert, run_underlying hs, run_underlying hd, Conv.intToString]
/-- a + b, strings. -/
theorem rd_addS {s t : ByteArray} (hx : ev σ x = .string s) (hy : ev σ y = .string t) (hl : (s.size : Int) + t.size ≤ 9223372036854775807) : Rd P σ (.binOp .add T x y T') ty w (.string (s ++ t)) :=
  Rd.of fun w' => by simp [xop, execOp, hx, hy, eqGuard, binOp, Op.stringOp, show ¬ (9223372036854775807 < (s.size : Int) + t.size) by omega]
/-- A string is about to be gone through. -/
theorem Wx.rangeS {s : ByteArray} (hS : St w0 O w obs) (hx : ev (look l σ0) x = .string s) (hu : P.underlying T = some .string) (hd : Nat.ble (d + 1) n = true)
    (h : ∀ g w', Ext w w' → St w0 O w' (.raw g (.stringIter s 0) :: obs) → Wx P n ops false rest k (look ((d, .pointer (some ⟨g, 0, none⟩)) :: l) σ0) w') :
    Wx P n ops false (⟨some d, .range T x, ty, pos, af, none⟩ :: rest) k (look l σ0) w := by
  have he : Ext w (w.iter s 0) := (Below.refl _ _).alloc (Nat.le_refl _) _
  refine Wx.val (v := .pointer (some ⟨w.heap.size, 0, none⟩)) (w' := w.iter s 0) ?_ hd (h w.heap.size _ he (hS.push he _ (fun b hb => by simp [Ob.blk] at hb; omega) (fun F _ => ⟨hS.bel.size, World.iter_heap w s 0⟩)))
  simp [xop, execOp, hx, run_range_string w T s hu]
/-- The next rune, or the end. -/
theorem Wx.nextS {s : ByteArray} {g : Nat} {p : Nat} (hS : St w0 O w obs) (i : Nat) (hi : obs[i]? = some (.raw g (.stringIter s p))) (hx : ev (look l σ0) x = .pointer (some ⟨g, 0, none⟩)) (hd : Nat.ble (d + 1) n = true)
    (h1 : (p : Int) < s.size → ∀ w', w.heap.size ≤ w'.heap.size → St w0 O w' (obs.set i (.raw g (.stringIter s (p + (Utf8.decode s p).2)))) → Wx P n ops false rest k (look ((d, .tuple #[.bool true, .int .i64 p, .int .i32 (Utf8.decode s p).1]) :: l) σ0) w')
    (h2 : ¬ (p : Int) < s.size → Wx P n ops false rest k (look ((d, .tuple #[.bool false]) :: l) σ0) w) :
    Wx P n ops false (⟨some d, .next x true, ty, pos, af, none⟩ :: rest) k (look l σ0) w := by
  have hb := hS.get i hi
  by_cases hp : p < s.size
  · refine Wx.val (v := .tuple #[.bool true, .int .i64 p, .int .i32 (Utf8.decode s p).1]) (w' := w.iterAt g s (p + (Utf8.decode s p).2)) ?_ hd (h1 (by omega) _ (by rw [iterAt_size]; exact Nat.le_refl _) ?_)
    · simp [xop, execOp, hx, run_next_any_at w g s p ty hb.2 hp]
    · refine hS.turn i hi rfl rfl rfl (by rw [iterAt_size]; exact Nat.le_refl _) (fun b _ hb' => iterAt_other w g b s _ (fun e => hb' (by rw [e]; rfl))) (fun b hb' => .inl hb') (fun b hb' => by rw [iterAt_size]; exact (Ob.ok_lt hb hb').2) (fun F _ => ⟨hb.1, iterAt_heap w g s p _ hb.2⟩)
  · refine Wx.val (v := .tuple #[.bool false]) (w' := w) ?_ hd (h2 (by omega))
    simp [xop, execOp, hx, run_next_end_at w g s p ty hb.2 hp]
end
end Go.Wk

namespace Go.Proofs.YtokdjjebnomciaaDoor
open Go.Wk

/-! ### letters -/
def isLet (c : Int) : Bool := decide (97 ≤ c ∧ c ≤ 106) || decide (65 ≤ c ∧ c ≤ 74)
/-- The letters, as the program lists them. -/
def letS : ByteArray := { data := #[97, 98, 99, 100, 101, 102, 103, 104, 105, 106, 65, 66, 67, 68, 69, 70, 71, 72, 73, 74] }
/-- All letters of a rim are letters. -/
def letsB (s : ByteArray) : Bool := (List.range s.size).all fun (p : Nat) => isLet (tabAt s p)
def rimE (s : ByteArray) : Int := if 12 < (s.size : Int) then 3 else if letsB s = true then 0 else 10
def Lets (s : ByteArray) : Prop := ∀ p : Int, 0 ≤ p → p < s.size → isLet (tabAt s p) = true
theorem letsB_iff {s : ByteArray} : letsB s = true ↔ Lets s := by
  rw [letsB, List.all_eq_true]
  constructor
  · intro h p h0 h1
    have := h p.toNat (List.mem_range.2 (by omega))
    rwa [Int.toNat_of_nonneg h0] at this
  · intro h p hp
    exact h p (by omega) (by have := List.mem_range.1 hp; omega)
theorem rimE_ok {s : ByteArray} (h : rimE s = 0) : (s.size : Int) ≤ 12 ∧ Lets s := by
  rw [rimE] at h
  split at h
  · cases h
  · split at h
    · rename_i h1 h2; exact ⟨by omega, letsB_iff.1 h2⟩
    · cases h
theorem isLet_bd {c : Int} (h : isLet c = true) : 65 ≤ c ∧ c ≤ 106 := by
  simp only [isLet, Bool.or_eq_true, decide_eq_true_eq] at h; omega
/-- Two letters fit. -/
def fitC (x y : Int) : Bool := decide (x = y + 32 ∨ y = x + 32)
def fitR (s : ByteArray) (i j : Int) : Bool := fitC (tabAt s i) (tabAt s j)
/-- The reference's number of a letter. -/
def numC (c : Int) : Int := if 97 ≤ c ∧ c ≤ 106 then c - 97 + 1 else if 65 ≤ c ∧ c ≤ 74 then 65 - c - 1 else 0
theorem numC_zero {c : Int} : numC c = 0 ↔ isLet c = false := by
  rw [numC, isLet, Bool.or_eq_false_iff, decide_eq_false_iff_not, decide_eq_false_iff_not]
  split
  · omega
  · split <;> omega
theorem numC_fit {x y : Int} (hx : isLet x = true) (hy : isLet y = true) : decide (numC x + numC y = 0) = fitC x y := by
  simp only [isLet, Bool.or_eq_true, decide_eq_true_eq] at hx hy
  rw [fitC, numC, numC]
  congr 1
  simp only [eq_iff_iff]
  repeat' split
  all_goals omega
theorem numC_bd (c : Int) : -10 ≤ numC c ∧ numC c ≤ 10 := by
  rw [numC]
  split
  · omega
  · split <;> omega
theorem not_not_isLet {c : Int} (h : ¬ numC c = 0) : isLet c = true := by
  cases hl : isLet c with
  | true => rfl
  | false => exact absurd (numC_zero.2 hl) h
theorem rimE_bad {s : ByteArray} {p : Int} (hs : (s.size : Int) ≤ 12) (h0 : 0 ≤ p) (h1 : p < s.size) (h : isLet (tabAt s p) = false) : rimE s = 10 := by
  rw [rimE, if_neg (by omega), if_neg]
  intro hb
  rw [letsB_iff.1 hb p h0 h1] at h
  cases h
theorem rimE_good {s : ByteArray} (hs : (s.size : Int) ≤ 12) (h : Lets s) : rimE s = 0 := by
  rw [rimE, if_neg (by omega), if_pos (letsB_iff.2 h)]
end Go.Proofs.YtokdjjebnomciaaDoor

namespace Go.Proofs.YtokdjjebnomciaaDoor
open Go.Wk

/-! ### lists by their places -/
theorem ix_mem {α : Type} {d : α} {xs : List α} {j : Int} (h0 : 0 ≤ j) (h : j < xs.length) : ix d xs j ∈ xs := List.mem_of_getElem? (ix_get h h0)
theorem ix_set {α : Type} {d : α} {xs : List α} {j q : Int} {x : α} (h0 : 0 ≤ j) (h1 : j < xs.length) (q0 : 0 ≤ q) : ix d (xs.set j.toNat x) q = if q = j then x else ix d xs q := by
  rw [ix, ix, List.getD_eq_getElem?_getD, List.getD_eq_getElem?_getD, List.getElem?_set]
  by_cases h : q = j
  · rw [if_pos (by rw [h]), if_pos (by omega), if_pos h]; rfl
  · rw [if_neg (by omega), if_neg h]
theorem ix_take {α : Type} {d : α} {xs : List α} {j q : Int} (q0 : 0 ≤ q) (h : q < j) : ix d (xs.take j.toNat) q = ix d xs q := by
  rw [ix, ix, List.getD_eq_getElem?_getD, List.getD_eq_getElem?_getD, List.getElem?_take, if_pos (by omega)]
theorem take_ix {α : Type} {d : α} {xs : List α} {j : Int} (h0 : 0 ≤ j) (h : j < xs.length) : xs.take (j + 1).toNat = xs.take j.toNat ++ [ix d xs j] := by
  rw [show (j + 1).toNat = j.toNat + 1 by omega, List.take_add_one, ix_get h h0 (d := d)]; rfl

/-! ### joins in use, joins that cross -/
theorem usedB_yes {l : List Join} {k i : Int} (h0 : 0 ≤ k) (h1 : k < l.length) (h2 : usedB (l.drop k.toNat) i = usedB l i) (h : (ix (0, 0) l k).1 = i ∨ (ix (0, 0) l k).2 = i) : usedB l i = true := by
  rw [← h2, drop_ix (d := (0, 0)) h0 h1, usedB, List.any_cons]
  simp [h]
theorem usedB_no {l : List Join} {k i : Int} (h0 : 0 ≤ k) (h1 : k < l.length) (h2 : usedB (l.drop k.toNat) i = usedB l i) (h : ¬ (ix (0, 0) l k).1 = i ∧ ¬ (ix (0, 0) l k).2 = i) : usedB (l.drop (k + 1).toNat) i = usedB l i := by
  rw [← h2, drop_ix (d := (0, 0)) h0 h1, usedB, usedB, List.any_cons, decide_eq_false h.1, decide_eq_false h.2]; rfl
theorem usedB_end {l : List Join} {k i : Int} (h1 : (l.length : Int) ≤ k) (h2 : usedB (l.drop k.toNat) i = usedB l i) : usedB l i = false := by
  rw [← h2, drop_end h1]; rfl
theorem crossB_iff {y x : Join} : crossB y x = true ↔ ((x.1 < y.1 ∧ y.1 < x.2) ∧ x.2 < y.2) ∨ ((y.1 < x.1 ∧ x.1 < y.2) ∧ y.2 < x.2) := by
  simp only [crossB, Bool.or_eq_true, Bool.and_eq_true, decide_eq_true_eq]
theorem crossesB_yes {l : List Join} {k : Int} {x : Join} (h0 : 0 ≤ k) (h1 : k < l.length) (h2 : crossesB (l.drop k.toNat) x = crossesB l x) (h : crossB (ix (0, 0) l k) x = true) : crossesB l x = true := by
  rw [← h2, drop_ix (d := (0, 0)) h0 h1, crossesB, List.any_cons, h]; rfl
theorem crossesB_no {l : List Join} {k : Int} {x : Join} (h0 : 0 ≤ k) (h1 : k < l.length) (h2 : crossesB (l.drop k.toNat) x = crossesB l x) (h : crossB (ix (0, 0) l k) x = false) : crossesB (l.drop (k + 1).toNat) x = crossesB l x := by
  rw [← h2, drop_ix (d := (0, 0)) h0 h1, crossesB, crossesB, List.any_cons, h]; rfl
theorem crossesB_end {l : List Join} {k : Int} {x : Join} (h1 : (l.length : Int) ≤ k) (h2 : crossesB (l.drop k.toNat) x = crossesB l x) : crossesB l x = false := by
  rw [← h2, drop_end h1]; rfl

/-! ### is it a plan? -/
/-- The first number of the last join. -/
def lastI (l : List Join) : Int := match l.getLast? with
  | some y => y.1
  | none => -1
def badX (s : ByteArray) (pre : List Join) (x : Join) : Int :=
  if ¬ ((0 ≤ x.1 ∧ x.1 ≤ (s.size : Int) - 1) ∧ (0 ≤ x.2 ∧ x.2 ≤ (s.size : Int) - 1)) then 2
  else if x.2 ≤ x.1 then 7
  else if (usedB pre x.1 || usedB pre x.2) = true then 6
  else if fitR s x.1 x.2 = false then 13
  else if crossesB pre x = true then 5
  else if x.1 < lastI pre then 7
  else 0
def validT (s : ByteArray) : List Join → List Join → Int
  | _, [] => 0
  | pre, x :: l => if badX s pre x = 0 then validT s (pre ++ [x]) l else badX s pre x
def validE (s : ByteArray) (l : List Join) : Int := if rimE s = 0 then validT s [] l else rimE s
theorem lastI_take {l : List Join} {k : Int} (h0 : 0 < k) (h1 : k ≤ l.length) : lastI (l.take k.toNat) = (ix (0, 0) l (k - 1)).1 := by
  have := take_ix (d := ((0, 0) : Join)) (xs := l) (j := k - 1) (by omega) (by omega)
  rw [show k - 1 + 1 = k by omega] at this
  rw [this, lastI, List.getLast?_concat]
theorem lastI_no {l : List Join} {k a : Int} (h0 : 0 ≤ k) (h1 : k ≤ l.length) (ha : 0 ≤ a) (h : ¬ 0 < k ∨ ¬ a < (ix (0, 0) l (k - 1)).1) : ¬ a < lastI (l.take k.toNat) := by
  by_cases hk : 0 < k
  · rw [lastI_take hk h1]; omega
  · rw [show k.toNat = 0 by omega, List.take_zero]; show ¬ a < -1; omega
theorem lastI_next {l : List Join} {k : Int} (h0 : 0 ≤ k) (h1 : k < l.length) : lastI (l.take (k + 1).toNat) = (ix (0, 0) l k).1 := by
  rw [lastI_take (by omega) (by omega), show k + 1 - 1 = k by omega]
theorem validT_bad {s : ByteArray} {l : List Join} {k e : Int} (h0 : 0 ≤ k) (h1 : k < l.length) (h2 : validT s (l.take k.toNat) (l.drop k.toNat) = validT s [] l) (h : badX s (l.take k.toNat) (ix (0, 0) l k) = e) (he : e ≠ 0) (hr : rimE s = 0) : validE s l = e := by
  rw [validE, if_pos hr, ← h2, drop_ix (d := (0, 0)) h0 h1, validT, h, if_neg he]
theorem validT_good {s : ByteArray} {l : List Join} {k : Int} (h0 : 0 ≤ k) (h1 : k < l.length) (h2 : validT s (l.take k.toNat) (l.drop k.toNat) = validT s [] l) (h : badX s (l.take k.toNat) (ix (0, 0) l k) = 0) : validT s (l.take (k + 1).toNat) (l.drop (k + 1).toNat) = validT s [] l := by
  rw [← h2, drop_ix (d := (0, 0)) h0 h1, validT, if_pos h, take_ix (d := (0, 0)) h0 h1]
theorem validT_end {s : ByteArray} {l : List Join} {k : Int} (h1 : (l.length : Int) ≤ k) (h2 : validT s (l.take k.toNat) (l.drop k.toNat) = validT s [] l) (hr : rimE s = 0) : validE s l = 0 := by
  rw [validE, if_pos hr, ← h2, drop_end h1]; rfl
theorem badX_none {s : ByteArray} {pre : List Join} {x : Join} (h : ¬ ((0 ≤ x.1 ∧ x.1 ≤ (s.size : Int) - 1) ∧ (0 ≤ x.2 ∧ x.2 ≤ (s.size : Int) - 1))) : badX s pre x = 2 := if_pos h
variable {s : ByteArray} {pre : List Join} {x : Join} (hin : (0 ≤ x.1 ∧ x.1 ≤ (s.size : Int) - 1) ∧ (0 ≤ x.2 ∧ x.2 ≤ (s.size : Int) - 1))
include hin
theorem badX_order (h : x.2 ≤ x.1) : badX s pre x = 7 := by rw [badX, if_neg (not_not_intro hin), if_pos h]
theorem badX_twice (h : x.1 < x.2) (h2 : usedB pre x.1 = true ∨ usedB pre x.2 = true) : badX s pre x = 6 := by
  rw [badX, if_neg (not_not_intro hin), if_neg (by omega), if_pos (by rcases h2 with h2 | h2 <;> simp [h2])]
variable (h1 : x.1 < x.2) (h2 : usedB pre x.1 = false) (h3 : usedB pre x.2 = false)
include h1 h2 h3
theorem badX_clash (h : fitR s x.1 x.2 = false) : badX s pre x = 13 := by
  rw [badX, if_neg (not_not_intro hin), if_neg (by omega), if_neg (by rw [h2, h3]; decide), if_pos h]
variable (h4 : fitR s x.1 x.2 = true)
include h4
theorem badX_shape (h : crossesB pre x = true) : badX s pre x = 5 := by
  rw [badX, if_neg (not_not_intro hin), if_neg (by omega), if_neg (by rw [h2, h3]; decide), if_neg (by rw [h4]; decide), if_pos h]
variable (h5 : crossesB pre x = false)
include h5
theorem badX_late (h : x.1 < lastI pre) : badX s pre x = 7 := by
  rw [badX, if_neg (not_not_intro hin), if_neg (by omega), if_neg (by rw [h2, h3]; decide), if_neg (by rw [h4]; decide), if_neg (by rw [h5]; decide), if_pos h]
theorem badX_good (h : ¬ x.1 < lastI pre) : badX s pre x = 0 := by
  rw [badX, if_neg (not_not_intro hin), if_neg (by omega), if_neg (by rw [h2, h3]; decide), if_neg (by rw [h4]; decide), if_neg (by rw [h5]; decide), if_neg h]
end Go.Proofs.YtokdjjebnomciaaDoor

namespace Go.Proofs.YtokdjjebnomciaaDoor
open Go.Wk
set_option linter.unusedVariables false

structure ToOK (pre : List Join) (tq : List Int) : Prop where
  len : tq.length = 12
  bd : ∀ q, 0 ≤ q → q < 12 → 0 ≤ ix 0 tq q ∧ ix 0 tq q ≤ 12
  at1 : ∀ x ∈ pre, 0 ≤ x.1 ∧ x.1 < x.2 ∧ x.2 < 12 ∧ ix 0 tq x.1 = x.2 + 1 ∧ ix 0 tq x.2 = x.1 + 1
  of : ∀ q, 0 ≤ q → q < 12 → 0 < ix 0 tq q → ∃ x ∈ pre, x.1 = q ∨ x.2 = q
theorem ToOK.nil : ToOK [] (List.replicate 12 0) := by
  have hz : ∀ q, 0 ≤ q → q < 12 → ix 0 (List.replicate 12 (0 : Int)) q = 0 := by
    intro q h0 h1
    rw [ix, List.getD_eq_getElem?_getD, List.getElem?_replicate, if_pos (by omega)]; rfl
  exact ⟨by simp, fun q h0 h1 => by rw [hz q h0 h1]; omega, by simp, fun q h0 h1 h => by rw [hz q h0 h1] at h; omega⟩
variable {pre : List Join} {tq : List Int}
theorem usedB_iff {l : List Join} {i : Int} : usedB l i = true ↔ ∃ x ∈ l, x.1 = i ∨ x.2 = i := by
  simp only [usedB, List.any_eq_true, Bool.or_eq_true, decide_eq_true_eq]
theorem ToOK.used (h : ToOK pre tq) {q : Int} (h0 : 0 ≤ q) (h1 : q < 12) : 0 < ix 0 tq q ↔ usedB pre q = true := by
  rw [usedB_iff]
  constructor
  · exact h.of q h0 h1
  · rintro ⟨x, hx, hq⟩
    obtain ⟨a, b, c, d, e⟩ := h.at1 x hx
    rcases hq with rfl | rfl <;> omega
theorem ToOK.free (h : ToOK pre tq) {q : Int} (h0 : 0 ≤ q) (h1 : q < 12) : usedB pre q = false ↔ ¬ 0 < ix 0 tq q := by rw [h.used h0 h1, Bool.not_eq_true]
def badQ (tq : List Int) (i j q : Int) : Prop := 0 < ix 0 tq q ∧ (ix 0 tq q - 1 < i ∨ j < ix 0 tq q - 1)
theorem ToOK.cross (h : ToOK pre tq) {i j q : Int} (h0 : 0 ≤ i) (h1 : i < q) (h2 : q < j) (h3 : j < 12) (hb : badQ tq i j q) : crossesB pre (i, j) = true := by
  obtain ⟨x, hx, hq⟩ := h.of q (by omega) (by omega) hb.1
  obtain ⟨a, b, c, d, e⟩ := h.at1 x hx
  have hb2 := hb.2
  rw [crossesB, List.any_eq_true]
  refine ⟨x, hx, crossB_iff.2 ?_⟩
  simp only
  rcases hq with rfl | rfl <;> omega
theorem ToOK.apart (h : ToOK pre tq) {i j : Int} (h0 : 0 ≤ i) (h1 : i < j) (h3 : j < 12) (hi : usedB pre i = false) (hj : usedB pre j = false) (hb : ∀ q, i < q → q < j → ¬ badQ tq i j q) : crossesB pre (i, j) = false := by
  rw [crossesB, List.any_eq_false]
  intro x hx hc
  rw [crossB_iff] at hc
  simp only at hc
  obtain ⟨a, b, c, d, e⟩ := h.at1 x hx
  rcases hc with hc | hc
  · exact hb x.1 (by omega) (by omega) ⟨by omega, by omega⟩
  · exact hb x.2 (by omega) (by omega) ⟨by omega, by omega⟩
theorem ToOK.push (h : ToOK pre tq) {i j : Int} (h0 : 0 ≤ i) (h1 : i < j) (h3 : j < 12) (hi : usedB pre i = false) (hj : usedB pre j = false) : ToOK (pre ++ [(i, j)]) ((tq.set i.toNat (j + 1)).set j.toNat (i + 1)) := by
  have hl := h.len
  have hs : ∀ q, 0 ≤ q → ix 0 ((tq.set i.toNat (j + 1)).set j.toNat (i + 1)) q = if q = j then i + 1 else if q = i then j + 1 else ix 0 tq q := by
    intro q q0
    rw [ix_set (by omega) (by rw [List.length_set]; omega) q0, ix_set h0 (by omega) q0]
  refine ⟨by simpa using hl, fun q q0 q1 => ?_, fun x hx => ?_, fun q q0 q1 hq => ?_⟩
  · have := h.bd q q0 q1
    rw [hs q q0]
    split
    · omega
    · split <;> omega
  · rcases List.mem_append.1 hx with hx | hx
    · obtain ⟨a, b, c, d, e⟩ := h.at1 x hx
      have n1 : ∀ z, (x.1 = z ∨ x.2 = z) → usedB pre z = false → False := fun z hz hu => by rw [usedB_iff.2 ⟨x, hx, hz⟩] at hu; cases hu
      rw [hs x.1 a, hs x.2 (by omega), if_neg (fun e => n1 j (.inl e) hj), if_neg (fun e => n1 i (.inl e) hi), if_neg (fun e => n1 j (.inr e) hj), if_neg (fun e => n1 i (.inr e) hi)]
      exact ⟨a, b, c, d, e⟩
    · rw [List.mem_singleton] at hx
      subst hx
      rw [hs i h0, hs j (by omega), if_neg (by omega), if_pos rfl, if_pos rfl]
      exact ⟨h0, h1, h3, rfl, rfl⟩
  · rw [hs q q0] at hq
    by_cases hqj : q = j
    · exact ⟨(i, j), by simp, .inr hqj.symm⟩
    · by_cases hqi : q = i
      · exact ⟨(i, j), by simp, .inl hqi.symm⟩
      · rw [if_neg hqj, if_neg hqi] at hq
        obtain ⟨x, hx, hxq⟩ := h.of q q0 q1 hq
        exact ⟨x, List.mem_append.2 (.inl hx), hxq⟩
end Go.Proofs.YtokdjjebnomciaaDoor

namespace Go.Wk
open Go.RowKit Go.Lib
set_option linter.unusedVariables false

/-- A table of pairs by two numbers. -/
abbrev Tab := Int → Int → Int × Int
def cellT (T : Tab) (m : Nat) : Int := if m % 2 = 0 then (T (m / 26 : Nat) (m / 2 % 13 : Nat)).1 else (T (m / 26 : Nat) (m / 2 % 13 : Nat)).2
/-- The cells of a string and a table. -/
def tabC (s : ByteArray) (T : Tab) : List Value := .string s :: (List.range 338).map fun m => .int .i64 (cellT T m)
def updT (T : Tab) (i n : Int) (p : Int × Int) : Tab := fun a b => if a = i ∧ b = n then p else T a b
theorem tabC_len (s : ByteArray) (T : Tab) : (tabC s T).length = 339 := by simp [tabC]
theorem tabC_get (s : ByteArray) (T : Tab) {m : Nat} (h : m < 338) : (tabC s T)[m + 1]? = some (.int .i64 (cellT T m)) := by
  rw [tabC, List.getElem?_cons_succ, List.getElem?_map, List.getElem?_range h]; rfl
theorem cellT_1 (T : Tab) {i n : Int} (i0 : 0 ≤ i) (n0 : 0 ≤ n) (n1 : n < 13) : cellT T (i.toNat * 26 + n.toNat * 2) = (T i n).1 := by
  have h1 : ((i.toNat * 26 + n.toNat * 2) / 26 : Nat) = i.toNat := by omega
  have h2 : ((i.toNat * 26 + n.toNat * 2) / 2 % 13 : Nat) = n.toNat := by omega
  rw [cellT, if_pos (by omega), h1, h2, Int.toNat_of_nonneg i0, Int.toNat_of_nonneg n0]
theorem cellT_2 (T : Tab) {i n : Int} (i0 : 0 ≤ i) (n0 : 0 ≤ n) (n1 : n < 13) : cellT T (i.toNat * 26 + n.toNat * 2 + 1) = (T i n).2 := by
  have h1 : ((i.toNat * 26 + n.toNat * 2 + 1) / 26 : Nat) = i.toNat := by omega
  have h2 : ((i.toNat * 26 + n.toNat * 2 + 1) / 2 % 13 : Nat) = n.toNat := by omega
  rw [cellT, if_neg (by omega), h1, h2, Int.toNat_of_nonneg i0, Int.toNat_of_nonneg n0]
theorem tabC_0 (s : ByteArray) (T : Tab) : (tabC s T)[0]? = some (.string s) := rfl
section
variable (s : ByteArray) (T : Tab) {i n : Int} (i0 : 0 ≤ i) (i1 : i < 13) (n0 : 0 ≤ n) (n1 : n < 13)
include i0 i1 n0 n1
theorem tabC_1 : (tabC s T)[1 + i.toNat * 26 + n.toNat * 2]? = some (.int .i64 (T i n).1) := by
  rw [show 1 + i.toNat * 26 + n.toNat * 2 = (i.toNat * 26 + n.toNat * 2) + 1 by omega, tabC_get s T (by omega), cellT_1 T i0 n0 n1]
theorem tabC_2 : (tabC s T)[1 + i.toNat * 26 + n.toNat * 2 + 1]? = some (.int .i64 (T i n).2) := by
  rw [show 1 + i.toNat * 26 + n.toNat * 2 + 1 = (i.toNat * 26 + n.toNat * 2 + 1) + 1 by omega, tabC_get s T (by omega), cellT_2 T i0 n0 n1]
theorem tabC_at : ((tabC s T).drop (1 + i.toNat * 26 + n.toNat * 2)).take 2 = [.int .i64 (T i n).1, .int .i64 (T i n).2] := by
  have h1 := tabC_1 s T i0 i1 n0 n1
  have h2 := tabC_2 s T i0 i1 n0 n1
  refine List.ext_getElem? fun k => ?_
  rw [List.getElem?_take]
  split
  · rw [List.getElem?_drop]
    rcases (by omega : k = 0 ∨ k = 1) with rfl | rfl
    · exact h1
    · exact h2
  · rename_i hk
    rw [List.getElem?_eq_none (by simp only [List.length_cons, List.length_nil]; omega)]
theorem cellT_upd (a b : Int) (m : Nat) (h : m < 338) : cellT (updT T i n (a, b)) m = if m = i.toNat * 26 + n.toNat * 2 then a else if m = i.toNat * 26 + n.toNat * 2 + 1 then b else cellT T m := by
  by_cases he : ((m / 26 : Nat) : Int) = i ∧ ((m / 2 % 13 : Nat) : Int) = n
  · rw [cellT, updT, if_pos he]
    by_cases hm : m % 2 = 0
    · rw [if_pos hm, if_pos (by omega)]
    · rw [if_neg hm, if_neg (by omega), if_pos (by omega)]
  · rw [if_neg (by omega), if_neg (by omega), cellT, cellT, updT, if_neg he]
theorem tabC_set (a b : Int) : (tabC s T).take (1 + i.toNat * 26 + n.toNat * 2) ++ [.int .i64 a, .int .i64 b] ++ (tabC s T).drop (1 + i.toNat * 26 + n.toNat * 2 + 2) = tabC s (updT T i n (a, b)) := by
  have hl := tabC_len s T
  have hl2 := tabC_len s (updT T i n (a, b))
  refine List.ext_getElem? fun k => ?_
  by_cases hk : 339 ≤ k
  · rw [List.getElem?_eq_none (by simp only [List.length_append, List.length_take, List.length_drop, List.length_cons, List.length_nil]; omega), List.getElem?_eq_none (by omega)]
  · have hlt : (List.take (1 + i.toNat * 26 + n.toNat * 2) (tabC s T)).length = 1 + i.toNat * 26 + n.toNat * 2 := by rw [List.length_take]; omega
    rcases (by cases k with | zero => exact .inl rfl | succ m => exact .inr ⟨m, rfl, by omega⟩ : k = 0 ∨ ∃ m, k = m + 1 ∧ m < 338) with rfl | ⟨m, rfl, hm⟩
    · rw [List.append_assoc, List.getElem?_append_left (by omega), List.getElem?_take, if_pos (by omega)]; rfl
    · rw [tabC_get _ _ hm, cellT_upd T i0 i1 n0 n1 a b m hm]
      by_cases h1 : m < i.toNat * 26 + n.toNat * 2
      · rw [List.append_assoc, List.getElem?_append_left (by omega), List.getElem?_take, if_pos (by omega), tabC_get _ _ hm, if_neg (by omega), if_neg (by omega)]
      · by_cases h2 : m = i.toNat * 26 + n.toNat * 2
        · rw [List.append_assoc, List.getElem?_append_right (by omega), hlt, if_pos h2, show m + 1 - (1 + i.toNat * 26 + n.toNat * 2) = 0 by omega]; rfl
        · by_cases h3 : m = i.toNat * 26 + n.toNat * 2 + 1
          · rw [List.append_assoc, List.getElem?_append_right (by omega), hlt, if_neg h2, if_pos h3, show m + 1 - (1 + i.toNat * 26 + n.toNat * 2) = 1 by omega]; rfl
          · rw [List.getElem?_append_right (by simp only [List.length_append, List.length_cons, List.length_nil]; omega), List.length_append, hlt, List.getElem?_drop, if_neg h2, if_neg h3]
            rw [show 1 + i.toNat * 26 + n.toNat * 2 + 2 + (m + 1 - (1 + i.toNat * 26 + n.toNat * 2 + [Value.int .i64 a, Value.int .i64 b].length)) = m + 1 by simp only [List.length_cons, List.length_nil]; omega]
            exact tabC_get s T hm
end

section
variable {P : Program} {n : Nat} {σ : Fr} {w w0 : World} {O : List (Option Nat)} {obs : List Ob} {x : Operand} {ty T' : TypeId} {g : Nat} {e : TypeId} {s : ByteArray} {T : Tab} {i m : Int}
  (hb : ∀ w', Ext w w' → w'.heap[g]? = some (.cells (tabC s T).toArray e (0, 0)))
include hb
theorem rd_tabS (hx : ev σ x = .pointer (some ⟨g, 0, none⟩)) (hag : ∀ w', (isAgg T').run P w' = .ok false w') : Rd P σ (.load T' x) ty w (.string s) :=
  rd_loadO (hb w (Ext.refl w)) (Ext.refl w) hx (by rw [List.getElem?_toArray]; exact tabC_0 s T) hag
theorem rd_tab1 (hx : ev σ x = .pointer (some ⟨g, 1 + i.toNat * 26 + m.toNat * 2, none⟩)) (i0 : 0 ≤ i) (i1 : i < 13) (m0 : 0 ≤ m) (m1 : m < 13) (hag : ∀ w', (isAgg T').run P w' = .ok false w') : Rd P σ (.load T' x) ty w (.int .i64 (T i m).1) :=
  rd_loadO (hb w (Ext.refl w)) (Ext.refl w) hx (by rw [List.getElem?_toArray]; exact tabC_1 s T i0 i1 m0 m1) hag
theorem rd_tab2 (hx : ev σ x = .pointer (some ⟨g, 1 + i.toNat * 26 + m.toNat * 2 + 1, none⟩)) (i0 : 0 ≤ i) (i1 : i < 13) (m0 : 0 ≤ m) (m1 : m < 13) (hag : ∀ w', (isAgg T').run P w' = .ok false w') : Rd P σ (.load T' x) ty w (.int .i64 (T i m).2) :=
  rd_loadO (hb w (Ext.refl w)) (Ext.refl w) hx (by rw [List.getElem?_toArray]; exact tabC_2 s T i0 i1 m0 m1) hag
theorem rd_tabP (hx : ev σ x = .pointer (some ⟨g, 1 + i.toNat * 26 + m.toNat * 2, none⟩)) (i0 : 0 ≤ i) (i1 : i < 13) (m0 : 0 ≤ m) (m1 : m < 13) (hag : ∀ w', (isAgg T').run P w' = .ok true w') (hsz : ∀ w', (sizeOf T').run P w' = .ok 2 w') :
    Rd P σ (.load T' x) ty w (.agg #[.int .i64 (T i m).1, .int .i64 (T i m).2]) := by
  intro w' hw'
  have hat := tabC_at s T i0 i1 m0 m1
  have hl : (loadVar T' ⟨g, 1 + i.toNat * 26 + m.toNat * 2, none⟩).run P w' = .ok (.agg #[.int .i64 (T i m).1, .int .i64 (T i m).2]) w' := run_loadN hag hsz (fun j u hu => by
    rw [Addr.add_lit, cell_of_row w' g (1 + i.toNat * 26 + m.toNat * 2 + j) _ e (0, 0) (hb w' hw')]
    have hu' : ([Value.int .i64 (T i m).1, .int .i64 (T i m).2])[j]? = some u := by simpa using hu
    rw [← hat, List.getElem?_take] at hu'
    split at hu'
    · rw [List.getElem?_drop] at hu'
      simpa using hu'
    · cases hu')
  simp [xop, execOp, hx, Instr.loadAt, Instr.sureAddr, hl]
end

/-- A field's type, and its place among the cells. -/
def fldTy (P : Program) (s : TypeId) (f : Nat) : Option (TypeId × Nat) :=
  match P.underlying s with
  | some (.struct fs) => (fs[f]?).map fun fd => (fd.type, fd.offset)
  | _ => none
theorem rd_fieldV {P : Program} {σ : Fr} {w : World} {x : Operand} {ty s ft : TypeId} {f j : Nat} {cs : Array Value} {v : Value} (hx : ev σ x = .agg cs) (hf : fldTy P s f = some (ft, j)) (hag : ∀ w', (isAgg ft).run P w' = .ok false w') (hc : cs[j]? = some v) : Rd P σ (.field s x f) ty w v :=
  Rd.of fun w' => by
    unfold fldTy at hf
    split at hf
    · rename_i fs hu
      cases hfd : fs[f]? with
      | none => rw [hfd] at hf; cases hf
      | some fd =>
        rw [hfd] at hf
        simp only [Option.map_some, Option.some.injEq, Prod.mk.injEq] at hf
        obtain ⟨rfl, rfl⟩ := hf
        simp [xop, execOp, hx, Instr.field, run_underlying hu, hfd, asAgg, part, hag, hc]
    · cases hf

/-- A slice of the call's own, cut short. -/
theorem St.shrink {w0 w : World} {O : List (Option Nat)} {obs : List Ob} {α : Type} {t : Ty α} {e : TypeId} {ys : List α} {g len c m : Nat} (hS : St w0 O w obs) (i : Nat) (hi : obs[i]? = some (.row t e (.slice (some ⟨g, 0, none⟩) len c) ys)) (hm : m ≤ ys.length) :
    St w0 O w (obs.set i (.row t e (.slice (some ⟨g, 0, none⟩) m c) (ys.take m))) := by
  obtain ⟨cs, hr, hR⟩ := hS.get i hi
  rcases hr.2 with ⟨h0, _⟩ | ⟨g', cap, cur, hv, q1, q2, q3, q4, q5, q6⟩
  · cases h0
  · simp only [Value.slice.injEq, Option.some.injEq, Addr.mk.injEq, and_true] at hv
    obtain ⟨rfl, rfl, rfl⟩ := hv
    have hcl : cs.length = ys.length * t.n := hr.1
    have hmn : m * t.n ≤ ys.length * t.n := Nat.mul_le_mul_right _ hm
    have hl : (ys.take m).length = m := by rw [List.length_take]; omega
    refine hS.turn (w' := w) i hi rfl rfl rfl (Nat.le_refl _) (fun _ _ _ => rfl) (fun b hb' => .inl hb') (fun b hb' => (Ob.ok_lt (hS.get i hi) hb').2) (fun F hM => ?_)
    refine ⟨cs.take (m * t.n), ⟨by rw [hl, List.length_take]; omega, .inr ⟨g, c, cur, by rw [hl], q1, q2, by rw [hl]; omega, q4, q5, ?_⟩⟩, (hR.mv hM).take m⟩
    rw [hl, ← q6, List.take_take, Nat.min_eq_left hmn]

/-- A variable that a call made and handed over. -/
theorem St.pushBox {w0 w w' : World} {O : List (Option Nat)} {obs : List Ob} {g : Nat} {e : TypeId} {cs : List Value} (hS : St w0 O w obs) (hx : Ext w w') (hg : w.heap.size ≤ g) (h : w'.heap[g]? = some (.cells cs.toArray e (0, 0))) : St w0 O w' (.box g e cs :: obs) :=
  hS.push hx _ (fun b hb => by simp only [Ob.blk, Option.some.injEq] at hb; omega) (fun _ _ => ⟨Nat.le_trans hS.bel.size hg, h⟩)
end Go.Wk

namespace Go.Proofs.YtokdjjebnomciaaDoor
open Go.Wk Go

/-- The numbers of a table are small. -/
def TabB (T : Tab) : Prop := ∀ a b, 0 ≤ (T a b).1 ∧ (T a b).1 ≤ 100 ∧ 0 ≤ (T a b).2 ∧ (T a b).2 ≤ 16777216
def TabOK (s : ByteArray) (T : Tab) : Prop := TabB T ∧ ∀ i n : Int, 0 ≤ i → i ≤ n → n ≤ s.size → T i n = partP (fitR s) i n
theorem mul_bd {a b : Int} (a0 : 0 ≤ a) (a1 : a ≤ 16777216) (b0 : 0 ≤ b) (b1 : b ≤ 16777216) : 0 ≤ a * b ∧ a * b ≤ 281474976710656 :=
  ⟨Int.mul_nonneg a0 b0, by have := Int.mul_le_mul a1 b1 b0 (by omega : (0 : Int) ≤ 16777216); omega⟩
theorem TabB.mul {T : Tab} (h : TabB T) (i j n : Int) : 0 ≤ (T (i + 1) j).2 * (T (j + 1) n).2 ∧ (T (i + 1) j).2 * (T (j + 1) n).2 ≤ 281474976710656 :=
  mul_bd (h _ _).2.2.1 (h _ _).2.2.2 (h _ _).2.2.1 (h _ _).2.2.2
theorem TabB.zero : TabB fun _ _ => (0, 0) := fun _ _ => ⟨Int.le_refl 0, by show (0 : Int) ≤ 100; decide, Int.le_refl 0, by show (0 : Int) ≤ 16777216; decide⟩
theorem TabB.upd {T : Tab} (h : TabB T) {i n : Int} {p : Int × Int} (h1 : 0 ≤ p.1 ∧ p.1 ≤ 100 ∧ 0 ≤ p.2 ∧ p.2 ≤ 16777216) : TabB (updT T i n p) := by
  intro a b
  rw [updT]
  split
  · exact h1
  · exact h a b
theorem updT_at {T : Tab} {i n : Int} {p : Int × Int} : updT T i n p i n = p := if_pos ⟨rfl, rfl⟩
theorem updT_ne {T : Tab} {i n a b : Int} {p : Int × Int} (h : ¬ (a = i ∧ b = n)) : updT T i n p a b = T a b := if_neg h

variable {F : Int → Int → Bool}
def stepP (F : Int → Int → Bool) (i n : Int) (best : Int × Int) (j : Int) : Int × Int := if F i j = true then cmb best (joinP (partP F (i + 1) j) (partP F (j + 1) n)) else best
/-- What is known of a part after the first edge's joins with edges before j. -/
def foldP (F : Int → Int → Bool) (i n j : Int) : Int × Int := (rng (i + 1) j).foldl (stepP F i n) (partP F (i + 1) n)
theorem foldP_start (i n : Int) : foldP F i n (i + 1) = partP F (i + 1) n := by rw [foldP, rng_nil (by omega)]; rfl
theorem foldP_next {i n j : Int} (h : i + 1 ≤ j) : foldP F i n (j + 1) = stepP F i n (foldP F i n j) j := by
  rw [foldP, rng_snoc h, List.foldl_append]; rfl
theorem foldP_end {i n : Int} (h : i < n) : foldP F i n n = partP F i n := (partP_eq h).symm

def Bd (M C : Int) (x : Int × Int) : Prop := 0 ≤ x.1 ∧ x.1 ≤ M ∧ 0 ≤ x.2 ∧ x.2 ≤ C
theorem cmb_bd {M C D : Int} {x y : Int × Int} (hx : Bd M C x) (hy : Bd M D y) : Bd M (C + D) (cmb x y) := by
  obtain ⟨a, b, c, d⟩ := hx
  obtain ⟨a', b', c', d'⟩ := hy
  rw [cmb]
  split
  · exact ⟨a', b', c', by omega⟩
  · split
    · exact ⟨a, b, by show 0 ≤ x.2 + y.2; omega, by show x.2 + y.2 ≤ _; omega⟩
    · exact ⟨a, b, c, by omega⟩
theorem fold_bd {M D : Int} {i n : Int} (hD : 0 ≤ D) : ∀ (js : List Int) (x : Int × Int) (C : Int), Bd M C x → (∀ j ∈ js, Bd M D (joinP (partP F (i + 1) j) (partP F (j + 1) n))) → Bd M (C + js.length * D) (js.foldl (stepP F i n) x)
  | [], x, C, h, _ => by simpa using h
  | j :: js, x, C, h, hj => by
    rw [List.foldl_cons]
    have h1 : Bd M (C + D) (stepP F i n x j) := by
      rw [stepP]
      split
      · exact cmb_bd h (hj j (List.mem_cons_self ..))
      · exact ⟨h.1, h.2.1, h.2.2.1, by have := h.2.2.2; omega⟩
    have h2 := fold_bd hD js _ _ h1 fun k hk => hj k (List.mem_cons_of_mem _ hk)
    have e : C + D + (js.length : Int) * D = C + ((j :: js).length : Int) * D := by
      rw [List.length_cons, Int.natCast_add, Int.add_mul]
      omega
    rw [← e]; exact h2
theorem part_bd' : ∀ (M m : Nat) (i n : Int), m ≤ M → (n - i).toNat = m → m ≤ 12 → Bd m (4 ^ m) (partP F i n) ∧ ∀ j, i + 1 ≤ j → j ≤ n → Bd m (4 ^ m) (foldP F i n j)
  | _, 0, i, n, _, h, _ => by
    refine ⟨by rw [partP_nil (by omega)]; exact ⟨by decide, by decide, by decide, by decide⟩, fun j h1 h2 => by omega⟩
  | 0, m + 1, i, n, hM, h, hm => by omega
  | M + 1, m + 1, i, n, hM, h, hm => by
    have ih1 := (part_bd' M m (i + 1) n (by omega) (by omega) (by omega)).1
    have hf : ∀ j, i + 1 ≤ j → j ≤ n → Bd (m + 1 : Nat) (4 ^ (m + 1)) (foldP F i n j) := by
      intro j h1 h2
      cases m with
      | zero =>
        rw [show j = i + 1 by omega, foldP_start]
        exact ⟨ih1.1, by have := ih1.2.1; omega, ih1.2.2.1, by have := ih1.2.2.2; have e : (4 : Int) ^ 0 = 1 := rfl; have e1 : (4 : Int) ^ (0 + 1) = 4 := rfl; omega⟩
      | succ m =>
        have hpos : (0 : Int) < 4 ^ m := Int.pow_pos (by decide)
        have hb := fold_bd (F := F) (M := (m + 2 : Nat)) (D := 4 ^ m) (i := i) (n := n) (by omega) (rng (i + 1) j) (partP F (i + 1) n) (4 ^ (m + 1)) ⟨ih1.1, by have := ih1.2.1; omega, ih1.2.2⟩ (fun k hk => by
          rw [rng_mem] at hk
          have a := (part_bd' M (k - (i + 1)).toNat (i + 1) k (by omega) rfl (by omega)).1
          have b := (part_bd' M (n - (k + 1)).toNat (k + 1) n (by omega) rfl (by omega)).1
          obtain ⟨a1, a2, a3, a4⟩ := a
          obtain ⟨b1, b2, b3, b4⟩ := b
          refine ⟨?_, ?_, Int.mul_nonneg a3 b3, ?_⟩
          · show 0 ≤ _ + _ + 1; omega
          · show _ + _ + 1 ≤ _; omega
          · show _ * _ ≤ _
            have hp : (4 : Int) ^ m = 4 ^ (k - (i + 1)).toNat * 4 ^ (n - (k + 1)).toNat := by rw [← Int.pow_add]; congr 1; omega
            rw [hp]
            exact Int.mul_le_mul a4 b4 b3 (Int.le_of_lt (Int.pow_pos (by decide))))
        have hl : ((rng (i + 1) j).length : Int) ≤ 12 := by rw [rng, List.length_map, List.length_range]; omega
        obtain ⟨c1, c2, c3, c4⟩ := hb
        refine ⟨c1, c2, c3, Int.le_trans c4 ?_⟩
        have e1 : (4 : Int) ^ (m + 1) = 4 ^ m * 4 := rfl
        have e2 : (4 : Int) ^ (m + 1 + 1) = 4 ^ m * 4 * 4 := rfl
        have hm := Int.mul_le_mul_of_nonneg_right hl (Int.le_of_lt hpos)
        omega
    refine ⟨?_, hf⟩
    rw [← foldP_end (by omega)]
    exact hf n (by omega) (Int.le_refl _)
theorem pow_bd {m : Nat} (h : m ≤ 12) : (4 : Int) ^ m ≤ 16777216 := by
  have : ∀ k ≤ 12, (4 : Int) ^ k ≤ 16777216 := by decide
  exact this m h
theorem partP_bd {i n : Int} (h0 : 0 ≤ i) (h : n ≤ 12) : 0 ≤ (partP F i n).1 ∧ (partP F i n).1 ≤ 100 ∧ 0 ≤ (partP F i n).2 ∧ (partP F i n).2 ≤ 16777216 := by
  obtain ⟨a, b, c, d⟩ := (part_bd' (F := F) _ (n - i).toNat i n (Nat.le_refl _) rfl (by omega)).1
  have := pow_bd (m := (n - i).toNat) (by omega)
  exact ⟨a, by omega, c, by omega⟩
theorem foldP_bd {i n j : Int} (h0 : 0 ≤ i) (h : n ≤ 12) (h1 : i + 1 ≤ j) (h2 : j ≤ n) : 0 ≤ (foldP F i n j).1 ∧ (foldP F i n j).1 ≤ 100 ∧ 0 ≤ (foldP F i n j).2 ∧ (foldP F i n j).2 ≤ 16777216 := by
  obtain ⟨a, b, c, d⟩ := (part_bd' (F := F) _ (n - i).toNat i n (Nat.le_refl _) rfl (by omega)).2 j h1 h2
  have := pow_bd (m := (n - i).toNat) (by omega)
  exact ⟨a, by omega, c, by omega⟩
section
variable {i n j bm bc A B : Int} (k0 : i + 1 ≤ j) (k2 : bm = (foldP F i n j).1) (k3 : bc = (foldP F i n j).2)
include k0 k2 k3
theorem step_no (h : F i j = false) : bm = (foldP F i n (j + 1)).1 ∧ bc = (foldP F i n (j + 1)).2 := by
  rw [foldP_next k0, stepP, if_neg (by rw [h]; decide)]; exact ⟨k2, k3⟩
variable (h : F i j = true) (hj : joinP (partP F (i + 1) j) (partP F (j + 1) n) = (A, B))
include h hj
omit k3 in
theorem step_gt (h4 : bm < A) : A = (foldP F i n (j + 1)).1 ∧ B = (foldP F i n (j + 1)).2 := by
  rw [foldP_next k0, stepP, if_pos h, hj, cmb, if_pos (by rw [← k2]; exact h4)]; exact ⟨rfl, rfl⟩
theorem step_eq (h4 : ¬ bm < A) (h5 : A = bm) : bm = (foldP F i n (j + 1)).1 ∧ bc + B = (foldP F i n (j + 1)).2 := by
  rw [foldP_next k0, stepP, if_pos h, hj, cmb, if_neg (by rw [← k2]; exact h4), if_pos (by rw [← k2]; exact h5), ← k2, ← k3]; exact ⟨rfl, rfl⟩
theorem step_lt (h4 : ¬ bm < A) (h5 : ¬ A = bm) : bm = (foldP F i n (j + 1)).1 ∧ bc = (foldP F i n (j + 1)).2 := by
  rw [foldP_next k0, stepP, if_pos h, hj, cmb, if_neg (by rw [← k2]; exact h4), if_neg (by rw [← k2]; exact h5)]; exact ⟨k2, k3⟩
end

/-! ### the first greatest plan, as it is sought -/
def isF (F : Int → Int → Bool) (i n q : Int) : Bool := F i q && decide ((joinP (partP F (i + 1) q) (partP F (q + 1) n)).1 = (partP F i n).1)
theorem find_rng {p : Int → Bool} {j : Int} : ∀ (m : Nat) (i n : Int), (n - i).toNat = m → i ≤ j → j < n → (∀ q, i ≤ q → q < j → p q = false) → p j = true → (rng i n).find? p = some j
  | 0, i, n, h, h1, h2, _, _ => by omega
  | m + 1, i, n, h, h1, h2, hq, hj => by
    rw [rng_cons (by omega), List.find?_cons]
    by_cases e : i = j
    · subst e; rw [hj]
    · rw [hq i (Int.le_refl _) (by omega)]
      exact find_rng m (i + 1) n (by omega) (by omega) h2 (fun q q1 q2 => hq q (by omega) q2) hj
theorem firstP_found {i n j : Int} (h1 : i < j) (h2 : j < n) (hq : ∀ q, i < q → q < j → isF F i n q = false) (hj : isF F i n j = true) : firstP F i n = (i, j) :: (firstP F (i + 1) j ++ firstP F (j + 1) n) := by
  rw [firstP_eq (by omega)]
  show (match (rng (i + 1) n).find? (isF F i n) with | some j => _ | none => _) = _
  rw [find_rng (p := isF F i n) _ (i + 1) n rfl (by omega) h2 (fun q a b => hq q (by omega) b) hj]
theorem firstP_none {i n : Int} (h : i < n) (hq : ∀ q, i < q → q < n → isF F i n q = false) : firstP F i n = firstP F (i + 1) n := by
  rw [firstP_eq h]
  have : (rng (i + 1) n).find? (isF F i n) = none := List.find?_eq_none.2 fun q hm => by
    rw [rng_mem] at hm
    rw [hq q (by omega) (by omega)]; decide
  show (match (rng (i + 1) n).find? (isF F i n) with | some j => _ | none => _) = _
  rw [this]
theorem firstP_len' : ∀ (m : Nat) (i n : Int), (n - i).toNat ≤ m → i ≤ n → ((firstP F i n).length : Int) ≤ n - i
  | 0, i, n, h, h1 => by rw [firstP_nil (by omega)]; show (0 : Int) ≤ _; omega
  | m + 1, i, n, h, h1 => by
    by_cases hn : n ≤ i
    · rw [firstP_nil hn]; show (0 : Int) ≤ _; omega
    · rw [firstP_eq (by omega)]
      split
      · rename_i j hf
        have hj := rng_mem.1 (List.mem_of_find?_eq_some hf)
        have a := firstP_len' m (i + 1) j (by omega) (by omega)
        have b := firstP_len' m (j + 1) n (by omega) (by omega)
        simp only [List.length_cons, List.length_append]
        omega
      · have := firstP_len' m (i + 1) n (by omega) (by omega)
        omega
theorem firstP_len {i n : Int} (h : i ≤ n) : ((firstP F i n).length : Int) ≤ n - i := firstP_len' _ i n (Nat.le_refl _) h
theorem isF_iff {s : ByteArray} {T : Tab} (h : TabOK s T) {i j n : Int} (i0 : 0 ≤ i) (h1 : i < j) (h2 : j < n) (h3 : n ≤ s.size) : isF (fitR s) i n j = true ↔ fitR s i j = true ∧ (T (i + 1) j).1 + (T (j + 1) n).1 + 1 = (T i n).1 := by
  rw [isF, Bool.and_eq_true, decide_eq_true_eq, h.2 (i + 1) j (by omega) (by omega) (by omega), h.2 (j + 1) n (by omega) (by omega) h3, h.2 i n i0 (by omega) h3]; rfl
theorem isF_no {s : ByteArray} {T : Tab} (h : TabOK s T) {i j n : Int} (i0 : 0 ≤ i) (h1 : i < j) (h2 : j < n) (h3 : n ≤ s.size) (hc : fitR s i j = false ∨ ¬ (T (i + 1) j).1 + (T (j + 1) n).1 + 1 = (T i n).1) : isF (fitR s) i n j = false := by
  rw [← Bool.not_eq_true, isF_iff h i0 h1 h2 h3]
  rintro ⟨a, b⟩
  rcases hc with hc | hc
  · rw [a] at hc; cases hc
  · exact hc b
end Go.Proofs.YtokdjjebnomciaaDoor

namespace Go.Proofs.YtokdjjebnomciaaDoor
open Go.Wk Go

/-- The part that is the whole rim. -/
def allV (s : ByteArray) : Int × Int := partP (fitR s) 0 s.size
def mostV (s : ByteArray) : Int := if rimE s = 0 then (allV s).1 else 0
def countV (s : ByteArray) : Int := if rimE s = 0 then (allV s).2 else 0
def firstV (s : ByteArray) : List Join := if rimE s = 0 then firstP (fitR s) 0 s.size else []
theorem TabOK.all {s : ByteArray} {T : Tab} (h : TabOK s T) : T 0 s.size = allV s := h.2 0 s.size (Int.le_refl _) (by omega) (Int.le_refl _)
end Go.Proofs.YtokdjjebnomciaaDoor

namespace Go.Proofs.YtokdjjebnomciaaDoor
open Go.Wk Go

variable {F : Int → Int → Bool}
theorem plansR_fuel (F : Int → Int → Bool) (n least : Int) : ∀ (m k : Nat) (begun : List Join) (frm : Int), (n - frm).toNat ≤ m → (n - frm).toNat ≤ k → plansR F n least m begun frm = plansR F n least k begun frm
  | 0, 0, _, _, _, _ => rfl
  | 0, k + 1, begun, frm, h, _ => by rw [plansR, plansR, rng_nil (by omega)]; rfl
  | m + 1, 0, begun, frm, _, h => by rw [plansR, plansR, rng_nil (by omega)]; rfl
  | m + 1, k + 1, begun, frm, h1, h2 => by
    rw [plansR, plansR]
    split
    · rfl
    · congr 1
      refine flatMap_congr' fun i hi => ?_
      rw [rng_mem] at hi
      split
      · rfl
      · refine flatMap_congr' fun j hj => ?_
        rw [plansR_fuel F n least m k _ (i + 1) (by omega) (by omega)]
def PR (F : Int → Int → Bool) (n least : Int) (begun : List Join) (frm : Int) : List (List Join) := plansR F n least (n - frm).toNat begun frm
def inR (F : Int → Int → Bool) (n least : Int) (begun : List Join) (i j0 : Int) : List (List Join) := (rng j0 n).flatMap fun j => if goesB F begun i j = true then PR F n least (begun ++ [(i, j)]) (i + 1) else []
def outR (F : Int → Int → Bool) (n least : Int) (begun : List Join) (i0 : Int) : List (List Join) := (rng i0 n).flatMap fun i => if usedB begun i = true then [] else inR F n least begun i (i + 1)
def tailR (least : Int) (begun : List Join) : List (List Join) := if least ≤ begun.length then [begun] else []
section
variable {n least : Int} {begun : List Join}
theorem PR_cut {frm : Int} (h : (begun.length : Int) + (n - frm) / 2 < least) : PR F n least begun frm = [] := by
  rw [PR]
  cases (n - frm).toNat with
  | zero => rw [plansR, if_pos h]
  | succ m => rw [plansR, if_pos h]
theorem PR_eq {frm : Int} (h : ¬ (begun.length : Int) + (n - frm) / 2 < least) : PR F n least begun frm = outR F n least begun frm ++ tailR least begun := by
  rw [PR]
  cases hm : (n - frm).toNat with
  | zero => rw [plansR, if_neg h, outR, rng_nil (by omega)]; rfl
  | succ m =>
    rw [plansR, if_neg h, outR, tailR]
    congr 1
    refine flatMap_congr' fun i hi => ?_
    rw [rng_mem] at hi
    split
    · rfl
    · rw [inR]
      refine flatMap_congr' fun j hj => ?_
      rw [PR, plansR_fuel F n least m (n - (i + 1)).toNat _ (i + 1) (by omega) (by omega)]
theorem outR_end {i : Int} (h : n ≤ i) : outR F n least begun i = [] := by rw [outR, rng_nil h]; rfl
theorem outR_next {i : Int} (h : i < n) : outR F n least begun i = (if usedB begun i = true then [] else inR F n least begun i (i + 1)) ++ outR F n least begun (i + 1) := by
  rw [outR, rng_cons h, List.flatMap_cons]; rfl
theorem inR_end {i j : Int} (h : n ≤ j) : inR F n least begun i j = [] := by rw [inR, rng_nil h]; rfl
theorem inR_next {i j : Int} (h : j < n) : inR F n least begun i j = (if goesB F begun i j = true then PR F n least (begun ++ [(i, j)]) (i + 1) else []) ++ inR F n least begun i (j + 1) := by
  rw [inR, rng_cons h, List.flatMap_cons]; rfl
end
theorem inner_done {F : Int → Int → Bool} {n least i j : Int} {begun : List Join} (c : ¬ j < n ∨ usedB begun i = true) : (if usedB begun i = true then [] else inR F n least begun i j) = [] := by
  split
  · rfl
  · rename_i h
    rcases c with c | c
    · exact inR_end (by omega)
    · exact absurd c h
theorem goes_yes {F : Int → Int → Bool} {begun : List Join} {i j : Int} (c : (F i j = true ∧ usedB begun j = false) ∧ crossesB begun (i, j) = false) : goesB F begun i j = true := by rw [goesB, c.1.1, c.1.2, c.2]; rfl
theorem goes_no {F : Int → Int → Bool} {begun : List Join} {i j : Int} (c : (F i j = false ∨ usedB begun j = true) ∨ crossesB begun (i, j) = true) : ¬ goesB F begun i j = true := by
  rw [goesB]
  rcases c with (c | c) | c <;> rw [c] <;> simp
def facN : Nat → Nat
  | 0 => 1
  | m + 1 => (m + 1) * facN m
theorem facN_bd : ∀ m ≤ 12, facN m ≤ 479001600 := by decide
theorem inR_len {n least : Int} {begun : List Join} {i : Int} {C : Nat} (hC : ∀ j, (PR F n least (begun ++ [(i, j)]) (i + 1)).length ≤ C) : ∀ (m : Nat) (j : Int), (n - j).toNat = m → (inR F n least begun i j).length ≤ m * C
  | 0, j, h => by rw [inR_end (by omega)]; exact Nat.zero_le _
  | m + 1, j, h => by
    rw [inR_next (by omega), List.length_append, Nat.add_mul]
    have := inR_len hC m (j + 1) (by omega)
    have h1 := hC j
    have : (if goesB F begun i j = true then PR F n least (begun ++ [(i, j)]) (i + 1) else []).length ≤ C := by
      split
      · exact h1
      · exact Nat.zero_le _
    omega
theorem outR_len {n least : Int} {begun : List Join} {M : Nat} (hP : ∀ i j, (n - (i + 1)).toNat < M → (PR F n least (begun ++ [(i, j)]) (i + 1)).length ≤ facN (n - (i + 1)).toNat) : ∀ (m : Nat) (i : Int), m ≤ M → (n - i).toNat = m → (outR F n least begun i).length + 1 ≤ facN m
  | 0, i, _, h => by rw [outR_end (by omega)]; exact Nat.le_refl 1
  | m + 1, i, hM, h => by
    rw [outR_next (by omega), List.length_append]
    have h1 := outR_len hP m (i + 1) (by omega) (by omega)
    have hm : (n - (i + 1)).toNat = m := by omega
    have h2 := inR_len (F := F) (C := facN m) (fun j => by have := hP i j (by omega); rwa [hm] at this) m (i + 1) hm
    have h3 : (if usedB begun i = true then [] else inR F n least begun i (i + 1)).length ≤ m * facN m := by
      split
      · exact Nat.zero_le _
      · exact h2
    show _ ≤ (m + 1) * facN m
    rw [Nat.add_mul, Nat.one_mul]
    omega
theorem PR_len : ∀ (M : Nat) (n least : Int) (begun : List Join) (frm : Int), (n - frm).toNat ≤ M → (PR F n least begun frm).length ≤ facN (n - frm).toNat
  | M, n, least, begun, frm, h => by
    by_cases hc : (begun.length : Int) + (n - frm) / 2 < least
    · rw [PR_cut hc]; exact Nat.zero_le _
    · rw [PR_eq hc, List.length_append]
      have hP : ∀ i j, (n - (i + 1)).toNat < M → (PR F n least (begun ++ [(i, j)]) (i + 1)).length ≤ facN (n - (i + 1)).toNat := by
        intro i j hi
        cases M with
        | zero => omega
        | succ M => exact PR_len M n least _ (i + 1) (by omega)
      have h1 := outR_len hP (n - frm).toNat frm h rfl
      have h2 : (tailR least begun).length ≤ 1 := by
        rw [tailR]
        split
        · exact Nat.le_refl 1
        · exact Nat.zero_le _
      omega
theorem PR_bd {n least : Int} {begun : List Join} {frm : Int} (h0 : 0 ≤ frm) (hn : n ≤ 12) : ((PR F n least begun frm).length : Int) ≤ 479001600 := by
  have h1 := PR_len (F := F) _ n least begun frm (Nat.le_refl _)
  have h2 := facN_bd (n - frm).toNat (by omega)
  omega

/-! ### the greatest ones -/
def greatV (s : ByteArray) : List (List Join) := (plansP (fitR s) 0 s.size).filter fun r => decide ((allV s).1 ≤ r.length)
theorem PR_all {n least : Int} (hn : 0 ≤ n) : PR F n least [] 0 = (plansP F 0 n).filter fun r => decide (least ≤ r.length) := by
  rw [PR, Int.sub_zero, plansR_eq hn]
theorem all_best (s : ByteArray) : Best (plansP (fitR s) 0 s.size) (allV s) := best_all _ _ _
theorem most_half (s : ByteArray) : 0 ≤ (allV s).1 ∧ 2 * (allV s).1 ≤ s.size := by
  obtain ⟨⟨p, h1, h2⟩, _, _⟩ := all_best s
  have := plan_len (by omega) (mem_plans.1 h1)
  omega
/-- The number of joins of which there are plans is the greatest one, if none has one more. -/
theorem great_found {s : ByteArray} {m : Int} (h0 : (allV s).1 ≤ m) (hne : PR (fitR s) s.size m [] 0 ≠ []) : m = (allV s).1 := by
  rw [PR_all (by omega)] at hne
  obtain ⟨p, hp⟩ := List.exists_mem_of_ne_nil _ hne
  rw [List.mem_filter, decide_eq_true_eq] at hp
  have := (all_best s).2.1 p hp.1
  omega
theorem great_empty {s : ByteArray} {m : Int} (h0 : (allV s).1 ≤ m) (he : PR (fitR s) s.size m [] 0 = []) : (allV s).1 ≤ m - 1 := by
  obtain ⟨⟨p, h1, h2⟩, _, _⟩ := all_best s
  by_cases h : m = (allV s).1
  · subst h
    rw [PR_all (by omega)] at he
    have : p ∈ (plansP (fitR s) 0 s.size).filter fun r => decide ((allV s).1 ≤ r.length) := List.mem_filter.2 ⟨h1, decide_eq_true (by omega)⟩
    rw [he] at this
    cases this
  · omega
theorem great_is (s : ByteArray) : greatV s = (plansP (fitR s) 0 s.size).filter fun r => decide ((r.length : Int) = (allV s).1) := by
  rw [greatV]
  refine List.filter_congr fun r hr => ?_
  have := (all_best s).2.1 r hr
  congr 1
  simp only [eq_iff_iff]
  omega
theorem great_len (s : ByteArray) : ((greatV s).length : Int) = (allV s).2 := by
  rw [great_is, ← List.countP_eq_length_filter, (all_best s).2.2]
theorem great_head (s : ByteArray) : (greatV s).head? = some (firstP (fitR s) 0 s.size) := by
  rw [great_is, List.head?_filter]
  exact first_all (fitR s) 0 s.size
theorem great_first (s : ByteArray) : ix [] (greatV s) 0 = firstP (fitR s) 0 s.size := by
  have := great_head s
  cases hg : greatV s with
  | nil => rw [hg] at this; cases this
  | cons a b => rw [hg] at this; exact Option.some.inj this
end Go.Proofs.YtokdjjebnomciaaDoor

namespace Go.Proofs.YtokdjjebnomciaaDoor
open Go.Wk Go

def hasB (l : List Join) (x : Join) : Bool := l.any fun y => decide (y.1 = x.1) && decide (y.2 = x.2)
def forcedR (s : ByteArray) : List Join := (firstP (fitR s) 0 s.size).filter fun x => (greatV s).all fun p => hasB p x
def forcedV (s : ByteArray) : List Join := if rimE s = 0 then forcedR s else []
theorem hasB_iff {l : List Join} {x : Join} : hasB l x = true ↔ x ∈ l := by
  simp only [hasB, List.any_eq_true, Bool.and_eq_true, decide_eq_true_eq]
  exact ⟨fun ⟨y, hy, h1, h2⟩ => by rw [show x = y from Prod.ext h1.symm h2.symm]; exact hy, fun h => ⟨x, h, rfl, rfl⟩⟩
section
variable {l : List Join} {k : Int} {x : Join} (h0 : 0 ≤ k)
include h0
theorem hasB_yes (h1 : k < l.length) (h2 : hasB (l.drop k.toNat) x = hasB l x) (h : (ix (0, 0) l k).1 = x.1 ∧ (ix (0, 0) l k).2 = x.2) : hasB l x = true := by
  rw [← h2, drop_ix (d := (0, 0)) h0 h1, hasB, List.any_cons, decide_eq_true h.1, decide_eq_true h.2]; rfl
theorem hasB_no (h1 : k < l.length) (h2 : hasB (l.drop k.toNat) x = hasB l x) (h : ¬ (ix (0, 0) l k).1 = x.1 ∨ ¬ (ix (0, 0) l k).2 = x.2) : hasB (l.drop (k + 1).toNat) x = hasB l x := by
  rw [← h2, drop_ix (d := (0, 0)) h0 h1, hasB, hasB, List.any_cons]
  have : (decide ((ix (0, 0) l k).1 = x.1) && decide ((ix (0, 0) l k).2 = x.2)) = false := by rcases h with h | h <;> simp [h]
  rw [this]; rfl
omit h0 in
theorem hasB_end (h1 : (l.length : Int) ≤ k) (h2 : hasB (l.drop k.toNat) x = hasB l x) : hasB l x = false := by rw [← h2, drop_end h1]; rfl
end
theorem filt_yes {α : Type} {f : α → Bool} {d : α} {l out z : List α} {k : Int} (h0 : 0 ≤ k) (h1 : k < l.length) (h2 : out ++ (l.drop k.toNat).filter f = z) (h : f (ix d l k) = true) : (out ++ [ix d l k]) ++ (l.drop (k + 1).toNat).filter f = z := by
  rw [← h2, drop_ix (d := d) h0 h1, List.filter_cons, if_pos h, List.append_assoc]; rfl
theorem filt_no {α : Type} {f : α → Bool} {d : α} {l out z : List α} {k : Int} (h0 : 0 ≤ k) (h1 : k < l.length) (h2 : out ++ (l.drop k.toNat).filter f = z) (h : ¬ f (ix d l k) = true) : out ++ (l.drop (k + 1).toNat).filter f = z := by
  rw [← h2, drop_ix (d := d) h0 h1, List.filter_cons, if_neg h]
theorem filt_end {α : Type} {f : α → Bool} {l out z : List α} {k : Int} (h1 : (l.length : Int) ≤ k) (h2 : out ++ (l.drop k.toNat).filter f = z) : z = out := by
  rw [← h2, drop_end h1]; simp
theorem all_step {α : Type} {f : α → Bool} {d : α} {l : List α} {i : Int} {al b : Bool} (h0 : 0 ≤ i) (h1 : i < l.length) (h2 : (al && (l.drop i.toNat).all f) = b) : ((al && f (ix d l i)) && (l.drop (i + 1).toNat).all f) = b := by
  rw [← h2, drop_ix (d := d) h0 h1, List.all_cons, Bool.and_assoc]
theorem all_end {α : Type} {f : α → Bool} {l : List α} {i : Int} {al b : Bool} (h1 : (l.length : Int) ≤ i) (h2 : (al && (l.drop i.toNat).all f) = b) : b = al := by
  rw [← h2, drop_end h1]; simp
end Go.Proofs.YtokdjjebnomciaaDoor

namespace Go.Proofs.YtokdjjebnomciaaDoor
open Go.Wk Go

abbrev Tk := List Join × List Int
def topI (l : List Int) : Int := ix 0 l (l.length - 1)
def stepS (s : ByteArray) (a : Tk) (j : Int) : Tk := if 0 < a.2.length ∧ fitR s (topI a.2) j = true then (a.1 ++ [(topI a.2, j)], a.2.take ((a.2.length : Int) - 1).toNat) else (a.1, a.2 ++ [j])
def runS (s : ByteArray) (a : Tk) (rest : List Int) : Tk := rest.foldl (stepS s) a
def takS (s : ByteArray) : Tk := runS s ([], []) (rng 0 s.size)
variable {s : ByteArray} {st : List Join} {lf : List Int}
theorem runS_cons {a : Tk} {j : Int} {r : List Int} : runS s a (j :: r) = runS s (stepS s a j) r := rfl
theorem stepS_yes {j : Int} (h : 0 < (lf.length : Int)) (hf : fitR s (ix 0 lf ((lf.length : Int) - 1)) j = true) : stepS s (st, lf) j = (st ++ [(ix 0 lf ((lf.length : Int) - 1), j)], lf.take ((lf.length : Int) - 1).toNat) :=
  if_pos ⟨by show 0 < lf.length; omega, hf⟩
theorem stepS_no {j : Int} (h : ¬ 0 < (lf.length : Int) ∨ fitR s (ix 0 lf ((lf.length : Int) - 1)) j = false) : stepS s (st, lf) j = (st, lf ++ [j]) := by
  refine if_neg ?_
  rintro ⟨h1, h2⟩
  rcases h with h | h
  · have : 0 < lf.length := h1; omega
  · have h2 : fitR s (ix 0 lf ((lf.length : Int) - 1)) j = true := h2
    rw [h2] at h; cases h

/-! ### the reference's way -/
theorem ix_app {α : Type} {d : α} {p q : List α} {k : Int} (h : k = p.length) {x : α} : ix d (p ++ x :: q) k = x := by
  subst h
  rw [ix, Int.toNat_natCast, List.getD_eq_getElem?_getD, List.getElem?_append_right (Nat.le_refl _), Nat.sub_self]; rfl
theorem take_len {α : Type} {l : List α} {k : Int} (h0 : 0 ≤ k) (h1 : k ≤ l.length) : ((l.take k.toNat).length : Int) = k := by
  rw [List.length_take]; omega
/-- An element that does not fit the one before it is laid on what is left. -/
theorem runS_not {left : List Int} {k : Int} (h0 : 0 ≤ k) (h1 : k + 1 < left.length) (hf : fitR s (ix 0 left k) (ix 0 left (k + 1)) = false) :
    runS s (st, left.take (k + 1 + 1).toNat) (left.drop (k + 1 + 1).toNat) = runS s (st, left.take (k + 1).toNat) (left.drop (k + 1).toNat) := by
  have hl := take_len (l := left) (k := k + 1) (by omega) (by omega)
  rw [drop_ix (d := 0) (n := k + 1) (by omega) h1, runS_cons, stepS_no, take_ix (d := 0) (by omega) h1]
  refine .inr ?_
  rw [hl, show k + 1 - 1 = k by omega, ix_take h0 (by omega)]; exact hf
theorem runS_push {left : List Int} {k : Int} (hI : ∀ q, 0 ≤ q → q < k → fitR s (ix 0 left q) (ix 0 left (q + 1)) = false) (r : List Int) : ∀ (m : Nat) (q : Int), (k - q).toNat = m → 0 ≤ q → q ≤ k → k < left.length →
    runS s (st, left.take (q + 1).toNat) ((left.take (k + 1).toNat).drop (q + 1).toNat ++ r) = runS s (st, left.take (k + 1).toNat) r
  | 0, q, h, h0, h1, h2 => by
    rw [show q = k by omega, List.drop_eq_nil_of_le (by rw [List.length_take]; omega)]; rfl
  | m + 1, q, h, h0, h1, h2 => by
    have hl := take_len (l := left) (k := k + 1) (by omega) (by omega)
    have hl2 := take_len (l := left) (k := q + 1) (by omega) (by omega)
    rw [drop_ix (d := 0) (n := q + 1) (by omega) (by omega), List.cons_append, runS_cons, stepS_no, ix_take (by omega) (by omega), ← take_ix (d := 0) (by omega) (by omega)]
    · exact runS_push hI r m (q + 1) (by omega) (by omega) (by omega) h2
    · refine .inr ?_
      rw [hl2, show q + 1 - 1 = q by omega, ix_take h0 (by omega), ix_take (by omega) (by omega)]
      exact hI q h0 (by omega)
/-- The first two neighbours that fit are taken away. -/
theorem runS_fit {left : List Int} {k : Int} (h0 : 0 ≤ k) (h1 : k + 1 < left.length) (hI : ∀ q, 0 ≤ q → q < k → fitR s (ix 0 left q) (ix 0 left (q + 1)) = false) (hf : fitR s (ix 0 left k) (ix 0 left (k + 1)) = true) :
    runS s (st ++ [(ix 0 left k, ix 0 left (k + 1))], (left.take k.toNat ++ left.drop (k + 2).toNat).take ((0 : Int) + 1).toNat) ((left.take k.toNat ++ left.drop (k + 2).toNat).drop ((0 : Int) + 1).toNat) = runS s (st, left.take (k + 1).toNat) (left.drop (k + 1).toNat) := by
  have hl := take_len (l := left) (k := k + 1) (by omega) (by omega)
  rw [drop_ix (d := 0) (n := k + 1) (by omega) h1, runS_cons (a := (st, left.take (k + 1).toNat)), stepS_yes (by omega) (by rw [hl, show k + 1 - 1 = k by omega, ix_take h0 (by omega)]; exact hf), hl, show k + 1 - 1 = k by omega, ix_take h0 (by omega), List.take_take, show min k.toNat (k + 1).toNat = k.toNat by omega, show k + 1 + 1 = k + 2 by omega]
  by_cases hk : k = 0
  · subst hk
    rw [show (0 : Int).toNat = 0 from rfl, List.take_zero, List.nil_append]
    cases left.drop (0 + 2 : Int).toNat with
    | nil => rfl
    | cons x r =>
      rw [runS_cons, stepS_no (.inl (by decide))]; rfl
  · have hlk := take_len (l := left) (k := k) h0 (by omega)
    have e1 : (left.take k.toNat ++ left.drop (k + 2).toNat).take ((0 : Int) + 1).toNat = left.take ((0 : Int) + 1).toNat := by
      rw [List.take_append_of_le_length (by omega), List.take_take]; congr 1; omega
    have e2 : (left.take k.toNat ++ left.drop (k + 2).toNat).drop ((0 : Int) + 1).toNat = (left.take k.toNat).drop ((0 : Int) + 1).toNat ++ left.drop (k + 2).toNat := List.drop_append_of_le_length (by omega)
    rw [e1, e2]
    have := runS_push (s := s) (st := st ++ [(ix 0 left k, ix 0 left (k + 1))]) (left := left) (k := k - 1) (fun q q0 q1 => hI q q0 (by omega)) (left.drop (k + 2).toNat) _ 0 rfl (Int.le_refl 0) (by omega) (by omega)
    rw [show k - 1 + 1 = k by omega] at this
    exact this
theorem runS_end {left : List Int} {k : Int} (h1 : (left.length : Int) ≤ k + 1) : runS s (st, left.take (k + 1).toNat) (left.drop (k + 1).toNat) = (st, left) := by
  rw [drop_end h1, List.take_of_length_le (by omega)]; rfl
theorem runS_start : runS s ([], (rng 0 s.size).take ((0 : Int) + 1).toNat) ((rng 0 s.size).drop ((0 : Int) + 1).toNat) = takS s := by
  rw [takS]
  cases rng 0 s.size with
  | nil => rfl
  | cons x r => rw [runS_cons, stepS_no (.inl (by decide))]; rfl
def mK (n : Nat) (k : Int) : Nat := n * 100 + 100 - k.toNat
theorem mK_one {n : Nat} {k : Int} (h : 0 ≤ k) (h1 : k ≤ 50) : mK n (k + 1) < mK n k := by rw [mK, mK]; omega
theorem mK_two {n m : Nat} {k : Int} (h : m + 2 = n) (h0 : 0 ≤ k) (h1 : k ≤ 50) : mK m 0 < mK n k := by rw [mK, mK]; omega
theorem runS_bd {s : ByteArray} {n : Int} : ∀ (rest : List Int) (st : List Join) (lf : List Int), (∀ x ∈ lf, 0 ≤ x ∧ x < n) → (∀ x ∈ rest, 0 ≤ x ∧ x < n) →
    (∀ x ∈ (runS s (st, lf) rest).2, 0 ≤ x ∧ x < n) ∧ 2 * ((runS s (st, lf) rest).1.length : Int) + (runS s (st, lf) rest).2.length = 2 * (st.length : Int) + lf.length + rest.length
  | [], st, lf, h, _ => ⟨h, by show 2 * (st.length : Int) + lf.length = 2 * (st.length : Int) + lf.length + ((0 : Nat) : Int); omega⟩
  | j :: r, st, lf, h, hr => by
    have hj := hr j (List.mem_cons_self ..)
    have hr2 : ∀ x ∈ r, 0 ≤ x ∧ x < n := fun x hx => hr x (List.mem_cons_of_mem _ hx)
    rw [runS_cons]
    by_cases hc : 0 < lf.length ∧ fitR s (topI lf) j = true
    · rw [stepS, if_pos hc]
      have := runS_bd (s := s) r (st ++ [(topI lf, j)]) (lf.take ((lf.length : Int) - 1).toNat) (fun x hx => h x (List.mem_of_mem_take hx)) hr2
      refine ⟨this.1, this.2.trans ?_⟩
      have h0 := hc.1
      simp only [List.length_append, List.length_take, List.length_cons, List.length_nil]
      omega
    · rw [stepS, if_neg hc]
      have := runS_bd (s := s) r st (lf ++ [j]) (fun x hx => by
        rcases List.mem_append.1 hx with hx | hx
        · exact h x hx
        · rw [List.mem_singleton] at hx; subst hx; exact hj) hr2
      refine ⟨this.1, this.2.trans ?_⟩
      simp only [List.length_append, List.length_cons, List.length_nil]
      omega
theorem rng_len {i n : Int} (h : i ≤ n) : ((rng i n).length : Int) = n - i := by rw [rng, List.length_map, List.length_range]; omega
theorem takS_bd {s : ByteArray} : (∀ x ∈ (takS s).2, 0 ≤ x ∧ x < s.size) ∧ 2 * ((takS s).1.length : Int) + (takS s).2.length = s.size := by
  have := runS_bd (s := s) (n := s.size) (rng 0 s.size) [] [] (by simp) (fun x hx => by rw [rng_mem] at hx; exact hx)
  refine ⟨this.1, this.2.trans ?_⟩
  rw [rng_len (by omega)]
  simp
end Go.Proofs.YtokdjjebnomciaaDoor

namespace Go.Proofs
open Go.Shelf
def Tryd.lays169_ren : Go.Shelf.Ren := ⟨fun | 169 => 95 | n => n, fun | 70 => 114 | 9 => 9 | 0 => 0 | 72 => 116 | 37 => 102 | 127 => 136 | 3 => 3 | 5 => 5 | n => n, fun | n => n⟩
theorem Tryd.lays169 : Go.Proofs.Lays.n169 Tryd.prog Tryd.lays169_ren := {
  mixed := by kernel_rfl
  f169 := Tryd.func95.trans (congrArg some (by kernel_rfl))
  t0 := Tryd.underlying0
  a0 := Tryd.isAgg0
  z0 := Tryd.sizeOf0
  v0 := Tryd.zeroValue0
  t3 := Tryd.underlying3
  a3 := Tryd.isAgg3
  z3 := Tryd.sizeOf3
  v3 := Tryd.zeroValue3
  t9 := Tryd.underlying9
  a9 := Tryd.isAgg9
  z9 := Tryd.sizeOf9
  v9 := Tryd.zeroValue9
  t37 := Tryd.underlying102
  a37 := Tryd.isAgg102
  z37 := Tryd.sizeOf102
  v37 := Tryd.zeroValue102
  t70 := Tryd.underlying114
  a70 := Tryd.isAgg114
  z70 := Tryd.sizeOf114
  v70 := Tryd.zeroValue114
  t72 := Tryd.underlying116
  a72 := Tryd.isAgg116
  z72 := Tryd.sizeOf116
  v72 := Tryd.zeroValue116
  t127 := Tryd.underlying136
  a127 := Tryd.isAgg136
  z127 := Tryd.sizeOf136
  v127 := Tryd.zeroValue136 }
theorem Tryd.Builder_Extra_169 : Builder.Extra Tryd.prog Tryd.lays169_ren := {
  sizeBuilder := by kernel_rfl
  liesBuilder := by kernel_rfl
  t5 := Tryd.underlying5
  a5 := Tryd.isAgg5
  z5 := Tryd.sizeOf5
  v5 := Tryd.zeroValue5
  infoByte := by kernel_rfl
  cellsByte := by kernel_rfl
  sizeByte := by kernel_rfl
  neB5 := by decide }
def Tryd.lays158_ren : Go.Shelf.Ren := ⟨fun | 158 => 85 | 165 => 98 | 166 => 99 | 167 => 94 | 169 => 95 | 230 => 78 | 203 => 104 | 240 => 113 | 241 => 115 | 197 => 96 | 118 => 97 | 168 => 100 | 270 => 101 | 262 => 118 | 276 => 131 | 277 => 132 | 260 => 114 | 242 => 116 | 313 => 136 | 278 => 133 | 274 => 144 | 275 => 145 | n => n, fun | 9 => 9 | 4 => 4 | 3 => 3 | 5 => 5 | 72 => 116 | 0 => 0 | 76 => 125 | 75 => 118 | 107 => 100 | 70 => 114 | 20 => 20 | 37 => 102 | 127 => 136 | 21 => 21 | 105 => 121 | 164 => 154 | 162 => 173 | 203 => 171 | 119 => 139 | 46 => 133 | 139 => 158 | 138 => 157 | 51 => 138 | 160 => 184 | 208 => 193 | 206 => 191 | 80 => 120 | n => n, fun | 13 => 5 | 3 => 3 | 4 => 4 | n => n⟩
theorem Tryd.lays158 : Go.Proofs.Lays.n158 Tryd.prog Tryd.lays158_ren := {
  mixed := by kernel_rfl
  f118 := Tryd.func97.trans (congrArg some (by kernel_rfl))
  f158 := Tryd.func85.trans (congrArg some (by kernel_rfl))
  f165 := Tryd.func98.trans (congrArg some (by kernel_rfl))
  f166 := Tryd.func99.trans (congrArg some (by kernel_rfl))
  f167 := Tryd.func94.trans (congrArg some (by kernel_rfl))
  f168 := Tryd.func100.trans (congrArg some (by kernel_rfl))
  f169 := Tryd.func95.trans (congrArg some (by kernel_rfl))
  f197 := Tryd.func96.trans (congrArg some (by kernel_rfl))
  f203 := Tryd.func104.trans (congrArg some (by kernel_rfl))
  f230 := Tryd.func78.trans (congrArg some (by kernel_rfl))
  f240 := Tryd.func113.trans (congrArg some (by kernel_rfl))
  f241 := Tryd.func115.trans (congrArg some (by kernel_rfl))
  f242 := Tryd.func116.trans (congrArg some (by kernel_rfl))
  f260 := Tryd.func114.trans (congrArg some (by kernel_rfl))
  f262 := Tryd.func118.trans (congrArg some (by kernel_rfl))
  f270 := Tryd.func101.trans (congrArg some (by kernel_rfl))
  f274 := Tryd.func144.trans (congrArg some (by kernel_rfl))
  f275 := Tryd.func145.trans (congrArg some (by kernel_rfl))
  f276 := Tryd.func131.trans (congrArg some (by kernel_rfl))
  f277 := Tryd.func132.trans (congrArg some (by kernel_rfl))
  f278 := Tryd.func133.trans (congrArg some (by kernel_rfl))
  f313 := Tryd.func136.trans (congrArg some (by kernel_rfl))
  t0 := Tryd.underlying0
  a0 := Tryd.isAgg0
  z0 := Tryd.sizeOf0
  v0 := Tryd.zeroValue0
  t3 := Tryd.underlying3
  a3 := Tryd.isAgg3
  z3 := Tryd.sizeOf3
  v3 := Tryd.zeroValue3
  t4 := Tryd.underlying4
  a4 := Tryd.isAgg4
  z4 := Tryd.sizeOf4
  v4 := Tryd.zeroValue4
  t5 := Tryd.underlying5
  a5 := Tryd.isAgg5
  z5 := Tryd.sizeOf5
  v5 := Tryd.zeroValue5
  t9 := Tryd.underlying9
  a9 := Tryd.isAgg9
  z9 := Tryd.sizeOf9
  v9 := Tryd.zeroValue9
  t20 := Tryd.underlying20
  a20 := Tryd.isAgg20
  z20 := Tryd.sizeOf20
  v20 := Tryd.zeroValue20
  t21 := Tryd.underlying21
  a21 := Tryd.isAgg21
  z21 := Tryd.sizeOf21
  v21 := Tryd.zeroValue21
  t37 := Tryd.underlying102
  a37 := Tryd.isAgg102
  z37 := Tryd.sizeOf102
  v37 := Tryd.zeroValue102
  t46 := Tryd.underlying133
  a46 := Tryd.isAgg133
  z46 := Tryd.sizeOf133
  v46 := Tryd.zeroValue133
  t51 := Tryd.underlying138
  a51 := Tryd.isAgg138
  z51 := Tryd.sizeOf138
  v51 := Tryd.zeroValue138
  t70 := Tryd.underlying114
  a70 := Tryd.isAgg114
  z70 := Tryd.sizeOf114
  v70 := Tryd.zeroValue114
  t72 := Tryd.underlying116
  a72 := Tryd.isAgg116
  z72 := Tryd.sizeOf116
  v72 := Tryd.zeroValue116
  t75 := Tryd.underlying118
  a75 := Tryd.isAgg118
  z75 := Tryd.sizeOf118
  v75 := Tryd.zeroValue118
  t76 := Tryd.underlying125
  a76 := Tryd.isAgg125
  z76 := Tryd.sizeOf125
  v76 := Tryd.zeroValue125
  t105 := Tryd.underlying121
  a105 := Tryd.isAgg121
  z105 := Tryd.sizeOf121
  v105 := Tryd.zeroValue121
  t107 := Tryd.underlying100
  a107 := Tryd.isAgg100
  z107 := Tryd.sizeOf100
  v107 := Tryd.zeroValue100
  t119 := Tryd.underlying139
  a119 := Tryd.isAgg139
  z119 := Tryd.sizeOf139
  t127 := Tryd.underlying136
  a127 := Tryd.isAgg136
  z127 := Tryd.sizeOf136
  v127 := Tryd.zeroValue136
  t138 := Tryd.underlying157
  a138 := Tryd.isAgg157
  z138 := Tryd.sizeOf157
  v138 := Tryd.zeroValue157
  t139 := Tryd.underlying158
  a139 := Tryd.isAgg158
  z139 := Tryd.sizeOf158
  v139 := Tryd.zeroValue158
  t160 := Tryd.underlying184
  a160 := Tryd.isAgg184
  z160 := Tryd.sizeOf184
  v160 := Tryd.zeroValue184
  t162 := Tryd.underlying173
  a162 := Tryd.isAgg173
  z162 := Tryd.sizeOf173
  v162 := Tryd.zeroValue173
  t164 := Tryd.underlying154
  a164 := Tryd.isAgg154
  z164 := Tryd.sizeOf154
  v164 := Tryd.zeroValue154
  t203 := Tryd.underlying171
  a203 := Tryd.isAgg171
  z203 := Tryd.sizeOf171
  v203 := Tryd.zeroValue171
  t206 := Tryd.underlying191
  a206 := Tryd.isAgg191
  z206 := Tryd.sizeOf191
  v206 := Tryd.zeroValue191
  t208 := Tryd.underlying193
  a208 := Tryd.isAgg193
  z208 := Tryd.sizeOf193
  v208 := Tryd.zeroValue193
  g3 := by kernel_rfl
  g4 := by kernel_rfl
  g13 := by kernel_rfl }
theorem Tryd.Builder_Extra_158 : Builder.Extra Tryd.prog Tryd.lays158_ren := {
  sizeBuilder := by kernel_rfl
  liesBuilder := by kernel_rfl
  t5 := Tryd.underlying5
  a5 := Tryd.isAgg5
  z5 := Tryd.sizeOf5
  v5 := Tryd.zeroValue5
  infoByte := by kernel_rfl
  cellsByte := by kernel_rfl
  sizeByte := by kernel_rfl
  neB5 := by decide }
open Go.RowKit in
theorem Tryd.strings_ToUpper_ascii (s : ByteArray) (w : World) (hs : s.size ≤ 140737488355328) (hascii : ∀ (j : Nat) (b : UInt8), s.data.toList[j]? = some b → b.toNat < 128) :
    Calls Tryd.prog 85 #[.string s] w fun e w' => e = .returned (.string ⟨(Lib.toUpperA s.data.toList).toArray⟩) ∧ Below w.heap.size w w' := Any.strings_ToUpper_ascii Tryd.lays158 Tryd.Builder_Extra_158 s w hs hascii
def Tryd.lays159_ren : Go.Shelf.Ren := ⟨fun | 159 => 86 | 165 => 98 | 166 => 99 | 167 => 94 | 169 => 95 | 230 => 78 | 204 => 103 | 240 => 113 | 241 => 115 | 197 => 96 | 118 => 97 | 168 => 100 | 270 => 101 | 262 => 118 | 276 => 131 | 277 => 132 | 260 => 114 | 242 => 116 | 313 => 136 | 278 => 133 | 274 => 144 | 275 => 145 | n => n, fun | 9 => 9 | 4 => 4 | 3 => 3 | 5 => 5 | 72 => 116 | 0 => 0 | 76 => 125 | 75 => 118 | 107 => 100 | 70 => 114 | 20 => 20 | 37 => 102 | 127 => 136 | 21 => 21 | 105 => 121 | 164 => 154 | 162 => 173 | 203 => 171 | 119 => 139 | 46 => 133 | 139 => 158 | 138 => 157 | 51 => 138 | 160 => 184 | 208 => 193 | 206 => 191 | 80 => 120 | n => n, fun | 13 => 5 | 3 => 3 | 4 => 4 | n => n⟩
theorem Tryd.lays159 : Go.Proofs.Lays.n159 Tryd.prog Tryd.lays159_ren := {
  mixed := by kernel_rfl
  f118 := Tryd.func97.trans (congrArg some (by kernel_rfl))
  f159 := Tryd.func86.trans (congrArg some (by kernel_rfl))
  f165 := Tryd.func98.trans (congrArg some (by kernel_rfl))
  f166 := Tryd.func99.trans (congrArg some (by kernel_rfl))
  f167 := Tryd.func94.trans (congrArg some (by kernel_rfl))
  f168 := Tryd.func100.trans (congrArg some (by kernel_rfl))
  f169 := Tryd.func95.trans (congrArg some (by kernel_rfl))
  f197 := Tryd.func96.trans (congrArg some (by kernel_rfl))
  f204 := Tryd.func103.trans (congrArg some (by kernel_rfl))
  f230 := Tryd.func78.trans (congrArg some (by kernel_rfl))
  f240 := Tryd.func113.trans (congrArg some (by kernel_rfl))
  f241 := Tryd.func115.trans (congrArg some (by kernel_rfl))
  f242 := Tryd.func116.trans (congrArg some (by kernel_rfl))
  f260 := Tryd.func114.trans (congrArg some (by kernel_rfl))
  f262 := Tryd.func118.trans (congrArg some (by kernel_rfl))
  f270 := Tryd.func101.trans (congrArg some (by kernel_rfl))
  f274 := Tryd.func144.trans (congrArg some (by kernel_rfl))
  f275 := Tryd.func145.trans (congrArg some (by kernel_rfl))
  f276 := Tryd.func131.trans (congrArg some (by kernel_rfl))
  f277 := Tryd.func132.trans (congrArg some (by kernel_rfl))
  f278 := Tryd.func133.trans (congrArg some (by kernel_rfl))
  f313 := Tryd.func136.trans (congrArg some (by kernel_rfl))
  t0 := Tryd.underlying0
  a0 := Tryd.isAgg0
  z0 := Tryd.sizeOf0
  v0 := Tryd.zeroValue0
  t3 := Tryd.underlying3
  a3 := Tryd.isAgg3
  z3 := Tryd.sizeOf3
  v3 := Tryd.zeroValue3
  t4 := Tryd.underlying4
  a4 := Tryd.isAgg4
  z4 := Tryd.sizeOf4
  v4 := Tryd.zeroValue4
  t5 := Tryd.underlying5
  a5 := Tryd.isAgg5
  z5 := Tryd.sizeOf5
  v5 := Tryd.zeroValue5
  t9 := Tryd.underlying9
  a9 := Tryd.isAgg9
  z9 := Tryd.sizeOf9
  v9 := Tryd.zeroValue9
  t20 := Tryd.underlying20
  a20 := Tryd.isAgg20
  z20 := Tryd.sizeOf20
  v20 := Tryd.zeroValue20
  t21 := Tryd.underlying21
  a21 := Tryd.isAgg21
  z21 := Tryd.sizeOf21
  v21 := Tryd.zeroValue21
  t37 := Tryd.underlying102
  a37 := Tryd.isAgg102
  z37 := Tryd.sizeOf102
  v37 := Tryd.zeroValue102
  t46 := Tryd.underlying133
  a46 := Tryd.isAgg133
  z46 := Tryd.sizeOf133
  v46 := Tryd.zeroValue133
  t51 := Tryd.underlying138
  a51 := Tryd.isAgg138
  z51 := Tryd.sizeOf138
  v51 := Tryd.zeroValue138
  t70 := Tryd.underlying114
  a70 := Tryd.isAgg114
  z70 := Tryd.sizeOf114
  v70 := Tryd.zeroValue114
  t72 := Tryd.underlying116
  a72 := Tryd.isAgg116
  z72 := Tryd.sizeOf116
  v72 := Tryd.zeroValue116
  t75 := Tryd.underlying118
  a75 := Tryd.isAgg118
  z75 := Tryd.sizeOf118
  v75 := Tryd.zeroValue118
  t76 := Tryd.underlying125
  a76 := Tryd.isAgg125
  z76 := Tryd.sizeOf125
  v76 := Tryd.zeroValue125
  t105 := Tryd.underlying121
  a105 := Tryd.isAgg121
  z105 := Tryd.sizeOf121
  v105 := Tryd.zeroValue121
  t107 := Tryd.underlying100
  a107 := Tryd.isAgg100
  z107 := Tryd.sizeOf100
  v107 := Tryd.zeroValue100
  t119 := Tryd.underlying139
  a119 := Tryd.isAgg139
  z119 := Tryd.sizeOf139
  t127 := Tryd.underlying136
  a127 := Tryd.isAgg136
  z127 := Tryd.sizeOf136
  v127 := Tryd.zeroValue136
  t138 := Tryd.underlying157
  a138 := Tryd.isAgg157
  z138 := Tryd.sizeOf157
  v138 := Tryd.zeroValue157
  t139 := Tryd.underlying158
  a139 := Tryd.isAgg158
  z139 := Tryd.sizeOf158
  v139 := Tryd.zeroValue158
  t160 := Tryd.underlying184
  a160 := Tryd.isAgg184
  z160 := Tryd.sizeOf184
  v160 := Tryd.zeroValue184
  t162 := Tryd.underlying173
  a162 := Tryd.isAgg173
  z162 := Tryd.sizeOf173
  v162 := Tryd.zeroValue173
  t164 := Tryd.underlying154
  a164 := Tryd.isAgg154
  z164 := Tryd.sizeOf154
  v164 := Tryd.zeroValue154
  t203 := Tryd.underlying171
  a203 := Tryd.isAgg171
  z203 := Tryd.sizeOf171
  v203 := Tryd.zeroValue171
  t206 := Tryd.underlying191
  a206 := Tryd.isAgg191
  z206 := Tryd.sizeOf191
  v206 := Tryd.zeroValue191
  t208 := Tryd.underlying193
  a208 := Tryd.isAgg193
  z208 := Tryd.sizeOf193
  v208 := Tryd.zeroValue193
  g3 := by kernel_rfl
  g4 := by kernel_rfl
  g13 := by kernel_rfl }
theorem Tryd.Builder_Extra_159 : Builder.Extra Tryd.prog Tryd.lays159_ren := {
  sizeBuilder := by kernel_rfl
  liesBuilder := by kernel_rfl
  t5 := Tryd.underlying5
  a5 := Tryd.isAgg5
  z5 := Tryd.sizeOf5
  v5 := Tryd.zeroValue5
  infoByte := by kernel_rfl
  cellsByte := by kernel_rfl
  sizeByte := by kernel_rfl
  neB5 := by decide }
open Go.RowKit in
theorem Tryd.strings_ToLower_ascii (s : ByteArray) (w : World) (hs : s.size ≤ 140737488355328) (hascii : ∀ (j : Nat) (b : UInt8), s.data.toList[j]? = some b → b.toNat < 128) :
    Calls Tryd.prog 86 #[.string s] w fun e w' => e = .returned (.string ⟨(Lib.toLowerA s.data.toList).toArray⟩) ∧ Below w.heap.size w w' := Any.strings_ToLower_ascii Tryd.lays159 Tryd.Builder_Extra_159 s w hs hascii
def Tryd.lays119_ren : Go.Shelf.Ren := ⟨fun | 119 => 110 | n => n, fun | 21 => 21 | 4 => 4 | n => n, fun | n => n⟩
theorem Tryd.lays119 : Go.Proofs.Lays.n119 Tryd.prog Tryd.lays119_ren := {
  mixed := by kernel_rfl
  f119 := Tryd.func110.trans (congrArg some (by kernel_rfl))
  t4 := Tryd.underlying4
  a4 := Tryd.isAgg4
  z4 := Tryd.sizeOf4
  v4 := Tryd.zeroValue4
  t21 := Tryd.underlying21
  a21 := Tryd.isAgg21
  z21 := Tryd.sizeOf21
  v21 := Tryd.zeroValue21 }
theorem Tryd.utf8_ValidRune (r : Int) (w : World) :
    Calls Tryd.prog 110 #[.int .i32 r] w fun e w' => e = .returned (.bool (Lib.validRune r)) ∧ w' = w := Any.utf8_ValidRune Tryd.lays119 r w
def Tryd.lays137_ren : Go.Shelf.Ren := ⟨fun | 137 => 109 | 217 => 119 | 266 => 137 | n => n, fun | 9 => 9 | 5 => 5 | 3 => 3 | n => n, fun | n => n⟩
theorem Tryd.lays137 : Go.Proofs.Lays.n137 Tryd.prog Tryd.lays137_ren := {
  mixed := by kernel_rfl
  f137 := Tryd.func109.trans (congrArg some (by kernel_rfl))
  f217 := Tryd.func119.trans (congrArg some (by kernel_rfl))
  f266 := Tryd.func137.trans (congrArg some (by kernel_rfl))
  t3 := Tryd.underlying3
  a3 := Tryd.isAgg3
  z3 := Tryd.sizeOf3
  v3 := Tryd.zeroValue3
  t5 := Tryd.underlying5
  a5 := Tryd.isAgg5
  z5 := Tryd.sizeOf5
  v5 := Tryd.zeroValue5
  t9 := Tryd.underlying9
  a9 := Tryd.isAgg9
  z9 := Tryd.sizeOf9
  v9 := Tryd.zeroValue9 }
open Go.RowKit in
theorem Tryd.strings_IndexByte (s : ByteArray) (c : Int) (w : World) :
    Calls Tryd.prog 109 #[.string s, .int .u8 c] w fun e w' => e = .returned (.int .i64 (Lib.indexByte s.data.toList c.toNat.toUInt8)) ∧ w' = w := Any.strings_IndexByte Tryd.lays137 s c w
open Go.RowKit in
theorem Tryd.Builder_String_any_f (B b : Nat) (l : List UInt8) (w : World) (h : Lib.IsBuilderF 116 5 B b (Lib.byteCells l) w) (hBw : B ≤ w.heap.size) :
    Calls Tryd.prog 95 #[.pointer (some ⟨b, 0, none⟩)] w fun e w' => e = .returned (.string ⟨l.toArray⟩) ∧ (Lib.IsBuilderF 116 5 B b (Lib.byteCells l) w' ∧ Below B w w') := Any.Builder_String_any_f Tryd.lays169 Tryd.Builder_Extra_169 B b l w h hBw
def Tryd.lays144_ren : Go.Shelf.Ren := ⟨fun | 144 => 47 | 143 => 82 | 219 => 105 | 217 => 119 | 225 => 112 | 224 => 111 | 267 => 120 | 266 => 137 | 314 => 138 | n => n, fun | 9 => 9 | 4 => 4 | 3 => 3 | 5 => 5 | 46 => 133 | 146 => 174 | 51 => 138 | n => n, fun | 1 => 2 | n => n⟩
theorem Tryd.lays144 : Go.Proofs.Lays.n144 Tryd.prog Tryd.lays144_ren := {
  mixed := by kernel_rfl
  f143 := Tryd.func82.trans (congrArg some (by kernel_rfl))
  f144 := Tryd.func47.trans (congrArg some (by kernel_rfl))
  f217 := Tryd.func119.trans (congrArg some (by kernel_rfl))
  f219 := Tryd.func105.trans (congrArg some (by kernel_rfl))
  f224 := Tryd.func111.trans (congrArg some (by kernel_rfl))
  f225 := Tryd.func112.trans (congrArg some (by kernel_rfl))
  f266 := Tryd.func137.trans (congrArg some (by kernel_rfl))
  f267 := Tryd.func120.trans (congrArg some (by kernel_rfl))
  f314 := Tryd.func138.trans (congrArg some (by kernel_rfl))
  t3 := Tryd.underlying3
  a3 := Tryd.isAgg3
  z3 := Tryd.sizeOf3
  v3 := Tryd.zeroValue3
  t4 := Tryd.underlying4
  a4 := Tryd.isAgg4
  z4 := Tryd.sizeOf4
  v4 := Tryd.zeroValue4
  t5 := Tryd.underlying5
  a5 := Tryd.isAgg5
  z5 := Tryd.sizeOf5
  v5 := Tryd.zeroValue5
  t9 := Tryd.underlying9
  a9 := Tryd.isAgg9
  z9 := Tryd.sizeOf9
  v9 := Tryd.zeroValue9
  t46 := Tryd.underlying133
  a46 := Tryd.isAgg133
  z46 := Tryd.sizeOf133
  v46 := Tryd.zeroValue133
  t51 := Tryd.underlying138
  a51 := Tryd.isAgg138
  z51 := Tryd.sizeOf138
  v51 := Tryd.zeroValue138
  t146 := Tryd.underlying174
  a146 := Tryd.isAgg174
  z146 := Tryd.sizeOf174
  v146 := Tryd.zeroValue174
  g1 := by kernel_rfl }
open Go.RowKit Go.Lib in
theorem Tryd.strings_Contains (s sub : ByteArray) (m : Int) (w : World) (hs : s.size < 4294967281) (hm : w.cell? ⟨2, 0, none⟩ = some (.int .i64 m)) :
    Calls Tryd.prog 47 #[.string s, .string sub] w fun e w' => e = .returned (.bool (Lib.contains s.data.toList sub.data.toList)) ∧ w' = w := Any.strings_Contains Tryd.lays144 s sub m w hs hm
def Tryd.laysM144_ren : Go.Shelf.Ren := ⟨fun | 144 => 47 | 143 => 82 | 219 => 105 | 217 => 119 | 225 => 112 | 224 => 111 | 267 => 120 | 266 => 137 | 314 => 138 | n => n, fun | 9 => 9 | 4 => 4 | 3 => 3 | 5 => 5 | 46 => 133 | 146 => 174 | 51 => 138 | n => n, fun | 1 => 2 | n => n⟩
theorem Tryd.laysM144 : Go.Proofs.LaysM.n144 Tryd.prog Tryd.laysM144_ren := {
  mixed := by kernel_rfl
  f143 := Tryd.func82.trans (congrArg some (by kernel_rfl))
  f144 := Tryd.func47.trans (congrArg some (by kernel_rfl))
  f217 := Tryd.func119.trans (congrArg some (by kernel_rfl))
  f219 := Tryd.func105.trans (congrArg some (by kernel_rfl))
  f224 := Tryd.func111.trans (congrArg some (by kernel_rfl))
  f225 := Tryd.func112.trans (congrArg some (by kernel_rfl))
  f266 := Tryd.func137.trans (congrArg some (by kernel_rfl))
  f267 := Tryd.func120.trans (congrArg some (by kernel_rfl))
  f314 := Tryd.func138.trans (congrArg some (by kernel_rfl))
  t3 := Tryd.underlying3
  a3 := Tryd.isAgg3
  z3 := Tryd.sizeOf3
  v3 := Tryd.zeroValue3
  t4 := Tryd.underlying4
  a4 := Tryd.isAgg4
  z4 := Tryd.sizeOf4
  v4 := Tryd.zeroValue4
  t5 := Tryd.underlying5
  a5 := Tryd.isAgg5
  z5 := Tryd.sizeOf5
  v5 := Tryd.zeroValue5
  t9 := Tryd.underlying9
  a9 := Tryd.isAgg9
  z9 := Tryd.sizeOf9
  v9 := Tryd.zeroValue9
  t46 := Tryd.underlying133
  a46 := Tryd.isAgg133
  z46 := Tryd.sizeOf133
  v46 := Tryd.zeroValue133
  t51 := Tryd.underlying138
  a51 := Tryd.isAgg138
  z51 := Tryd.sizeOf138
  v51 := Tryd.zeroValue138
  t146 := Tryd.underlying174
  a146 := Tryd.isAgg174
  z146 := Tryd.sizeOf174
  v146 := Tryd.zeroValue174
  g1 := by kernel_rfl
  i3 := by kernel_rfl
  i4 := by kernel_rfl
  i5 := by kernel_rfl
  i9 := by kernel_rfl
  i46 := by kernel_rfl
  i51 := by kernel_rfl
  i146 := by kernel_rfl
  m1 := by kernel_rfl
  s1_3 := fun w h => Go.Proofs.cell_of_shapedOpen_int (zero := #[.int .i64 0]) (t := 3) h (of_decide_eq_true (by kernel_rfl)) (by kernel_rfl) rfl (by kernel_rfl) (by kernel_rfl) Tryd.underlying3 }
def Tryd.lays203_ren : Go.Shelf.Ren := ⟨fun | 203 => 104 | 262 => 118 | 313 => 136 | 274 => 144 | 275 => 145 | n => n, fun | 21 => 21 | 4 => 4 | 3 => 3 | 162 => 173 | 203 => 171 | 160 => 184 | 46 => 133 | 0 => 0 | 208 => 193 | 51 => 138 | 206 => 191 | n => n, fun | 13 => 5 | n => n⟩
theorem Tryd.lays203 : Go.Proofs.Lays.n203 Tryd.prog Tryd.lays203_ren := {
  mixed := by kernel_rfl
  f203 := Tryd.func104.trans (congrArg some (by kernel_rfl))
  f262 := Tryd.func118.trans (congrArg some (by kernel_rfl))
  f274 := Tryd.func144.trans (congrArg some (by kernel_rfl))
  f275 := Tryd.func145.trans (congrArg some (by kernel_rfl))
  f313 := Tryd.func136.trans (congrArg some (by kernel_rfl))
  t0 := Tryd.underlying0
  a0 := Tryd.isAgg0
  z0 := Tryd.sizeOf0
  v0 := Tryd.zeroValue0
  t3 := Tryd.underlying3
  a3 := Tryd.isAgg3
  z3 := Tryd.sizeOf3
  v3 := Tryd.zeroValue3
  t4 := Tryd.underlying4
  a4 := Tryd.isAgg4
  z4 := Tryd.sizeOf4
  v4 := Tryd.zeroValue4
  t21 := Tryd.underlying21
  a21 := Tryd.isAgg21
  z21 := Tryd.sizeOf21
  v21 := Tryd.zeroValue21
  t46 := Tryd.underlying133
  a46 := Tryd.isAgg133
  z46 := Tryd.sizeOf133
  v46 := Tryd.zeroValue133
  t51 := Tryd.underlying138
  a51 := Tryd.isAgg138
  z51 := Tryd.sizeOf138
  v51 := Tryd.zeroValue138
  t160 := Tryd.underlying184
  a160 := Tryd.isAgg184
  z160 := Tryd.sizeOf184
  v160 := Tryd.zeroValue184
  t162 := Tryd.underlying173
  a162 := Tryd.isAgg173
  z162 := Tryd.sizeOf173
  v162 := Tryd.zeroValue173
  t203 := Tryd.underlying171
  a203 := Tryd.isAgg171
  z203 := Tryd.sizeOf171
  v203 := Tryd.zeroValue171
  t206 := Tryd.underlying191
  a206 := Tryd.isAgg191
  z206 := Tryd.sizeOf191
  v206 := Tryd.zeroValue191
  t208 := Tryd.underlying193
  a208 := Tryd.isAgg193
  z208 := Tryd.sizeOf193
  v208 := Tryd.zeroValue193
  g13 := by kernel_rfl }
def Tryd.lays204_ren : Go.Shelf.Ren := ⟨fun | 204 => 103 | 262 => 118 | 313 => 136 | 274 => 144 | 275 => 145 | n => n, fun | 21 => 21 | 4 => 4 | 3 => 3 | 162 => 173 | 203 => 171 | 160 => 184 | 46 => 133 | 0 => 0 | 208 => 193 | 51 => 138 | 206 => 191 | n => n, fun | 13 => 5 | n => n⟩
theorem Tryd.lays204 : Go.Proofs.Lays.n204 Tryd.prog Tryd.lays204_ren := {
  mixed := by kernel_rfl
  f204 := Tryd.func103.trans (congrArg some (by kernel_rfl))
  f262 := Tryd.func118.trans (congrArg some (by kernel_rfl))
  f274 := Tryd.func144.trans (congrArg some (by kernel_rfl))
  f275 := Tryd.func145.trans (congrArg some (by kernel_rfl))
  f313 := Tryd.func136.trans (congrArg some (by kernel_rfl))
  t0 := Tryd.underlying0
  a0 := Tryd.isAgg0
  z0 := Tryd.sizeOf0
  v0 := Tryd.zeroValue0
  t3 := Tryd.underlying3
  a3 := Tryd.isAgg3
  z3 := Tryd.sizeOf3
  v3 := Tryd.zeroValue3
  t4 := Tryd.underlying4
  a4 := Tryd.isAgg4
  z4 := Tryd.sizeOf4
  v4 := Tryd.zeroValue4
  t21 := Tryd.underlying21
  a21 := Tryd.isAgg21
  z21 := Tryd.sizeOf21
  v21 := Tryd.zeroValue21
  t46 := Tryd.underlying133
  a46 := Tryd.isAgg133
  z46 := Tryd.sizeOf133
  v46 := Tryd.zeroValue133
  t51 := Tryd.underlying138
  a51 := Tryd.isAgg138
  z51 := Tryd.sizeOf138
  v51 := Tryd.zeroValue138
  t160 := Tryd.underlying184
  a160 := Tryd.isAgg184
  z160 := Tryd.sizeOf184
  v160 := Tryd.zeroValue184
  t162 := Tryd.underlying173
  a162 := Tryd.isAgg173
  z162 := Tryd.sizeOf173
  v162 := Tryd.zeroValue173
  t203 := Tryd.underlying171
  a203 := Tryd.isAgg171
  z203 := Tryd.sizeOf171
  v203 := Tryd.zeroValue171
  t206 := Tryd.underlying191
  a206 := Tryd.isAgg191
  z206 := Tryd.sizeOf191
  v206 := Tryd.zeroValue191
  t208 := Tryd.underlying193
  a208 := Tryd.isAgg193
  z208 := Tryd.sizeOf193
  v208 := Tryd.zeroValue193
  g13 := by kernel_rfl }
def Tryd.lays201_ren : Go.Shelf.Ren := ⟨fun | 201 => 102 | 261 => 117 | 311 => 134 | 312 => 135 | n => n, fun | 21 => 21 | 4 => 4 | 51 => 138 | 5 => 5 | 119 => 139 | 0 => 0 | 141 => 141 | 196 => 163 | 193 => 160 | 3 => 3 | 198 => 166 | 49 => 164 | 194 => 161 | 201 => 169 | 226 => 182 | 46 => 133 | 227 => 183 | n => n, fun | 7 => 0 | 9 => 1 | n => n⟩
theorem Tryd.lays201 : Go.Proofs.Lays.n201 Tryd.prog Tryd.lays201_ren := {
  mixed := by kernel_rfl
  f201 := Tryd.func102.trans (congrArg some (by kernel_rfl))
  f261 := Tryd.func117.trans (congrArg some (by kernel_rfl))
  f311 := Tryd.func134.trans (congrArg some (by kernel_rfl))
  f312 := Tryd.func135.trans (congrArg some (by kernel_rfl))
  t0 := Tryd.underlying0
  a0 := Tryd.isAgg0
  z0 := Tryd.sizeOf0
  v0 := Tryd.zeroValue0
  t3 := Tryd.underlying3
  a3 := Tryd.isAgg3
  z3 := Tryd.sizeOf3
  v3 := Tryd.zeroValue3
  t4 := Tryd.underlying4
  a4 := Tryd.isAgg4
  z4 := Tryd.sizeOf4
  v4 := Tryd.zeroValue4
  t5 := Tryd.underlying5
  a5 := Tryd.isAgg5
  z5 := Tryd.sizeOf5
  v5 := Tryd.zeroValue5
  t21 := Tryd.underlying21
  a21 := Tryd.isAgg21
  z21 := Tryd.sizeOf21
  v21 := Tryd.zeroValue21
  t46 := Tryd.underlying133
  a46 := Tryd.isAgg133
  z46 := Tryd.sizeOf133
  v46 := Tryd.zeroValue133
  t49 := Tryd.underlying164
  a49 := Tryd.isAgg164
  z49 := Tryd.sizeOf164
  v49 := Tryd.zeroValue164
  t51 := Tryd.underlying138
  a51 := Tryd.isAgg138
  z51 := Tryd.sizeOf138
  v51 := Tryd.zeroValue138
  t119 := Tryd.underlying139
  a119 := Tryd.isAgg139
  z119 := Tryd.sizeOf139
  t141 := Tryd.underlying141
  a141 := Tryd.isAgg141
  z141 := Tryd.sizeOf141
  v141 := Tryd.zeroValue141
  t193 := Tryd.underlying160
  a193 := Tryd.isAgg160
  z193 := Tryd.sizeOf160
  v193 := Tryd.zeroValue160
  t194 := Tryd.underlying161
  a194 := Tryd.isAgg161
  z194 := Tryd.sizeOf161
  v194 := Tryd.zeroValue161
  t196 := Tryd.underlying163
  a196 := Tryd.isAgg163
  z196 := Tryd.sizeOf163
  v196 := Tryd.zeroValue163
  t198 := Tryd.underlying166
  a198 := Tryd.isAgg166
  z198 := Tryd.sizeOf166
  v198 := Tryd.zeroValue166
  t201 := Tryd.underlying169
  a201 := Tryd.isAgg169
  z201 := Tryd.sizeOf169
  v201 := Tryd.zeroValue169
  t226 := Tryd.underlying182
  a226 := Tryd.isAgg182
  z226 := Tryd.sizeOf182
  v226 := Tryd.zeroValue182
  t227 := Tryd.underlying183
  a227 := Tryd.isAgg183
  z227 := Tryd.sizeOf183
  v227 := Tryd.zeroValue183
  g7 := by kernel_rfl
  g9 := by kernel_rfl }
def Tryd.lays151_ren : Go.Shelf.Ren := ⟨fun | 151 => 59 | 152 => 90 | 137 => 109 | 119 => 110 | 224 => 111 | 225 => 112 | 217 => 119 | 266 => 137 | n => n, fun | 9 => 9 | 21 => 21 | 4 => 4 | 3 => 3 | 5 => 5 | 0 => 0 | 46 => 133 | n => n, fun | n => n⟩
theorem Tryd.lays151 : Go.Proofs.Lays.n151 Tryd.prog Tryd.lays151_ren := {
  mixed := by kernel_rfl
  f119 := Tryd.func110.trans (congrArg some (by kernel_rfl))
  f137 := Tryd.func109.trans (congrArg some (by kernel_rfl))
  f151 := Tryd.func59.trans (congrArg some (by kernel_rfl))
  f152 := Tryd.func90.trans (congrArg some (by kernel_rfl))
  f217 := Tryd.func119.trans (congrArg some (by kernel_rfl))
  f224 := Tryd.func111.trans (congrArg some (by kernel_rfl))
  f225 := Tryd.func112.trans (congrArg some (by kernel_rfl))
  f266 := Tryd.func137.trans (congrArg some (by kernel_rfl))
  t0 := Tryd.underlying0
  a0 := Tryd.isAgg0
  z0 := Tryd.sizeOf0
  v0 := Tryd.zeroValue0
  t3 := Tryd.underlying3
  a3 := Tryd.isAgg3
  z3 := Tryd.sizeOf3
  v3 := Tryd.zeroValue3
  t4 := Tryd.underlying4
  a4 := Tryd.isAgg4
  z4 := Tryd.sizeOf4
  v4 := Tryd.zeroValue4
  t5 := Tryd.underlying5
  a5 := Tryd.isAgg5
  z5 := Tryd.sizeOf5
  v5 := Tryd.zeroValue5
  t9 := Tryd.underlying9
  a9 := Tryd.isAgg9
  z9 := Tryd.sizeOf9
  v9 := Tryd.zeroValue9
  t21 := Tryd.underlying21
  a21 := Tryd.isAgg21
  z21 := Tryd.sizeOf21
  v21 := Tryd.zeroValue21
  t46 := Tryd.underlying133
  a46 := Tryd.isAgg133
  z46 := Tryd.sizeOf133
  v46 := Tryd.zeroValue133 }
open Go.RowKit Go.Lib in
theorem Tryd.strings_ContainsRune_ascii (s : ByteArray) (r : Int) (w : World) (h0 : 0 ≤ r) (h1 : r < 128) :
    Calls Tryd.prog 59 #[.string s, .int .i32 r] w fun e w' => e = .returned (.bool (decide (0 ≤ Lib.indexByte s.data.toList r.toNat.toUInt8))) ∧ w' = w := Any.strings_ContainsRune_ascii Tryd.lays151 s r w h0 h1
def Tryd.lays260_ren : Go.Shelf.Ren := ⟨fun | 260 => 114 | n => n, fun | 9 => 9 | 21 => 21 | 3 => 3 | 4 => 4 | 5 => 5 | 119 => 139 | 0 => 0 | 46 => 133 | 139 => 158 | 138 => 157 | n => n, fun | 3 => 3 | 4 => 4 | n => n⟩
theorem Tryd.lays260 : Go.Proofs.Lays.n260 Tryd.prog Tryd.lays260_ren := {
  mixed := by kernel_rfl
  f260 := Tryd.func114.trans (congrArg some (by kernel_rfl))
  t0 := Tryd.underlying0
  a0 := Tryd.isAgg0
  z0 := Tryd.sizeOf0
  v0 := Tryd.zeroValue0
  t3 := Tryd.underlying3
  a3 := Tryd.isAgg3
  z3 := Tryd.sizeOf3
  v3 := Tryd.zeroValue3
  t4 := Tryd.underlying4
  a4 := Tryd.isAgg4
  z4 := Tryd.sizeOf4
  v4 := Tryd.zeroValue4
  t5 := Tryd.underlying5
  a5 := Tryd.isAgg5
  z5 := Tryd.sizeOf5
  v5 := Tryd.zeroValue5
  t9 := Tryd.underlying9
  a9 := Tryd.isAgg9
  z9 := Tryd.sizeOf9
  v9 := Tryd.zeroValue9
  t21 := Tryd.underlying21
  a21 := Tryd.isAgg21
  z21 := Tryd.sizeOf21
  v21 := Tryd.zeroValue21
  t46 := Tryd.underlying133
  a46 := Tryd.isAgg133
  z46 := Tryd.sizeOf133
  v46 := Tryd.zeroValue133
  t119 := Tryd.underlying139
  a119 := Tryd.isAgg139
  z119 := Tryd.sizeOf139
  t138 := Tryd.underlying157
  a138 := Tryd.isAgg157
  z138 := Tryd.sizeOf157
  v138 := Tryd.zeroValue157
  t139 := Tryd.underlying158
  a139 := Tryd.isAgg158
  z139 := Tryd.sizeOf158
  v139 := Tryd.zeroValue158
  g3 := by kernel_rfl
  g4 := by kernel_rfl }
def Tryd.lays261_ren : Go.Shelf.Ren := ⟨fun | 261 => 117 | 311 => 134 | 312 => 135 | n => n, fun | 141 => 141 | 21 => 21 | 4 => 4 | 0 => 0 | 196 => 163 | 193 => 160 | 3 => 3 | 51 => 138 | 198 => 166 | 49 => 164 | 194 => 161 | 201 => 169 | 226 => 182 | 46 => 133 | 227 => 183 | n => n, fun | n => n⟩
theorem Tryd.lays261 : Go.Proofs.Lays.n261 Tryd.prog Tryd.lays261_ren := {
  mixed := by kernel_rfl
  f261 := Tryd.func117.trans (congrArg some (by kernel_rfl))
  f311 := Tryd.func134.trans (congrArg some (by kernel_rfl))
  f312 := Tryd.func135.trans (congrArg some (by kernel_rfl))
  t0 := Tryd.underlying0
  a0 := Tryd.isAgg0
  z0 := Tryd.sizeOf0
  v0 := Tryd.zeroValue0
  t3 := Tryd.underlying3
  a3 := Tryd.isAgg3
  z3 := Tryd.sizeOf3
  v3 := Tryd.zeroValue3
  t4 := Tryd.underlying4
  a4 := Tryd.isAgg4
  z4 := Tryd.sizeOf4
  v4 := Tryd.zeroValue4
  t21 := Tryd.underlying21
  a21 := Tryd.isAgg21
  z21 := Tryd.sizeOf21
  v21 := Tryd.zeroValue21
  t46 := Tryd.underlying133
  a46 := Tryd.isAgg133
  z46 := Tryd.sizeOf133
  v46 := Tryd.zeroValue133
  t49 := Tryd.underlying164
  a49 := Tryd.isAgg164
  z49 := Tryd.sizeOf164
  v49 := Tryd.zeroValue164
  t51 := Tryd.underlying138
  a51 := Tryd.isAgg138
  z51 := Tryd.sizeOf138
  v51 := Tryd.zeroValue138
  t141 := Tryd.underlying141
  a141 := Tryd.isAgg141
  z141 := Tryd.sizeOf141
  v141 := Tryd.zeroValue141
  t193 := Tryd.underlying160
  a193 := Tryd.isAgg160
  z193 := Tryd.sizeOf160
  v193 := Tryd.zeroValue160
  t194 := Tryd.underlying161
  a194 := Tryd.isAgg161
  z194 := Tryd.sizeOf161
  v194 := Tryd.zeroValue161
  t196 := Tryd.underlying163
  a196 := Tryd.isAgg163
  z196 := Tryd.sizeOf163
  v196 := Tryd.zeroValue163
  t198 := Tryd.underlying166
  a198 := Tryd.isAgg166
  z198 := Tryd.sizeOf166
  v198 := Tryd.zeroValue166
  t201 := Tryd.underlying169
  a201 := Tryd.isAgg169
  z201 := Tryd.sizeOf169
  v201 := Tryd.zeroValue169
  t226 := Tryd.underlying182
  a226 := Tryd.isAgg182
  z226 := Tryd.sizeOf182
  v226 := Tryd.zeroValue182
  t227 := Tryd.underlying183
  a227 := Tryd.isAgg183
  z227 := Tryd.sizeOf183
  v227 := Tryd.zeroValue183 }
open Go.RowKit Go.Lib in
theorem Tryd.unicode_ToLower_laid (r : Int) (w : World) (hV : CaseVar 5 caseA w) :
    Calls Tryd.prog 103 #[.int .i32 r] w fun e w' => e = .returned (.int .i32 (toLowerU r)) ∧ ∃ q, w' = w.drewN q := Any.unicode_ToLower_laid Tryd.lays204 r w hV
open Go.RowKit Go.Lib in
theorem Tryd.unicode_ToUpper_laid (r : Int) (w : World) (hV : CaseVar 5 caseA w) :
    Calls Tryd.prog 104 #[.int .i32 r] w fun e w' => e = .returned (.int .i32 (toUpperU r)) ∧ ∃ q, w' = w.drewN q := Any.unicode_ToUpper_laid Tryd.lays203 r w hV
def Tryd.lays230_ren : Go.Shelf.Ren := ⟨fun | 230 => 78 | 197 => 96 | 118 => 97 | 165 => 98 | 166 => 99 | 168 => 100 | 270 => 101 | 167 => 94 | 169 => 95 | 260 => 114 | 240 => 113 | 241 => 115 | 242 => 116 | 276 => 131 | 277 => 132 | 278 => 133 | n => n, fun | 107 => 100 | 9 => 9 | 72 => 116 | 0 => 0 | 4 => 4 | 3 => 3 | 21 => 21 | 105 => 121 | 76 => 125 | 5 => 5 | 75 => 118 | 70 => 114 | 20 => 20 | 37 => 102 | 127 => 136 | 119 => 139 | 46 => 133 | 139 => 158 | 138 => 157 | 164 => 154 | 51 => 138 | 80 => 120 | n => n, fun | 3 => 3 | 4 => 4 | n => n⟩
theorem Tryd.lays230 : Go.Proofs.Lays.n230 Tryd.prog Tryd.lays230_ren := {
  mixed := by kernel_rfl
  f118 := Tryd.func97.trans (congrArg some (by kernel_rfl))
  f165 := Tryd.func98.trans (congrArg some (by kernel_rfl))
  f166 := Tryd.func99.trans (congrArg some (by kernel_rfl))
  f167 := Tryd.func94.trans (congrArg some (by kernel_rfl))
  f168 := Tryd.func100.trans (congrArg some (by kernel_rfl))
  f169 := Tryd.func95.trans (congrArg some (by kernel_rfl))
  f197 := Tryd.func96.trans (congrArg some (by kernel_rfl))
  f230 := Tryd.func78.trans (congrArg some (by kernel_rfl))
  f240 := Tryd.func113.trans (congrArg some (by kernel_rfl))
  f241 := Tryd.func115.trans (congrArg some (by kernel_rfl))
  f242 := Tryd.func116.trans (congrArg some (by kernel_rfl))
  f260 := Tryd.func114.trans (congrArg some (by kernel_rfl))
  f270 := Tryd.func101.trans (congrArg some (by kernel_rfl))
  f276 := Tryd.func131.trans (congrArg some (by kernel_rfl))
  f277 := Tryd.func132.trans (congrArg some (by kernel_rfl))
  f278 := Tryd.func133.trans (congrArg some (by kernel_rfl))
  t0 := Tryd.underlying0
  a0 := Tryd.isAgg0
  z0 := Tryd.sizeOf0
  v0 := Tryd.zeroValue0
  t3 := Tryd.underlying3
  a3 := Tryd.isAgg3
  z3 := Tryd.sizeOf3
  v3 := Tryd.zeroValue3
  t4 := Tryd.underlying4
  a4 := Tryd.isAgg4
  z4 := Tryd.sizeOf4
  v4 := Tryd.zeroValue4
  t5 := Tryd.underlying5
  a5 := Tryd.isAgg5
  z5 := Tryd.sizeOf5
  v5 := Tryd.zeroValue5
  t9 := Tryd.underlying9
  a9 := Tryd.isAgg9
  z9 := Tryd.sizeOf9
  v9 := Tryd.zeroValue9
  t20 := Tryd.underlying20
  a20 := Tryd.isAgg20
  z20 := Tryd.sizeOf20
  v20 := Tryd.zeroValue20
  t21 := Tryd.underlying21
  a21 := Tryd.isAgg21
  z21 := Tryd.sizeOf21
  v21 := Tryd.zeroValue21
  t37 := Tryd.underlying102
  a37 := Tryd.isAgg102
  z37 := Tryd.sizeOf102
  v37 := Tryd.zeroValue102
  t46 := Tryd.underlying133
  a46 := Tryd.isAgg133
  z46 := Tryd.sizeOf133
  v46 := Tryd.zeroValue133
  t51 := Tryd.underlying138
  a51 := Tryd.isAgg138
  z51 := Tryd.sizeOf138
  v51 := Tryd.zeroValue138
  t70 := Tryd.underlying114
  a70 := Tryd.isAgg114
  z70 := Tryd.sizeOf114
  v70 := Tryd.zeroValue114
  t72 := Tryd.underlying116
  a72 := Tryd.isAgg116
  z72 := Tryd.sizeOf116
  v72 := Tryd.zeroValue116
  t75 := Tryd.underlying118
  a75 := Tryd.isAgg118
  z75 := Tryd.sizeOf118
  v75 := Tryd.zeroValue118
  t76 := Tryd.underlying125
  a76 := Tryd.isAgg125
  z76 := Tryd.sizeOf125
  v76 := Tryd.zeroValue125
  t105 := Tryd.underlying121
  a105 := Tryd.isAgg121
  z105 := Tryd.sizeOf121
  v105 := Tryd.zeroValue121
  t107 := Tryd.underlying100
  a107 := Tryd.isAgg100
  z107 := Tryd.sizeOf100
  v107 := Tryd.zeroValue100
  t119 := Tryd.underlying139
  a119 := Tryd.isAgg139
  z119 := Tryd.sizeOf139
  t127 := Tryd.underlying136
  a127 := Tryd.isAgg136
  z127 := Tryd.sizeOf136
  v127 := Tryd.zeroValue136
  t138 := Tryd.underlying157
  a138 := Tryd.isAgg157
  z138 := Tryd.sizeOf157
  v138 := Tryd.zeroValue157
  t139 := Tryd.underlying158
  a139 := Tryd.isAgg158
  z139 := Tryd.sizeOf158
  v139 := Tryd.zeroValue158
  t164 := Tryd.underlying154
  a164 := Tryd.isAgg154
  z164 := Tryd.sizeOf154
  v164 := Tryd.zeroValue154
  g3 := by kernel_rfl
  g4 := by kernel_rfl }
theorem Tryd.Builder_Extra_230 : Builder.Extra Tryd.prog Tryd.lays230_ren := {
  sizeBuilder := by kernel_rfl
  liesBuilder := by kernel_rfl
  t5 := Tryd.underlying5
  a5 := Tryd.isAgg5
  z5 := Tryd.sizeOf5
  v5 := Tryd.zeroValue5
  infoByte := by kernel_rfl
  cellsByte := by kernel_rfl
  sizeByte := by kernel_rfl
  neB5 := by decide }
open Go.RowKit Go.Lib in
theorem Tryd.unicode_IsUpper_all (r : Int) (w : World) (hlo : -2147483648 ≤ r) (hhi : r ≤ 2147483647) (htab : Lib.TabIs Tryd.prog w "unicode.properties" .u8 Lib.propertiesTab) (hV : RVar 1 upperT w) :
    Calls Tryd.prog 102 #[.int .i32 r] w fun e w' => e = .returned (.bool (isUpperU r)) ∧ Below w.heap.size w w' := Any.unicode_IsUpper_all Tryd.lays201 (by kernel_rfl) r w hlo hhi htab hV
open Go.RowKit Go.Lib in
theorem Tryd.strings_Map_grows (g : Nat) (lb : Array Value) (eg : ∀ args w, (callFunc g args).run Tryd.prog w = .ok (.enter g args) w) (f : Int → Int) (s : ByteArray) (w : World) (hs : s.size < 35184372088832) (hf : MapGrows Tryd.prog g lb f w) (hnn : ∀ x : Nat, x ≤ 1114111 → -2147483648 ≤ f x ∧ f x ≤ 2147483647) (hT : Lib.Utf8Tabs 3 4 w) :
    Calls Tryd.prog 78 #[.func (.func g) #[] lb, .string s] w fun e w' => e = .returned (.string ⟨(Lib.mapD f s.data.toList).toArray⟩) ∧ Below w.heap.size w w' := Any.strings_Map_grows Tryd.lays230 Tryd.Builder_Extra_230 g lb eg f s w hs hf hnn hT
end Go.Proofs

namespace Go.Proofs.YtokdjjebnomciaaDoor
set_option linter.unusedVariables false
open Go.Wk Go.RowKit Go.Lib

/-- The library's tables, as they are read. -/
structure Laid (w : World) : Prop where
  props : TabIs Tryd.prog w "unicode.properties" .u8 propertiesTab
  upper : RVar 1 upperT w
  cases : CaseVar 5 caseA w
  utf : Utf8Tabs 3 4 w
  len : ∃ m, w.cell? ⟨2, 0, none⟩ = some (.int .i64 m)
theorem cell_ext {w w' : World} (h : Ext w w') {a : Addr} {v : Value} (hc : w.cell? a = some v) : w'.cell? a = some v :=
  (World.cell?_of_block (h.block a.block (World.block_lt_of_cell? w a hc))).trans hc
theorem rgTab_ext {w w' : World} (h : Ext w w') {k : IntKind} {R o : Nat} {T : Array Rg} (ht : RgTab k R o T w) : RgTab k R o T w' := fun i hi => by
  have := ht i hi
  exact ⟨cell_ext h this.1, cell_ext h this.2.1, cell_ext h this.2.2⟩
theorem Laid.ext {w w' : World} (hG : Laid w) (h : Ext w w') : Laid w' := by
  refine ⟨?_, ?_, ?_, ⟨fun c hc => cell_ext h (hG.utf.1 c hc), fun i hi => ⟨cell_ext h (hG.utf.2 i hi).1, cell_ext h (hG.utf.2 i hi).2⟩⟩, ?_⟩
  · have hp := hG.props
    unfold TabIs World.var? at hp ⊢
    cases hg : Tryd.prog.globalNamed "unicode.properties" with
    | none => rw [hg] at hp; cases hp
    | some g =>
      rw [hg] at hp
      simp only [Option.bind_some] at hp ⊢
      cases hq : w.heap[g]? with
      | none => rw [hq] at hp; cases hp
      | some o => rw [hq] at hp; rw [h.block g (Array.getElem?_eq_some_iff.1 hq).1, hq]; exact hp
  · obtain ⟨Tb, oT, h1, a16, a32, R16, o16, c16, R32, o32, c32, g1, g2, g3, g4, g5, g6, g7, g8⟩ := hG.upper
    exact ⟨Tb, oT, cell_ext h h1, a16, a32, R16, o16, c16, R32, o32, c32, cell_ext h g1, cell_ext h g2, cell_ext h g3, g4, g5, rgTab_ext h g6, rgTab_ext h g7, g8⟩
  · obtain ⟨R, oR, cap, h1, h2⟩ := hG.cases
    exact ⟨R, oR, cap, cell_ext h h1, fun i hi => by
      have := h2 i hi
      exact ⟨cell_ext h this.1, cell_ext h this.2.1, cell_ext h this.2.2.1, cell_ext h this.2.2.2.1, cell_ext h this.2.2.2.2⟩⟩
  · obtain ⟨m, hm⟩ := hG.len
    exact ⟨m, cell_ext h hm⟩
/-- The letter of the other size, by the library's tables. -/
def otherU (r : Int) : Int := if isUpperU r = true then toLowerU r else toUpperU r
theorem ret_of_same {P : Program} {f : FuncId} {args : Array Value} {w : World} {v : Value} (h : Calls P f args w fun e w' => e = .returned v ∧ w' = w) : Calls P f args w (Ret w fun r _ => r = v) :=
  h.mono fun e w' ⟨he, hw⟩ => ⟨v, he, by rw [hw]; exact Ext.refl _, rfl⟩
theorem ret_of_below {P : Program} {f : FuncId} {args : Array Value} {w : World} {v : Value} (h : Calls P f args w fun e w' => e = .returned v ∧ Below w.heap.size w w') : Calls P f args w (Ret w fun r _ => r = v) :=
  h.mono fun e w' ⟨he, hw⟩ => ⟨v, he, hw, rfl⟩
theorem F102 {r : Int} {w : World} (i_r : InK .i32 r) (hG : Laid w) : Calls Tryd.prog 102 #[.int .i32 r] w (Ret w fun q _ => q = .bool (isUpperU r)) :=
  ret_of_below (Tryd.unicode_IsUpper_all r w i_r.1 i_r.2 hG.props hG.upper)
theorem F103 {r : Int} {w : World} (_ : InK .i32 r) (hG : Laid w) : Calls Tryd.prog 103 #[.int .i32 r] w (Ret w fun q _ => q = .int .i32 (toLowerU r)) :=
  (Tryd.unicode_ToLower_laid r w hG.cases).mono fun e w' hh => by
    obtain ⟨he, hw⟩ := hh
    exact ⟨_, he, by first | exact hw | (rw [hw]; exact Ext.refl _) | (obtain ⟨q, hq⟩ := hw; rw [hq]; exact below_drewNm w q), rfl⟩
theorem F104 {r : Int} {w : World} (_ : InK .i32 r) (hG : Laid w) : Calls Tryd.prog 104 #[.int .i32 r] w (Ret w fun q _ => q = .int .i32 (toUpperU r)) :=
  (Tryd.unicode_ToUpper_laid r w hG.cases).mono fun e w' hh => by
    obtain ⟨he, hw⟩ := hh
    exact ⟨_, he, by first | exact hw | (rw [hw]; exact Ext.refl _) | (obtain ⟨q, hq⟩ := hw; rw [hq]; exact below_drewNm w q), rfl⟩
theorem F109 {s : ByteArray} {c : Int} {w : World} (_ : s.size ≤ maxLen) (_ : InK .u8 c) : Calls Tryd.prog 109 #[.string s, .int .u8 c] w (Ret w fun q _ => q = .int .i64 (indexByte s.data.toList c.toNat.toUInt8)) :=
  ret_of_same (Tryd.strings_IndexByte s c w)
theorem F110 {r : Int} {w : World} (_ : InK .i32 r) : Calls Tryd.prog 110 #[.int .i32 r] w (Ret w fun q _ => q = .bool (validRune r)) := ret_of_same (Tryd.utf8_ValidRune r w)
theorem F47 {s t : ByteArray} {w : World} (_ : s.size ≤ maxLen) (_ : t.size ≤ maxLen) (p_s : (s.size : Int) < 4294967281) (hG : Laid w) : Calls Tryd.prog 47 #[.string s, .string t] w (Ret w fun q _ => q = .bool (contains s.data.toList t.data.toList)) := by
  obtain ⟨m, hm⟩ := hG.len
  exact ret_of_same (Tryd.strings_Contains s t m w (by omega) hm)
/-! ### letters, by the library -/
theorem otherU_let {y : Int} (h : isLet y = true) : otherU y = if y ≤ 90 then y + 32 else y - 32 := by
  simp only [isLet, Bool.or_eq_true, decide_eq_true_eq] at h
  have hl : latin1 y = true := by rw [latin1]; exact decide_eq_true (by omega)
  rw [otherU, isUpperU, if_pos hl, isUpperL]
  by_cases hu : y ≤ 90
  · rw [if_pos (decide_eq_true (by omega)), if_pos hu, toLowerU, if_pos (by omega), if_pos (by omega)]
  · rw [if_neg (by rw [decide_eq_true_eq]; omega), if_neg hu, toUpperU, if_pos (by omega), if_pos (by omega)]
theorem fit_other {x y : Int} (hx : isLet x = true) (hy : isLet y = true) : decide (x = otherU y) = fitC x y := by
  rw [otherU_let hy, fitC]
  simp only [isLet, Bool.or_eq_true, decide_eq_true_eq] at hx hy
  congr 1
  simp only [eq_iff_iff]
  split <;> omega
/-- Is a rune one of the string's letters? -/
def hasRune (s : ByteArray) (r : Int) : Bool := decide (0 ≤ r ∧ r < 128) && decide (0 ≤ indexByte s.data.toList r.toNat.toUInt8)
theorem letS_table : ∀ c < 128, decide (0 ≤ indexByte letS.data.toList (c : Nat).toUInt8) = isLet (c : Nat) := by decide +kernel
theorem hasRune_let {r : Int} (h0 : 0 ≤ r) : hasRune letS r = isLet r := by
  rw [hasRune]
  by_cases h : r < 128
  · rw [decide_eq_true ⟨h0, h⟩, Bool.true_and]
    have := letS_table r.toNat (by omega)
    rwa [Int.toNat_of_nonneg h0] at this
  · rw [decide_eq_false (by omega), Bool.false_and]
    symm
    rw [isLet, Bool.or_eq_false_iff, decide_eq_false_iff_not, decide_eq_false_iff_not]
    omega
theorem rune_let {s : ByteArray} {p : Int} (h0 : 0 ≤ p) (h : hasRune letS (runeAt s p) = true) : runeW s p = 1 ∧ isLet (tabAt s p) = true := by
  rw [hasRune_let (runeAt_bd s p).1] at h
  have hb := isLet_bd h
  by_cases ha : tabAt s p < 128
  · have := runeAt_ascii h0 ha
    rw [this.1] at h
    exact ⟨this.2, h⟩
  · have := runeAt_other h0 (by omega : 128 ≤ tabAt s p)
    omega
theorem rune_not {s : ByteArray} {p : Int} (h0 : 0 ≤ p) (h : hasRune letS (runeAt s p) = false) : isLet (tabAt s p) = false := by
  rw [hasRune_let (runeAt_bd s p).1] at h
  cases hl : isLet (tabAt s p) with
  | false => rfl
  | true =>
    have hb := isLet_bd hl
    rw [(runeAt_ascii h0 (by omega)).1, hl] at h
    exact h
theorem index_not : ∀ (l : List UInt8) (c : UInt8), (∀ b ∈ l, b.toNat < 128) → 128 ≤ c.toNat → indexByte l c = -1
  | [], _, _, _ => rfl
  | b :: l, c, h, hc => by
    have hb := h b (List.mem_cons_self ..)
    have hne : (b == c) = false := by
      cases hq : b == c with
      | false => rfl
      | true => rw [eq_of_beq hq] at hb; omega
    rw [indexByte, hne, index_not l c (fun x hx => h x (List.mem_cons_of_mem _ hx)) hc]; rfl
theorem letS_asc : ∀ q : Int, 0 ≤ q → q < letS.size → tabAt letS q < 128 := by
  intro q h0 h1
  have h : ∀ k < 20, tabAt letS (k : Nat) < 128 := by decide +kernel
  have hs : letS.size = 20 := by decide
  have := h q.toNat (by omega)
  rwa [Int.toNat_of_nonneg h0] at this
theorem index_asc {s : ByteArray} {a b : Nat} {c : Int} (h : ∀ q : Int, 0 ≤ q → q < s.size → tabAt s q < 128) (h1 : 128 ≤ c) (h2 : c ≤ 255) : indexByte (s.extract a b).data.toList c.toNat.toUInt8 = -1 := by
  refine index_not _ _ (fun x hx => ?_) ?_
  · have hx2 : x ∈ s.data.toList := by
      rw [ByteArray.data_extract, Array.toList_extract] at hx
      exact List.mem_of_mem_drop (List.mem_of_mem_take hx)
    obtain ⟨k, hk, rfl⟩ := List.mem_iff_getElem.1 hx2
    have := h (k : Int) (by omega) (by have e : s.size = s.data.toList.length := (by simp); omega)
    rw [tabAt, Int.toNat_natCast, List.getD_eq_getElem?_getD, List.getElem?_eq_getElem hk] at this
    simp only [Option.getD_some] at this
    omega
  · rw [Nat.toUInt8, UInt8.toNat_ofNat']; omega
end Go.Proofs.YtokdjjebnomciaaDoor

namespace Go.Proofs.YtokdjjebnomciaaDoor
open Go.Wk Go.RowKit Go.Lib
set_option linter.unusedVariables false
set_option linter.unusedSimpArgs false
theorem mixedHa_ : Tryd.prog.follows .mixedOrders = true := by kernel_rfl

theorem F62 {n : Int} {lo : Int} {hi : Int} {w : World} (i_n : InK .i64 n) (i_lo : InK .i64 lo) (i_hi : InK .i64 hi) : Calls Tryd.prog 62 #[.int .i64 n, .int .i64 lo, .int .i64 hi] w (Ret w (fun r _ => r = .bool (decide (lo ≤ n) && decide (n ≤ hi)))) := by
  have b_hi := bd_i64 i_hi
  have b_lo := bd_i64 i_lo
  have b_n := bd_i64 i_n
  have hS := St.start0 w
  refine enterR Tryd.func62 rfl Tryd.ntmps62 Tryd.results62 rfl ?_
  refine W.seq ?_
  refine W.reg ?_
  refine Wx.rd (v := .bool false) (rd_assign rfl) rfl ?_
  refine Wx.nil ?_
  refine W.seq ?_
  refine W.reg ?_
  refine Wx.rd (v := .int .i64 n) (rd_move rfl) rfl ?_
  refine Wx.rd (v := .int .i64 lo) (rd_move rfl) rfl ?_
  refine Wx.rd (v := .bool (decide (lo ≤ n))) (rd_geq rfl rfl) rfl ?_
  refine Wx.rd (v := .bool (decide (lo ≤ n))) (rd_move rfl) rfl ?_
  refine Wx.cut (X := Unit) 4 [11, 12, 13, 14] (fun _ => [(14, .bool (decide (lo ≤ n) && decide (n ≤ hi)))]) (fun _ w' => St w [] w' []) ?_ ?_
  · rcases Bool.eq_false_or_eq_true (decide (lo ≤ n)) with g_1 | g_1
    · -- True
      have gp_2 := of_decide_eq_true g_1
      refine Wx.gyes rfl rfl (congrArg Value.bool g_1) ?_
      refine Wx.rd (v := .int .i64 n) (rd_move rfl) rfl ?_
      refine Wx.gyes rfl rfl (congrArg Value.bool g_1) ?_
      refine Wx.rd (v := .int .i64 hi) (rd_move rfl) rfl ?_
      refine Wx.gyes rfl rfl (congrArg Value.bool g_1) ?_
      refine Wx.rd (v := .bool (decide (n ≤ hi))) (rd_leq rfl rfl) rfl ?_
      refine Wx.rd (v := .bool (decide (n ≤ hi))) (rd_pickT (congrArg Value.bool g_1) rfl) rfl ?_
      refine Wx.nil ⟨(), hS, ⟨?_, trivial⟩, Out.look rfl Out.refl⟩
      show Value.bool (decide (n ≤ hi)) = Value.bool (decide (lo ≤ n) && decide (n ≤ hi))
      rw [g_1]; rfl
    · -- False
      have gp_3 := of_decide_eq_false g_1
      refine Wx.gnoB rfl rfl (congrArg Value.bool g_1) rfl rfl ?_
      refine Wx.gnoB rfl rfl (congrArg Value.bool g_1) rfl rfl ?_
      refine Wx.gnoB rfl rfl (congrArg Value.bool g_1) rfl rfl ?_
      refine Wx.rd (v := .bool false) (rd_pickF (congrArg Value.bool g_1) rfl) rfl ?_
      refine Wx.nil ⟨(), hS, ⟨?_, trivial⟩, Out.look rfl Out.refl⟩
      show Value.bool false = Value.bool (decide (lo ≤ n) && decide (n ≤ hi))
      rw [g_1]; rfl
  rintro ⟨⟩ u_5 w_4 hS
  refine Wx.rd (v := .bool (decide (lo ≤ n) && decide (n ≤ hi))) (rd_assign rfl) rfl ?_
  refine Wx.nil ?_
  exact W.ret ⟨.bool (decide (lo ≤ n) && decide (n ≤ hi)), ResIs.one, hS.bel, rfl⟩

theorem F60 {c : Int} {w : World} (i_c : InK .u8 c) : Calls Tryd.prog 60 #[.int .u8 c] w (Ret w (fun r _ => r = .int .i64 (numC c))) := by
  have b_c := bd_u8 i_c
  have hS := St.start0 w
  refine enterR Tryd.func60 rfl Tryd.ntmps60 Tryd.results60 rfl ?_
  refine W.seq ?_
  refine W.reg ?_
  refine Wx.rd (v := .int .i64 0) (rd_assign rfl) rfl ?_
  refine Wx.nil ?_
  refine W.seq ?_
  refine W.seq ?_
  refine W.reg ?_
  refine Wx.rd (v := .int .u8 c) (rd_move rfl) rfl ?_
  refine Wx.rd (v := .int .i64 c) (rd_convIn rfl Tryd.underlying5 Tryd.underlying3 (in_i64 (by omega) (by omega))) rfl ?_
  refine Wx.callF (run_callF Tryd.call62 rfl) (F62 (in_i64 (by omega) (by omega)) (in_i64 (by omega) (by omega)) (in_i64 (by omega) (by omega))) rfl ?_
  rintro r_1 w_2 hx_3 rfl
  have hS := hS.ext hx_3
  refine Wx.nil ?_
  refine W.cond rfl (fun c0 => ?_) (fun c0 => ?_)
  · -- yes
    try simp only [Bool.and_eq_true, Bool.or_eq_true, Bool.not_eq_true', Bool.and_eq_false_iff, Bool.or_eq_false_iff, Bool.not_eq_false', decide_eq_true_eq, decide_eq_false_iff_not, not_or, Bool.false_eq_true, Bool.true_eq_false, false_or, or_false, not_false_eq_true] at c0
    refine W.seq ?_
    refine W.reg ?_
    refine Wx.rd (v := .int .u8 c) (rd_move rfl) rfl ?_
    refine Wx.rd (v := .int .i64 c) (rd_convIn rfl Tryd.underlying5 Tryd.underlying3 (in_i64 (by omega) (by omega))) rfl ?_
    refine Wx.rd (v := .int .i64 (c - 97)) (rd_sub rfl rfl (in_i64 (by omega) (by omega))) rfl ?_
    refine Wx.rd (v := .int .i64 ((c - 97) + 1)) (rd_add rfl rfl (in_i64 (by omega) (by omega))) rfl ?_
    refine Wx.rd (v := .int .i64 ((c - 97) + 1)) (rd_assign rfl) rfl ?_
    refine Wx.nil ?_
    have e0_0 : (numC c) = ((c - 97) + 1 : Int) := by rw [numC, if_pos (by omega)]
    exact W.ret ⟨.int .i64 ((c - 97) + 1), ResIs.one, hS.bel, (by rw [e0_0])⟩
  · -- no
    try simp only [Bool.and_eq_true, Bool.or_eq_true, Bool.not_eq_true', Bool.and_eq_false_iff, Bool.or_eq_false_iff, Bool.not_eq_false', decide_eq_true_eq, decide_eq_false_iff_not, not_or, Bool.false_eq_true, Bool.true_eq_false, false_or, or_false, not_false_eq_true] at c0
    refine W.skip ?_
    refine W.seq ?_
    refine W.seq ?_
    refine W.reg ?_
    refine Wx.rd (v := .int .u8 c) (rd_move rfl) rfl ?_
    refine Wx.rd (v := .int .i64 c) (rd_convIn rfl Tryd.underlying5 Tryd.underlying3 (in_i64 (by omega) (by omega))) rfl ?_
    refine Wx.callF (run_callF Tryd.call62 rfl) (F62 (in_i64 (by omega) (by omega)) (in_i64 (by omega) (by omega)) (in_i64 (by omega) (by omega))) rfl ?_
    rintro r_4 w_5 hx_6 rfl
    have hS := hS.ext hx_6
    refine Wx.nil ?_
    refine W.cond rfl (fun c1 => ?_) (fun c1 => ?_)
    · -- yes
      try simp only [Bool.and_eq_true, Bool.or_eq_true, Bool.not_eq_true', Bool.and_eq_false_iff, Bool.or_eq_false_iff, Bool.not_eq_false', decide_eq_true_eq, decide_eq_false_iff_not, not_or, Bool.false_eq_true, Bool.true_eq_false, false_or, or_false, not_false_eq_true] at c1
      refine W.seq ?_
      refine W.reg ?_
      refine Wx.rd (v := .int .u8 c) (rd_move rfl) rfl ?_
      refine Wx.rd (v := .int .i64 c) (rd_convIn rfl Tryd.underlying5 Tryd.underlying3 (in_i64 (by omega) (by omega))) rfl ?_
      refine Wx.rd (v := .int .i64 (65 - c)) (rd_sub rfl rfl (in_i64 (by omega) (by omega))) rfl ?_
      refine Wx.rd (v := .int .i64 ((65 - c) - 1)) (rd_sub rfl rfl (in_i64 (by omega) (by omega))) rfl ?_
      refine Wx.rd (v := .int .i64 ((65 - c) - 1)) (rd_assign rfl) rfl ?_
      refine Wx.nil ?_
      have e1_0 : (numC c) = ((65 - c) - 1 : Int) := by rw [numC, if_neg (by omega), if_pos (by omega)]
      exact W.ret ⟨.int .i64 ((65 - c) - 1), ResIs.one, hS.bel, (by rw [e1_0])⟩
    · -- no
      try simp only [Bool.and_eq_true, Bool.or_eq_true, Bool.not_eq_true', Bool.and_eq_false_iff, Bool.or_eq_false_iff, Bool.not_eq_false', decide_eq_true_eq, decide_eq_false_iff_not, not_or, Bool.false_eq_true, Bool.true_eq_false, false_or, or_false, not_false_eq_true] at c1
      refine W.skip ?_
      refine W.seq ?_
      refine W.reg ?_
      refine Wx.rd (v := .int .i64 0) (rd_assign rfl) rfl ?_
      refine Wx.nil ?_
      have e2_0 : (numC c) = (0 : Int) := by rw [numC, if_neg (by omega), if_neg (by omega)]
      exact W.ret ⟨.int .i64 0, ResIs.one, hS.bel, (by rw [e2_0])⟩

theorem F64 {rim : ByteArray} {i : Int} {j : Int} {w : World} (s_rim : rim.size ≤ maxLen) (i_i : InK .i64 i) (i_j : InK .i64 j) (p_i : 0 ≤ i) (p_i2 : i < rim.size) (p_j : 0 ≤ j) (p_j2 : j < rim.size) (p_l : Lets rim) : Calls Tryd.prog 64 #[.string rim, .int .i64 i, .int .i64 j] w (Ret w (fun r _ => r = .bool (fitR rim i j))) := by
  have b_j := bd_i64 i_j
  have b_i := bd_i64 i_i
  have hn1 := numC_bd (tabAt rim i)
  have hn2 := numC_bd (tabAt rim j)
  have hS := St.start0 w
  refine enterR Tryd.func64 rfl Tryd.ntmps64 Tryd.results64 rfl ?_
  refine W.seq ?_
  refine W.reg ?_
  refine Wx.rd (v := .bool false) (rd_assign rfl) rfl ?_
  refine Wx.nil ?_
  refine W.seq ?_
  refine W.regQ mixedHa_ (by kernel_rfl) ?_
  refine Wx.rd (v := .string rim) (rd_move rfl) rfl ?_
  refine Wx.rd (v := .int .i64 i) (rd_move rfl) rfl ?_
  refine Wx.rd (v := .int .u8 (tabAt rim i)) (rd_indexS' (by kernel_rfl) rfl Tryd.underlying9 (by omega) (by omega)) rfl ?_
  have bd_1 := tabAt_bd rim i
  refine Wx.callV (v := .int .i64 (numC (tabAt rim i))) (run_callF Tryd.call60 rfl) (fun w_2 hw_3 => (F60 (in_u8 (by omega) (by omega)))) rfl ?_
  refine Wx.rd (v := .string rim) (rd_move rfl) rfl ?_
  refine Wx.rd (v := .int .i64 j) (rd_move rfl) rfl ?_
  refine Wx.rd (v := .int .u8 (tabAt rim j)) (rd_indexS' (by kernel_rfl) rfl Tryd.underlying9 (by omega) (by omega)) rfl ?_
  have bd_4 := tabAt_bd rim j
  refine Wx.callV (v := .int .i64 (numC (tabAt rim j))) (run_callF Tryd.call60 rfl) (fun w_5 hw_6 => (F60 (in_u8 (by omega) (by omega)))) rfl ?_
  refine Wx.rd (v := .int .i64 ((numC (tabAt rim i)) + (numC (tabAt rim j)))) (rd_add rfl rfl (in_i64 (by omega) (by omega))) rfl ?_
  refine Wx.rd (v := .bool (decide (((numC (tabAt rim i)) + (numC (tabAt rim j))) = 0))) (rd_eql rfl rfl) rfl ?_
  refine Wx.rd (v := .bool (decide (((numC (tabAt rim i)) + (numC (tabAt rim j))) = 0))) (rd_assign rfl) rfl ?_
  refine Wx.nilQ (fun w_7 hx_8 => ?_)
  have hS := hS.ext hx_8
  have e0_0 : (fitR rim i j) = (decide (((numC (tabAt rim i)) + (numC (tabAt rim j))) = 0)) := by exact (numC_fit (p_l i p_i p_i2) (p_l j p_j p_j2)).symm
  exact W.ret ⟨.bool (decide (((numC (tabAt rim i)) + (numC (tabAt rim j))) = 0)), ResIs.one, hS.bel, (by rw [e0_0])⟩

theorem F79 {c : Int} {w : World} (i_c : InK .i32 c) (hG : Laid w) : Calls Tryd.prog 79 #[.int .i32 c] w (Ret w (fun r _ => r = .int .i32 (otherU c))) := by
  have b_c := bd_i32 i_c
  have hS := St.start0 w
  refine enterR Tryd.func79 rfl Tryd.ntmps79 Tryd.results79 rfl ?_
  refine W.seq ?_
  refine W.reg ?_
  refine Wx.rd (v := .int .i32 0) (rd_assign rfl) rfl ?_
  refine Wx.nil ?_
  refine W.seq ?_
  refine W.seq ?_
  refine W.reg ?_
  refine Wx.rd (v := .int .i32 c) (rd_move rfl) rfl ?_
  refine Wx.callF (run_callF Tryd.call102 rfl) (F102 (in_i32 (by omega) (by omega)) (hG.ext hS.bel)) rfl ?_
  rintro r_1 w_2 hx_3 rfl
  have hS := hS.ext hx_3
  refine Wx.nil ?_
  refine W.cond rfl (fun c0 => ?_) (fun c0 => ?_)
  · -- yes
    try simp only [Bool.and_eq_true, Bool.or_eq_true, Bool.not_eq_true', Bool.and_eq_false_iff, Bool.or_eq_false_iff, Bool.not_eq_false', decide_eq_true_eq, decide_eq_false_iff_not, not_or, Bool.false_eq_true, Bool.true_eq_false, false_or, or_false, not_false_eq_true] at c0
    refine W.seq ?_
    refine W.reg ?_
    refine Wx.rd (v := .int .i32 c) (rd_move rfl) rfl ?_
    refine Wx.callF (run_callF Tryd.call103 rfl) (F103 (in_i32 (by omega) (by omega)) (hG.ext hS.bel)) rfl ?_
    rintro r_4 w_5 hx_6 rfl
    have hS := hS.ext hx_6
    refine Wx.rd (v := .int .i32 (toLowerU c)) (rd_assign rfl) rfl ?_
    refine Wx.nil ?_
    have e0_0 : (otherU c) = (toLowerU c : Int) := by rw [otherU, if_pos c0]
    exact W.ret ⟨.int .i32 (toLowerU c), ResIs.one, hS.bel, (by rw [e0_0])⟩
  · -- no
    try simp only [Bool.and_eq_true, Bool.or_eq_true, Bool.not_eq_true', Bool.and_eq_false_iff, Bool.or_eq_false_iff, Bool.not_eq_false', decide_eq_true_eq, decide_eq_false_iff_not, not_or, Bool.false_eq_true, Bool.true_eq_false, false_or, or_false, not_false_eq_true] at c0
    refine W.skip ?_
    refine W.seq ?_
    refine W.reg ?_
    refine Wx.rd (v := .int .i32 c) (rd_move rfl) rfl ?_
    refine Wx.callF (run_callF Tryd.call104 rfl) (F104 (in_i32 (by omega) (by omega)) (hG.ext hS.bel)) rfl ?_
    rintro r_7 w_8 hx_9 rfl
    have hS := hS.ext hx_9
    refine Wx.rd (v := .int .i32 (toUpperU c)) (rd_assign rfl) rfl ?_
    refine Wx.nil ?_
    have e1_0 : (otherU c) = (toUpperU c : Int) := by rw [otherU, if_neg (by rw [c0]; decide)]
    exact W.ret ⟨.int .i32 (toUpperU c), ResIs.one, hS.bel, (by rw [e1_0])⟩

theorem F61 {rim : ByteArray} {i : Int} {j : Int} {w : World} (s_rim : rim.size ≤ maxLen) (i_i : InK .i64 i) (i_j : InK .i64 j) (p_i : 0 ≤ i) (p_i2 : i < rim.size) (p_j : 0 ≤ j) (p_j2 : j < rim.size) (p_l : Lets rim) (hG : Laid w) : Calls Tryd.prog 61 #[.string rim, .int .i64 i, .int .i64 j] w (Ret w (fun r _ => r = .bool (fitR rim i j))) := by
  have b_j := bd_i64 i_j
  have b_i := bd_i64 i_i
  have hS := St.start0 w
  refine enterR Tryd.func61 rfl Tryd.ntmps61 Tryd.results61 rfl ?_
  refine W.seq ?_
  refine W.reg ?_
  refine Wx.rd (v := .bool false) (rd_assign rfl) rfl ?_
  refine Wx.nil ?_
  refine W.seq ?_
  refine W.regQ mixedHa_ (by kernel_rfl) ?_
  refine Wx.rd (v := .string rim) (rd_move rfl) rfl ?_
  refine Wx.rd (v := .int .i64 i) (rd_move rfl) rfl ?_
  refine Wx.rd (v := .int .u8 (tabAt rim i)) (rd_indexS' (by kernel_rfl) rfl Tryd.underlying9 (by omega) (by omega)) rfl ?_
  have bd_1 := tabAt_bd rim i
  refine Wx.rd (v := .int .i32 (tabAt rim i)) (rd_convIn rfl Tryd.underlying5 Tryd.underlying21 (in_i32 (by omega) (by omega))) rfl ?_
  refine Wx.rd (v := .string rim) (rd_move rfl) rfl ?_
  refine Wx.rd (v := .int .i64 j) (rd_move rfl) rfl ?_
  refine Wx.rd (v := .int .u8 (tabAt rim j)) (rd_indexS' (by kernel_rfl) rfl Tryd.underlying9 (by omega) (by omega)) rfl ?_
  have bd_2 := tabAt_bd rim j
  refine Wx.rd (v := .int .i32 (tabAt rim j)) (rd_convIn rfl Tryd.underlying5 Tryd.underlying21 (in_i32 (by omega) (by omega))) rfl ?_
  refine Wx.callV (v := .int .i32 (otherU (tabAt rim j))) (run_callF Tryd.call79 rfl) (fun w_3 hw_4 => (F79 (in_i32 (by omega) (by omega)) (hG.ext (Ext.trans hS.bel hw_4)))) rfl ?_
  refine Wx.rd (v := .bool (decide ((tabAt rim i) = (otherU (tabAt rim j))))) (rd_eql rfl rfl) rfl ?_
  refine Wx.rd (v := .bool (decide ((tabAt rim i) = (otherU (tabAt rim j))))) (rd_assign rfl) rfl ?_
  refine Wx.nilQ (fun w_5 hx_6 => ?_)
  have hS := hS.ext hx_6
  have e0_0 : (fitR rim i j) = (decide ((tabAt rim i) = (otherU (tabAt rim j)))) := by exact (fit_other (p_l i p_i p_i2) (p_l j p_j p_j2)).symm
  exact W.ret ⟨.bool (decide ((tabAt rim i) = (otherU (tabAt rim j)))), ResIs.one, hS.bel, (by rw [e0_0])⟩

theorem F18 {rim : ByteArray} {w : World} (s_rim : rim.size ≤ maxLen) : Calls Tryd.prog 18 #[.string rim] w (Ret w (fun r _ => r = .int .i64 (rimE rim))) := by
  have hS := St.start0 w
  refine enterR Tryd.func18 rfl Tryd.ntmps18 Tryd.results18 rfl ?_
  refine W.seq ?_
  refine W.reg ?_
  refine Wx.rd (v := .int .i64 0) (rd_assign rfl) rfl ?_
  refine Wx.nil ?_
  refine W.seq ?_
  refine W.seq ?_
  refine W.reg ?_
  refine Wx.rd (v := .string rim) (rd_move rfl) rfl ?_
  refine Wx.rd (v := .int .i64 (rim.size : Int)) (rd_lenS rfl Tryd.underlying9) rfl ?_
  refine Wx.rd (v := .bool (decide (12 < (rim.size : Int)))) (rd_gtr rfl rfl) rfl ?_
  refine Wx.nil ?_
  refine W.condD rfl (fun c0 => ?_) (fun c0 => ?_)
  · -- yes
    refine W.seq ?_
    refine W.reg ?_
    refine Wx.rd (v := .int .i64 3) (rd_assign rfl) rfl ?_
    refine Wx.nil ?_
    have e0_0 : (rimE rim) = (3 : Int) := by rw [rimE, if_pos c0]
    exact W.ret ⟨.int .i64 3, ResIs.one, hS.bel, (by rw [e0_0])⟩
  · -- no
    refine W.skip ?_
    refine W.seq ?_
    refine W.seq ?_
    refine W.reg ?_
    refine Wx.rd (v := .int .i64 0) (rd_assign rfl) rfl ?_
    refine Wx.nil ?_
    refine W.block ?_
    refine W.loop [2, 3, 7, 8, 9, 10, 11, 12, 13, 14, 15, 16, 17] (fun (i : Int) => [(3, .int .i64 i)]) (fun (i : Int) w' => St w [] w' [] ∧ 0 ≤ i ∧ i ≤ rim.size ∧ (∀ q : Int, 0 ≤ q → q < i → isLet (tabAt rim q) = true)) (fun (i : Int) => (rim.size - i).toNat) 0 ⟨rfl, trivial⟩ ⟨hS, (by first | omega | simp), (by first | omega | simp), (fun q q0 q1 => by omega)⟩ ?_
    rintro i u_2 w_1 ⟨hS, h0, h1, h2⟩
    refine W.seq ?_
    refine W.seq ?_
    refine W.reg ?_
    refine Wx.rd (v := .int .i64 i) (rd_move rfl) rfl ?_
    refine Wx.rd (v := .string rim) (rd_move rfl) rfl ?_
    refine Wx.rd (v := .int .i64 (rim.size : Int)) (rd_lenS rfl Tryd.underlying9) rfl ?_
    refine Wx.rd (v := .bool (decide (i < (rim.size : Int)))) (rd_lss rfl rfl) rfl ?_
    refine Wx.nil ?_
    refine W.condD rfl (fun c1 => ?_) (fun c1 => ?_)
    · -- yes
      refine W.skip ?_
      refine W.seq ?_
      refine W.block ?_
      refine W.seq ?_
      refine W.reg ?_
      refine Wx.rd (v := .string rim) (rd_move rfl) rfl ?_
      refine Wx.rd (v := .int .i64 i) (rd_move rfl) rfl ?_
      refine Wx.rd (v := .int .u8 (tabAt rim i)) (rd_indexS' (by kernel_rfl) rfl Tryd.underlying9 (by omega) (by omega)) rfl ?_
      have bd_3 := tabAt_bd rim i
      refine Wx.callF (run_callF Tryd.call60 rfl) (F60 (in_u8 (by omega) (by omega))) rfl ?_
      rintro r_4 w_5 hx_6 rfl
      have hS := hS.ext hx_6
      refine Wx.rd (v := .bool (decide ((numC (tabAt rim i)) = 0))) (rd_eql rfl rfl) rfl ?_
      refine Wx.nil ?_
      refine W.condD rfl (fun c2 => ?_) (fun c2 => ?_)
      · -- yes
        refine W.seq ?_
        refine W.reg ?_
        refine Wx.rd (v := .int .i64 10) (rd_assign rfl) rfl ?_
        refine Wx.nil ?_
        have e1_0 : (rimE rim) = (10 : Int) := by exact (rimE_bad (by omega) h0 c1 (numC_zero.1 c2))
        exact W.ret ⟨.int .i64 10, ResIs.one, hS.bel, (by rw [e1_0])⟩
      · -- no
        refine W.skip ?_
        refine W.reg ?_
        refine Wx.rd (v := .int .i64 i) (rd_move rfl) rfl ?_
        refine Wx.rd (v := .int .i64 (i + 1)) (rd_add rfl rfl (in_i64 (by omega) (by omega))) rfl ?_
        refine Wx.rd (v := .int .i64 (i + 1)) (rd_assign rfl) rfl ?_
        refine Wx.nil ?_
        refine ⟨i + 1, (by show (rim.size - (i + 1)).toNat < (rim.size - i).toNat; omega), ?_, ?_, Out.look rfl Out.self⟩
        · exact ⟨hS, (by first | omega | assumption), (by first | omega | assumption), (fun q q0 q1 => by by_cases hq : q = i; (subst hq; exact not_not_isLet c2); exact h2 q q0 (by omega))⟩
        · exact ⟨rfl, trivial⟩
    · -- no
      refine W.exit rfl ?_
      refine W.seq ?_
      refine W.reg ?_
      refine Wx.rd (v := .int .i64 0) (rd_assign rfl) rfl ?_
      refine Wx.nil ?_
      have e2_0 : (rimE rim) = (0 : Int) := by exact rimE_good (by omega) (fun q q0 q1 => h2 q q0 (by omega))
      exact W.ret ⟨.int .i64 0, ResIs.one, hS.bel, (by rw [e2_0])⟩

theorem F90w {s : ByteArray} {r : Int} {w : World} (s_s : s.size ≤ maxLen) (i_r : InK .i32 r) (p_a : ∀ q : Int, 0 ≤ q → q < s.size → tabAt s q < 128) (p_4 : 4 ≤ s.size) (p_r : 128 ≤ r) : Calls Tryd.prog 90 #[.string s, .int .i32 r] w (Ret w (fun r _ => r = .int .i64 (-1))) := by
  have b_r := bd_i32 i_r
  have hen := encode_last p_r
  have hS := St.start0 w
  refine enterR Tryd.func90 rfl Tryd.ntmps90 Tryd.results90 rfl ?_
  refine W.seq ?_
  refine W.reg ?_
  refine Wx.rd (v := .int .i64 0) (rd_assign rfl) rfl ?_
  refine Wx.nil ?_
  refine W.block ?_
  refine W.seq ?_
  refine W.reg ?_
  refine Wx.rd (v := .int .i32 r) (rd_move rfl) rfl ?_
  refine Wx.rd (v := .bool (decide (0 ≤ r))) (rd_leq rfl rfl) rfl ?_
  refine Wx.rd (v := .bool (decide (0 ≤ r))) (rd_move rfl) rfl ?_
  refine Wx.cut (X := Unit) 3 [164, 165, 166] (fun _ => [(166, .bool (decide (0 ≤ r) && decide (r < 128)))]) (fun _ w' => St w [] w' []) ?_ ?_
  · rcases Bool.eq_false_or_eq_true (decide (0 ≤ r)) with g_1 | g_1
    · -- True
      have gp_2 := of_decide_eq_true g_1
      refine Wx.gyes rfl rfl (congrArg Value.bool g_1) ?_
      refine Wx.rd (v := .int .i32 r) (rd_move rfl) rfl ?_
      refine Wx.gyes rfl rfl (congrArg Value.bool g_1) ?_
      refine Wx.rd (v := .bool (decide (r < 128))) (rd_lss rfl rfl) rfl ?_
      refine Wx.rd (v := .bool (decide (r < 128))) (rd_pickT (congrArg Value.bool g_1) rfl) rfl ?_
      refine Wx.nil ⟨(), hS, ⟨?_, trivial⟩, Out.look rfl Out.refl⟩
      show Value.bool (decide (r < 128)) = Value.bool (decide (0 ≤ r) && decide (r < 128))
      rw [g_1]; rfl
    · -- False
      have gp_3 := of_decide_eq_false g_1
      refine Wx.gnoB rfl rfl (congrArg Value.bool g_1) rfl rfl ?_
      refine Wx.gnoB rfl rfl (congrArg Value.bool g_1) rfl rfl ?_
      refine Wx.rd (v := .bool false) (rd_pickF (congrArg Value.bool g_1) rfl) rfl ?_
      refine Wx.nil ⟨(), hS, ⟨?_, trivial⟩, Out.look rfl Out.refl⟩
      show Value.bool false = Value.bool (decide (0 ≤ r) && decide (r < 128))
      rw [g_1]; rfl
  rintro ⟨⟩ u_5 w_4 hS
  refine Wx.rd (v := .bool (decide (0 ≤ r) && decide (r < 128))) (rd_assign rfl) rfl ?_
  refine Wx.nil ?_
  refine W.condF rfl (by rw [decide_eq_false (show ¬ r < 128 by omega), Bool.and_false]) ?_
  refine W.seq ?_
  refine W.reg ?_
  refine Wx.rd (v := .int .i32 r) (rd_move rfl) rfl ?_
  refine Wx.rd (v := .bool (decide (r = 65533))) (rd_eql rfl rfl) rfl ?_
  refine Wx.rd (v := .bool (decide (r = 65533))) (rd_assign rfl) rfl ?_
  refine Wx.nil ?_
  refine W.condD rfl (fun c1 => ?_) (fun c1 => ?_)
  · -- yes
    refine W.seq ?_
    refine W.seq ?_
    refine W.reg ?_
    refine Wx.rd (v := .string s) (rd_move rfl) rfl ?_
    refine Wx.rangeS (s := s) hS rfl Tryd.underlying9 rfl (fun g_6 w_7 hx_8 hS => ?_)
    refine Wx.nil ?_
    refine W.block ?_
    refine W.loop [4, 5, 6, 176, 177, 178, 179, 180, 181, 182] (fun (q : Nat) => []) (fun (q : Nat) w' => St w [] w' [.raw g_6 (.stringIter s q)]) (fun (q : Nat) => s.size - q) 0 trivial hS ?_
    rintro q u_10 w_9 hS
    refine W.seq ?_
    refine W.reg ?_
    refine Wx.nextS hS 0 rfl rfl rfl (fun hn w_11 hz_12 hS => ?_) (fun hn => ?_)
    · -- a rune
      have hS : St _ _ w_11 [.raw g_6 (.stringIter s (q + (runeW s (q : Int)).toNat))] := hS
      have hq := p_a (q : Int) (by omega) hn
      refine Wx.rd (v := .bool true) (rd_extract rfl rfl) rfl ?_
      refine Wx.nil ?_
      refine W.seq ?_
      refine W.condT rfl rfl ?_
      refine W.skip ?_
      refine W.block ?_
      refine W.seq ?_
      refine W.reg ?_
      refine Wx.rd (v := .int .i64 (q : Int)) (rd_extract rfl rfl) rfl ?_
      refine Wx.rd (v := .int .i32 (runeAt s (q : Int))) (rd_extract rfl rfl) rfl ?_
      refine Wx.rd (v := .int .i64 (q : Int)) (rd_assign rfl) rfl ?_
      refine Wx.rd (v := .int .i32 (runeAt s (q : Int))) (rd_assign rfl) rfl ?_
      refine Wx.nil ?_
      refine W.seq ?_
      refine W.reg ?_
      refine Wx.rd (v := .int .i32 (runeAt s (q : Int))) (rd_move rfl) rfl ?_
      refine Wx.rd (v := .bool (decide ((runeAt s (q : Int)) = 65533))) (rd_eql rfl rfl) rfl ?_
      refine Wx.nil ?_
      refine W.condF rfl (decide_eq_false (by rw [(runeAt_ascii (by omega) hq).1]; omega)) ?_
      refine W.skip ?_
      refine ⟨q + (runeW s (q : Int)).toNat, (by show s.size - (q + (runeW s (q : Int)).toNat) < s.size - q; have := (runeAt_ascii (by omega) hq).2; omega), ?_, ?_, Out.look rfl Out.self⟩
      · exact hS
      · exact trivial
    · -- the end
      refine Wx.rd (v := .bool false) (rd_extract rfl rfl) rfl ?_
      refine Wx.nil ?_
      refine W.seq ?_
      refine W.condF rfl rfl ?_
      refine W.exit rfl ?_
      refine W.seq ?_
      refine W.reg ?_
      refine Wx.rd (v := .int .i64 (-1)) (rd_assign rfl) rfl ?_
      refine Wx.nil ?_
      exact W.ret ⟨.int .i64 (-1), ResIs.one, hS.bel, rfl⟩
  · -- no
    refine W.seq ?_
    refine W.reg ?_
    refine Wx.rd (v := .int .i32 r) (rd_move rfl) rfl ?_
    refine Wx.callF (run_callF Tryd.call110 rfl) (F110 (in_i32 (by omega) (by omega))) rfl ?_
    rintro r_14 w_15 hx_16 rfl
    have hS := hS.ext hx_16
    refine Wx.rd (v := .bool (!(validRune r))) (rd_not rfl) rfl ?_
    refine Wx.rd (v := .bool (!(validRune r))) (rd_assign rfl) rfl ?_
    refine Wx.nil ?_
    refine W.cond rfl (fun c4 => ?_) (fun c4 => ?_)
    · -- yes
      try simp only [Bool.and_eq_true, Bool.or_eq_true, Bool.not_eq_true', Bool.and_eq_false_iff, Bool.or_eq_false_iff, Bool.not_eq_false', decide_eq_true_eq, decide_eq_false_iff_not, not_or, Bool.false_eq_true, Bool.true_eq_false, false_or, or_false, not_false_eq_true] at c4
      refine W.seq ?_
      refine W.reg ?_
      refine Wx.rd (v := .int .i64 (-1)) (rd_assign rfl) rfl ?_
      refine Wx.nil ?_
      exact W.ret ⟨.int .i64 (-1), ResIs.one, hS.bel, rfl⟩
    · -- no
      try simp only [Bool.and_eq_true, Bool.or_eq_true, Bool.not_eq_true', Bool.and_eq_false_iff, Bool.or_eq_false_iff, Bool.not_eq_false', decide_eq_true_eq, decide_eq_false_iff_not, not_or, Bool.false_eq_true, Bool.true_eq_false, false_or, or_false, not_false_eq_true] at c4
      refine W.scope ?_
      refine W.seq ?_
      refine W.reg ?_
      refine Wx.rd (v := .int .i32 r) (rd_move rfl) rfl ?_
      refine Wx.rd (v := .string (Utf8.encode r)) (rd_convRS rfl Tryd.underlying21 Tryd.underlying9) rfl ?_
      refine Wx.rd (v := .string (Utf8.encode r)) (rd_assign rfl) rfl ?_
      refine Wx.nil ?_
      refine W.seq ?_
      refine W.reg ?_
      refine Wx.rd (v := .string (Utf8.encode r)) (rd_move rfl) rfl ?_
      refine Wx.rd (v := .int .i64 ((Utf8.encode r).size : Int)) (rd_lenS rfl Tryd.underlying9) rfl ?_
      refine Wx.rd (v := .int .i64 (((Utf8.encode r).size : Int) - 1)) (rd_sub rfl rfl (in_i64 (by omega) (by omega))) rfl ?_
      refine Wx.rd (v := .int .i64 (((Utf8.encode r).size : Int) - 1)) (rd_assign rfl) rfl ?_
      refine Wx.nil ?_
      refine W.seq ?_
      refine W.reg ?_
      refine Wx.rd (v := .int .i64 (((Utf8.encode r).size : Int) - 1)) (rd_move rfl) rfl ?_
      refine Wx.rd (v := .int .i64 (((Utf8.encode r).size : Int) - 1)) (rd_assign rfl) rfl ?_
      refine Wx.nil ?_
      refine W.seq ?_
      refine W.reg ?_
      refine Wx.rd (v := .int .i64 0) (rd_assign rfl) rfl ?_
      refine Wx.nil ?_
      refine W.seq ?_
      refine W.block ?_
      refine W.loop [4, 9, 10, 11, 12, 23, 24, 25, 26, 27, 28, 29, 30, 31, 32, 33, 34, 35, 36, 37, 38, 39, 40, 41, 42, 43, 44, 45, 46, 47, 48, 49, 50, 51, 52, 53, 54, 55, 56, 57, 58, 59, 60, 61, 62, 63, 64, 65, 66, 67, 68, 69, 70, 71, 72, 73, 74, 75, 76, 77, 78, 79, 80, 81, 82, 83, 84, 85, 86, 87, 88, 89, 90, 91, 92, 93, 94, 95, 96, 97, 98] (fun x : Int × Int => match x with | (i, fails) => [(9, .int .i64 i), (10, .int .i64 fails)]) (fun (x : Int × Int) w' => match x with | (i, fails) => St w [] w' [] ∧ i = (Utf8.encode r).size - 1) (fun x : Int × Int => match x with | (i, fails) => 0) (((Utf8.encode r).size : Int) - 1, 0) ⟨rfl, rfl, trivial⟩ ⟨hS, (by first | omega | simp)⟩ ?_
      rintro ⟨i, fails⟩ u_18 w_17 ⟨hS, h0⟩
      refine W.seq ?_
      refine W.seq ?_
      refine W.reg ?_
      refine Wx.rd (v := .int .i64 i) (rd_move rfl) rfl ?_
      refine Wx.rd (v := .string s) (rd_move rfl) rfl ?_
      refine Wx.rd (v := .int .i64 (s.size : Int)) (rd_lenS rfl Tryd.underlying9) rfl ?_
      refine Wx.rd (v := .bool (decide (i < (s.size : Int)))) (rd_lss rfl rfl) rfl ?_
      refine Wx.nil ?_
      refine W.condT rfl (decide_eq_true (by omega)) ?_
      refine W.skip ?_
      refine W.block ?_
      refine W.scope ?_
      refine W.seq ?_
      refine W.seq ?_
      refine W.regQ mixedHa_ (by kernel_rfl) ?_
      refine Wx.rd (v := .string s) (rd_move rfl) rfl ?_
      refine Wx.rd (v := .int .i64 i) (rd_move rfl) rfl ?_
      refine Wx.rd (v := .int .u8 (tabAt s i)) (rd_indexS' (by kernel_rfl) rfl Tryd.underlying9 (by omega) (by omega)) rfl ?_
      have bd_19 := tabAt_bd s i
      refine Wx.rd (v := .string (Utf8.encode r)) (rd_move rfl) rfl ?_
      refine Wx.rd (v := .int .i64 (((Utf8.encode r).size : Int) - 1)) (rd_move rfl) rfl ?_
      refine Wx.rd (v := .int .u8 (tabAt (Utf8.encode r) (((Utf8.encode r).size : Int) - 1))) (rd_indexS' (by kernel_rfl) rfl Tryd.underlying9 (by omega) (by omega)) rfl ?_
      have bd_20 := tabAt_bd (Utf8.encode r) (((Utf8.encode r).size : Int) - 1)
      refine Wx.rd (v := .bool (decide ((tabAt s i) ≠ (tabAt (Utf8.encode r) (((Utf8.encode r).size : Int) - 1))))) (rd_neq rfl rfl) rfl ?_
      refine Wx.nilQ (fun w_21 hx_22 => ?_)
      have hS := hS.ext hx_22
      refine W.condT rfl (decide_eq_true (by have := p_a i (by omega) (by omega); omega)) ?_
      refine W.seq ?_
      refine W.regQ mixedHa_ (by kernel_rfl) ?_
      refine Wx.rd (v := .string s) (rd_move rfl) rfl ?_
      refine Wx.rd (v := .int .i64 i) (rd_move rfl) rfl ?_
      refine Wx.rd (v := .int .i64 (i + 1)) (rd_add rfl rfl (in_i64 (by omega) (by omega))) rfl ?_
      refine Wx.rd (v := .string ((s).extract (i + 1).toNat s.size)) (rd_sliceS_L Tryd.underlying9 rfl rfl (by omega) (by omega)) rfl ?_
      refine Wx.rd (v := .string (Utf8.encode r)) (rd_move rfl) rfl ?_
      refine Wx.rd (v := .int .i64 (((Utf8.encode r).size : Int) - 1)) (rd_move rfl) rfl ?_
      refine Wx.rd (v := .int .u8 (tabAt (Utf8.encode r) (((Utf8.encode r).size : Int) - 1))) (rd_indexS' (by kernel_rfl) rfl Tryd.underlying9 (by omega) (by omega)) rfl ?_
      have bd_23 := tabAt_bd (Utf8.encode r) (((Utf8.encode r).size : Int) - 1)
      refine Wx.callV (v := .int .i64 (indexByte ((s).extract (i + 1).toNat s.size).data.toList (tabAt (Utf8.encode r) (((Utf8.encode r).size : Int) - 1)).toNat.toUInt8)) (run_callF Tryd.call109 rfl) (fun w_24 hw_25 => (F109 (by first | assumption | (simp only [maxLen]; omega) | (simp only [ByteArray.size_extract, ByteArray.size_append, maxLen] at *; omega) | decide) (in_u8 (by omega) (by omega)))) rfl ?_
      refine Wx.rd (v := .int .i64 (indexByte ((s).extract (i + 1).toNat s.size).data.toList (tabAt (Utf8.encode r) (((Utf8.encode r).size : Int) - 1)).toNat.toUInt8)) (rd_assign rfl) rfl ?_
      refine Wx.nilQ (fun w_26 hx_27 => ?_)
      have hS := hS.ext hx_27
      refine W.seq ?_
      refine W.seq ?_
      refine W.reg ?_
      refine Wx.rd (v := .int .i64 (indexByte ((s).extract (i + 1).toNat s.size).data.toList (tabAt (Utf8.encode r) (((Utf8.encode r).size : Int) - 1)).toNat.toUInt8)) (rd_move rfl) rfl ?_
      refine Wx.rd (v := .bool (decide ((indexByte ((s).extract (i + 1).toNat s.size).data.toList (tabAt (Utf8.encode r) (((Utf8.encode r).size : Int) - 1)).toNat.toUInt8) < 0))) (rd_lss rfl rfl) rfl ?_
      refine Wx.nil ?_
      refine W.condT rfl (decide_eq_true (by rw [index_asc p_a hen.2.2 (tab_le _ _).2]; decide)) ?_
      refine W.seq ?_
      refine W.reg ?_
      refine Wx.rd (v := .int .i64 (-1)) (rd_assign rfl) rfl ?_
      refine Wx.nil ?_
      exact W.ret ⟨.int .i64 (-1), ResIs.one, hS.bel, rfl⟩

theorem F59w {s : ByteArray} {r : Int} {w : World} (s_s : s.size ≤ maxLen) (i_r : InK .i32 r) (p_a : ∀ q : Int, 0 ≤ q → q < s.size → tabAt s q < 128) (p_4 : 4 ≤ s.size) (p_r : 128 ≤ r) : Calls Tryd.prog 59 #[.string s, .int .i32 r] w (Ret w (fun r _ => r = .bool false)) := by
  have b_r := bd_i32 i_r
  have hS := St.start0 w
  refine enterR Tryd.func59 rfl Tryd.ntmps59 Tryd.results59 rfl ?_
  refine W.seq ?_
  refine W.reg ?_
  refine Wx.rd (v := .bool false) (rd_assign rfl) rfl ?_
  refine Wx.nil ?_
  refine W.seq ?_
  refine W.reg ?_
  refine Wx.rd (v := .string s) (rd_move rfl) rfl ?_
  refine Wx.rd (v := .int .i32 r) (rd_move rfl) rfl ?_
  refine Wx.callF (run_callF Tryd.call90 rfl) (F90w (by first | assumption | (simp only [maxLen]; omega) | (simp only [ByteArray.size_extract, ByteArray.size_append, maxLen] at *; omega) | decide) (in_i32 (by omega) (by omega)) (by omega) (by omega) (by omega)) rfl ?_
  rintro r_1 w_2 hx_3 rfl
  have hS := hS.ext hx_3
  refine Wx.rd (v := .bool (decide (0 ≤ ((-1 : Int))))) (rd_geq rfl rfl) rfl ?_
  refine Wx.rd (v := .bool (decide (0 ≤ ((-1 : Int))))) (rd_assign rfl) rfl ?_
  refine Wx.nil ?_
  have e0_0 : (decide (0 ≤ ((-1 : Int)))) = false := by rfl
  exact W.ret ⟨.bool (decide (0 ≤ ((-1 : Int)))), ResIs.one, hS.bel, (by rw [e0_0])⟩
end Go.Proofs.YtokdjjebnomciaaDoor

namespace Go.Proofs.YtokdjjebnomciaaDoor
open Go.Wk Go.RowKit Go.Lib

theorem F59 {s : ByteArray} {r : Int} {w : World} (h1 : s.size ≤ maxLen) (h2 : InK .i32 r) (p_a : ∀ q : Int, 0 ≤ q → q < s.size → tabAt s q < 128) (p_4 : 4 ≤ s.size) (p_0 : 0 ≤ r) :
    Calls Tryd.prog 59 #[.string s, .int .i32 r] w (Ret w fun q _ => q = .bool (hasRune s r)) := by
  by_cases h : r < 128
  · have := ret_of_same (Tryd.strings_ContainsRune_ascii s r w p_0 h)
    rw [hasRune, decide_eq_true (And.intro p_0 h), Bool.true_and]
    exact this
  · have := F59w (w := w) h1 h2 p_a p_4 (by omega)
    rw [hasRune, decide_eq_false (fun q => h q.2), Bool.false_and]
    exact this
end Go.Proofs.YtokdjjebnomciaaDoor

namespace Go.Proofs.YtokdjjebnomciaaDoor
open Go.Wk Go.RowKit Go.Lib Go
set_option linter.unusedVariables false

/-! ### strings by their bytes -/
def byteAt (s : ByteArray) (i : Int) : UInt8 := s.data.toList.getD i.toNat 0
theorem byteAt_tab (s : ByteArray) (i : Int) : tabAt s i = ((byteAt s i).toNat : Int) := rfl
def mkB (l : List UInt8) : ByteArray := ⟨l.toArray⟩
def restV (s : ByteArray) : ByteArray := mkB ((takS s).2.map (byteAt s))
theorem mkB_app (a b : List UInt8) : mkB a ++ mkB b = mkB (a ++ b) := by
  rw [ByteArray.ext_iff, ByteArray.data_append]
  simp [mkB]
theorem mkB_size (a : List UInt8) : (mkB a).size = a.length := by simp [mkB, ByteArray.size]
theorem mkB_list (s : ByteArray) : mkB s.data.toList = s := rfl
theorem mkB_one {s : ByteArray} {i : Int} (h0 : 0 ≤ i) (h1 : i < s.size) : s.extract i.toNat (i + 1).toNat = mkB [byteAt s i] := by
  have hl : s.size = s.data.toList.length := (by simp)
  rw [ByteArray.ext_iff, ByteArray.data_extract, ← Array.toList_inj, Array.toList_extract]
  show (s.data.toList.drop i.toNat).take ((i + 1).toNat - i.toNat) = [byteAt s i]
  rw [show (i + 1).toNat - i.toNat = 1 by omega, List.drop_eq_getElem_cons (by omega), List.take_succ_cons, List.take_zero, byteAt, List.getD_eq_getElem?_getD, List.getElem?_eq_getElem (by omega)]; rfl

/-! ### the builder -/
theorem bld_start {w0 w : World} {O : List (Option Nat)} {obs : List Ob} {g : Nat} (hS : St w0 O w obs) (i : Nat) (hi : obs[i]? = some (.box g 116 [.pointer none, .slice none 0 0])) : IsBuilderF 116 5 w0.heap.size g (byteCells []) w :=
  .inl ⟨(hS.get i hi).1, .slice none 0 0, (hS.get i hi).2, ⟨rfl, .inl ⟨rfl, rfl⟩⟩, by simp [Value.ownBlock]⟩
theorem bld_block {B b : Nat} {bs : List Value} {w : World} (h : IsBuilderF 116 5 B b bs w) : ∃ cs, w.heap[b]? = some (.cells cs 116 (0, 0)) := by
  rcases h with ⟨_, v, h, _⟩ | ⟨_, v, h, _⟩ <;> exact ⟨_, h⟩
theorem bld_ext {B b : Nat} {bs : List Value} {w w' : World} (h : IsBuilderF 116 5 B b bs w) (hx : Ext w w') : IsBuilderF 116 5 B b bs w' := by
  have hb : ∀ k o, w.heap[k]? = some o → w'.heap[k]? = some o := fun k o hk => (hx.block k (Array.getElem?_eq_some_iff.1 hk).1).trans hk
  have key : ∀ p, BuilderAtF 116 5 B b p bs w → BuilderAtF 116 5 B b p bs w' := by
    rintro p ⟨h1, v, h2, h3, h4⟩
    refine ⟨h1, v, hb _ _ h2, ⟨h3.1, ?_⟩, h4⟩
    rcases h3.2 with hn | ⟨g, cap, cur, fz, e1, e2, e3, e4⟩
    · exact .inl hn
    · exact .inr ⟨g, cap, cur, fz, e1, e2, hb _ _ e3, e4⟩
  exact h.imp (key _) (key _)
theorem bld_keep {w0 w w' : World} {O : List (Option Nat)} {b : Nat} {bs : List Value} {v : Value} {ys : List Int} (hS : St w0 O w [.row (tI .i64) 3 v ys]) (h : IsBuilderF 116 5 w0.heap.size b bs w) (hB : Below w0.heap.size w w') (hK : OthersKept 5 (some b) w w') : St w0 O w' [.row (tI .i64) 3 v ys] := by
  obtain ⟨cb, hcb⟩ := bld_block h
  obtain ⟨cs, h1, h2⟩ := hS.get 0 rfl
  refine ⟨Below.trans hS.bel hB, hS.olt, fun ob ho => ?_, hS.sep⟩
  rw [List.mem_singleton] at ho
  subst ho
  refine ⟨cs, ⟨h1.1, ?_⟩, h2⟩
  rcases h1.2 with hn | ⟨g, cap, cur, e1, e2, e3, e4⟩
  · exact .inl hn
  · refine .inr ⟨g, cap, cur, e1, e2, hK g _ e3 ?_ ?_, e4⟩
    · intro e
      injection e with e
      rw [e, hcb] at e3
      simp at e3
    · intro c fz e
      simp at e
theorem F94 {B b : Nat} {l : List UInt8} {c : Int} {u : UInt8} {w : World} (h : IsBuilderF 116 5 B b (byteCells l) w) (hc : c = (u.toNat : Int)) (hl : (l.length : Int) ≤ 1000) (hB : B ≤ w.heap.size) :
    Calls Tryd.prog 94 #[.pointer (some ⟨b, 0, none⟩), .int .u8 c] w (Bk fun r w' => r = .nilIface ∧ IsBuilderF 116 5 B b (byteCells (l ++ [u])) w' ∧ Below B w w' ∧ OthersKept 5 (some b) w w') := by
  have := Any.Builder_WriteByte_k { Tryd.lays158 with } Tryd.Builder_Extra_158 B b (byteCells l) c w h (by rw [byteCells, List.length_map]; omega) hB
  refine this.mono fun e w' hh => ?_
  obtain ⟨he, h1, h2, h3⟩ := hh
  refine ⟨_, he, rfl, .inr ?_, h2, h3⟩
  subst hc
  have e : byteCells (l ++ [u]) = byteCells l ++ [.int .u8 (u.toNat : Int)] := by simp [byteCells]
  rw [e]; exact h1
theorem F95 {B b : Nat} {l : List UInt8} {w : World} (h : IsBuilderF 116 5 B b (byteCells l) w) (hB : B ≤ w.heap.size) :
    Calls Tryd.prog 95 #[.pointer (some ⟨b, 0, none⟩)] w (Bk fun r w' => r = .string (mkB l) ∧ Below B w w') :=
  (Tryd.Builder_String_any_f B b l w h hB).mono fun e w' hh => ⟨_, hh.1, rfl, hh.2.2⟩
end Go.Proofs.YtokdjjebnomciaaDoor

namespace Go.Proofs.YtokdjjebnomciaaDoor
open Go.Wk Go

def stepsV (s : ByteArray) : List Join := if rimE s = 0 then (takS s).1 else []
def restE (s : ByteArray) : ByteArray := if rimE s = 0 then restV s else ByteArray.empty
def fullP (s : ByteArray) : Bool := decide (rimE s = 0) && (restV s == ByteArray.empty)
def fullR (s : ByteArray) : Bool := if rimE s = 0 then decide (2 * (allV s).1 = s.size) else false
def inner (s : ByteArray) : ByteArray := s.extract (1 : Int).toNat ((s.size : Int) - 1).toNat
def coreT : Nat → ByteArray → ByteArray
  | 0, s => s
  | m + 1, s => if 1 < (s.size : Int) ∧ fitR s 0 ((s.size : Int) - 1) = true then coreT m (inner s) else s
def coreF (s : ByteArray) : ByteArray := coreT s.size s
def coreV (s : ByteArray) : ByteArray := if rimE s = 0 then coreF (restV s) else ByteArray.empty
theorem inner_size (s : ByteArray) : (inner s).size = s.size - 2 := by
  rw [inner, ByteArray.size_extract]; omega
theorem coreT_fuel : ∀ (m k : Nat) (s : ByteArray), s.size ≤ m → s.size ≤ k → coreT m s = coreT k s
  | 0, 0, _, _, _ => rfl
  | 0, k + 1, s, h, _ => by rw [coreT, coreT, if_neg (fun q => by omega)]
  | m + 1, 0, s, _, h => by rw [coreT, coreT, if_neg (fun q => by omega)]
  | m + 1, k + 1, s, h1, h2 => by
    have := inner_size s
    rw [coreT, coreT]
    split
    · rename_i hc
      exact coreT_fuel m k _ (by omega) (by omega)
    · rfl
theorem coreF_yes {s : ByteArray} (h : 1 < (s.size : Int) ∧ fitR s 0 ((s.size : Int) - 1) = true) : coreF (inner s) = coreF s := by
  have hi := inner_size s
  obtain ⟨m, hm⟩ : ∃ m, s.size = m + 1 := ⟨s.size - 1, by omega⟩
  rw [coreF, coreF, hm, coreT, if_pos h]
  exact coreT_fuel _ _ _ (Nat.le_refl _) (by omega)
theorem coreF_no {s : ByteArray} (h : ¬ 1 < (s.size : Int) ∨ fitR s 0 ((s.size : Int) - 1) = false) : coreF s = s := by
  rw [coreF]
  cases hm : s.size with
  | zero => rfl
  | succ m =>
    rw [coreT, if_neg]
    rintro ⟨h1, h2⟩
    rcases h with h | h
    · omega
    · rw [h2] at h; cases h
theorem tab_extract {s : ByteArray} {a b : Nat} {q : Int} (h0 : 0 ≤ q) (h1 : q < (s.extract a b).size) : tabAt (s.extract a b) q = tabAt s (a + q) := by
  rw [ByteArray.size_extract] at h1
  rw [tabAt, tabAt, ByteArray.data_extract, Array.toList_extract, List.getD_eq_getElem?_getD, List.getD_eq_getElem?_getD]
  have e : (a + q).toNat = a + q.toNat := by omega
  rw [show (s.data.toList.extract a b) = (s.data.toList.drop a).take (b - a) from rfl, List.getElem?_take, if_pos (by omega), List.getElem?_drop, e]
theorem Lets.extract {s : ByteArray} (h : Lets s) (a b : Nat) : Lets (s.extract a b) := by
  intro q h0 h1
  rw [tab_extract h0 h1]
  rw [ByteArray.size_extract] at h1
  exact h _ (by omega) (by omega)
theorem tab_mkB {l : List UInt8} {q : Int} : tabAt (mkB l) q = ((l.getD q.toNat 0).toNat : Int) := rfl
theorem Lets.rest {s : ByteArray} (h : Lets s) : Lets (restV s) := by
  intro q h0 h1
  rw [restV, mkB_size, List.length_map] at h1
  rw [restV, tab_mkB, List.getD_eq_getElem?_getD, List.getElem?_map, List.getElem?_eq_getElem (by omega)]
  have := takS_bd (s := s).1 _ (List.getElem_mem (l := (takS s).2) (n := q.toNat) (by omega))
  exact h _ this.1 this.2
theorem rest_size {s : ByteArray} : ((restV s).size : Int) ≤ s.size := by
  have := (takS_bd (s := s)).2
  rw [restV, mkB_size, List.length_map]
  omega
def turnE (s : ByteArray) (by' : Int) : Int := if rimE s ≠ 0 then rimE s else if by' < 0 ∨ (0 < by' ∧ (s.size : Int) ≤ by') then 1 else 0
def turnS (s : ByteArray) (by' : Int) : ByteArray := if turnE s by' = 0 then s.extract by'.toNat s.size ++ s.extract 0 by'.toNat else ByteArray.empty
theorem turn_err {s : ByteArray} {d : Int} (h : rimE s ≠ 0) : turnS s d = ByteArray.empty ∧ turnE s d = rimE s := by
  have e : turnE s d = rimE s := if_pos h
  exact ⟨by rw [turnS, e, if_neg h], e⟩
theorem turn_bad {s : ByteArray} {d : Int} (h : rimE s = 0) (hd : d < 0 ∨ (0 < d ∧ (s.size : Int) ≤ d)) : turnS s d = ByteArray.empty ∧ turnE s d = 1 := by
  have e : turnE s d = 1 := by rw [turnE, if_neg (by omega), if_pos hd]
  exact ⟨by rw [turnS, e, if_neg (by decide)], e⟩
theorem turn_ok {s : ByteArray} {d : Int} (h : rimE s = 0) (hd : ¬ (d < 0 ∨ (0 < d ∧ (s.size : Int) ≤ d))) : turnS s d = s.extract d.toNat s.size ++ s.extract 0 d.toNat ∧ turnE s d = 0 := by
  have e : turnE s d = 0 := by rw [turnE, if_neg (by omega), if_neg hd]
  exact ⟨by rw [turnS, if_pos e], e⟩
theorem inner_lt {s : ByteArray} (h : 1 < (s.size : Int)) : ByteArray.size (s.extract (1 : Int).toNat ((s.size : Int) - 1).toNat) < ByteArray.size s := by
  have := inner_size s
  rw [inner] at this
  omega
theorem inner_le {s : ByteArray} (h : (s.size : Int) ≤ 12) : ((s.extract (1 : Int).toNat ((s.size : Int) - 1).toNat).size : Int) ≤ 12 := by
  have := inner_size s
  rw [inner] at this
  omega
end Go.Proofs.YtokdjjebnomciaaDoor

namespace Go.Wk
open Go.RowKit Go.Lib
set_option linter.unusedVariables false

theorem reps_int {k : IntKind} {F : List (Option Nat)} {w : World} {ys : List Int} {cs : List Value} (h : Reps (tI k) F w ys cs) : cs = ys.map (Value.int k) := by
  have hl : cs.length = ys.length * 1 := h.1
  refine List.ext_getElem? fun i => ?_
  by_cases hi : i < ys.length
  · obtain ⟨h1, _⟩ := h.2 i _ (List.getElem?_eq_getElem hi)
    have h2 : (cs.drop (i * 1)).take 1 = [.int k ys[i]] := h1
    rw [Nat.mul_one] at h2
    have h3 : ((cs.drop i).take 1)[0]? = some (.int k ys[i]) := by rw [h2]; rfl
    rw [List.getElem?_take, if_pos (by decide), List.getElem?_drop, Nat.add_zero] at h3
    rw [h3, List.getElem?_map, List.getElem?_eq_getElem hi]; rfl
  · rw [List.getElem?_eq_none (by omega), List.getElem?_eq_none (by rw [List.length_map]; omega)]

section
variable {P : Program} {n : Nat} {k : Cont} {σ σ0 : Fr} {w w0 : World} {O : List (Option Nat)} {obs : List Ob} {x : Operand} {ty T : TypeId} {l : List (Nat × Value)} {d : Tmp} {pos : String} {af : Array Edge} {ops : Array Oper} {rest : List Oper}

/-- []rune(s). -/
theorem Wx.runes {src dst e : TypeId} {s : ByteArray} {ys : List Int} (hS : St w0 O w obs) (hx : ev (look l σ0) x = .string s) (hs : P.underlying src = some .string) (hd' : P.underlying dst = some (.slice e)) (he : P.underlying e = some (.int .i32))
    (hr : Conv.runesFrom s s.size 0 #[] = (ys.map (Value.int .i32)).toArray) (hk : ∀ y ∈ ys, InK .i32 y) (hl : ys.length ≤ 1000000) (hd : Nat.ble (d + 1) n = true)
    (h : ∀ v w', Ext w w' → St w0 O w' (.row (tI .i32) e v ys :: obs) → Wx P n ops false rest k (look ((d, v) :: l) σ0) w') :
    Wx P n ops false (⟨some d, .convert src dst x, ty, pos, af, none⟩ :: rest) k (look l σ0) w := by
  have hsz : (Conv.runesFrom s s.size 0 #[]).size = ys.length := by rw [hr]; simp
  have hrun := run_runes_of_string (P := P) w src dst e s hs hd' he (by rw [hsz]; omega)
  rw [hsz, hr] at hrun
  have hge := grownCap_ge w ys.length 0 e
  have hle := grownCap_le_maxLen w ys.length 0 e (by simp only [maxLen]; omega)
  have hx2 : ∀ c, Ext w (w.drew.alloc c) := fun c => ((Below.refl w.heap.size w).drew).alloc (by simp) _
  refine Wx.val (v := .slice (some ⟨w.heap.size, 0, none⟩) ys.length (grownCap w ys.length 0 e)) (w' := w.drew.alloc (.cells ((ys.map (Value.int .i32)).toArray ++ Array.replicate (grownCap w ys.length 0 e - ys.length) (.int .i32 0)) e)) ?_ hd (h _ _ (hx2 _) (hS.push (hx2 _) _ (fun b hb => ?_) (fun F hM => ⟨ys.map (Value.int .i32), ⟨by simp [tI], .inr ⟨w.heap.size, _, _, rfl, hS.bel.size, heap_alloc_new w.drew _, hge, hle, ?_, ?_⟩⟩, ⟨by simp [tI], fun i y hy => ?_⟩⟩)))
  · simp [xop, execOp, hx, hrun]
  · simp [Ob.blk, Value.ownBlock] at hb; omega
  · simp only [Array.size_append, List.size_toArray, List.length_map, Array.size_replicate]
    show _ = _ * 1
    omega
  · have hn : (tI IntKind.i32).n = 1 := rfl
    rw [hn, Nat.mul_one, Array.toList_append, List.take_append_of_le_length (by simp)]
    exact List.take_of_length_le (by simp)
  · refine ⟨?_, hk y (List.mem_of_getElem? hy)⟩
    show (List.drop (i * 1) (ys.map (Value.int .i32))).take 1 = _
    obtain ⟨hi, rfl⟩ := List.getElem?_eq_some_iff.1 hy
    rw [Nat.mul_one, List.drop_eq_getElem_cons (by simpa using hi), List.take_succ_cons, List.take_zero, List.getElem_map]

/-- string(rs), of a slice of the call's own. -/
theorem rd_runesStr {src dst e et : TypeId} {v : Value} {ys : List Int} (hS : St w0 O w obs) (i : Nat) (hi : obs[i]? = some (.row (tI .i32) et v ys)) (hx : ev σ x = v) (hs : P.underlying src = some (.slice e)) (he : P.underlying e = some (.int .i32)) (hd : P.underlying dst = some .string) :
    Rd P σ (.convert src dst x) ty w (.string (runesBytes ys)) := by
  obtain ⟨cs, hr, hR⟩ := hS.get i hi
  have hcs := reps_int hR
  rcases hr.2 with ⟨rfl, hn⟩ | ⟨g, cap, cur, rfl, q1, q2, q3, q4, q5, q6⟩
  · have : ys = [] := List.eq_nil_of_length_eq_zero hn
    subst this
    exact Rd.of fun w' => by
      simp only [xop, execOp, hx, Sem.run_bind, run_convert_runes_nil (P := P) w' src dst e 0 0 hs he hd]
      rfl
  · intro w' hw'
    have hc := run_convert_runes (P := P) w' src dst e ⟨g, 0, none⟩ ys.length cap ys (Nat.le_refl _) hs he hd (fun j hj => by
      have hg : w'.heap[g]? = some (.cells cur et (0, 0)) := (hw'.block g (Array.getElem?_eq_some_iff.1 q2).1).trans q2
      rw [Addr.add_lit, Nat.zero_add, cell_of_row w' g j _ et (0, 0) hg]
      have h6 : cur.toList.take (ys.length * 1) = ys.map (Value.int .i32) := by rw [← hcs]; exact q6
      rw [Nat.mul_one] at h6
      have h7 : (cur.toList.take ys.length)[j]? = some (.int .i32 (ys.getD j 0)) := by
        rw [h6, List.getElem?_map, List.getElem?_eq_getElem hj, List.getD_eq_getElem?_getD, List.getElem?_eq_getElem hj]; rfl
      rw [List.getElem?_take, if_pos hj] at h7
      simpa using h7)
    rw [List.take_of_length_le (Nat.le_refl _)] at hc
    simp only [xop, execOp, hx, Sem.run_bind, hc]
    rfl
end
end Go.Wk

namespace Go.Proofs.YtokdjjebnomciaaDoor
open Go.Wk Go.RowKit Go.Lib Go
set_option linter.unusedVariables false

/-- A letter's opposite. -/
def swB (b : UInt8) : UInt8 := if b.toNat ≤ 90 then (b.toNat + 32).toUInt8 else (b.toNat - 32).toUInt8
def LetB (b : UInt8) : Prop := isLet (b.toNat : Int) = true
theorem lets_mem {s : ByteArray} (h : Lets s) : ∀ b ∈ s.data.toList, LetB b := by
  intro b hb
  obtain ⟨k, hk, rfl⟩ := List.mem_iff_getElem.1 hb
  have e : s.size = s.data.toList.length := (by simp)
  have := h (k : Int) (by omega) (by omega)
  rw [tabAt, Int.toNat_natCast, List.getD_eq_getElem?_getD, List.getElem?_eq_getElem hk] at this
  exact this
theorem lets_of {l : List UInt8} (h : ∀ b ∈ l, LetB b) : Lets (mkB l) := by
  intro q h0 h1
  rw [mkB_size] at h1
  rw [tab_mkB, List.getD_eq_getElem?_getD, List.getElem?_eq_getElem (by omega)]
  exact h _ (List.getElem_mem _)
theorem swB_all : ∀ i < 256, isLet ((i : Nat) : Int) = true → (swB (UInt8.ofNat i)).toNat = (if i ≤ 90 then i + 32 else i - 32) ∧ isLet (((swB (UInt8.ofNat i)).toNat : Nat) : Int) = true ∧ swB (swB (UInt8.ofNat i)) = UInt8.ofNat i := by decide +kernel
theorem swB_let {b : UInt8} (h : LetB b) : (swB b).toNat = (if b.toNat ≤ 90 then b.toNat + 32 else b.toNat - 32) ∧ LetB (swB b) ∧ swB (swB b) = b := by
  have := swB_all b.toNat (UInt8.toNat_lt b) h
  rwa [UInt8.ofNat_toNat] at this
theorem other_sw {b : UInt8} (h : LetB b) : otherU (b.toNat : Int) = ((swB b).toNat : Int) := by
  rw [otherU_let h, (swB_let h).1]
  have := isLet_bd h
  split
  · rw [if_pos (by omega)]; omega
  · rw [if_neg (by omega)]; omega
theorem let_lt {b : UInt8} (h : LetB b) : b.toNat < 128 := by have := isLet_bd h; omega
theorem decode_let {b : UInt8} {l : List UInt8} (h : LetB b) : decodeL (b :: l) = (b.toNat, 1) := by
  have ht : tabAt (mkB (b :: l)) ((0 : Nat) : Int) = (b.toNat : Int) := rfl
  rcases decode_cases (mkB (b :: l)) 0 with h1 | h1
  · rw [decodeL]
    show Utf8.decode (mkB (b :: l)) 0 = _
    rw [h1.2, ht]; rfl
  · have := let_lt h
    rw [ht] at h1; omega
theorem encode_let {b : UInt8} (h : LetB b) : encodeRune ((b.toNat : Nat) : Int) = [b] := by
  have := let_lt h
  rw [encodeRune, encodeRuneZ_one (by omega) (by omega)]
  simp
theorem mapGo_let : ∀ (m : Nat) (l : List UInt8), l.length ≤ m → (∀ b ∈ l, LetB b) → mapGoD otherU m l = l.map swB
  | 0, l, hm, h => by rw [List.eq_nil_of_length_eq_zero (by omega : l.length = 0)]; rfl
  | m + 1, [], _, _ => rfl
  | m + 1, b :: l, hm, h => by
    have hb := h b (List.mem_cons_self ..)
    rw [mapGoD, if_neg (by simp), decode_let hb, other_sw hb, if_pos (by omega), encode_let (swB_let hb).2.1, List.drop_succ_cons, List.drop_zero, mapGo_let m l (by simpa using hm) (fun c hc => h c (List.mem_cons_of_mem _ hc))]
    rfl
theorem map_let {l : List UInt8} (h : ∀ b ∈ l, LetB b) : mapD otherU l = l.map swB := mapGo_let _ l (Nat.le_refl _) h
theorem other_range (x : Nat) (hx : x ≤ 1114111) : -2147483648 ≤ otherU x ∧ otherU x ≤ 2147483647 := by
  rw [otherU]
  split
  · have := toLowerU_range x hx; omega
  · have := toUpperU_range x hx; omega
theorem F78 {s : ByteArray} {w : World} (_ : s.size ≤ maxLen) (p_s : (s.size : Int) ≤ 1000) (hG : Laid w) : Calls Tryd.prog 78 #[.func (.func 79) #[] #[], .string s] w (Ret w fun q _ => q = .string (mkB (mapD otherU s.data.toList))) :=
  ret_of_below (Tryd.strings_Map_grows 79 #[] Tryd.call79 otherU s w (by omega) (fun W x hx hb => (F79 (c := (x : Int)) (w := W) (in_i32 (by omega) (by omega)) (hG.ext hb)).mono fun e w' ⟨r, he, hx, hr⟩ => ⟨by rw [he, hr], hx⟩) other_range hG.utf)

/-! ### runes -/
theorem runesFrom_let (s : ByteArray) (h : Lets s) : ∀ (m p : Nat) (acc : Array Value), p + m = s.size → Conv.runesFrom s m p acc = acc ++ ((s.data.toList.drop p).map fun b => Value.int .i32 (b.toNat : Int)).toArray
  | 0, p, acc, hp => by
    have e : s.size = s.data.toList.length := (by simp)
    rw [List.drop_eq_nil_of_le (by omega)]
    simp [Conv.runesFrom]
  | m + 1, p, acc, hp => by
    have e : s.size = s.data.toList.length := (by simp)
    have hlt : p < s.data.toList.length := by omega
    have hl := h (p : Int) (by omega) (by omega)
    have hb := isLet_bd hl
    have ht : tabAt s (p : Int) = ((s.data.toList[p]).toNat : Int) := by
      rw [tabAt, Int.toNat_natCast, List.getD_eq_getElem?_getD, List.getElem?_eq_getElem hlt]; rfl
    rcases decode_cases s p with h1 | h1
    · rw [Conv.runesFrom, if_pos (by omega), h1.2, List.drop_eq_getElem_cons hlt, List.map_cons]
      show Conv.runesFrom s m (p + 1) _ = _
      rw [runesFrom_let s h m (p + 1) _ (by omega), ht]
      apply Array.ext'
      simp
    · rw [show ((p : Nat) : Int) = (p : Int) from rfl] at h1; omega
def runesI (l : List UInt8) : List Int := l.map fun b => (b.toNat : Int)
theorem runes_let {s : ByteArray} (h : Lets s) : Conv.runesFrom s s.size 0 #[] = ((runesI s.data.toList).map (Value.int .i32)).toArray := by
  rw [runesFrom_let s h s.size 0 #[] (by omega), List.drop_zero, runesI, List.map_map]
  simp [Function.comp_def]
theorem encode_one {b : UInt8} (h : LetB b) : Utf8.encode (b.toNat : Int) = mkB [b] := by
  have hlt := let_lt h
  have : ∀ i < 128, Utf8.encode ((i : Nat) : Int) = mkB [UInt8.ofNat i] := by decide +kernel
  have := this b.toNat hlt
  rwa [UInt8.ofNat_toNat] at this
theorem fold_runes : ∀ (l p : List UInt8), (∀ b ∈ l, LetB b) → (runesI l).foldl (fun r n => r ++ Utf8.encode n) (mkB p) = mkB (p ++ l)
  | [], p, _ => by rw [List.append_nil]; rfl
  | b :: l, p, h => by
    show (runesI l).foldl _ (mkB p ++ Utf8.encode (b.toNat : Int)) = _
    rw [encode_one (h b (List.mem_cons_self ..)), mkB_app, fold_runes l _ (fun c hc => h c (List.mem_cons_of_mem _ hc)), List.append_assoc]; rfl
theorem runesBytes_let {l : List UInt8} (h : ∀ b ∈ l, LetB b) : runesBytes (runesI l) = mkB l := fold_runes l [] h
/-- The opposite of a rim. -/
def oppS (s : ByteArray) : ByteArray := mkB (s.data.toList.map swB).reverse
def oppV (s : ByteArray) : ByteArray := if rimE s = 0 then oppS s else ByteArray.empty
theorem opp_lets {s : ByteArray} (h : Lets s) : ∀ b ∈ s.data.toList.map swB, LetB b := by
  intro b hb
  obtain ⟨c, hc, rfl⟩ := List.mem_map.1 hb
  exact (swB_let (lets_mem h c hc)).2.1
end Go.Proofs.YtokdjjebnomciaaDoor

namespace Go.Proofs.YtokdjjebnomciaaDoor
open Go.Wk Go

/-- A list whose first and last i elements are turned round. -/
def revS (ys : List Int) (i : Int) : List Int := (List.range ys.length).map fun (q : Nat) => if (q : Int) < i ∨ (ys.length : Int) - 1 - i < q then ix 0 ys ((ys.length : Int) - 1 - q) else ix 0 ys q
theorem revS_len (ys : List Int) (i : Int) : (revS ys i).length = ys.length := by simp [revS]
theorem revS_ix {ys : List Int} {i q : Int} (h0 : 0 ≤ q) (h : q < ys.length) : ix 0 (revS ys i) q = if q < i ∨ (ys.length : Int) - 1 - i < q then ix 0 ys ((ys.length : Int) - 1 - q) else ix 0 ys q := by
  have e : ((q.toNat : Nat) : Int) = q := Int.toNat_of_nonneg h0
  rw [ix, List.getD_eq_getElem?_getD, revS, List.getElem?_map, List.getElem?_range (by omega)]
  simp only [Option.map_some, Option.getD_some, e]
theorem ext_ix {xs ys : List Int} (hl : xs.length = ys.length) (h : ∀ q : Int, 0 ≤ q → q < xs.length → ix 0 xs q = ix 0 ys q) : xs = ys := by
  refine List.ext_getElem hl fun i h1 h2 => ?_
  have := h i (by omega) (by omega)
  rwa [ix, ix, List.getD_eq_getElem?_getD, List.getD_eq_getElem?_getD, Int.toNat_natCast, List.getElem?_eq_getElem h1, List.getElem?_eq_getElem h2] at this
theorem revS_start (ys : List Int) : revS ys 0 = ys := by
  refine ext_ix (revS_len ys 0) fun q h0 h1 => ?_
  rw [revS_len] at h1
  rw [revS_ix h0 h1, if_neg (by omega)]
theorem revS_step {ys : List Int} {i j : Int} (h0 : 0 ≤ i) (h : i < j) (hj : j = (ys.length : Int) - 1 - i) :
    ((revS ys i).set i.toNat (ix 0 (revS ys i) j)).set j.toNat (ix 0 (revS ys i) i) = revS ys (i + 1) := by
  have hl := revS_len ys i
  refine ext_ix (by simp [revS_len]) fun q q0 q1 => ?_
  simp only [List.length_set, hl] at q1
  have e1 : ix 0 (revS ys i) j = ix 0 ys j := by rw [revS_ix (by omega) (by omega), if_neg (by omega)]
  have e2 : ix 0 (revS ys i) i = ix 0 ys i := by rw [revS_ix (by omega) (by omega), if_neg (by omega)]
  rw [ix_set (by omega) (by simp only [List.length_set, hl]; omega) q0, ix_set h0 (by omega) q0, e1, e2, revS_ix (i := i) q0 q1, revS_ix (i := i + 1) q0 q1]
  by_cases h1 : q = j
  · rw [if_pos h1, if_pos (by omega)]; congr 1; omega
  · rw [if_neg h1]
    by_cases h2 : q = i
    · rw [if_pos h2, if_pos (by omega)]; congr 1; omega
    · rw [if_neg h2]
      by_cases h3 : q < i ∨ (ys.length : Int) - 1 - i < q
      · rw [if_pos h3, if_pos (by omega)]
      · rw [if_neg h3, if_neg (by omega)]
theorem ix_rev {ys : List Int} {q : Int} (h0 : 0 ≤ q) (h : q < ys.length) : ix 0 ys.reverse q = ix 0 ys ((ys.length : Int) - 1 - q) := by
  rw [ix, ix, List.getD_eq_getElem?_getD, List.getD_eq_getElem?_getD, List.getElem?_reverse (by omega)]
  congr 2; omega
theorem revS_end {ys : List Int} {i : Int} (h : (ys.length : Int) - 1 - i ≤ i) : revS ys i = ys.reverse := by
  refine ext_ix (by simp [revS_len]) fun q h0 h1 => ?_
  rw [revS_len] at h1
  rw [revS_ix h0 h1, ix_rev h0 h1]
  by_cases h3 : q < i ∨ (ys.length : Int) - 1 - i < q
  · rw [if_pos h3]
  · rw [if_neg h3]; congr 1; omega

theorem opp_runes {s : ByteArray} : (runesI (s.data.toList.map swB)).reverse = runesI (s.data.toList.map swB).reverse := by rw [runesI, runesI, List.map_reverse]
/-! ### the reference's letters -/
def upS : ByteArray := { data := #[65, 66, 67, 68, 69, 70, 71, 72, 73, 74] }
def lowS : ByteArray := { data := #[97, 98, 99, 100, 101, 102, 103, 104, 105, 106] }
theorem sw_all : ∀ i < 256, isLet ((i : Nat) : Int) = true → if 0 < numC (i : Nat) then upS.extract (numC (i : Nat) - 1).toNat (numC (i : Nat)).toNat = mkB [swB (UInt8.ofNat i)] else lowS.extract (-numC (i : Nat) - 1).toNat (-numC (i : Nat)).toNat = mkB [swB (UInt8.ofNat i)] := by decide +kernel
theorem sw_up {s : ByteArray} {i : Int} (h : isLet (tabAt s i) = true) (hn : 0 < numC (tabAt s i)) : upS.extract (numC (tabAt s i) - 1).toNat (numC (tabAt s i)).toNat = mkB [swB (byteAt s i)] := by
  have := sw_all (byteAt s i).toNat (UInt8.toNat_lt _) h
  rw [UInt8.ofNat_toNat, ← byteAt_tab, if_pos hn] at this
  exact this
theorem sw_low {s : ByteArray} {i : Int} (h : isLet (tabAt s i) = true) (hn : ¬ 0 < numC (tabAt s i)) : lowS.extract (-numC (tabAt s i) - 1).toNat (-numC (tabAt s i)).toNat = mkB [swB (byteAt s i)] := by
  have := sw_all (byteAt s i).toNat (UInt8.toNat_lt _) h
  rw [UInt8.ofNat_toNat, ← byteAt_tab, if_neg hn] at this
  exact this
theorem opp_step {s : ByteArray} {i : Int} {out x : ByteArray} (h0 : 0 ≤ i) (h1 : i < s.size) (h2 : out = mkB ((s.data.toList.map swB).drop (i + 1).toNat).reverse) (hx : x = mkB [swB (byteAt s i)]) : out ++ x = mkB ((s.data.toList.map swB).drop (i - 1 + 1).toNat).reverse := by
  have hl : s.size = s.data.toList.length := (by simp)
  rw [h2, hx, mkB_app, show i - 1 + 1 = i by omega, drop_ix (d := 0) (n := i) h0 (by rw [List.length_map]; omega), List.reverse_cons]
  congr 2
  rw [ix, List.getD_eq_getElem?_getD, List.getElem?_map, List.getElem?_eq_getElem (by omega), byteAt, List.getD_eq_getElem?_getD, List.getElem?_eq_getElem (by omega)]; rfl
theorem opp_start {s : ByteArray} : ByteArray.empty = mkB ((s.data.toList.map swB).drop ((s.size : Int) - 1 + 1).toNat).reverse := by
  have hl : s.size = s.data.toList.length := (by simp)
  rw [List.drop_eq_nil_of_le (by rw [List.length_map]; omega)]; rfl
theorem opp_end {s : ByteArray} {i : Int} (h : i < 0) : mkB ((s.data.toList.map swB).drop (i + 1).toNat).reverse = oppS s := by
  rw [show (i + 1).toNat = 0 by omega]; rfl
theorem opp_size {s : ByteArray} {i : Int} {out : ByteArray} (h : out = mkB ((s.data.toList.map swB).drop (i + 1).toNat).reverse) : (out.size : Int) ≤ s.size := by
  have hl : s.size = s.data.toList.length := (by simp)
  rw [h, mkB_size, List.length_reverse, List.length_drop, List.length_map]; omega

/-! ### alike -/
theorem coreT_size : ∀ (m : Nat) (s : ByteArray), (coreT m s).size ≤ s.size
  | 0, s => Nat.le_refl _
  | m + 1, s => by
    rw [coreT]
    split
    · have := coreT_size m (inner s)
      have := inner_size s
      omega
    · exact Nat.le_refl _
theorem coreF_size (s : ByteArray) : (coreF s).size ≤ s.size := coreT_size _ s
theorem coreV_size (s : ByteArray) : ((coreV s).size : Int) ≤ 12 := by
  rw [coreV]
  split
  · rename_i h
    have h1 := (rimE_ok h).1
    have h2 := rest_size (s := s)
    have h3 := coreF_size (restV s)
    omega
  · show (0 : Int) ≤ 12; decide
def rotS (c : ByteArray) (d : Int) : ByteArray := c.extract d.toNat c.size ++ c.extract 0 d.toNat
def rotB (c d : ByteArray) : Bool := (c == d) || (rng 1 c.size).any fun i => rotS c i == d
def alikeE (a b : ByteArray) : Int := if rimE a = 0 then rimE b else rimE a
def alikeP (a b : ByteArray) : Bool := if alikeE a b = 0 then decide (((coreV a).size : Int) = (coreV b).size) && Go.Lib.contains (coreV a ++ coreV a).data.toList (coreV b).data.toList else false
def alikeR (a b : ByteArray) : Bool := if alikeE a b = 0 then rotB (coreF (restV a)) (coreF (restV b)) else false
theorem rot_any {c d : ByteArray} {i : Int} (h : (rng i c.size).any (fun i => rotS c i == d) = (rng 1 c.size).any (fun i => rotS c i == d)) (hi : i < c.size) (hr : (rotS c i == d) = true) : (rng 1 c.size).any (fun i => rotS c i == d) = true := by
  rw [← h, rng_cons hi, List.any_cons, hr]; rfl
theorem rot_next {c d : ByteArray} {i : Int} (h : (rng i c.size).any (fun i => rotS c i == d) = (rng 1 c.size).any (fun i => rotS c i == d)) (hi : i < c.size) (hr : (rotS c i == d) = false) : (rng (i + 1) c.size).any (fun i => rotS c i == d) = (rng 1 c.size).any (fun i => rotS c i == d) := by
  rw [← h, rng_cons hi, List.any_cons, hr]; rfl
end Go.Proofs.YtokdjjebnomciaaDoor

namespace Go.Proofs.YtokdjjebnomciaaDoor
open Go.Wk Go
set_option linter.unusedVariables false

def cutS (s : ByteArray) (a b : Int) : ByteArray := s.extract 0 a.toNat ++ s.extract (b + 1).toNat s.size
def frcN (s : ByteArray) (x : Join) : Bool := decide ((partP (fitR s) (x.1 + 1) x.2).2 * (allV (cutS s x.1 x.2)).2 = (allV s).2)
def forcedP (s : ByteArray) : List Join := if rimE s = 0 then (firstP (fitR s) 0 s.size).filter (frcN s) else []
theorem tab_app {s t : ByteArray} {q : Int} (h0 : 0 ≤ q) : tabAt (s ++ t) q = if q < s.size then tabAt s q else tabAt t (q - s.size) := by
  have hl : s.size = s.data.toList.length := (by simp)
  rw [tabAt, ByteArray.data_append, Array.toList_append, List.getD_eq_getElem?_getD]
  split
  · rw [List.getElem?_append_left (by omega), tabAt, List.getD_eq_getElem?_getD]
  · rw [List.getElem?_append_right (by omega), tabAt, List.getD_eq_getElem?_getD, show q.toNat - s.data.toList.length = (q - (s.size : Int)).toNat by omega]
theorem Lets.app {s t : ByteArray} (h : Lets s) (k : Lets t) : Lets (s ++ t) := by
  intro q h0 h1
  rw [ByteArray.size_append] at h1
  rw [tab_app h0]
  split
  · exact h q h0 (by omega)
  · exact k _ (by omega) (by omega)
theorem Lets.cut {s : ByteArray} (h : Lets s) (a b : Int) : Lets (cutS s a b) := (h.extract _ _).app (h.extract _ _)
theorem cut_size {s : ByteArray} {a b : Int} (h0 : 0 ≤ a) (h1 : a < b) (h2 : b < s.size) : ((cutS s a b).size : Int) = s.size - (b - a + 1) := by
  rw [cutS, ByteArray.size_append, ByteArray.size_extract, ByteArray.size_extract]; omega
theorem allV_bd {s : ByteArray} (h : (s.size : Int) ≤ 12) : 0 ≤ (allV s).1 ∧ (allV s).1 ≤ 100 ∧ 0 ≤ (allV s).2 ∧ (allV s).2 ≤ 16777216 := partP_bd (Int.le_refl 0) h

/-! ### deleting in its own place -/
variable {f : Join → Bool}
def idxF (f : Join → Bool) : List Join → Int → Int
  | [], _ => -1
  | x :: l, k => if f x = true then idxF f l (k + 1) else k
theorem idxF_yes {l : List Join} {k : Int} (h0 : 0 ≤ k) (h1 : k < l.length) (h2 : idxF f (l.drop k.toNat) k = idxF f l 0) (h : f (ix (0, 0) l k) = true) : idxF f (l.drop (k + 1).toNat) (k + 1) = idxF f l 0 := by
  rw [← h2, drop_ix (d := (0, 0)) h0 h1, idxF, if_pos h]
theorem idxF_no {l : List Join} {k : Int} (h0 : 0 ≤ k) (h1 : k < l.length) (h2 : idxF f (l.drop k.toNat) k = idxF f l 0) (h : f (ix (0, 0) l k) = false) : idxF f l 0 = k := by
  rw [← h2, drop_ix (d := (0, 0)) h0 h1, idxF, if_neg (by rw [h]; decide)]
theorem idxF_end {l : List Join} {k : Int} (h1 : (l.length : Int) ≤ k) (h2 : idxF f (l.drop k.toNat) k = idxF f l 0) : idxF f l 0 = -1 := by
  rw [← h2, drop_end h1]; rfl
theorem idxF_spec : ∀ (l : List Join) (k : Int), 0 ≤ k → (idxF f l k = -1 ∧ ∀ x ∈ l, f x = true) ∨ (∃ p x r, l = p ++ x :: r ∧ idxF f l k = k + p.length ∧ (∀ y ∈ p, f y = true) ∧ f x = false)
  | [], k, _ => .inl ⟨rfl, by simp⟩
  | x :: l, k, h0 => by
    by_cases h : f x = true
    · rw [idxF, if_pos h]
      rcases idxF_spec l (k + 1) (by omega) with ⟨h1, h2⟩ | ⟨p, y, r, h1, h2, h3, h4⟩
      · exact .inl ⟨h1, fun y hy => by
          rcases List.mem_cons.1 hy with rfl | hy
          · exact h
          · exact h2 y hy⟩
      · refine .inr ⟨x :: p, y, r, by rw [h1]; rfl, by rw [h2, List.length_cons]; omega, fun z hz => ?_, h4⟩
        rcases List.mem_cons.1 hz with rfl | hz
        · exact h
        · exact h3 z hz
    · rw [idxF, if_neg h]
      exact .inr ⟨[], x, l, rfl, by simp, by simp, by simpa using h⟩
theorem del_none {l : List Join} (h : idxF f l 0 = -1) : l.filter f = l := by
  rcases idxF_spec (f := f) l 0 (Int.le_refl 0) with ⟨_, h2⟩ | ⟨p, x, r, _, h2, _, _⟩
  · exact List.filter_eq_self.2 h2
  · omega
theorem del_start {l : List Join} (h : idxF f l 0 ≠ -1) : 0 ≤ idxF f l 0 ∧ idxF f l 0 < l.length ∧ l.take (idxF f l 0).toNat = (l.take (idxF f l 0 + 1).toNat).filter f := by
  rcases idxF_spec (f := f) l 0 (Int.le_refl 0) with ⟨h1, _⟩ | ⟨p, x, r, h1, h2, h3, h4⟩
  · exact absurd h1 h
  · rw [h2, h1]
    refine ⟨by omega, by simp; omega, ?_⟩
    rw [show (0 + (p.length : Int)).toNat = p.length by omega, show (0 + (p.length : Int) + 1).toNat = p.length + 1 by omega, List.take_left, List.take_append, List.take_of_length_le (by omega), Nat.add_sub_cancel_left, List.take_succ_cons, List.take_zero, List.filter_append, List.filter_eq_self.2 h3, List.filter_cons, if_neg (by rw [h4]; decide)]
    simp
theorem del_ix {l z : List Join} {j : Int} (h0 : 0 ≤ j) (h1 : j < l.length) (hl : z.length = l.length) (hD : z.drop j.toNat = l.drop j.toNat) : ix (0, 0) z j = ix (0, 0) l j := by
  rw [drop_ix (d := (0, 0)) h0 (by omega), drop_ix (d := (0, 0)) h0 h1] at hD
  exact (List.cons.inj hD).1
theorem del_yes {l z : List Join} {i j : Int} (i0 : 0 ≤ i) (hij : i < j) (h1 : j < l.length) (hl : z.length = l.length) (hT : z.take i.toNat = (l.take j.toNat).filter f) (hD : z.drop j.toNat = l.drop j.toNat) (h : f (ix (0, 0) z j) = true) :
    (z.set i.toNat (ix (0, 0) z j)).take (i + 1).toNat = (l.take (j + 1).toNat).filter f ∧ (z.set i.toNat (ix (0, 0) z j)).drop (j + 1).toNat = l.drop (j + 1).toNat := by
  have hx := del_ix (by omega) h1 hl hD
  constructor
  · rw [take_ix (d := (0, 0)) i0 (by rw [List.length_set]; omega), List.take_set_of_le (by omega), hT, ix_set i0 (by omega) i0, if_pos rfl, take_ix (d := (0, 0)) (j := j) (by omega) h1, List.filter_append, hx, List.filter_cons, if_pos (by rw [← hx]; exact h)]; rfl
  · rw [List.drop_set_of_lt (by omega), show (j + 1).toNat = j.toNat + 1 by omega, ← List.drop_drop, hD, List.drop_drop]
theorem del_no {l z : List Join} {i j : Int} (j0 : 0 ≤ j) (h1 : j < l.length) (hl : z.length = l.length) (hT : z.take i.toNat = (l.take j.toNat).filter f) (hD : z.drop j.toNat = l.drop j.toNat) (h : ¬ f (ix (0, 0) z j) = true) :
    z.take i.toNat = (l.take (j + 1).toNat).filter f ∧ z.drop (j + 1).toNat = l.drop (j + 1).toNat := by
  have hx := del_ix j0 h1 hl hD
  constructor
  · rw [hT, take_ix (d := (0, 0)) j0 h1, List.filter_append, List.filter_cons, if_neg (by rw [← hx]; exact h)]; simp
  · rw [show (j + 1).toNat = j.toNat + 1 by omega, ← List.drop_drop, hD, List.drop_drop]
end Go.Proofs.YtokdjjebnomciaaDoor

namespace Go.Proofs.YtokdjjebnomciaaDoor
set_option linter.unusedVariables false

variable {F G : Int → Int → Bool}

def ins (x : Join) : List Join → List Join
  | [] => [x]
  | y :: l => if x.1 < y.1 then x :: y :: l else y :: ins x l
def isort (l : List Join) : List Join := l.foldr ins []
/-- Two joins that neither cross nor share an edge: one begins first, and lies before the other or around it. -/
def freeJ (x y : Join) : Prop := apartJ x y ∨ apartJ y x
theorem ins_perm (x : Join) : ∀ l, (ins x l).Perm (x :: l)
  | [] => .refl _
  | y :: l => by
    rw [ins]; split
    · exact .refl _
    · exact ((ins_perm x l).cons y).trans (.swap x y l)
theorem isort_perm : ∀ l, (isort l).Perm l
  | [] => .refl _
  | x :: l => (ins_perm x (isort l)).trans ((isort_perm l).cons x)
theorem ins_pair {x : Join} : ∀ {l : List Join}, l.Pairwise apartJ → (∀ y ∈ l, freeJ x y) → (ins x l).Pairwise apartJ
  | [], _, _ => List.pairwise_singleton _ _
  | y :: l, h, hf => by
    have hy := hf y List.mem_cons_self
    obtain ⟨h1, h2⟩ := List.pairwise_cons.1 h
    rw [ins]; split
    · next hlt =>
      refine List.pairwise_cons.2 ⟨fun z hz => ?_, h⟩
      rcases hf z hz with q | q
      · exact q
      · exfalso
        have := q.1
        rcases List.mem_cons.1 hz with rfl | hz
        · omega
        · have := (h1 z hz).1; omega
    · next hlt =>
      refine List.pairwise_cons.2 ⟨fun z hz => ?_, ins_pair h2 fun z hz => hf z (List.mem_cons_of_mem _ hz)⟩
      rcases List.mem_cons.1 ((ins_perm x l).mem_iff.1 hz) with rfl | hz
      · rcases hy with q | q
        · exact absurd q.1 hlt
        · exact q
      · exact h1 z hz
theorem isort_pair : ∀ {l : List Join}, l.Pairwise freeJ → (isort l).Pairwise apartJ
  | [], _ => .nil
  | x :: l, h => by
    obtain ⟨h1, h2⟩ := List.pairwise_cons.1 h
    exact ins_pair (isort_pair h2) fun y hy => h1 y ((isort_perm l).mem_iff.1 hy)
theorem isort_plan {lo hi : Int} {l : List Join} (hb : ∀ x ∈ l, lo ≤ x.1 ∧ x.1 < x.2 ∧ x.2 < hi ∧ F x.1 x.2 = true) (h : l.Pairwise freeJ) : Plan F lo hi (isort l) :=
  ⟨fun x hx => hb x ((isort_perm l).mem_iff.1 hx), isort_pair h⟩
theorem pair_perm {p q : List Join} (hp : p.Pairwise apartJ) (hq : q.Pairwise apartJ) (h : p.Perm q) : p = q :=
  h.eq_of_pairwise (fun a b _ _ h1 h2 => by have := h1.1; have := h2.1; omega) hp hq
theorem pair_nodup {p : List Join} (hp : p.Pairwise apartJ) : p.Nodup := hp.imp fun h e => by have := h.1; rw [e] at this; omega

/-- How many plans have so many joins. -/
def cntN (F : Int → Int → Bool) (n k : Int) : Nat := (plansP F 0 n).countP fun p => decide ((p.length : Int) = k)
def InR (F : Int → Int → Bool) (n : Int) (x : Join) : Prop := 0 ≤ x.1 ∧ x.1 < x.2 ∧ x.2 < n ∧ F x.1 x.2 = true
theorem map_back {g h : Join → Join} : ∀ {p : List Join}, (∀ x ∈ p, h (g x) = x) → (p.map g).map h = p
  | [], _ => rfl
  | x :: p, hh => by rw [List.map_cons, List.map_cons, hh x List.mem_cons_self, map_back fun y hy => hh y (List.mem_cons_of_mem _ hy)]
theorem pairwise_free {n : Int} {g : Join → Join} (hf : ∀ x y, InR F n x → InR F n y → apartJ x y → freeJ (g x) (g y)) : ∀ {p : List Join}, (∀ x ∈ p, InR F n x) → p.Pairwise apartJ → (p.map g).Pairwise freeJ
  | [], _, _ => .nil
  | x :: p, hb, h => by
    obtain ⟨h1, h2⟩ := List.pairwise_cons.1 h
    refine List.pairwise_cons.2 ⟨fun z hz => ?_, pairwise_free hf (fun y hy => hb y (List.mem_cons_of_mem _ hy)) h2⟩
    obtain ⟨y, hy, rfl⟩ := List.mem_map.1 hz
    exact hf x y (hb x List.mem_cons_self) (hb y (List.mem_cons_of_mem _ hy)) (h1 y hy)
theorem map_plan {n n' : Int} {g : Join → Join} (hb : ∀ x, InR F n x → InR G n' (g x)) (hf : ∀ x y, InR F n x → InR F n y → apartJ x y → freeJ (g x) (g y)) {p : List Join} (hp : Plan F 0 n p) : Plan G 0 n' (isort (p.map g)) := by
  refine isort_plan (fun z hz => ?_) (pairwise_free hf (fun x hx => hp.1 x hx) hp.2)
  obtain ⟨x, hx, rfl⟩ := List.mem_map.1 hz
  exact hb x (hp.1 x hx)
theorem isort_len (l : List Join) : (isort l).length = l.length := (isort_perm l).length_eq
theorem map_inj {n : Int} {g h : Join → Join} (hi : ∀ x, InR F n x → h (g x) = x) {p q : List Join} (hp : Plan F 0 n p) (hq : Plan F 0 n q) (e : isort (p.map g) = isort (q.map g)) : p = q := by
  have hpm : (p.map g).Perm (q.map g) := (isort_perm _).symm.trans (e ▸ isort_perm _)
  have := hpm.map h
  rw [map_back fun x hx => hi x (hp.1 x hx), map_back fun x hx => hi x (hq.1 x hx)] at this
  exact pair_perm hp.2 hq.2 this
theorem nodup_map {α β : Type} {f : α → β} {l : List α} (hf : ∀ x ∈ l, ∀ y ∈ l, f x = f y → x = y) (h : l.Nodup) : (l.map f).Nodup := by
  induction l with
  | nil => exact .nil
  | cons x l ih =>
    obtain ⟨h1, h2⟩ := List.nodup_cons.1 h
    refine List.nodup_cons.2 ⟨fun hm => ?_, ih (fun a ha b hb => hf a (List.mem_cons_of_mem _ ha) b (List.mem_cons_of_mem _ hb)) h2⟩
    obtain ⟨y, hy, e⟩ := List.mem_map.1 hm
    exact h1 (hf y (List.mem_cons_of_mem _ hy) x List.mem_cons_self e ▸ hy)
/-- Other numbers for the edges, which go back: no fewer plans of each length. -/
theorem cnt_le {n n' : Int} (g h : Join → Join) (hb : ∀ x, InR F n x → InR G n' (g x)) (hf : ∀ x y, InR F n x → InR F n y → apartJ x y → freeJ (g x) (g y)) (hi : ∀ x, InR F n x → h (g x) = x) (k : Int) : cntN F n k ≤ cntN G n' k := by
  rw [cntN, cntN, List.countP_eq_length_filter, List.countP_eq_length_filter, ← List.length_map (f := fun p => isort (p.map g))]
  refine List.Nodup.length_le_of_subset (nodup_map (fun p hp q hq e => ?_) ((plans_nodup F 0 n).filter _)) fun r hr => ?_
  · exact map_inj hi (mem_plans.1 (List.mem_filter.1 hp).1) (mem_plans.1 (List.mem_filter.1 hq).1) e
  · obtain ⟨p, hp, rfl⟩ := List.mem_map.1 hr
    obtain ⟨h1, h2⟩ := List.mem_filter.1 hp
    refine List.mem_filter.2 ⟨mem_plans.2 (map_plan hb hf (mem_plans.1 h1)), ?_⟩
    rw [isort_len, List.length_map]; exact h2
theorem best_cnt {n n' : Int} (h : ∀ k, cntN F n k = cntN G n' k) : partP F 0 n = partP G 0 n' := by
  have hF := best_all F 0 n
  have hG := best_all G 0 n'
  have key : ∀ {F G : Int → Int → Bool} {n n' : Int}, (∀ k, cntN F n k = cntN G n' k) → (partP F 0 n).1 ≤ (partP G 0 n').1 := by
    intro F G n n' h
    obtain ⟨p, hp, e⟩ := (best_all F 0 n).1
    have h1 : 0 < cntN F n (partP F 0 n).1 := List.countP_pos_iff.2 ⟨p, hp, decide_eq_true e⟩
    rw [h] at h1
    obtain ⟨q, hq, e2⟩ := List.countP_pos_iff.1 h1
    have := (best_all G 0 n').2.1 q hq
    have := of_decide_eq_true e2
    omega
  have e1 : (partP F 0 n).1 = (partP G 0 n').1 := Int.le_antisymm (key h) (key fun k => (h k).symm)
  have e2 : (partP F 0 n).2 = (partP G 0 n').2 := by
    rw [hF.2.2, hG.2.2]
    have := h (partP F 0 n).1
    rw [cntN, cntN, e1] at this
    rw [e1]
    exact congrArg Int.ofNat this
  exact Prod.ext e1 e2
end Go.Proofs.YtokdjjebnomciaaDoor

namespace Go.Proofs.YtokdjjebnomciaaDoor
set_option linter.unusedVariables false

variable {F G : Int → Int → Bool}

/-- An edge's number when a rim of n edges begins at edge d. -/
def rotI (n d i : Int) : Int := if i < d then i + n - d else i - d
def rotJ (n d : Int) (x : Join) : Join := if rotI n d x.1 < rotI n d x.2 then (rotI n d x.1, rotI n d x.2) else (rotI n d x.2, rotI n d x.1)
theorem cnt_rot_le {n d : Int} (d0 : 0 ≤ d) (d1 : d ≤ n) (hs : ∀ i j, F i j = F j i) (hG : ∀ i j, 0 ≤ i → i < n → 0 ≤ j → j < n → F i j = G (rotI n d i) (rotI n d j)) (k : Int) : cntN F n k ≤ cntN G n k := by
  refine cnt_le (rotJ n d) (rotJ n (n - d)) (fun x hx => ?_) (fun x y hx hy h => ?_) (fun x hx => ?_) k
  · obtain ⟨h1, h2, h3, h4⟩ := hx
    have e1 := hG x.1 x.2 h1 (by omega) (by omega) h3
    have e2 := hG x.2 x.1 (by omega) h3 h1 (by omega)
    rw [← hs] at e2
    simp only [InR, rotJ]
    split
    · next hlt => refine ⟨?_, hlt, ?_, by rw [← e1]; exact h4⟩ <;> simp only [rotI] <;> split <;> omega
    · next hlt =>
      refine ⟨?_, ?_, ?_, by rw [← e2]; exact h4⟩
      · simp only [rotI]; split <;> omega
      · simp only [rotI] at hlt ⊢; split <;> split <;> simp_all <;> omega
      · simp only [rotI]; split <;> omega
  · obtain ⟨h1, h2, h3, _⟩ := hx
    obtain ⟨k1, k2, k3, _⟩ := hy
    obtain ⟨a1, a2⟩ := h
    obtain ⟨x1, x2⟩ := x
    obtain ⟨y1, y2⟩ := y
    simp only at h1 h2 h3 k1 k2 k3 a1 a2
    simp only [freeJ, apartJ, rotJ, rotI]
    by_cases c1 : x1 < d <;> by_cases c2 : x2 < d <;> by_cases c3 : y1 < d <;> by_cases c4 : y2 < d <;> simp only [c1, c2, c3, c4, if_true, if_false] <;> (try omega) <;> (split <;> split <;> simp only <;> omega)
  · obtain ⟨h1, h2, h3, _⟩ := hx
    obtain ⟨x1, x2⟩ := x
    simp only at h1 h2 h3
    simp only [rotJ, rotI]
    by_cases c1 : x1 < d <;> by_cases c2 : x2 < d <;> simp only [c1, c2, if_true, if_false] <;> (try omega) <;> (split <;> simp only <;> (repeat' split) <;> first | omega | (simp only [Prod.mk.injEq]; omega))
theorem rotI_back {n d i : Int} (d0 : 0 ≤ d) (d1 : d ≤ n) (h0 : 0 ≤ i) (h1 : i < n) : rotI n (n - d) (rotI n d i) = i ∧ 0 ≤ rotI n d i ∧ rotI n d i < n := by
  simp only [rotI]; (repeat' split) <;> omega
theorem part_rot {n d : Int} (d0 : 0 ≤ d) (d1 : d ≤ n) (hs : ∀ i j, F i j = F j i) (hs2 : ∀ i j, G i j = G j i) (hG : ∀ i j, 0 ≤ i → i < n → 0 ≤ j → j < n → F i j = G (rotI n d i) (rotI n d j)) : partP F 0 n = partP G 0 n := by
  refine best_cnt fun k => Nat.le_antisymm (cnt_rot_le d0 d1 hs hG k) (cnt_rot_le (d := n - d) (by omega) (by omega) hs2 (fun i j i0 i1 j0 j1 => ?_) k)
  obtain ⟨a1, a2, a3⟩ := rotI_back (d := n - d) (by omega) (by omega) i0 i1
  obtain ⟨b1, b2, b3⟩ := rotI_back (d := n - d) (by omega) (by omega) j0 j1
  rw [show n - (n - d) = d by omega] at a1 b1
  rw [hG _ _ a2 a3 b2 b3, a1, b1]

/-- The same, written backwards. -/
theorem cnt_rev_le {n : Int} (hs : ∀ i j, F i j = F j i) (hG : ∀ i j, 0 ≤ i → i < n → 0 ≤ j → j < n → F i j = G (n - 1 - i) (n - 1 - j)) (k : Int) : cntN F n k ≤ cntN G n k := by
  refine cnt_le (fun x => (n - 1 - x.2, n - 1 - x.1)) (fun x => (n - 1 - x.2, n - 1 - x.1)) (fun x hx => ?_) (fun x y hx hy h => ?_) (fun x hx => ?_) k
  · obtain ⟨h1, h2, h3, h4⟩ := hx
    refine ⟨by show 0 ≤ n - 1 - x.2; omega, by show n - 1 - x.2 < n - 1 - x.1; omega, by show n - 1 - x.1 < n; omega, ?_⟩
    rw [hs, hG x.2 x.1 (by omega) h3 h1 (by omega)] at h4
    exact h4
  · obtain ⟨h1, h2, h3, _⟩ := hx
    obtain ⟨k1, k2, k3, _⟩ := hy
    obtain ⟨a1, a2⟩ := h
    simp only [freeJ, apartJ]
    omega
  · exact Prod.ext (by show n - 1 - (n - 1 - x.1) = x.1; omega) (by show n - 1 - (n - 1 - x.2) = x.2; omega)
theorem part_rev {n : Int} (hs : ∀ i j, F i j = F j i) (hs2 : ∀ i j, G i j = G j i) (hG : ∀ i j, 0 ≤ i → i < n → 0 ≤ j → j < n → F i j = G (n - 1 - i) (n - 1 - j)) : partP F 0 n = partP G 0 n := by
  refine best_cnt fun k => Nat.le_antisymm (cnt_rev_le hs hG k) (cnt_rev_le hs2 (fun i j i0 i1 j0 j1 => ?_) k)
  rw [hG _ _ (show 0 ≤ n - 1 - i by omega) (by omega) (show 0 ≤ n - 1 - j by omega) (by omega), show n - 1 - (n - 1 - i) = i by omega, show n - 1 - (n - 1 - j) = j by omega]

/-- An edge more at place i. -/
def upI (i q : Int) : Int := if q < i then q else q + 1
def dnI (i q : Int) : Int := if q < i then q else q - 1
theorem most_le {n n' : Int} {p : List Join} (h : Plan F 0 n p) : (p.length : Int) ≤ (partP F 0 n).1 := (best_all F 0 n).2.1 p (mem_plans.2 h)
theorem most_has (F : Int → Int → Bool) (n : Int) : ∃ p, Plan F 0 n p ∧ (p.length : Int) = (partP F 0 n).1 := by
  obtain ⟨p, hp, e⟩ := (best_all F 0 n).1
  exact ⟨p, mem_plans.1 hp, e⟩
theorem one_at {i : Int} : ∀ {p : List Join}, (∀ x ∈ p, x.1 < x.2) → p.Pairwise apartJ → (p.filter fun x => decide (x.1 = i) || decide (x.2 = i)).length ≤ 1
  | [], _, _ => by simp
  | x :: p, hb, h => by
    obtain ⟨h1, h2⟩ := List.pairwise_cons.1 h
    have ih := one_at (i := i) (fun y hy => hb y (List.mem_cons_of_mem _ hy)) h2
    rw [List.filter_cons]; split
    · next hx =>
      have : (p.filter fun x => decide (x.1 = i) || decide (x.2 = i)) = [] := List.filter_eq_nil_iff.2 fun y hy he => by
        have a := h1 y hy
        have b := hb x List.mem_cons_self
        have c := hb y (List.mem_cons_of_mem _ hy)
        simp only [Bool.or_eq_true, decide_eq_true_eq] at hx he
        have := a.1; have := a.2
        omega
      rw [this]; simp
    · exact ih
theorem part_more {n i : Int} (i0 : 0 ≤ i) (i1 : i ≤ n) (hG : ∀ a b, 0 ≤ a → a < n → 0 ≤ b → b < n → F a b = G (upI i a) (upI i b)) : (partP F 0 n).1 ≤ (partP G 0 (n + 1)).1 ∧ (partP G 0 (n + 1)).1 ≤ (partP F 0 n).1 + 1 := by
  constructor
  · obtain ⟨p, hp, e⟩ := most_has F n
    have := map_plan (G := G) (n' := n + 1) (g := fun x => (upI i x.1, upI i x.2)) (fun x hx => ?_) (fun x y hx hy h => ?_) hp
    · have := most_le (n' := n) this
      rw [isort_len, List.length_map] at this
      omega
    · obtain ⟨h1, h2, h3, h4⟩ := hx
      rw [hG _ _ h1 (by omega) (by omega) h3] at h4
      refine ⟨?_, ?_, ?_, h4⟩ <;> simp only [upI] <;> (repeat' split) <;> omega
    · obtain ⟨a1, a2⟩ := h
      have := hx.2.1
      have := hy.2.1
      left
      simp only [apartJ, upI]
      (repeat' split) <;> omega
  · obtain ⟨p, hp, e⟩ := most_has G (n + 1)
    let C : Join → Bool := fun x => decide (x.1 = i) || decide (x.2 = i)
    let G' : Int → Int → Bool := fun a b => G a b && (decide (a ≠ i) && decide (b ≠ i))
    have hC := one_at (i := i) (fun x hx => (hp.1 x hx).2.1) hp.2
    have hl : p.length = (p.filter C).length + (p.filter fun x => !C x).length := by
      rw [← List.countP_eq_length_filter, ← List.countP_eq_length_filter, List.length_eq_countP_add_countP C]; simp
    have hq : Plan G' 0 (n + 1) (p.filter fun x => !C x) := by
      refine ⟨fun x hx => ?_, hp.2.filter _⟩
      obtain ⟨hx1, hx2⟩ := List.mem_filter.1 hx
      obtain ⟨a, b, c, d⟩ := hp.1 x hx1
      simp only [C, Bool.not_eq_true', Bool.or_eq_false_iff, decide_eq_false_iff_not] at hx2
      exact ⟨a, b, c, by simp only [G', d, Bool.true_and, Bool.and_eq_true, decide_eq_true_eq]; exact hx2⟩
    have := map_plan (G := F) (n' := n) (g := fun x => (dnI i x.1, dnI i x.2)) (fun x hx => ?_) (fun x y hx hy h => ?_) hq
    · have := most_le (n' := n) this
      rw [isort_len, List.length_map] at this
      have : (p.filter C).length ≤ 1 := hC
      omega
    · obtain ⟨h1, h2, h3, h4⟩ := hx
      simp only [G', Bool.and_eq_true, decide_eq_true_eq] at h4
      obtain ⟨h4, h5, h6⟩ := h4
      refine ⟨?_, ?_, ?_, ?_⟩
      · simp only [dnI]; split <;> omega
      · simp only [dnI]; (repeat' split) <;> omega
      · simp only [dnI]; split <;> omega
      · show F (dnI i x.1) (dnI i x.2) = true
        rw [hG _ _ (by simp only [dnI]; split <;> omega) (by simp only [dnI]; split <;> omega) (by simp only [dnI]; split <;> omega) (by simp only [dnI]; split <;> omega)]
        rw [show upI i (dnI i x.1) = x.1 by simp only [dnI, upI]; (repeat' split) <;> omega, show upI i (dnI i x.2) = x.2 by simp only [dnI, upI]; (repeat' split) <;> omega]; exact h4
    · obtain ⟨a1, a2⟩ := h
      obtain ⟨_, b1, _, c1⟩ := hx
      obtain ⟨_, b2, _, c2⟩ := hy
      simp only [G', Bool.and_eq_true, decide_eq_true_eq] at c1 c2
      left
      simp only [apartJ, dnI]
      (repeat' split) <;> omega
end Go.Proofs.YtokdjjebnomciaaDoor

namespace Go.Proofs.YtokdjjebnomciaaDoor
set_option linter.unusedVariables false

variable {F G : Int → Int → Bool} {a b n : Int}

/-- Numbers of edges of a rim from which the edges from a to b were cut. -/
def upC (a b q : Int) : Int := if q < a then q else q + (b - a + 1)
def dnC (a b q : Int) : Int := if q < a then q else q - (b - a + 1)
def upJ (a b : Int) (x : Join) : Join := (upC a b x.1, upC a b x.2)
def dnJ (a b : Int) (x : Join) : Join := (dnC a b x.1, dnC a b x.2)
def inB (a b : Int) (x : Join) : Bool := decide (a < x.1) && decide (x.2 < b)
def outB (a b : Int) (x : Join) : Bool := decide (x.2 < a) || decide (b < x.1) || (decide (x.1 < a) && decide (b < x.2))
structure Cut (F G : Int → Int → Bool) (a b n : Int) : Prop where
  a0 : 0 ≤ a
  ab : a < b
  bn : b < n
  fit : F a b = true
  eq : ∀ i j, 0 ≤ i → i < n - (b - a + 1) → 0 ≤ j → j < n - (b - a + 1) → G i j = F (upC a b i) (upC a b j)
def glueP (a b : Int) (p q : List Join) : List Join := isort ((a, b) :: (p ++ q.map (upJ a b)))
theorem dn_up {a b q : Int} (h : a ≤ b) : dnC a b (upC a b q) = q := by simp only [dnC, upC]; (repeat' split) <;> omega
theorem dn_upJ {a b : Int} (h : a ≤ b) (x : Join) : dnJ a b (upJ a b x) = x := Prod.ext (dn_up h) (dn_up h)
theorem up_out {a b : Int} {x : Join} (h : a < b) (hx : x.1 < x.2) : outB a b (upJ a b x) = true ∧ inB a b (upJ a b x) = false := by
  obtain ⟨x1, x2⟩ := x
  simp only at hx
  simp only [outB, inB, upJ, upC, Bool.or_eq_true, Bool.and_eq_true, decide_eq_true_eq, Bool.and_eq_false_iff, decide_eq_false_iff_not]
  (repeat' split) <;> omega
theorem glue_perm (p q : List Join) : (glueP a b p q).Perm ((a, b) :: (p ++ q.map (upJ a b))) := isort_perm _
theorem Cut.plan (c : Cut F G a b n) {p q : List Join} (hp : Plan F (a + 1) b p) (hq : Plan G 0 (n - (b - a + 1)) q) : Plan F 0 n (glueP a b p q) := by
  have := c.a0; have := c.ab; have := c.bn
  refine isort_plan (fun x hx => ?_) (List.pairwise_cons.2 ⟨fun y hy => ?_, List.pairwise_append.2 ⟨hp.2.imp .inl, ?_, fun y hy z hz => ?_⟩⟩)
  · rcases List.mem_cons.1 hx with rfl | hx
    · exact ⟨c.a0, c.ab, c.bn, c.fit⟩
    · rcases List.mem_append.1 hx with hx | hx
      · obtain ⟨h1, h2, h3, h4⟩ := hp.1 x hx
        exact ⟨by omega, h2, by omega, h4⟩
      · obtain ⟨y, hy, rfl⟩ := List.mem_map.1 hx
        obtain ⟨h1, h2, h3, h4⟩ := hq.1 y hy
        rw [c.eq _ _ h1 (by omega) (by omega) h3] at h4
        refine ⟨?_, ?_, ?_, h4⟩ <;> simp only [upJ, upC] <;> (repeat' split) <;> omega
  · rcases List.mem_append.1 hy with hy | hy
    · obtain ⟨h1, h2, h3, h4⟩ := hp.1 y hy
      exact .inl ⟨by show a < y.1; omega, .inr h3⟩
    · obtain ⟨z, hz, rfl⟩ := List.mem_map.1 hy
      obtain ⟨h1, h2, h3, h4⟩ := hq.1 z hz
      simp only [freeJ, apartJ, upJ, upC]
      (repeat' split) <;> omega
  · rw [List.pairwise_map]
    refine (List.Pairwise.imp_of_mem (S := fun x y => freeJ (upJ a b x) (upJ a b y)) (fun {x y} hx hy h => ?_) hq.2)
    obtain ⟨_, h2, _, _⟩ := hq.1 x hx
    obtain ⟨_, k2, _, _⟩ := hq.1 y hy
    obtain ⟨a1, a2⟩ := h
    left
    simp only [apartJ, upJ, upC]
    (repeat' split) <;> omega
  · obtain ⟨h1, h2, h3, h4⟩ := hp.1 y hy
    obtain ⟨w, hw, rfl⟩ := List.mem_map.1 hz
    obtain ⟨k1, k2, k3, k4⟩ := hq.1 w hw
    simp only [freeJ, apartJ, upJ, upC]
    (repeat' split) <;> omega
theorem glue_has (p q : List Join) : (a, b) ∈ glueP a b p q := (glue_perm p q).mem_iff.2 List.mem_cons_self
theorem glue_len (p q : List Join) : (glueP a b p q).length = 1 + p.length + q.length := by
  rw [(glue_perm p q).length_eq]; simp; omega
theorem Cut.glue_in (c : Cut F G a b n) {p q : List Join} (hp : Plan F (a + 1) b p) (hq : Plan G 0 (n - (b - a + 1)) q) : ((glueP a b p q).filter (inB a b)).Perm p ∧ ((glueP a b p q).filter (outB a b)).Perm (q.map (upJ a b)) := by
  have := c.ab
  have e1 : p.filter (inB a b) = p := List.filter_eq_self.2 fun x hx => by
    obtain ⟨h1, h2, h3, h4⟩ := hp.1 x hx
    simp only [inB, Bool.and_eq_true, decide_eq_true_eq]; omega
  have e2 : p.filter (outB a b) = [] := List.filter_eq_nil_iff.2 fun x hx => by
    obtain ⟨h1, h2, h3, h4⟩ := hp.1 x hx
    simp only [outB, Bool.or_eq_true, Bool.and_eq_true, decide_eq_true_eq]; omega
  have e3 : (q.map (upJ a b)).filter (inB a b) = [] := List.filter_eq_nil_iff.2 fun x hx => by
    obtain ⟨y, hy, rfl⟩ := List.mem_map.1 hx
    rw [(up_out c.ab (hq.1 y hy).2.1).2]; decide
  have e4 : (q.map (upJ a b)).filter (outB a b) = q.map (upJ a b) := List.filter_eq_self.2 fun x hx => by
    obtain ⟨y, hy, rfl⟩ := List.mem_map.1 hx
    exact (up_out c.ab (hq.1 y hy).2.1).1
  have f1 : inB a b (a, b) = false := by simp [inB]
  have f2 : outB a b (a, b) = false := by simp [outB]; omega
  constructor
  · refine ((glue_perm p q).filter _).trans ?_
    rw [List.filter_cons, if_neg (by rw [f1]; decide), List.filter_append, e1, e3, List.append_nil]
  · refine ((glue_perm p q).filter _).trans ?_
    rw [List.filter_cons, if_neg (by rw [f2]; decide), List.filter_append, e2, e4, List.nil_append]
theorem Cut.glue_inj (c : Cut F G a b n) {p q p' q' : List Join} (hp : Plan F (a + 1) b p) (hq : Plan G 0 (n - (b - a + 1)) q) (hp' : Plan F (a + 1) b p') (hq' : Plan G 0 (n - (b - a + 1)) q') (e : glueP a b p q = glueP a b p' q') : p = p' ∧ q = q' := by
  obtain ⟨h1, h2⟩ := c.glue_in hp hq
  obtain ⟨k1, k2⟩ := c.glue_in hp' hq'
  rw [e] at h1 h2
  refine ⟨pair_perm hp.2 hp'.2 (h1.symm.trans k1), pair_perm hq.2 hq'.2 ?_⟩
  have := (h2.symm.trans k2).map (dnJ a b)
  rw [map_back fun x _ => dn_upJ (Int.le_of_lt c.ab) x, map_back fun x _ => dn_upJ (Int.le_of_lt c.ab) x] at this
  exact this
theorem free_split {a b : Int} {y : Join} (h : a < b) (hy : y.1 < y.2) (hf : freeJ (a, b) y) : inB a b y = true ∨ outB a b y = true := by
  simp only [freeJ, apartJ, inB, outB, Bool.or_eq_true, Bool.and_eq_true, decide_eq_true_eq] at hf ⊢
  omega
theorem free_of {p : List Join} (hp : p.Pairwise apartJ) {x y : Join} (hx : x ∈ p) (hy : y ∈ p) (h : x ≠ y) : freeJ x y := by
  induction p with
  | nil => cases hx
  | cons z p ih =>
    obtain ⟨h1, h2⟩ := List.pairwise_cons.1 hp
    rcases List.mem_cons.1 hx with e1 | hx1
    · rcases List.mem_cons.1 hy with e2 | hy1
      · exact absurd (e1.trans e2.symm) h
      · exact .inl (e1 ▸ h1 y hy1)
    · rcases List.mem_cons.1 hy with e2 | hy1
      · exact .inr (e2 ▸ h1 x hx1)
      · exact ih h2 hx1 hy1
theorem Cut.split (c : Cut F G a b n) {r : List Join} (hr : Plan F 0 n r) (hx : (a, b) ∈ r) :
    Plan F (a + 1) b (r.filter (inB a b)) ∧ Plan G 0 (n - (b - a + 1)) ((r.filter (outB a b)).map (dnJ a b)) ∧ r.Perm ((a, b) :: (r.filter (inB a b) ++ r.filter (outB a b))) := by
  have := c.a0; have := c.ab; have := c.bn
  refine ⟨⟨fun x hm => ?_, hr.2.filter _⟩, ⟨fun x hm => ?_, ?_⟩, ?_⟩
  · obtain ⟨h1, h2⟩ := List.mem_filter.1 hm
    obtain ⟨k1, k2, k3, k4⟩ := hr.1 x h1
    simp only [inB, Bool.and_eq_true, decide_eq_true_eq] at h2
    exact ⟨by omega, k2, h2.2, k4⟩
  · obtain ⟨y, hy, rfl⟩ := List.mem_map.1 hm
    obtain ⟨h1, h2⟩ := List.mem_filter.1 hy
    obtain ⟨k1, k2, k3, k4⟩ := hr.1 y h1
    simp only [outB, Bool.or_eq_true, Bool.and_eq_true, decide_eq_true_eq] at h2
    have e1 : 0 ≤ dnC a b y.1 ∧ dnC a b y.1 < dnC a b y.2 ∧ dnC a b y.2 < n - (b - a + 1) ∧ upC a b (dnC a b y.1) = y.1 ∧ upC a b (dnC a b y.2) = y.2 := by
      simp only [dnC, upC]; (repeat' split) <;> omega
    refine ⟨e1.1, e1.2.1, e1.2.2.1, ?_⟩
    show G (dnC a b y.1) (dnC a b y.2) = true
    rw [c.eq _ _ e1.1 (by omega) (by omega) e1.2.2.1, e1.2.2.2.1, e1.2.2.2.2]; exact k4
  · rw [List.pairwise_map]
    refine List.Pairwise.imp_of_mem (S := fun x y => apartJ (dnJ a b x) (dnJ a b y)) (fun {x y} hx hy h => ?_) (hr.2.filter (outB a b))
    obtain ⟨h1, h2⟩ := List.mem_filter.1 hx
    obtain ⟨k1, k2⟩ := List.mem_filter.1 hy
    have h3 := (hr.1 x h1).2.1
    have k3 := (hr.1 y k1).2.1
    simp only [outB, Bool.or_eq_true, Bool.and_eq_true, decide_eq_true_eq] at h2 k2
    obtain ⟨a1, a2⟩ := h
    simp only [apartJ, dnJ, dnC]
    (repeat' split) <;> omega
  · have hn := pair_nodup hr.2
    refine (List.perm_ext_iff_of_nodup hn ?_).2 fun y => ?_
    · refine List.nodup_cons.2 ⟨fun hm => ?_, List.nodup_append.2 ⟨hn.filter _, hn.filter _, fun y hy z hz e => ?_⟩⟩
      · rcases List.mem_append.1 hm with hm | hm
        · have := (List.mem_filter.1 hm).2; simp [inB] at this
        · have := (List.mem_filter.1 hm).2; simp [outB] at this; omega
      · subst e
        have h1 := (List.mem_filter.1 hy).2
        have h2 := (List.mem_filter.1 hz).2
        have := (hr.1 y (List.mem_filter.1 hy).1).2.1
        simp only [inB, outB, Bool.or_eq_true, Bool.and_eq_true, decide_eq_true_eq] at h1 h2
        omega
    · rw [List.mem_cons, List.mem_append, List.mem_filter, List.mem_filter]
      constructor
      · intro hy
        by_cases e : y = (a, b)
        · exact .inl e
        · rcases free_split c.ab (hr.1 y hy).2.1 (free_of hr.2 hx hy fun q => e q.symm) with q | q
          · exact .inr (.inl ⟨hy, q⟩)
          · exact .inr (.inr ⟨hy, q⟩)
      · rintro (rfl | ⟨h, _⟩ | ⟨h, _⟩)
        · exact hx
        · exact h
        · exact h
theorem map_dnJ_inj {p q : List Join} (hp : ∀ x ∈ p, outB a b x = true ∧ x.1 < x.2) (hq : ∀ x ∈ q, outB a b x = true ∧ x.1 < x.2) (h : a < b) (e : p.map (dnJ a b) = q.map (dnJ a b)) : p = q := by
  have key : ∀ x, outB a b x = true ∧ x.1 < x.2 → upJ a b (dnJ a b x) = x := fun x hx => by
    obtain ⟨h1, h2⟩ := hx
    obtain ⟨x1, x2⟩ := x
    simp only [outB, Bool.or_eq_true, Bool.and_eq_true, decide_eq_true_eq] at h1 h2
    refine Prod.ext ?_ ?_ <;> simp only [upJ, dnJ, dnC, upC] <;> (repeat' split) <;> omega
  rw [← map_back (g := dnJ a b) (h := upJ a b) (p := p) fun x hx => key x (hp x hx), e, map_back fun x hx => key x (hq x hx)]

/-- The greatest plans of a part. -/
def greatL (F : Int → Int → Bool) (lo hi : Int) : List (List Join) := (plansP F lo hi).filter fun p => decide ((p.length : Int) = (partP F lo hi).1)
theorem greatL_len (F : Int → Int → Bool) (lo hi : Int) : ((greatL F lo hi).length : Int) = (partP F lo hi).2 := by
  rw [(best_all F lo hi).2.2, greatL, List.countP_eq_length_filter]
theorem greatL_mem {lo hi : Int} {p : List Join} : p ∈ greatL F lo hi ↔ Plan F lo hi p ∧ (p.length : Int) = (partP F lo hi).1 := by
  rw [greatL, List.mem_filter, mem_plans, decide_eq_true_eq]
theorem prod_len {α β : Type} (A : List α) (B : List β) : (A.flatMap fun p => B.map fun q => (p, q)).length = A.length * B.length := by
  induction A with
  | nil => simp
  | cons x A ih => rw [List.flatMap_cons, List.length_append, ih, List.length_map, List.length_cons, Nat.succ_mul, Nat.add_comm]
theorem prod_nodup {α β : Type} {A : List α} {B : List β} (hA : A.Nodup) (hB : B.Nodup) : (A.flatMap fun p => B.map fun q => (p, q)).Nodup := by
  induction A with
  | nil => exact .nil
  | cons x A ih =>
    obtain ⟨h1, h2⟩ := List.nodup_cons.1 hA
    rw [List.flatMap_cons]
    refine List.nodup_append.2 ⟨nodup_map (fun a _ b _ e => (Prod.mk.inj e).2) hB, ih h2, fun y hy z hz e => ?_⟩
    subst e
    obtain ⟨q, _, rfl⟩ := List.mem_map.1 hy
    obtain ⟨p, hp, hz⟩ := List.mem_flatMap.1 hz
    obtain ⟨q', _, e⟩ := List.mem_map.1 hz
    exact h1 ((Prod.mk.inj e).1 ▸ hp)
theorem mem_prod {α β : Type} {A : List α} {B : List β} {z : α × β} : z ∈ (A.flatMap fun p => B.map fun q => (p, q)) ↔ z.1 ∈ A ∧ z.2 ∈ B := by
  simp only [List.mem_flatMap, List.mem_map]
  constructor
  · rintro ⟨p, hp, q, hq, rfl⟩; exact ⟨hp, hq⟩
  · intro h; exact ⟨z.1, h.1, z.2, h.2, rfl⟩
/-- Of the greatest plans, as many have a join as what is inside and what is outside have together, if one has it. -/
theorem Cut.count (c : Cut F G a b n) {r : List Join} (hr : r ∈ greatL F 0 n) (hx : (a, b) ∈ r) :
    ((greatL F 0 n).filter fun p => decide ((a, b) ∈ p)).length = (greatL F (a + 1) b).length * (greatL G 0 (n - (b - a + 1))).length := by
  have hm : (partP F 0 n).1 = 1 + (partP F (a + 1) b).1 + (partP G 0 (n - (b - a + 1))).1 := by
    refine Int.le_antisymm ?_ ?_
    · obtain ⟨h1, h2⟩ := greatL_mem.1 hr
      obtain ⟨k1, k2, k3⟩ := c.split h1 hx
      have e := k3.length_eq
      have l1 := (best_all F (a + 1) b).2.1 _ (mem_plans.2 k1)
      have l2 := (best_all G 0 (n - (b - a + 1))).2.1 _ (mem_plans.2 k2)
      rw [List.length_cons, List.length_append] at e
      rw [List.length_map] at l2
      omega
    · obtain ⟨p, hp, ep⟩ := (best_all F (a + 1) b).1
      obtain ⟨q, hq, eq⟩ := (best_all G 0 (n - (b - a + 1))).1
      have := (best_all F 0 n).2.1 _ (mem_plans.2 (c.plan (mem_plans.1 hp) (mem_plans.1 hq)))
      rw [glue_len] at this
      omega
  have hn := (plans_nodup F 0 n).filter fun p => decide ((p.length : Int) = (partP F 0 n).1)
  rw [← prod_len]
  refine Nat.le_antisymm ?_ ?_
  · rw [← List.length_map (f := fun r : List Join => (r.filter (inB a b), (r.filter (outB a b)).map (dnJ a b)))]
    refine List.Nodup.length_le_of_subset (nodup_map (fun p hp q hq e => ?_) (hn.filter _)) fun z hz => ?_
    · obtain ⟨p1, p2⟩ := List.mem_filter.1 hp
      obtain ⟨q1, q2⟩ := List.mem_filter.1 hq
      have p3 := (greatL_mem.1 p1).1
      have q3 := (greatL_mem.1 q1).1
      obtain ⟨e1, e2⟩ := Prod.mk.inj e
      have e3 : p.filter (outB a b) = q.filter (outB a b) := map_dnJ_inj (fun x hx => ⟨(List.mem_filter.1 hx).2, (p3.1 x (List.mem_filter.1 hx).1).2.1⟩) (fun x hx => ⟨(List.mem_filter.1 hx).2, (q3.1 x (List.mem_filter.1 hx).1).2.1⟩) c.ab e2
      have s1 := (c.split p3 (of_decide_eq_true p2)).2.2
      have s2 := (c.split q3 (of_decide_eq_true q2)).2.2
      rw [e1, e3] at s1
      exact pair_perm p3.2 q3.2 (s1.trans s2.symm)
    · obtain ⟨p, hp, rfl⟩ := List.mem_map.1 hz
      obtain ⟨p1, p2⟩ := List.mem_filter.1 hp
      obtain ⟨p3, p4⟩ := greatL_mem.1 p1
      obtain ⟨k1, k2, k3⟩ := c.split p3 (of_decide_eq_true p2)
      have e := k3.length_eq
      have l1 := (best_all F (a + 1) b).2.1 _ (mem_plans.2 k1)
      have l2 := (best_all G 0 (n - (b - a + 1))).2.1 _ (mem_plans.2 k2)
      rw [List.length_cons, List.length_append] at e
      rw [List.length_map] at l2
      refine mem_prod.2 ⟨greatL_mem.2 ⟨k1, by show ((p.filter (inB a b)).length : Int) = _; omega⟩, greatL_mem.2 ⟨k2, ?_⟩⟩
      show (((p.filter (outB a b)).map (dnJ a b)).length : Int) = _
      rw [List.length_map]; omega
  · rw [← List.length_map (f := fun z : List Join × List Join => glueP a b z.1 z.2)]
    refine List.Nodup.length_le_of_subset (nodup_map (fun z hz z' hz' e => ?_) (prod_nodup ((plans_nodup F (a + 1) b).filter _) ((plans_nodup G 0 _).filter _))) fun r hr => ?_
    · obtain ⟨h1, h2⟩ := mem_prod.1 hz
      obtain ⟨k1, k2⟩ := mem_prod.1 hz'
      obtain ⟨e1, e2⟩ := c.glue_inj (greatL_mem.1 h1).1 (greatL_mem.1 h2).1 (greatL_mem.1 k1).1 (greatL_mem.1 k2).1 e
      exact Prod.ext e1 e2
    · obtain ⟨z, hz, rfl⟩ := List.mem_map.1 hr
      obtain ⟨h1, h2⟩ := mem_prod.1 hz
      obtain ⟨h1, l1⟩ := greatL_mem.1 h1
      obtain ⟨h2, l2⟩ := greatL_mem.1 h2
      refine List.mem_filter.2 ⟨greatL_mem.2 ⟨c.plan h1 h2, ?_⟩, decide_eq_true (glue_has _ _)⟩
      rw [glue_len]; omega
theorem Cut.forced (c : Cut F G a b n) {r : List Join} (hr : r ∈ greatL F 0 n) (hx : (a, b) ∈ r) :
    (partP F (a + 1) b).2 * (partP G 0 (n - (b - a + 1))).2 = (partP F 0 n).2 ↔ ∀ p ∈ greatL F 0 n, (a, b) ∈ p := by
  have h := c.count hr hx
  rw [← greatL_len, ← greatL_len, ← greatL_len, ← Int.natCast_mul, ← h, Int.ofNat_inj, List.length_filter_eq_length_iff]
  simp only [decide_eq_true_eq]
end Go.Proofs.YtokdjjebnomciaaDoor
