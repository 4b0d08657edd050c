/-
  WHAT IS PROVED HERE, TEXT BY TEXT (several texts of one prover, joined to one file; the conditions stand in each statement):
  * WHAT IS PROVED HERE: plain laws of words of numbers from which neighbours whose sum is 0 are taken away; there is a full plan just if nothing is left. No program in sight. Conditions stand in each statement.
  * WHAT IS PROVED HERE: plain laws of the core of a word: a word that is turned has a core that is turned. No program in sight. Conditions stand in each statement.
  * WHAT IS PROVED HERE: plain laws that join the program and the reference: full plans, joins of all greatest plans, rims compared. No program in sight. Conditions stand in each statement.
  * WHAT IS PROVED HERE: plain laws of what the statements take away themselves, of cores, and of rims compared. No program in sight. Conditions stand in each statement.
  * WHAT IS PROVED HERE: plain laws of rims that are turned, opposite, longer, and of some edges of a rim. No program in sight. Conditions stand in each statement.
  * WHAT IS SAID HERE: the examples' rims, and joins out of a list of numbers. No program in sight.
  * WHAT IS SAID HERE, WITH PLAIN LAWS: rims that are made of numbers. No program in sight. Conditions stand in each statement.
  * WHAT IS PROVED HERE: an argument that reads as data is, in the world at the start, a value that stands for a plain list, number, or pair (V of Wk2). Conditions: the types' closed facts, as hypotheses.
  * WHAT IS PROVED HERE: pairs of numbers as they are read at the start. Conditions: the types' closed facts, as hypotheses.
  * WHAT IS PROVED HERE: strings.ToUpper and strings.ToLower at one letter, and a letter compared with the smallest small one. Conditions stand in each statement.
  * WHAT IS SAID HERE, WITH PLAIN LAWS: two letters that fit, put into a rim; rims that are turned, opposite, longer. No program in sight. Conditions stand in each statement.
  * WHAT IS PROVED HERE: what functions of layer 5 hand back, each out of its own code; the conditions stand in each statement.
-/
import Derived.Test.YtokdjjebnomciaaDoorU2
import Derived.Lib.IndexLaws
import Derived.Lib.IndexMore
import Derived.Test.YtokdjjebnomciaaDoorU1
import Derived.Deep.Slices
import Derived.Deep.Strs
import Derived.Lib.SmallJoins
import Derived.OpenShut
import Derived.Carry
import Derived.ProofKit
import Derived.ChangeMaps5
import Derived.Test.YtokdjjebnomciaaDoorProg

set_option linter.unusedVariables false
set_option linter.unusedSimpArgs false

namespace Go.Proofs.YtokdjjebnomciaaDoor
set_option linter.unusedVariables false

/-- What is left, the last one first, and a number more. -/
def stk : List Int → Int → List Int
  | [], c => [c]
  | t :: r, c => if t + c = 0 then r else c :: t :: r
def runK (st w : List Int) : List Int := w.foldl stk st
def redK (w : List Int) : List Int := runK [] w
def Irr : List Int → Prop
  | t :: u :: r => t + u ≠ 0 ∧ Irr (u :: r)
  | _ => True
theorem Irr.tl {t : Int} {r : List Int} (h : Irr (t :: r)) : Irr r := by
  cases r with
  | nil => trivial
  | cons u r => exact h.2
theorem stk_irr {st : List Int} {c : Int} (h : Irr st) : Irr (stk st c) := by
  cases st with
  | nil => trivial
  | cons t r =>
    rw [stk]; split
    · exact h.tl
    · next hn => exact ⟨by omega, h⟩
theorem stk_two {st : List Int} {a b : Int} (h : Irr st) (hab : a + b = 0) : stk (stk st a) b = st := by
  cases st with
  | nil => rw [stk, stk, if_pos hab]
  | cons t r =>
    rw [stk]; split
    · next ht =>
      have e : b = t := by omega
      subst e
      cases r with
      | nil => rfl
      | cons u r => rw [stk, if_neg (by have := h.1; omega)]
    · rw [stk, if_pos hab]
theorem runK_irr : ∀ {w st : List Int}, Irr st → Irr (runK st w)
  | [], _, h => h
  | c :: w, _, h => runK_irr (w := w) (stk_irr h)
theorem runK_app (st u v : List Int) : runK st (u ++ v) = runK (runK st u) v := List.foldl_append
theorem runK_cons (st : List Int) (c : Int) (v : List Int) : runK st (c :: v) = runK (stk st c) v := rfl
/-- Two neighbours that are taken away change nothing. -/
theorem runK_del {st u v : List Int} {a b : Int} (h : Irr st) (hab : a + b = 0) : runK st (u ++ a :: b :: v) = runK st (u ++ v) := by
  rw [runK_app, runK_app, runK_cons, runK_cons, stk_two (runK_irr h) hab]
theorem redK_del {u v : List Int} {a b : Int} (hab : a + b = 0) : redK (u ++ a :: b :: v) = redK (u ++ v) := runK_del trivial hab
theorem runK_bottom {c : Int} : ∀ {w t : List Int}, runK (t ++ [c]) w = [] → ∃ u d v, w = u ++ d :: v ∧ runK t u = [] ∧ c + d = 0 ∧ redK v = []
  | [], t, h => by
    have h : t ++ [c] = [] := h
    simp at h
  | d :: w, [], h => by
    rw [List.nil_append, runK_cons, stk] at h
    by_cases hc : c + d = 0
    · rw [if_pos hc] at h
      exact ⟨[], d, w, rfl, rfl, hc, h⟩
    · rw [if_neg hc] at h
      obtain ⟨u, e, v, h1, h2, h3, h4⟩ := runK_bottom (c := c) (w := w) (t := [d]) h
      exact ⟨d :: u, e, v, by rw [h1]; rfl, h2, h3, h4⟩
  | d :: w, t0 :: t, h => by
    rw [List.cons_append, runK_cons, stk] at h
    by_cases hc : t0 + d = 0
    · rw [if_pos hc] at h
      obtain ⟨u, e, v, h1, h2, h3, h4⟩ := runK_bottom (c := c) (w := w) (t := t) h
      exact ⟨d :: u, e, v, by rw [h1]; rfl, by rw [runK_cons, stk, if_pos hc]; exact h2, h3, h4⟩
    · rw [if_neg hc] at h
      obtain ⟨u, e, v, h1, h2, h3, h4⟩ := runK_bottom (c := c) (w := w) (t := d :: t0 :: t) h
      exact ⟨d :: u, e, v, by rw [h1]; rfl, by rw [runK_cons, stk, if_neg hc]; exact h2, h3, h4⟩
/-- The first one of a word of which nothing is left goes with another one. -/
theorem red_split {c : Int} {w : List Int} (h : redK (c :: w) = []) : ∃ u d v, w = u ++ d :: v ∧ redK u = [] ∧ c + d = 0 ∧ redK v = [] := runK_bottom (t := []) h
theorem runK_nil : ∀ (m : Nat) {u st : List Int}, u.length ≤ m → redK u = [] → Irr st → runK st u = st
  | _, [], _, _, _, _ => rfl
  | 0, _ :: _, _, hm, _, _ => by simp at hm
  | m + 1, c :: w, st, hm, h, hi => by
    obtain ⟨u, d, v, rfl, h1, h2, h3⟩ := red_split h
    simp only [List.length_cons, List.length_append] at hm
    rw [runK_cons, runK_app, runK_nil m (by omega) h1 (stk_irr hi), runK_cons, stk_two hi h2, runK_nil m (by omega) h3 hi]
theorem redK_app {u v : List Int} (h : redK u = []) : redK (u ++ v) = redK v := by rw [redK, runK_app, show runK [] u = [] from h]; rfl
theorem redK_wrap {c d : Int} {u v : List Int} (h : redK u = []) (hcd : c + d = 0) (k : redK v = []) : redK (c :: (u ++ d :: v)) = [] := by
  rw [redK, runK_cons, runK_app, runK_nil _ (Nat.le_refl _) h (show Irr (stk [] c) from trivial), runK_cons, stk_two (st := []) trivial hcd]; exact k
theorem runK_rev : ∀ {w st : List Int}, Irr (w.reverse ++ st) → runK st w = w.reverse ++ st
  | [], _, _ => rfl
  | c :: w, st, h => by
    rw [List.reverse_cons, List.append_assoc] at h
    have h : Irr (w.reverse ++ c :: st) := h
    have hk : stk st c = c :: st := by
      cases st with
      | nil => rfl
      | cons t r =>
        rw [stk, if_neg]
        have : ∀ l : List Int, Irr (l ++ c :: t :: r) → c + t ≠ 0 := by
          intro l
          induction l with
          | nil => exact fun h => h.1
          | cons x l ih => exact fun h => ih h.tl
        have := this _ h
        omega
    rw [runK_cons, hk, runK_rev h, List.reverse_cons, List.append_assoc]; rfl
/-- A word of which nothing can be taken away. -/
theorem redK_irr {w : List Int} (h : Irr w.reverse) : redK w = w.reverse := by
  have := runK_rev (w := w) (st := []) (by rw [List.append_nil]; exact h)
  rw [List.append_nil] at this; exact this
theorem irr_mid {l r : List Int} {a b : Int} (h : Irr (l ++ a :: b :: r)) : a + b ≠ 0 := by
  induction l with
  | nil => exact h.1
  | cons x l ih => exact ih h.tl
theorem irr_of {l : List Int} (h : ∀ u a b v, l = u ++ a :: b :: v → a + b ≠ 0) : Irr l := by
  induction l with
  | nil => trivial
  | cons a l ih =>
    have := ih fun u x y v e => h (a :: u) x y v (by rw [e]; rfl)
    cases l with
    | nil => trivial
    | cons b r => exact ⟨h [] a b r rfl, this⟩
theorem irr_rev {l : List Int} (h : Irr l) : Irr l.reverse := irr_of fun u a b v e => by
  have : l = v.reverse ++ b :: a :: u.reverse := by rw [← List.reverse_reverse l, e]; simp
  rw [this] at h
  have := irr_mid h
  omega

/-! ### plans and words -/
variable {F : Int → Int → Bool} {wt : Int → Int} {N : Int}
/-- Edges of a rim of N edges fit just if their numbers' sum is 0. -/
def Fits (F : Int → Int → Bool) (wt : Int → Int) (N : Int) : Prop := ∀ i j, 0 ≤ i → i < N → 0 ≤ j → j < N → F i j = decide (wt i + wt j = 0)
theorem plan_of_red (hF : Fits F wt N) : ∀ (m : Nat) {L : List Int} {lo hi : Int}, L.length ≤ m → 0 ≤ lo → hi ≤ N → L.Pairwise (· < ·) → (∀ x ∈ L, lo ≤ x ∧ x < hi) → redK (L.map wt) = [] → ∃ p, Plan F lo hi p ∧ 2 * p.length = L.length
  | _, [], _, _, _, _, _, _, _, _ => ⟨[], Plan.nil, rfl⟩
  | 0, _ :: _, _, _, hm, _, _, _, _, _ => by simp at hm
  | m + 1, i :: L, lo, hi, hm, n0, n1, ha, hb, h => by
    obtain ⟨u, d, v, e, h1, h2, h3⟩ := red_split (w := L.map wt) h
    obtain ⟨L1, L', rfl, rfl, e2⟩ := List.map_eq_append_iff.1 e
    obtain ⟨j, L2, rfl, rfl, rfl⟩ := List.map_eq_cons_iff.1 e2
    obtain ⟨a1, a2⟩ := List.pairwise_cons.1 ha
    obtain ⟨a3, a4, a5⟩ := List.pairwise_append.1 a2
    obtain ⟨a6, a7⟩ := List.pairwise_cons.1 a4
    simp only [List.length_cons, List.length_append] at hm
    have hi0 := hb i List.mem_cons_self
    have hj0 := hb j (by simp)
    obtain ⟨p, hp, lp⟩ := plan_of_red hF m (L := L1) (lo := i + 1) (hi := j) (by omega) (by omega) (by omega) a3 (fun x hx => ⟨by have := a1 x (List.mem_append_left _ hx); omega, a5 x hx j List.mem_cons_self⟩) h1
    obtain ⟨q, hq, lq⟩ := plan_of_red hF m (L := L2) (lo := j + 1) (hi := hi) (by omega) (by omega) (by omega) a7 (fun x hx => ⟨by have := a6 x hx; omega, (hb x (by simp [hx])).2⟩) h3
    refine ⟨(i, j) :: (p ++ q), (plan_cons (a1 j (by simp)) hj0.2 (by rw [hF i j (by omega) (by omega) (by omega) (by omega)]; exact decide_eq_true h2) hp hq).wide hi0.1 (Int.le_refl _), ?_⟩
    simp only [List.length_cons, List.length_append]; omega
theorem rng_split {i j n : Int} (h1 : i ≤ j) (h2 : j ≤ n) : rng i n = rng i j ++ rng j n := by
  have : ∀ (m : Nat) (i : Int), (j - i).toNat = m → i ≤ j → rng i n = rng i j ++ rng j n := by
    intro m
    induction m with
    | zero => intro i hm hi; rw [show i = j by omega, rng_nil (Int.le_refl j)]; rfl
    | succ m ih => intro i hm hi; rw [rng_cons (i := i) (n := n) (by omega), rng_cons (i := i) (n := j) (by omega), ih (i + 1) (by omega) (by omega)]; rfl
  exact this _ i rfl h1
theorem used_mem {l : List Join} {i : Int} : usedB l i = true ↔ ∃ x ∈ l, x.1 = i ∨ x.2 = i := by
  simp only [usedB, List.any_eq_true, Bool.or_eq_true, decide_eq_true_eq]
theorem filter_congr' {α : Type} {f g : α → Bool} {l : List α} (h : ∀ x ∈ l, f x = g x) : l.filter f = l.filter g := List.filter_congr h
theorem bool_iff {a b : Bool} (h : a = true ↔ b = true) : a = b := by cases a <;> cases b <;> simp_all
theorem red_of_plan (hF : Fits F wt N) : ∀ (m : Nat) {lo hi : Int} {p : List Join}, (hi - lo).toNat ≤ m → 0 ≤ lo → hi ≤ N → p ∈ plansP F lo hi → redK (((rng lo hi).filter (usedB p)).map wt) = [] ∧ ((rng lo hi).filter (usedB p)).length = 2 * p.length
  | m, lo, hi, p, hm, n0, n1, hp => by
    by_cases hle : hi ≤ lo
    · rw [plansP_nil hle, List.mem_singleton] at hp
      subst hp
      rw [rng_nil hle]; exact ⟨rfl, rfl⟩
    · cases m with
      | zero => omega
      | succ m =>
        rw [plansP_eq (by omega), List.mem_append] at hp
        rcases hp with hp | hp
        · obtain ⟨j, hj, hp⟩ := List.mem_flatMap.1 hp
          rw [rng_mem] at hj
          split at hp
          · next hf =>
            obtain ⟨p1, h1, hp⟩ := List.mem_flatMap.1 hp
            obtain ⟨p2, h2, rfl⟩ := List.mem_map.1 hp
            have b1 := (mem_plans.1 h1).1
            have b2 := (mem_plans.1 h2).1
            obtain ⟨r1, l1⟩ := red_of_plan hF m (by omega) (by omega) (by omega) h1
            obtain ⟨r2, l2⟩ := red_of_plan hF m (by omega) (by omega) (by omega) h2
            have hu0 : usedB ((lo, j) :: (p1 ++ p2)) lo = true := used_mem.2 ⟨(lo, j), by simp, .inl rfl⟩
            have hu1 : usedB ((lo, j) :: (p1 ++ p2)) j = true := used_mem.2 ⟨(lo, j), by simp, .inr rfl⟩
            have e1 : (rng (lo + 1) j).filter (usedB ((lo, j) :: (p1 ++ p2))) = (rng (lo + 1) j).filter (usedB p1) := filter_congr' fun q hq => by
              rw [rng_mem] at hq
              refine bool_iff ?_
              rw [used_mem, used_mem]
              constructor
              · rintro ⟨x, hx, hxq⟩
                rcases List.mem_cons.1 hx with rfl | hx
                · exfalso; rcases hxq with h | h <;> (simp only at h; omega)
                · rcases List.mem_append.1 hx with hx | hx
                  · exact ⟨x, hx, hxq⟩
                  · have := b2 x hx; omega
              · rintro ⟨x, hx, hxq⟩; exact ⟨x, by simp [hx], hxq⟩
            have e2 : (rng (j + 1) hi).filter (usedB ((lo, j) :: (p1 ++ p2))) = (rng (j + 1) hi).filter (usedB p2) := filter_congr' fun q hq => by
              rw [rng_mem] at hq
              refine bool_iff ?_
              rw [used_mem, used_mem]
              constructor
              · rintro ⟨x, hx, hxq⟩
                rcases List.mem_cons.1 hx with rfl | hx
                · exfalso; rcases hxq with h | h <;> (simp only at h; omega)
                · rcases List.mem_append.1 hx with hx | hx
                  · have := b1 x hx; omega
                  · exact ⟨x, hx, hxq⟩
              · rintro ⟨x, hx, hxq⟩; exact ⟨x, by simp [hx], hxq⟩
            rw [rng_cons (by omega), rng_split (i := lo + 1) (j := j) (by omega) (by omega), rng_cons (i := j) (by omega), List.filter_cons, if_pos hu0, List.filter_append, List.filter_cons, if_pos hu1, e1, e2]
            rw [hF lo j (by omega) (by omega) (by omega) (by omega), decide_eq_true_eq] at hf
            constructor
            · rw [List.map_cons, List.map_append, List.map_cons]; exact redK_wrap r1 hf r2
            · simp only [List.length_cons, List.length_append]; omega
          · cases hp
        · obtain ⟨r1, l1⟩ := red_of_plan hF m (by omega) (by omega) (by omega) hp
          have b1 := (mem_plans.1 hp).1
          have hu : ¬ usedB p lo = true := fun h => by
            obtain ⟨x, hx, hxq⟩ := used_mem.1 h
            have := b1 x hx; omega
          rw [rng_cons (by omega), List.filter_cons, if_neg hu]
          exact ⟨r1, l1⟩
theorem rng_length {i n : Int} (h : i ≤ n) : ((rng i n).length : Int) = n - i := by rw [rng, List.length_map, List.length_range]; omega
/-- There is a full plan just if nothing is left. -/
theorem full_iff (hF : Fits F wt N) {lo hi : Int} (n0 : 0 ≤ lo) (h : lo ≤ hi) (n1 : hi ≤ N) : 2 * (partP F lo hi).1 = hi - lo ↔ redK ((rng lo hi).map wt) = [] := by
  have hb := best_all F lo hi
  constructor
  · intro e
    obtain ⟨p, hp, lp⟩ := hb.1
    obtain ⟨r, l⟩ := red_of_plan hF _ (Nat.le_refl _) n0 n1 hp
    have hl := rng_length h
    have : (rng lo hi).filter (usedB p) = rng lo hi := List.filter_eq_self.2 (List.length_filter_eq_length_iff.1 (by omega))
    rw [← this]; exact r
  · intro e
    obtain ⟨p, hp, lp⟩ := plan_of_red hF _ (Nat.le_refl _) n0 n1 (rng_asc lo hi) (fun x hx => rng_mem.1 hx) e
    have h1 := hb.2.1 p (mem_plans.2 hp)
    have hl := rng_length h
    obtain ⟨q, hq, lq⟩ := hb.1
    have := plan_len h (mem_plans.1 hq)
    omega
end Go.Proofs.YtokdjjebnomciaaDoor

namespace Go.Proofs.YtokdjjebnomciaaDoor
set_option linter.unusedVariables false

/-- What is left of a word, in order. -/
def redW (w : List Int) : List Int := (redK w).reverse
theorem redW_irr (w : List Int) : Irr (redW w) := irr_rev (runK_irr trivial)
theorem runK_redW : ∀ (m : Nat) {w st : List Int}, w.length = m → Irr st → runK st w = runK st (redW w)
  | 0, w, st, hm, _ => by rw [List.eq_nil_of_length_eq_zero hm]; rfl
  | m + 1, w, st, hm, hi => by
    obtain ⟨w', e, rfl⟩ : ∃ w' e, w = w' ++ [e] := ⟨w.dropLast, w.getLast (by intro h; rw [h] at hm; cases hm), (List.dropLast_concat_getLast _).symm⟩
    have ih := runK_redW m (w := w') (st := st) (by simp at hm; omega) hi
    have hr : redK (w' ++ [e]) = stk (redK w') e := by rw [redK, runK_app]; rfl
    rw [runK_app, ih, show redW (w' ++ [e]) = (stk (redK w') e).reverse from by rw [redW, hr]]
    show stk (runK st (redW w')) e = _
    rw [redW]
    cases hk : redK w' with
    | nil => rfl
    | cons t r =>
      rw [stk, List.reverse_cons, runK_app]
      split
      · next h => exact stk_two (runK_irr hi) h
      · rw [List.reverse_cons, List.reverse_cons, runK_app, runK_app]; rfl
theorem redW_fix {w : List Int} (h : Irr w) : redW w = w := by rw [redW, redK_irr (irr_rev h), List.reverse_reverse]
theorem redW_del {u v : List Int} {a b : Int} (h : a + b = 0) : redW (u ++ a :: b :: v) = redW (u ++ v) := by rw [redW, redK_del h, redW]
theorem redW_part {p w q : List Int} : redW (p ++ w ++ q) = redW (p ++ redW w ++ q) := by
  rw [redW, redW, redK, redK, runK_app, runK_app, runK_app, runK_app, runK_redW _ rfl (runK_irr (st := []) trivial)]

/-- The core: ends that go with each other are taken off. -/
def coreL : Nat → List Int → List Int
  | 0, w => w
  | m + 1, w => match w with
    | [] => []
    | c :: r => match r.getLast? with
      | some d => if c + d = 0 then coreL m r.dropLast else c :: r
      | none => c :: r
def coreW (w : List Int) : List Int := coreL w.length w
theorem coreL_fuel : ∀ (m k : Nat) (w : List Int), w.length ≤ m → w.length ≤ k → coreL m w = coreL k w
  | 0, 0, _, _, _ => rfl
  | 0, k + 1, w, h, _ => by rw [List.eq_nil_of_length_eq_zero (Nat.le_zero.1 h)]; rfl
  | m + 1, 0, w, _, h => by rw [List.eq_nil_of_length_eq_zero (Nat.le_zero.1 h)]; rfl
  | m + 1, k + 1, w, h1, h2 => by
    cases w with
    | nil => rfl
    | cons c r =>
      simp only [coreL]
      cases r.getLast? with
      | none => rfl
      | some d =>
        simp only
        split
        · refine coreL_fuel m k _ ?_ ?_ <;> simp at h1 h2 ⊢ <;> omega
        · rfl
theorem coreW_yes {c d : Int} {y : List Int} (h : c + d = 0) : coreW (c :: (y ++ [d])) = coreW y := by
  rw [coreW, List.length_cons, coreL]
  simp only [List.getLast?_concat, List.dropLast_concat]
  rw [if_pos h]
  exact coreL_fuel _ _ _ (by simp) (Nat.le_refl _)
theorem coreW_no {c d : Int} {y : List Int} (h : c + d ≠ 0) : coreW (c :: (y ++ [d])) = c :: (y ++ [d]) := by
  rw [coreW, List.length_cons, coreL]
  simp only [List.getLast?_concat]
  rw [if_neg h]
theorem coreW_one (c : Int) : coreW [c] = [c] := rfl
theorem coreW_nil : coreW [] = [] := rfl
theorem last_cases (w : List Int) : w = [] ∨ ∃ y d, w = y ++ [d] := by
  rcases List.eq_nil_or_concat w with h | ⟨y, d, h⟩
  · exact .inl h
  · exact .inr ⟨y, d, by rw [h, List.concat_eq_append]⟩

def IsRot {α : Type} (a b : List α) : Prop := ∃ u v, a = u ++ v ∧ b = v ++ u
theorem IsRot.refl {α : Type} (a : List α) : IsRot a a := ⟨[], a, rfl, (List.append_nil a).symm⟩
theorem IsRot.symm {α : Type} {a b : List α} (h : IsRot a b) : IsRot b a := by
  obtain ⟨u, v, h1, h2⟩ := h
  exact ⟨v, u, h2, h1⟩
theorem IsRot.trans {α : Type} {a b c : List α} (h : IsRot a b) (k : IsRot b c) : IsRot a c := by
  obtain ⟨u, v, rfl, rfl⟩ := h
  obtain ⟨u', v', e, rfl⟩ := k
  rcases List.append_eq_append_iff.1 e with ⟨x, rfl, rfl⟩ | ⟨x, rfl, rfl⟩
  · exact ⟨x, v' ++ v, by simp, by simp⟩
  · exact ⟨u ++ u', x, by simp, by simp⟩
theorem irr_snoc {y : List Int} {d : Int} (h : Irr y) (hd : ∀ z e, y = z ++ [e] → e + d ≠ 0) : Irr (y ++ [d]) := irr_of fun u a b v e => by
  rcases last_cases v with rfl | ⟨v', f, rfl⟩
  · have : y ++ [d] = (u ++ [a]) ++ [b] := by rw [e]; simp
    obtain ⟨h1, h2⟩ := List.append_inj' this rfl
    obtain rfl := (List.cons.inj h2).1
    exact hd u a h1
  · have : y ++ [d] = (u ++ a :: b :: v') ++ [f] := by rw [e]; simp
    obtain ⟨h1, _⟩ := List.append_inj' this rfl
    rw [h1] at h
    exact irr_mid h
theorem irr_cons {y : List Int} {c : Int} (h : Irr y) (hd : ∀ z e, y = e :: z → c + e ≠ 0) : Irr (c :: y) := by
  cases y with
  | nil => trivial
  | cons e z => exact ⟨hd z e rfl, h⟩
theorem Irr.left {y z : List Int} (h : Irr (y ++ z)) : Irr y := irr_of fun u a b v e => by
  rw [e, List.append_assoc] at h
  exact irr_mid (l := u) (r := v ++ z) h
theorem core_step (c : Int) (u : List Int) : IsRot (coreW (redW (c :: u))) (coreW (redW (u ++ [c]))) := by
  have e1 : redW (u ++ [c]) = redW (-c :: (redW (c :: u) ++ [c])) := by
    have h1 := redW_del (u := []) (v := u ++ [c]) (a := -c) (b := c) (by omega)
    have h2 := redW_part (p := [-c]) (w := c :: u) (q := [c])
    rw [List.nil_append, List.nil_append] at h1
    rw [← h1]; exact h2
  rw [e1]
  have hx := redW_irr (c :: u)
  generalize redW (c :: u) = x at hx
  by_cases hs : ∃ y, x = c :: y
  · obtain ⟨y, rfl⟩ := hs
    have e2 : redW (-c :: (c :: y ++ [c])) = redW (y ++ [c]) := redW_del (u := []) (by omega)
    rw [e2]
    rcases last_cases y with rfl | ⟨z, d, rfl⟩
    · exact IsRot.refl _
    · by_cases hd : c + d = 0
      · rw [coreW_yes hd, List.append_assoc]
        have e3 : redW (z ++ ([d] ++ [c])) = redW (z ++ []) := redW_del (v := []) (by omega)
        rw [e3, List.append_nil, redW_fix hx.tl.left]
        exact IsRot.refl _
      · have hi : Irr ((z ++ [d]) ++ [c]) := irr_snoc hx.tl fun z' e h => by
          obtain ⟨_, h2⟩ := List.append_inj' h rfl
          obtain rfl := (List.cons.inj h2).1
          omega
        rw [coreW_no hd, redW_fix hi]
        have e4 : coreW ((z ++ [d]) ++ [c]) = (z ++ [d]) ++ [c] := by
          cases z with
          | nil => exact coreW_no (y := []) (by omega)
          | cons z0 z => exact coreW_no (c := z0) (y := z ++ [d]) (d := c) (by have := hx.1; omega)
        rw [e4]
        exact ⟨[c], z ++ [d], rfl, rfl⟩
  · rcases last_cases x with rfl | ⟨y, d, rfl⟩
    · have : redW (-c :: ([] ++ [c])) = redW [] := redW_del (u := []) (v := []) (by omega)
      rw [this]
      exact IsRot.refl _
    · by_cases hd : d = -c
      · subst hd
        have e3 : redW (-c :: (y ++ [-c] ++ [c])) = redW (-c :: y) := by
          have := redW_del (u := -c :: y) (v := []) (a := -c) (b := c) (by omega)
          rw [List.append_nil] at this
          rw [← this, List.append_assoc]; rfl
        have hi : Irr (-c :: y) := irr_cons hx.left fun z e h hc => hs ⟨z ++ [-c], by rw [h, show e = c by omega]; rfl⟩
        rw [e3, redW_fix hi]
        rcases last_cases y with rfl | ⟨z, e, rfl⟩
        · exact IsRot.refl _
        · have h1 : coreW (z ++ [e] ++ [-c]) = z ++ [e] ++ [-c] := by
            cases z with
            | nil => exact coreW_no (y := []) fun hc => hs ⟨[-c], by rw [show e = c by omega]; rfl⟩
            | cons z0 z => exact coreW_no (c := z0) (y := z ++ [e]) (d := -c) fun hc => hs ⟨z ++ [e] ++ [-c], by rw [show z0 = c by omega]; rfl⟩
          have h2 : coreW (-c :: (z ++ [e])) = -c :: (z ++ [e]) := coreW_no (by
            rw [List.append_assoc] at hx
            have := irr_mid (l := z) (a := e) (b := -c) (r := []) hx
            omega)
          rw [h1, h2]
          exact ⟨z ++ [e], [-c], rfl, rfl⟩
      · have hi : Irr (-c :: (y ++ [d] ++ [c])) := irr_cons (irr_snoc hx fun z' e h => by
            obtain ⟨_, h2⟩ := List.append_inj' h rfl
            obtain rfl := (List.cons.inj h2).1
            omega) fun z e h hc => by
          cases y with
          | nil => exact hs ⟨[], by have := (List.cons.inj h).1; rw [show d = c by omega]; rfl⟩
          | cons y0 y => exact hs ⟨y ++ [d], by have := (List.cons.inj h).1; rw [show y0 = c by omega]; rfl⟩
        rw [redW_fix hi, coreW_yes (by omega)]
        exact IsRot.refl _
theorem core_rot : ∀ (u v : List Int), IsRot (coreW (redW (u ++ v))) (coreW (redW (v ++ u)))
  | [], v => by rw [List.append_nil]; exact IsRot.refl _
  | c :: u, v => by
    have h1 := core_step c (u ++ v)
    have h2 := core_rot u (v ++ [c])
    rw [List.append_assoc] at h1
    have e : v ++ [c] ++ u = v ++ c :: u := by simp
    rw [e] at h2
    exact h1.trans h2
end Go.Proofs.YtokdjjebnomciaaDoor

namespace Go.Proofs.YtokdjjebnomciaaDoor
open Go.Wk Go.RowKit Go.Lib Go
set_option linter.unusedVariables false

theorem ba_beq {a b : ByteArray} : (a == b) = true ↔ a = b := by
  cases a with | mk x => cases b with | mk y =>
  show (ByteArray.beq _ _) = true ↔ _
  unfold ByteArray.beq
  simp

/-! ### a rim as a word of numbers -/
def wtS (s : ByteArray) (q : Int) : Int := numC (tabAt s q)
def wd (s : ByteArray) : List Int := s.data.toList.map fun b => numC (b.toNat : Int)
theorem wt_word (s : ByteArray) : (rng 0 s.size).map (wtS s) = wd s := by
  have hl : s.size = s.data.toList.length := (by simp)
  refine List.ext_getElem? fun i => ?_
  by_cases hi : i < s.size
  · rw [rng, List.map_map, List.getElem?_map, List.getElem?_range (by omega), wd, List.getElem?_map, List.getElem?_eq_getElem (by omega)]
    simp only [Option.map_some, Function.comp_apply, wtS, Int.zero_add]
    rw [tabAt, Int.toNat_natCast, List.getD_eq_getElem?_getD, List.getElem?_eq_getElem (by omega)]; rfl
  · rw [List.getElem?_eq_none (by rw [List.length_map, rng, List.length_map, List.length_range]; omega), List.getElem?_eq_none (by rw [wd, List.length_map]; omega)]
theorem fits_wt {s : ByteArray} (h : Lets s) : Fits (fitR s) (wtS s) s.size := fun i j i0 i1 j0 j1 => (numC_fit (h i i0 i1) (h j j0 j1)).symm
theorem run_word {s : ByteArray} (h : Lets s) : ∀ (idx : List Int) (st : List Join) (lf : List Int), (∀ x ∈ lf, 0 ≤ x ∧ x < s.size) → (∀ x ∈ idx, 0 ≤ x ∧ x < s.size) →
    (runS s (st, lf) idx).2.map (wtS s) = (runK (lf.map (wtS s)).reverse (idx.map (wtS s))).reverse
  | [], st, lf, _, _ => by rw [List.map_nil]; simp [runS, runK]
  | j :: idx, st, lf, hl, hi => by
    have hj := hi j List.mem_cons_self
    have hi' : ∀ x ∈ idx, 0 ≤ x ∧ x < s.size := fun x hx => hi x (List.mem_cons_of_mem _ hx)
    rw [runS_cons, List.map_cons, runK_cons]
    rcases List.eq_nil_or_concat lf with rfl | ⟨lf', t, rfl⟩
    · rw [stepS_no (.inl (by decide)), run_word h idx _ _ (fun x hx => by rw [List.nil_append, List.mem_singleton] at hx; subst hx; exact hj) hi']
      rfl
    · rw [List.concat_eq_append] at hl ⊢
      have ht := hl t (by simp)
      have hx : ix 0 (lf' ++ [t]) (((lf' ++ [t]).length : Int) - 1) = t := ix_app (by rw [List.length_append, List.length_singleton]; omega)
      have hst : stk ((lf' ++ [t]).map (wtS s)).reverse (wtS s j) = if wtS s t + wtS s j = 0 then (lf'.map (wtS s)).reverse else wtS s j :: ((lf' ++ [t]).map (wtS s)).reverse := by
        rw [List.map_append, List.reverse_append]
        simp only [List.map_cons, List.map_nil, List.reverse_cons, List.reverse_nil, List.nil_append, List.cons_append, stk]
      by_cases hf : fitR s t j = true
      · rw [stepS_yes (by rw [List.length_append, List.length_singleton]; omega) (by rw [hx]; exact hf), hx, hst, if_pos (by have := fits_wt h t j ht.1 ht.2 hj.1 hj.2; rw [hf] at this; exact of_decide_eq_true this.symm)]
        rw [show (((lf' ++ [t]).length : Int) - 1).toNat = lf'.length by rw [List.length_append, List.length_singleton]; omega, List.take_left]
        exact run_word h idx _ _ (fun x hx => hl x (by simp [hx])) hi'
      · rw [stepS_no (.inr (by rw [hx]; simpa using hf)), hst, if_neg (fun q => hf (by rw [fits_wt h t j ht.1 ht.2 hj.1 hj.2]; exact decide_eq_true q))]
        rw [run_word h idx _ _ (fun x hx => by
          rcases List.mem_append.1 hx with hx | hx
          · exact hl x hx
          · rw [List.mem_singleton] at hx; subst hx; exact hj) hi', List.map_append, List.map_append, List.reverse_append]
        simp
theorem rest_word {s : ByteArray} (h : Lets s) : wd (restV s) = redW (wd s) := by
  have h1 := run_word h (rng 0 s.size) [] [] (by simp) fun x hx => by rw [rng_mem] at hx; exact hx
  rw [wt_word] at h1
  rw [redW, redK]
  refine Eq.trans ?_ h1
  rw [restV, wd]
  show ((takS s).2.map (byteAt s)).map _ = _
  rw [List.map_map]; rfl
theorem wd_size (s : ByteArray) : (wd s).length = s.size := by rw [wd, List.length_map]; simp
theorem rest_empty {s : ByteArray} (h : Lets s) : (restV s == ByteArray.empty) = decide (2 * (allV s).1 = s.size) := by
  have hf := full_iff (fits_wt h) (Int.le_refl 0) (by omega) (Int.le_refl (s.size : Int))
  rw [wt_word, Int.sub_zero] at hf
  have hr := rest_word h
  refine bool_iff ?_
  rw [decide_eq_true_eq, ba_beq]
  show _ ↔ 2 * (partP (fitR s) 0 s.size).1 = s.size
  rw [hf]
  constructor
  · intro e
    rw [e] at hr
    have : redW (wd s) = [] := hr.symm
    exact List.reverse_eq_nil_iff.1 this
  · intro e
    have hz : (restV s).size = 0 := by
      have := wd_size (restV s)
      rw [hr, redW, e] at this; exact this.symm
    exact ByteArray.size_eq_zero_iff.1 hz
theorem full_eq (s : ByteArray) : fullP s = fullR s := by
  rw [fullP, fullR]
  by_cases h : rimE s = 0
  · rw [if_pos h, decide_eq_true h, Bool.true_and, rest_empty (rimE_ok h).2]
  · rw [if_neg h, decide_eq_false h, Bool.false_and]

/-! ### the joins of all greatest plans -/
theorem tab_cut {s : ByteArray} {a b q : Int} (a0 : 0 ≤ a) (ab : a < b) (bn : b < s.size) (q0 : 0 ≤ q) (q1 : q < s.size - (b - a + 1)) : tabAt (cutS s a b) q = tabAt s (upC a b q) := by
  have e1 : ((s.extract 0 a.toNat).size : Int) = a := by rw [ByteArray.size_extract]; omega
  rw [cutS, tab_app q0, e1, upC]
  split
  · rw [tab_extract q0 (by omega)]; congr 1; omega
  · rw [tab_extract (by omega) (by rw [ByteArray.size_extract]; omega)]; congr 1; omega
theorem cut_of {s : ByteArray} {x : Join} (h0 : 0 ≤ x.1) (h1 : x.1 < x.2) (h2 : x.2 < s.size) (hf : fitR s x.1 x.2 = true) : Cut (fitR s) (fitR (cutS s x.1 x.2)) x.1 x.2 s.size :=
  ⟨h0, h1, h2, hf, fun i j i0 i1 j0 j1 => by rw [fitR, tab_cut h0 h1 h2 i0 i1, tab_cut h0 h1 h2 j0 j1]; rfl⟩
theorem great_mem (s : ByteArray) : firstP (fitR s) 0 s.size ∈ greatV s := List.mem_of_mem_head? (great_head s)
theorem forced_eq (s : ByteArray) : forcedP s = forcedV s := by
  rw [forcedP, forcedV]
  split
  · refine List.filter_congr fun x hx => ?_
    have hg := great_mem s
    have e : greatV s = greatL (fitR s) 0 s.size := great_is s
    rw [e] at hg
    have hp := (greatL_mem.1 hg).1
    obtain ⟨h0, h1, h2, hf⟩ := hp.1 x hx
    have hc := (cut_of h0 h1 h2 hf).forced hg (by exact hx)
    have hs := cut_size h0 h1 h2
    refine bool_iff ?_
    rw [frcN, decide_eq_true_eq, List.all_eq_true, e]
    rw [← hs] at hc
    refine Iff.trans hc ?_
    simp only [hasB_iff]
  · rfl

/-! ### rims compared -/
theorem rot_list {c d : List UInt8} (hl : c.length = d.length) : Lib.contains (c ++ c) d = true ↔ ∃ i, i ≤ c.length ∧ c.drop i ++ c.take i = d := by
  have key : ∀ i, i ≤ c.length → (occAt (c ++ c) d i = true ↔ c.drop i ++ c.take i = d) := by
    intro i hi
    rw [occAt, List.isPrefixOf_iff_prefix, List.drop_append_of_le_length hi]
    have e : c.drop i ++ c = (c.drop i ++ c.take i) ++ c.drop i := by rw [List.append_assoc, List.take_append_drop]
    constructor
    · intro h
      rw [e] at h
      have h2 : (c.drop i ++ c.take i) <+: (c.drop i ++ c.take i) ++ c.drop i := List.prefix_append _ _
      have := List.prefix_of_prefix_length_le h2 h (by simp; omega)
      exact this.eq_of_length (by simp; omega)
    · intro h
      rw [e, h]; exact List.prefix_append _ _
  rw [Lib.contains, decide_eq_true_eq]
  rcases index_spec (c ++ c) d with ⟨h1, h2⟩ | ⟨i, h1, h2, h3, h4⟩
  · rw [h1]
    constructor
    · intro h; omega
    · rintro ⟨i, hi, hd⟩
      have := h2 i (by simp; omega)
      rw [(key i hi).2 hd] at this; cases this
  · rw [h1]
    refine ⟨fun _ => ?_, fun _ => by omega⟩
    by_cases hi : i ≤ c.length
    · exact ⟨i, hi, (key i hi).1 h3⟩
    · exfalso
      rw [occAt, List.isPrefixOf_iff_prefix] at h3
      have := h3.length_le
      simp at this h2
      omega
theorem rot_data (c : ByteArray) (d : Int) : (rotS c d).data.toList = c.data.toList.drop d.toNat ++ c.data.toList.take d.toNat := by
  have hl : c.size = c.data.toList.length := (by simp)
  rw [rotS, ByteArray.data_append, Array.toList_append, ByteArray.data_extract, ByteArray.data_extract, Array.toList_extract, Array.toList_extract]
  show (c.data.toList.drop d.toNat).take (c.size - d.toNat) ++ (c.data.toList.drop 0).take (d.toNat - 0) = _
  rw [List.take_of_length_le (by rw [List.length_drop]; omega), List.drop_zero, Nat.sub_zero]
theorem ba_ext {a b : ByteArray} (h : a.data.toList = b.data.toList) : a = b := ByteArray.ext (Array.toList_inj.1 h)
theorem rotB_iff {c d : ByteArray} : rotB c d = true ↔ ∃ i, i ≤ c.size ∧ c.data.toList.drop i ++ c.data.toList.take i = d.data.toList := by
  have hl : c.size = c.data.toList.length := (by simp)
  rw [rotB, Bool.or_eq_true, List.any_eq_true, ba_beq]
  constructor
  · rintro (rfl | ⟨i, hi, h⟩)
    · exact ⟨0, Nat.zero_le _, by simp⟩
    · rw [rng_mem] at hi
      rw [ba_beq] at h
      exact ⟨i.toNat, by omega, by rw [← h, rot_data]⟩
  · rintro ⟨i, hi, h⟩
    by_cases h0 : i = 0 ∨ i = c.size
    · left
      refine ba_ext ?_
      rw [← h]
      rcases h0 with rfl | rfl
      · simp
      · rw [List.drop_of_length_le (by omega), List.take_of_length_le (by omega)]; rfl
    · right
      exact ⟨i, rng_mem.2 (by omega), by rw [ba_beq]; exact ba_ext (by rw [rot_data, Int.toNat_natCast, h])⟩
theorem rot_contains (c d : ByteArray) : (decide ((c.size : Int) = d.size) && Lib.contains (c ++ c).data.toList d.data.toList) = rotB c d := by
  have hc : c.size = c.data.toList.length := (by simp)
  have hd : d.size = d.data.toList.length := (by simp)
  refine bool_iff ?_
  rw [Bool.and_eq_true, decide_eq_true_eq, rotB_iff, ByteArray.data_append, Array.toList_append]
  constructor
  · rintro ⟨h1, h2⟩
    obtain ⟨i, hi, h⟩ := (rot_list (by omega)).1 h2
    exact ⟨i, by omega, h⟩
  · rintro ⟨i, hi, h⟩
    have : c.data.toList.length = d.data.toList.length := by rw [← h]; simp; omega
    exact ⟨by omega, (rot_list this).2 ⟨i, by omega, h⟩⟩
theorem alike_eq (a b : ByteArray) : alikeP a b = alikeR a b := by
  rw [alikeP, alikeR]
  split
  · next h =>
    have ha : rimE a = 0 := by
      rw [alikeE] at h
      split at h
      · assumption
      · exact h
    have hb : rimE b = 0 := by rw [alikeE, if_pos ha] at h; exact h
    rw [coreV, coreV, if_pos ha, if_pos hb]
    exact rot_contains _ _
  · rfl
end Go.Proofs.YtokdjjebnomciaaDoor

namespace Go.Proofs.YtokdjjebnomciaaDoor
open Go.Wk Go.RowKit Go.Lib Go
set_option linter.unusedVariables false

/-- The places of two neighbours that fit. -/
def atsL (s : ByteArray) : List Int := (rng 0 ((s.size : Int) - 1)).filter fun i => fitR s i (i + 1)
/-- A rim without two neighbours that fit, chosen by a number. -/
def lessS (s : ByteArray) (n : Int) : ByteArray := if atsL s = [] then s else cutS s (ix 0 (atsL s) (n % (atsL s).length)) (ix 0 (atsL s) (n % (atsL s).length) + 1)
def restN (s : ByteArray) (l : List Int) : ByteArray := l.foldl lessS s
theorem atsL_mem {s : ByteArray} {i : Int} : i ∈ atsL s ↔ (0 ≤ i ∧ i + 1 < s.size) ∧ fitR s i (i + 1) = true := by
  rw [atsL, List.mem_filter, rng_mem]; constructor <;> (rintro ⟨h1, h2⟩; exact ⟨by omega, h2⟩)
theorem cut_data {s : ByteArray} {a b : Int} : (cutS s a b).data.toList = s.data.toList.take a.toNat ++ s.data.toList.drop (b + 1).toNat := by
  have hl : s.size = s.data.toList.length := (by simp)
  rw [cutS, ByteArray.data_append, Array.toList_append, ByteArray.data_extract, ByteArray.data_extract, Array.toList_extract, Array.toList_extract]
  show (s.data.toList.drop 0).take (a.toNat - 0) ++ (s.data.toList.drop (b + 1).toNat).take (s.size - (b + 1).toNat) = _
  rw [List.take_of_length_le (l := s.data.toList.drop (b + 1).toNat) (by rw [List.length_drop]; omega), List.drop_zero, Nat.sub_zero]
theorem wd_data {s : ByteArray} : wd s = s.data.toList.map fun b => numC (b.toNat : Int) := rfl
theorem wd_cut {s : ByteArray} {a b : Int} : wd (cutS s a b) = (wd s).take a.toNat ++ (wd s).drop (b + 1).toNat := by
  rw [wd_data, cut_data, List.map_append, List.map_take, List.map_drop]; rfl
theorem wd_get {s : ByteArray} {i : Int} (h0 : 0 ≤ i) (h1 : i < s.size) : (wd s)[i.toNat]? = some (wtS s i) := by
  rw [← wt_word, List.getElem?_map, rng, List.getElem?_map, List.getElem?_range (by omega)]
  simp only [Option.map_some]
  congr 2; omega
theorem wd_split {s : ByteArray} {i : Int} (h0 : 0 ≤ i) (h1 : i + 1 < s.size) : wd s = (wd s).take i.toNat ++ wtS s i :: wtS s (i + 1) :: (wd s).drop (i + 1 + 1).toNat := by
  have hl := wd_size s
  have e1 := wd_get (s := s) h0 (by omega)
  have e2 := wd_get (s := s) (i := i + 1) (by omega) (by omega)
  obtain ⟨k1, g1⟩ := List.getElem?_eq_some_iff.1 e1
  obtain ⟨k2, g2⟩ := List.getElem?_eq_some_iff.1 e2
  conv => lhs; rw [← List.take_append_drop i.toNat (wd s)]
  rw [List.drop_eq_getElem_cons k1, g1]
  simp only [show i.toNat + 1 = (i + 1).toNat by omega]
  rw [List.drop_eq_getElem_cons k2, g2]
  simp only [show (i + 1).toNat + 1 = (i + 1 + 1).toNat by omega]
theorem cut_word {s : ByteArray} {i : Int} (hs : Lets s) (h : i ∈ atsL s) : redW (wd (cutS s i (i + 1))) = redW (wd s) := by
  obtain ⟨⟨h0, h1⟩, h2⟩ := atsL_mem.1 h
  rw [wd_cut]
  conv => rhs; rw [wd_split h0 h1]
  rw [redW_del]
  have := fits_wt hs i (i + 1) h0 (by omega) (by omega) h1
  rw [h2] at this
  exact of_decide_eq_true this.symm
theorem irr_ats {s : ByteArray} (hs : Lets s) (h : atsL s = []) : Irr (wd s) := irr_of fun u a b v e hab => by
  have hl := wd_size s
  rw [e] at hl
  simp only [List.length_append, List.length_cons] at hl
  have e1 := wd_get (s := s) (i := u.length) (by omega) (by omega)
  have e2 := wd_get (s := s) (i := (u.length : Int) + 1) (by omega) (by omega)
  rw [e] at e1 e2
  rw [Int.toNat_natCast, List.getElem?_append_right (Nat.le_refl _), Nat.sub_self] at e1
  rw [show ((u.length : Int) + 1).toNat = u.length + 1 by omega, List.getElem?_append_right (by omega), show u.length + 1 - u.length = 1 by omega] at e2
  have g1 : a = wtS s u.length := Option.some.inj e1
  have g2 : b = wtS s (u.length + 1) := Option.some.inj e2
  have : (u.length : Int) ∈ atsL s := atsL_mem.2 ⟨⟨by omega, by omega⟩, by rw [fits_wt hs _ _ (by omega) (by omega) (by omega) (by omega)]; exact decide_eq_true (by rw [← g1, ← g2]; exact hab)⟩
  rw [h] at this; cases this
theorem less_at {s : ByteArray} {n : Int} (hn : 0 ≤ n) (h : atsL s ≠ []) : ix 0 (atsL s) (n % (atsL s).length) ∈ atsL s := by
  have h0 : 0 < ((atsL s).length : Int) := by have := List.length_pos_iff.2 h; omega
  exact ix_mem (Int.emod_nonneg _ (by omega)) (Int.emod_lt_of_pos _ h0)
theorem less_word {s : ByteArray} {n : Int} (hs : Lets s) (hn : 0 ≤ n) : Lets (lessS s n) ∧ redW (wd (lessS s n)) = redW (wd s) ∧ ((lessS s n = s ∧ Irr (wd s)) ∨ (lessS s n).size + 2 = s.size) := by
  rw [lessS]
  split
  · next h => exact ⟨hs, rfl, .inl ⟨rfl, irr_ats hs h⟩⟩
  · next h =>
    have hm := less_at (s := s) hn h
    generalize ix 0 (atsL s) (n % (atsL s).length) = i at hm
    obtain ⟨⟨h0, h1⟩, _⟩ := atsL_mem.1 hm
    have := cut_size h0 (show i < i + 1 by omega) h1
    exact ⟨hs.cut _ _, cut_word hs hm, .inr (by omega)⟩
theorem restN_word : ∀ (l : List Int) {s : ByteArray}, Lets s → (∀ n ∈ l, 0 ≤ n) → Lets (restN s l) ∧ redW (wd (restN s l)) = redW (wd s) ∧ (Irr (wd (restN s l)) ∨ (restN s l).size + 2 * l.length = s.size)
  | [], s, hs, _ => ⟨hs, rfl, .inr (by rfl)⟩
  | n :: l, s, hs, hn => by
    obtain ⟨h1, h2, h3⟩ := less_word (n := n) hs (hn n List.mem_cons_self)
    obtain ⟨k1, k2, k3⟩ := restN_word l h1 fun m hm => hn m (List.mem_cons_of_mem _ hm)
    refine ⟨k1, k2.trans h2, ?_⟩
    rcases k3 with k3 | k3
    · exact .inl k3
    · rcases h3 with ⟨e, hi⟩ | h3
      · left
        show Irr (wd (restN (lessS s n) l))
        have hl : ∀ l : List Int, restN s l = s ∨ ∃ m ∈ l, atsL s ≠ [] := fun l => by
          induction l with
          | nil => exact .inl rfl
          | cons m l ih =>
            by_cases ha : atsL s = []
            · rcases ih with h | ⟨_, _, h⟩
              · left
                show restN (lessS s m) l = s
                rw [lessS, if_pos ha]; exact h
              · exact absurd ha h
            · exact .inr ⟨m, List.mem_cons_self, ha⟩
        rw [e]
        rcases hl l with h | ⟨m, hm, h⟩
        · rw [h]; exact hi
        · exfalso
          have h0 : atsL s ≠ [] := h
          rcases List.exists_mem_of_ne_nil _ h0 with ⟨i, hi2⟩
          obtain ⟨⟨i0, i1⟩, i2⟩ := atsL_mem.1 hi2
          rw [wd_split i0 i1] at hi
          have := irr_mid hi
          have hf := fits_wt hs i (i + 1) i0 (by omega) (by omega) i1
          rw [i2] at hf
          exact this (of_decide_eq_true hf.symm)
      · right
        show (restN (lessS s n) l).size + 2 * (n :: l).length = s.size
        rw [List.length_cons]; omega
theorem num_inj : ∀ i < 256, ∀ j < 256, isLet ((i : Nat) : Int) = true → isLet ((j : Nat) : Int) = true → numC (i : Nat) = numC (j : Nat) → i = j := by
  intro i hi j hj h1 h2 h
  have a1 := isLet_bd h1
  have a2 := isLet_bd h2
  simp only [isLet, Bool.or_eq_true, decide_eq_true_eq] at h1 h2
  simp only [numC] at h
  (repeat' split at h) <;> omega
theorem wd_inj {s t : ByteArray} (hs : Lets s) (ht : Lets t) (h : wd s = wd t) : s = t := by
  refine ba_ext ?_
  have h1 := lets_mem hs
  have h2 := lets_mem ht
  rw [wd_data, wd_data] at h
  generalize s.data.toList = l at h h1
  generalize t.data.toList = r at h h2
  induction l generalizing r with
  | nil => cases r with
    | nil => rfl
    | cons b r => cases h
  | cons a l ih => cases r with
    | nil => cases h
    | cons b r =>
      obtain ⟨e1, e2⟩ := List.cons.inj h
      rw [ih (fun x hx => h1 x (List.mem_cons_of_mem _ hx)) r e2 (fun x hx => h2 x (List.mem_cons_of_mem _ hx))]
      have := num_inj a.toNat (UInt8.toNat_lt a) b.toNat (UInt8.toNat_lt b) (h1 a List.mem_cons_self) (h2 b List.mem_cons_self) e1
      rw [UInt8.toNat_inj.1 this]
theorem irr_short {w : List Int} (h : w.length ≤ 1) : Irr w := by
  match w with
  | [] => trivial
  | [_] => trivial
  | _ :: _ :: _ => simp at h
/-- In whatever order neighbours are taken away: the same rest. -/
theorem restN_eq {s : ByteArray} {l : List Int} (hs : Lets s) (hn : ∀ n ∈ l, 0 ≤ n) (h : s.size ≤ 2 * l.length + 1) : restN s l = restV s := by
  obtain ⟨h1, h2, h3⟩ := restN_word l hs hn
  refine wd_inj h1 hs.rest ?_
  rw [rest_word hs, ← h2]
  refine (redW_fix ?_).symm
  rcases h3 with h3 | h3
  · exact h3
  · exact irr_short (by rw [wd_size]; omega)

/-! ### cores -/
theorem core_word : ∀ (m : Nat) {s : ByteArray}, s.size ≤ m → Lets s → wd (coreF s) = coreW (wd s)
  | 0, s, hm, hs => by
    have : s = ByteArray.empty := ByteArray.size_eq_zero_iff.1 (by omega)
    subst this; rfl
  | m + 1, s, hm, hs => by
    by_cases h : 1 < (s.size : Int) ∧ fitR s 0 ((s.size : Int) - 1) = true
    · have hi := inner_size s
      have hl := wd_size s
      rw [← coreF_yes h, core_word m (s := inner s) (by omega) (by exact hs.extract _ _)]
      have hf := fits_wt hs 0 ((s.size : Int) - 1) (by omega) (by omega) (by omega) (by omega)
      rw [h.2] at hf
      have hf := of_decide_eq_true hf.symm
      have hmid : (rng 1 ((s.size : Int) - 1)).map (wtS s) = (rng 0 (inner s).size).map (wtS (inner s)) := by
        refine List.ext_getElem? fun i => ?_
        by_cases hi2 : i < s.size - 2
        · rw [List.getElem?_map, List.getElem?_map, rng, rng, List.getElem?_map, List.getElem?_map, List.getElem?_range (by omega), List.getElem?_range (by omega)]
          simp only [Option.map_some, wtS, inner]
          rw [tab_extract (by omega) (by rw [ByteArray.size_extract]; omega)]
          rw [show ((1 : Int).toNat : Int) + (0 + (i : Int)) = 1 + (i : Int) by omega]
        · rw [List.getElem?_eq_none (by rw [List.length_map, rng, List.length_map, List.length_range]; omega), List.getElem?_eq_none (by rw [List.length_map, rng, List.length_map, List.length_range]; omega)]
      have hw : wd s = wtS s 0 :: (wd (inner s) ++ [wtS s ((s.size : Int) - 1)]) := by
        have e1 : rng (0 + 1) (s.size : Int) = rng 1 ((s.size : Int) - 1) ++ [(s.size : Int) - 1] := by
          rw [← rng_snoc (by omega)]
          rw [show (s.size : Int) - 1 + 1 = s.size by omega]; rfl
        rw [← wt_word, ← wt_word, ← hmid, rng_cons (by omega), e1, List.map_cons, List.map_append, List.map_cons, List.map_nil]
      rw [hw, coreW_yes hf]
    · rw [coreF_no (by
        by_cases h1 : 1 < (s.size : Int)
        · right
          have : ¬ fitR s 0 ((s.size : Int) - 1) = true := fun q => h ⟨h1, q⟩
          simpa using this
        · exact .inl h1)]
      have hl := wd_size s
      rcases last_cases (wd s) with e | ⟨y, d, e⟩
      · rw [e]; rfl
      · rw [e]
        cases y with
        | nil => rfl
        | cons c y =>
          rw [e] at hl
          simp only [List.cons_append, List.length_cons, List.length_append, List.length_nil] at hl
          refine (coreW_no fun hcd => h ⟨by omega, ?_⟩).symm
          have e1 := wd_get (s := s) (i := 0) (by omega) (by omega)
          have e2 := wd_get (s := s) (i := (s.size : Int) - 1) (by omega) (by omega)
          rw [e] at e1 e2
          have g1 : c = wtS s 0 := Option.some.inj e1
          rw [List.getElem?_append_right (by simp; omega), show ((s.size : Int) - 1).toNat - (c :: y).length = 0 by simp; omega] at e2
          have g2 : d = wtS s ((s.size : Int) - 1) := Option.some.inj e2
          rw [fits_wt hs _ _ (by omega) (by omega) (by omega) (by omega)]
          exact decide_eq_true (by rw [← g1, ← g2]; exact hcd)
theorem core_ne : ∀ (m : Nat) {w : List Int}, w.length ≤ m → Irr w → w ≠ [] → coreW w ≠ []
  | 0, w, hm, _, hw => absurd (List.eq_nil_of_length_eq_zero (by omega)) hw
  | m + 1, w, hm, hi, hw => by
    rcases last_cases w with rfl | ⟨y, d, rfl⟩
    · exact absurd rfl hw
    · cases y with
      | nil => exact fun h => by cases h
      | cons c y =>
        by_cases hcd : c + d = 0
        · rw [List.cons_append, coreW_yes hcd]
          simp only [List.cons_append, List.length_cons, List.length_append, List.length_nil] at hm
          refine core_ne m (by omega) hi.tl.left ?_
          rintro rfl
          exact hi.1 hcd
        · rw [List.cons_append, coreW_no hcd]; simp
theorem isRot_map {α β : Type} {f : α → β} {a b : List α} (h : IsRot a b) : IsRot (a.map f) (b.map f) := by
  obtain ⟨u, v, rfl, rfl⟩ := h
  exact ⟨u.map f, v.map f, List.map_append, List.map_append⟩
theorem rotB_rot {c d : ByteArray} : rotB c d = true ↔ IsRot c.data.toList d.data.toList := by
  have hl : c.size = c.data.toList.length := (by simp)
  rw [rotB_iff]
  constructor
  · rintro ⟨i, hi, h⟩
    exact ⟨_, _, (List.take_append_drop i c.data.toList).symm, h.symm⟩
  · rintro ⟨u, v, h1, h2⟩
    refine ⟨u.length, by rw [hl, h1, List.length_append]; omega, ?_⟩
    rw [h1, h2, List.drop_left, List.take_left]
theorem rotB_refl (c : ByteArray) : rotB c c = true := rotB_rot.2 (IsRot.refl _)
theorem rotB_comm (c d : ByteArray) : rotB c d = rotB d c := bool_iff ⟨fun h => rotB_rot.2 (rotB_rot.1 h).symm, fun h => rotB_rot.2 (rotB_rot.1 h).symm⟩
/-- Words whose numbers are turned belong to letters that are turned. -/
theorem rotB_word {c d : ByteArray} (hc : Lets c) (hd : Lets d) (h : IsRot (wd c) (wd d)) : rotB c d = true := by
  obtain ⟨u, v, h1, h2⟩ := h
  have hl := wd_size c
  have e : rotS c u.length = d := by
    have hr : (rotS c u.length).data.toList = _ := rot_data c u.length
    refine wd_inj ((hc.extract _ _).app (hc.extract _ _)) hd ?_
    rw [wd_data, hr, List.map_append, List.map_drop, List.map_take, ← wd_data, h1, h2, Int.toNat_natCast, List.drop_left, List.take_left]
  refine rotB_iff.2 ⟨u.length, by rw [← hl, h1, List.length_append]; omega, ?_⟩
  rw [← e, rot_data, Int.toNat_natCast]
end Go.Proofs.YtokdjjebnomciaaDoor

namespace Go.Proofs.YtokdjjebnomciaaDoor
open Go.Wk Go.RowKit Go.Lib Go
set_option linter.unusedVariables false

theorem fitR_comm (s : ByteArray) (i j : Int) : fitR s i j = fitR s j i := by
  rw [fitR, fitR, fitC, fitC]
  exact decide_eq_decide.2 ⟨fun h => by omega, fun h => by omega⟩
/-! ### turned -/
theorem tab_rot {s : ByteArray} {d i : Int} (d0 : 0 ≤ d) (d1 : d ≤ s.size) (i0 : 0 ≤ i) (i1 : i < s.size) : tabAt (s.extract d.toNat s.size ++ s.extract 0 d.toNat) (rotI s.size d i) = tabAt s i := by
  have e1 : ((s.extract d.toNat s.size).size : Int) = s.size - d := by rw [ByteArray.size_extract]; omega
  have e2 : ((s.extract 0 d.toNat).size : Int) = d := by rw [ByteArray.size_extract]; omega
  rw [rotI]
  split
  · rw [tab_app (by omega), if_neg (by omega), e1, tab_extract (by omega) (by omega)]
    congr 1; omega
  · rw [tab_app (by omega), if_pos (by omega), tab_extract (by omega) (by omega)]
    congr 1; omega
theorem rot_size {s : ByteArray} {d : Int} (d0 : 0 ≤ d) (d1 : d ≤ s.size) : ((s.extract d.toNat s.size ++ s.extract 0 d.toNat).size : Int) = s.size := by
  rw [ByteArray.size_append, ByteArray.size_extract, ByteArray.size_extract]; omega
theorem all_rot {s : ByteArray} {d : Int} (d0 : 0 ≤ d) (d1 : d ≤ s.size) : allV (s.extract d.toNat s.size ++ s.extract 0 d.toNat) = allV s := by
  rw [allV, rot_size d0 d1]
  exact (part_rot d0 d1 (fitR_comm s) (fitR_comm _) fun i j i0 i1 j0 j1 => by rw [fitR, fitR, tab_rot d0 d1 i0 i1, tab_rot d0 d1 j0 j1]).symm
theorem wd_app (s t : ByteArray) : wd (s ++ t) = wd s ++ wd t := by rw [wd_data, ByteArray.data_append, Array.toList_append, List.map_append]; rfl
theorem wd_extract (s : ByteArray) (a b : Nat) : wd (s.extract a b) = ((wd s).drop a).take (b - a) := by
  rw [wd_data, ByteArray.data_extract, Array.toList_extract]
  show (((s.data.toList.drop a).take (b - a)).map _) = _
  rw [List.map_take, List.map_drop]; rfl
theorem lets_coreT : ∀ (m : Nat) {s : ByteArray}, Lets s → Lets (coreT m s)
  | 0, _, h => h
  | m + 1, s, h => by
    rw [coreT]; split
    · exact lets_coreT m (s := inner s) (by exact h.extract _ _)
    · exact h
theorem lets_core {s : ByteArray} (h : Lets s) : Lets (coreF s) := lets_coreT _ h
theorem rot_alike {s : ByteArray} {d : Int} (hs : Lets s) : rotB (coreF (restV s)) (coreF (restV (s.extract d.toNat s.size ++ s.extract 0 d.toNat))) = true := by
  have ht : Lets (s.extract d.toNat s.size ++ s.extract 0 d.toNat) := (hs.extract _ _).app (hs.extract _ _)
  have hl := wd_size s
  have e : wd (s.extract d.toNat s.size ++ s.extract 0 d.toNat) = (wd s).drop d.toNat ++ (wd s).take d.toNat := by
    rw [wd_app, wd_extract, wd_extract, List.drop_zero, Nat.sub_zero, List.take_of_length_le (l := (wd s).drop d.toNat) (by rw [List.length_drop]; omega)]
  have h := core_rot ((wd s).take d.toNat) ((wd s).drop d.toNat)
  rw [List.take_append_drop, ← e, ← rest_word hs, ← rest_word ht, ← core_word _ (Nat.le_refl _) hs.rest, ← core_word _ (Nat.le_refl _) ht.rest] at h
  exact rotB_word (lets_core hs.rest) (lets_core ht.rest) h

/-! ### opposite -/
def opW (w : List Int) : List Int := (w.map fun x => -x).reverse
theorem opW_app (u v : List Int) : opW (u ++ v) = opW v ++ opW u := by rw [opW, List.map_append, List.reverse_append]; rfl
theorem opW_one (e : Int) : opW [e] = [-e] := rfl
theorem opW_op (w : List Int) : opW (opW w) = w := by
  rw [opW, opW, List.map_reverse, List.reverse_reverse, List.map_map]
  exact (List.map_congr_left fun x _ => Int.neg_neg x).trans (List.map_id w)
theorem irr_op {w : List Int} (h : Irr w) : Irr (opW w) := irr_rev (irr_of fun u a b v e => by
  obtain ⟨u', v', rfl, rfl, e2⟩ := List.map_eq_append_iff.1 e
  obtain ⟨a', v2, rfl, rfl, e3⟩ := List.map_eq_cons_iff.1 e2
  obtain ⟨b', v3, rfl, rfl, rfl⟩ := List.map_eq_cons_iff.1 e3
  have := irr_mid h
  omega)
theorem redW_op : ∀ (m : Nat) {w : List Int}, w.length = m → redW (opW w) = opW (redW w)
  | 0, w, hm => by rw [List.eq_nil_of_length_eq_zero hm]; rfl
  | m + 1, w, hm => by
    obtain ⟨w', e, rfl⟩ : ∃ w' e, w = w' ++ [e] := ⟨w.dropLast, w.getLast (by intro h; rw [h] at hm; cases hm), (List.dropLast_concat_getLast _).symm⟩
    have ih := redW_op m (w := w') (by simp at hm; omega)
    have h1 : redW (opW (w' ++ [e])) = redW (-e :: opW (redW w')) := by
      rw [opW_app, opW_one, ← ih]
      have := redW_part (p := [-e]) (w := opW w') (q := [])
      rw [List.append_nil, List.append_nil] at this
      exact this
    have h2 : redW (w' ++ [e]) = redW (redW w' ++ [e]) := redW_part (p := []) (w := w') (q := [e])
    have hi := redW_irr w'
    rw [h1, h2]
    generalize redW w' = x at hi
    rcases last_cases x with rfl | ⟨y, t, rfl⟩
    · rfl
    · by_cases ht : t + e = 0
      · have e1 : redW (y ++ [t] ++ [e]) = y := by
          have := redW_del (u := y) (v := []) ht
          rw [List.append_nil, redW_fix hi.left] at this
          rw [List.append_assoc]; exact this
        have e2 : redW (-e :: opW (y ++ [t])) = opW y := by
          rw [opW_app, opW_one]
          have := redW_del (u := []) (v := opW y) (a := -e) (b := -t) (by omega)
          rw [List.nil_append, List.nil_append, redW_fix (irr_op hi.left)] at this
          exact this
        rw [e1, e2]
      · have hi2 : Irr (y ++ [t] ++ [e]) := irr_snoc hi fun z' e' h => by
          obtain ⟨_, h2⟩ := List.append_inj' h rfl
          obtain rfl := (List.cons.inj h2).1
          exact ht
        have e3 : -e :: opW (y ++ [t]) = opW (y ++ [t] ++ [e]) := by rw [opW_app (y ++ [t]), opW_one]; rfl
        rw [e3, redW_fix (irr_op hi2), redW_fix hi2]
theorem red_half : ∀ (m : Nat) {w : List Int}, w.length = m → redW (w ++ opW w) = []
  | 0, w, hm => by rw [List.eq_nil_of_length_eq_zero hm]; rfl
  | m + 1, w, hm => by
    obtain ⟨w', e, rfl⟩ : ∃ w' e, w = w' ++ [e] := ⟨w.dropLast, w.getLast (by intro h; rw [h] at hm; cases hm), (List.dropLast_concat_getLast _).symm⟩
    rw [opW_app, opW_one, List.append_assoc]
    have := redW_del (u := w') (v := opW w') (a := e) (b := -e) (by omega)
    have h2 : redW (w' ++ ([e] ++ ([-e] ++ opW w'))) = redW (w' ++ opW w') := this
    rw [h2]
    exact red_half m (by simp at hm; omega)
theorem sw_num {b : UInt8} (h : LetB b) : numC ((swB b).toNat : Int) = -numC (b.toNat : Int) := by
  obtain ⟨h1, h2, _⟩ := swB_let h
  have h2 : isLet ((swB b).toNat : Int) = true := h2
  have h : isLet (b.toNat : Int) = true := h
  have hb := isLet_bd h
  simp only [isLet, Bool.or_eq_true, decide_eq_true_eq] at h h2
  simp only [numC]
  split at h1 <;> (repeat' split) <;> omega
theorem wd_opp {s : ByteArray} (hs : Lets s) : wd (oppS s) = opW (wd s) := by
  rw [wd_data, oppS]
  show ((s.data.toList.map swB).reverse).map _ = _
  rw [opW, wd_data, List.map_reverse, List.map_map, List.map_map]
  congr 1
  exact List.map_congr_left fun b hb => sw_num (lets_mem hs b hb)
theorem opp_let {s : ByteArray} (hs : Lets s) : Lets (oppS s) := lets_of fun b hb => opp_lets hs b (List.mem_reverse.1 hb)
theorem opp_len (s : ByteArray) : (oppS s).size = s.size := by rw [oppS, mkB_size, List.length_reverse, List.length_map]; simp
theorem rest_opp {s : ByteArray} (hs : Lets s) : restV (oppS s) = oppS (restV s) :=
  wd_inj (opp_let hs).rest (opp_let hs.rest) (by rw [rest_word (opp_let hs), wd_opp hs, redW_op _ rfl, wd_opp hs.rest, rest_word hs])
theorem opp_opp {s : ByteArray} (hs : Lets s) : oppS (oppS s) = s := wd_inj (opp_let (opp_let hs)) hs (by rw [wd_opp (opp_let hs), wd_opp hs, opW_op])
theorem rest_half {s : ByteArray} (hs : Lets s) : restV (s ++ oppS s) = ByteArray.empty := by
  have h := rest_word (hs.app (opp_let hs))
  rw [wd_app, wd_opp hs, red_half _ rfl] at h
  have := wd_size (restV (s ++ oppS s))
  rw [h] at this
  exact ByteArray.size_eq_zero_iff.1 this.symm
theorem opp_wt {s : ByteArray} (hs : Lets s) {i : Int} (i0 : 0 ≤ i) (i1 : i < s.size) : wtS (oppS s) (s.size - 1 - i) = -wtS s i := by
  have h1 := wd_get (s := oppS s) (i := s.size - 1 - i) (by omega) (by rw [opp_len]; omega)
  have h2 := wd_get (s := s) i0 i1
  have hl := wd_size s
  rw [wd_opp hs, opW, List.getElem?_reverse (by rw [List.length_map]; omega), List.length_map, List.getElem?_map, show (wd s).length - 1 - ((s.size : Int) - 1 - i).toNat = i.toNat by omega, h2] at h1
  exact (Option.some.inj h1).symm
theorem all_opp {s : ByteArray} (hs : Lets s) : allV (oppS s) = allV s := by
  rw [allV, opp_len]
  refine (part_rev (fitR_comm s) (fitR_comm _) fun i j i0 i1 j0 j1 => ?_).symm
  have hl := opp_len s
  rw [fits_wt hs i j i0 i1 j0 j1, fits_wt (opp_let hs) _ _ (by omega) (by omega) (by omega) (by omega), opp_wt hs i0 i1, opp_wt hs j0 j1]
  exact decide_eq_decide.2 ⟨fun h => by omega, fun h => by omega⟩

/-! ### edges put in -/
def putS (s t : ByteArray) (i : Int) : ByteArray := s.extract 0 i.toNat ++ t ++ s.extract i.toNat s.size
theorem put_size {s t : ByteArray} {i : Int} (i0 : 0 ≤ i) (i1 : i ≤ s.size) : (putS s t i).size = s.size + t.size := by
  rw [putS, ByteArray.size_append, ByteArray.size_append, ByteArray.size_extract, ByteArray.size_extract]; omega
theorem put_lets {s t : ByteArray} {i : Int} (hs : Lets s) (ht : Lets t) : Lets (putS s t i) := ((hs.extract _ _).app ht).app (hs.extract _ _)
theorem put_rest {s t : ByteArray} {i : Int} (hs : Lets s) (ht : Lets t) {a b : Int} (hw : wd t = [a, b]) (hab : a + b = 0) : restV (putS s t i) = restV s := by
  refine wd_inj (put_lets hs ht).rest hs.rest ?_
  have hl := wd_size s
  have e := redW_del (u := (wd s).take i.toNat) (v := (wd s).drop i.toNat) hab
  rw [List.take_append_drop] at e
  rw [rest_word (put_lets hs ht), rest_word hs, putS, wd_app, wd_app, wd_extract, wd_extract, hw, List.drop_zero, Nat.sub_zero, List.take_of_length_le (l := (wd s).drop i.toNat) (by rw [List.length_drop]; omega), List.append_assoc]
  exact e
theorem tab_put {s t : ByteArray} {i q : Int} (ht : t.size = 1) (i0 : 0 ≤ i) (i1 : i ≤ s.size) (q0 : 0 ≤ q) (q1 : q < s.size) : tabAt (putS s t i) (upI i q) = tabAt s q := by
  have e1 : ((s.extract 0 i.toNat).size : Int) = i := by rw [ByteArray.size_extract]; omega
  have e2 : ((s.extract 0 i.toNat ++ t).size : Int) = i + 1 := by rw [ByteArray.size_append]; omega
  rw [putS, upI]
  split
  · rw [tab_app (by omega), e2, if_pos (by omega), tab_app (by omega), e1, if_pos (by omega), tab_extract (by omega) (by omega)]
    congr 1; omega
  · rw [tab_app (by omega), e2, if_neg (by omega), tab_extract (by omega) (by rw [ByteArray.size_extract]; omega)]
    congr 1; omega
theorem all_more {s t : ByteArray} {i : Int} (ht : t.size = 1) (i0 : 0 ≤ i) (i1 : i ≤ s.size) : (allV s).1 ≤ (allV (putS s t i)).1 ∧ (allV (putS s t i)).1 ≤ (allV s).1 + 1 := by
  have := part_more (F := fitR s) (G := fitR (putS s t i)) i0 i1 fun a b a0 a1 b0 b1 => by rw [fitR, fitR, tab_put ht i0 i1 a0 a1, tab_put ht i0 i1 b0 b1]
  have e : ((putS s t i).size : Int) = s.size + 1 := by rw [put_size i0 i1]; omega
  rw [allV, allV, e]; exact this
theorem core_empty {s : ByteArray} (hs : Lets s) : rotB (coreF (restV s)) ByteArray.empty = (restV s == ByteArray.empty) := by
  refine bool_iff ?_
  rw [rotB_rot, ba_beq]
  constructor
  · rintro ⟨u, v, h1, h2⟩
    have h3 : v ++ u = [] := h2.symm
    obtain ⟨rfl, rfl⟩ := List.append_eq_nil_iff.1 h3
    have hc : coreF (restV s) = ByteArray.empty := ba_ext h1
    have hw := core_word _ (Nat.le_refl _) hs.rest
    rw [hc] at hw
    have hw : coreW (wd (restV s)) = [] := hw.symm
    by_cases hn : wd (restV s) = []
    · exact ByteArray.size_eq_zero_iff.1 (by rw [← wd_size, hn]; rfl)
    · exact absurd hw (core_ne _ (Nat.le_refl _) (by rw [rest_word hs]; exact redW_irr _) hn)
  · intro h
    rw [h]; exact IsRot.refl _

/-! ### some of the edges -/
def bitB (o i : Int) : Bool := decide (bits .and .i64 (o / 2 ^ min i.toNat (IntKind.i64).bits) 1 = 1)
def someL (o i : Int) : List Int := (rng 0 i).filter (bitB o)
def someS (s : ByteArray) (o i : Int) : ByteArray := mkB ((someL o i).map (byteAt s))
theorem someL_next {o i : Int} (i0 : 0 ≤ i) : someL o (i + 1) = someL o i ++ if bitB o i = true then [i] else [] := by
  rw [someL, rng_snoc i0, List.filter_append, List.filter_cons]; rfl
theorem someS_yes {s : ByteArray} {o i : Int} (i0 : 0 ≤ i) (i1 : i < s.size) (h : bitB o i = true) : someS s o (i + 1) = someS s o i ++ s.extract i.toNat (i + 1).toNat := by
  rw [someS, someL_next i0, if_pos h, List.map_append, ← mkB_app, mkB_one i0 i1]; rfl
theorem someS_no {s : ByteArray} {o i : Int} (i0 : 0 ≤ i) (h : ¬ bitB o i = true) : someS s o (i + 1) = someS s o i := by
  rw [someS, someL_next i0, if_neg h, List.append_nil]; rfl
theorem some_in {o n : Int} : ∀ x ∈ someL o n, 0 ≤ x ∧ x < n := fun x hx => rng_mem.1 (List.mem_filter.1 hx).1
theorem some_size (s : ByteArray) (o i : Int) : (someS s o i).size = (someL o i).length := by rw [someS, mkB_size, List.length_map]
theorem some_le {o i : Int} (h : 0 ≤ i) : ((someL o i).length : Int) ≤ i := by
  have := List.length_filter_le (bitB o) (rng 0 i)
  have := rng_length h
  rw [someL]; omega
theorem some_lets {s : ByteArray} {o : Int} (hs : Lets s) : Lets (someS s o s.size) := lets_of fun b hb => by
  obtain ⟨x, hx, rfl⟩ := List.mem_map.1 hb
  have := some_in x hx
  exact hs x this.1 this.2
theorem some_word (s : ByteArray) (o i : Int) : wd (someS s o i) = (someL o i).map (wtS s) := by
  rw [wd_data, someS]
  show ((someL o i).map (byteAt s)).map _ = _
  rw [List.map_map]; rfl
/-- Edges of which nothing is left are ends of a plan's joins. -/
theorem some_plan {s : ByteArray} {o : Int} (hs : Lets s) (h : (restV (someS s o s.size) == ByteArray.empty) = true) : ∃ m : Int, ((someS s o s.size).size : Int) = 2 * m ∧ m ≤ (allV s).1 := by
  have h1 := rest_word (some_lets (o := o) hs)
  rw [ba_beq.1 h] at h1
  have h2 : redK (wd (someS s o s.size)) = [] := List.reverse_eq_nil_iff.1 h1.symm
  rw [some_word] at h2
  obtain ⟨p, hp, lp⟩ := plan_of_red (fits_wt hs) _ (Nat.le_refl _) (Int.le_refl 0) (Int.le_refl _) ((rng_asc 0 s.size).filter (bitB o)) some_in h2
  refine ⟨p.length, ?_, most_le (n' := s.size) hp⟩
  rw [some_size]
  have lp : 2 * p.length = (someL o s.size).length := lp
  omega
theorem bits_of : ∀ (n : Nat) (b : Nat → Bool), ∃ o, o < 2 ^ n ∧ ∀ i, i < n → o.testBit i = b i
  | 0, _ => ⟨0, by simp, fun i h => by omega⟩
  | n + 1, b => by
    obtain ⟨o, h1, h2⟩ := bits_of n (fun i => b (i + 1))
    refine ⟨2 * o + (b 0).toNat, ?_, fun i hi => ?_⟩
    · rw [Nat.pow_succ]
      cases b 0 <;> simp <;> omega
    · cases i with
      | zero =>
        rw [Nat.testBit_zero]
        cases b 0 <;> simp <;> omega
      | succ i =>
        rw [Nat.testBit_succ, show (2 * o + (b 0).toNat) / 2 = o by cases b 0 <;> simp <;> omega]
        exact h2 i (by omega)
theorem and_one_i64 {u : Nat} (hu : u < 1024) : bits .and .i64 (u : Int) 1 = ((u % 2 : Nat) : Int) := by
  have : ∀ u < 1024, bits .and .i64 (u : Nat) 1 = ((u % 2 : Nat) : Int) := by decide +kernel
  exact this u hu
theorem bitB_nat {o : Nat} {i : Int} (h : o < 1024) (i0 : 0 ≤ i) (i1 : i ≤ 60) : bitB o i = o.testBit i.toNat := by
  obtain ⟨i, rfl⟩ := Int.eq_ofNat_of_zero_le i0
  have hm : min ((i : Int)).toNat IntKind.i64.bits = i := by
    have : IntKind.i64.bits = 64 := rfl
    rw [this, Nat.min_def]; split <;> omega
  have he : ((o : Int) / 2 ^ i) = ((o / 2 ^ i : Nat) : Int) := by simp
  have hlt : o / 2 ^ i ≤ o := Nat.div_le_self _ _
  rw [bitB, hm, he, Int.toNat_natCast, Nat.testBit_eq_decide_div_mod_eq]
  generalize o / 2 ^ i = u at hlt
  rw [and_one_i64 (by omega)]
  exact decide_eq_decide.2 (by omega)
theorem pow_9 {n : Nat} (h : n ≤ 9) : 2 ^ n ≤ 512 := Nat.pow_le_pow_right (n := 2) (by decide) h
/-- There are edges of which nothing is left, as many as a greatest plan has ends. -/
theorem some_best {s : ByteArray} (hs : Lets s) (h9 : s.size ≤ 9) : ∃ o : Int, 0 ≤ o ∧ o < 2 ^ s.size ∧ (restV (someS s o s.size) == ByteArray.empty) = true ∧ ((someS s o s.size).size : Int) = 2 * (allV s).1 := by
  obtain ⟨p, hp, lp⟩ := most_has (fitR s) s.size
  obtain ⟨o, h1, h2⟩ := bits_of s.size (fun i => usedB p i)
  have h512 := pow_9 h9
  have e : someL (o : Int) s.size = (rng 0 s.size).filter (usedB p) := List.filter_congr fun x hx => by
    rw [rng_mem] at hx
    rw [bitB_nat (by omega) hx.1 (by omega), h2 _ (by omega), Int.toNat_of_nonneg hx.1]
  obtain ⟨r, l⟩ := red_of_plan (fits_wt hs) _ (Nat.le_refl _) (Int.le_refl 0) (Int.le_refl _) (mem_plans.2 hp)
  have hsz : (someS s o s.size).size = 2 * p.length := by rw [some_size, e]; exact l
  refine ⟨o, by omega, by have h3 : ((o : Nat) : Int) < ((2 ^ s.size : Nat) : Int) := by omega
                          simpa using h3, ?_, ?_⟩
  · have h3 := rest_word (some_lets (o := o) hs)
    rw [some_word, e, redW, r] at h3
    rw [ba_beq]
    have := wd_size (restV (someS s o s.size))
    rw [h3] at this
    exact ByteArray.size_eq_zero_iff.1 this.symm
  · rw [hsz]
    have lp : (p.length : Int) = (allV s).1 := lp
    omega
end Go.Proofs.YtokdjjebnomciaaDoor

namespace Go.Proofs.YtokdjjebnomciaaDoor
open Go.Wk Go
def pairsU : List Int → List Join
  | a :: b :: l => (a, b) :: pairsU l
  | _ => []
def rP : ByteArray := { data := #[97, 98, 66, 65] }
def rQ : ByteArray := { data := #[97, 98, 65, 66] }
def rR : ByteArray := { data := #[97, 65, 97, 65] }
def r1 : ByteArray := { data := #[98, 97, 99, 65, 66] }
def r2 : ByteArray := { data := #[97, 98, 67] }
def r3 : ByteArray := { data := #[97, 98, 65] }
def r4 : ByteArray := { data := #[98] }
def r5 : ByteArray := { data := #[97, 98] }
def r6 : ByteArray := { data := #[97, 66] }
theorem pairsU_step {l : List Int} {i : Int} (h0 : 0 ≤ i) (h : i + 1 < l.length) : pairsU (l.drop i.toNat) = (ix 0 l i, ix 0 l (i + 1)) :: pairsU (l.drop (i + 2).toNat) := by
  rw [drop_ix (d := 0) h0 (by omega), drop_ix (d := 0) (n := i + 1) (by omega) h, pairsU]
  rw [show (i + 1 + 1).toNat = (i + 2).toNat by omega]
theorem pairsU_end {l : List Int} {i : Int} (h0 : 0 ≤ i) (h : ¬ i + 1 < l.length) : pairsU (l.drop i.toNat) = [] := by
  have : (l.drop i.toNat).length ≤ 1 := by rw [List.length_drop]; omega
  match hd : l.drop i.toNat with
  | [] => rfl
  | [a] => rfl
  | a :: b :: r => rw [hd] at this; simp at this
theorem first_in (s : ByteArray) : ∀ x ∈ firstP (fitR s) 0 s.size, 0 ≤ x.1 ∧ x.1 < x.2 ∧ x.2 < s.size := fun x hx => by
  have hg := great_mem s
  rw [show greatV s = greatL (fitR s) 0 s.size from great_is s] at hg
  obtain ⟨h0, h1, h2, _⟩ := (greatL_mem.1 hg).1.1 x hx
  exact ⟨h0, h1, h2⟩
end Go.Proofs.YtokdjjebnomciaaDoor

namespace Go.Proofs.YtokdjjebnomciaaDoor
open Go.Wk Go
set_option linter.unusedVariables false

def sixS : ByteArray := { data := #[97, 65, 98, 66, 99, 67] }
def letK (kinds x : Int) : UInt8 := byteAt sixS (x % (2 * kinds))
/-- The rim that a Pot makes. -/
def madeS (e kd : Int) (xs : List Int) (most : Int) : ByteArray := mkB ((xs.take (e % (most + 1)).toNat).map (letK (1 + kd % 3)))
theorem letK_let {kinds x : Int} (h0 : 1 ≤ kinds) (h1 : kinds ≤ 3) : LetB (letK kinds x) := by
  have : ∀ q < 6, isLet ((byteAt sixS ((q : Nat) : Int)).toNat : Int) = true := by decide +kernel
  have h2 := Int.emod_nonneg x (b := 2 * kinds) (by omega)
  have h3 := Int.emod_lt_of_pos x (b := 2 * kinds) (by omega)
  have h4 := this (x % (2 * kinds)).toNat (by omega)
  rw [Int.toNat_of_nonneg h2] at h4
  exact h4
theorem made_lets {e kd : Int} {xs : List Int} {most : Int} (h : 0 ≤ kd) : Lets (madeS e kd xs most) := lets_of fun b hb => by
  obtain ⟨x, _, rfl⟩ := List.mem_map.1 hb
  exact letK_let (by omega) (by omega)
theorem made_size {e kd : Int} {xs : List Int} {most : Int} (h0 : 0 ≤ most) : ((madeS e kd xs most).size : Int) ≤ most := by
  have h2 := Int.emod_nonneg e (b := most + 1) (by omega)
  have h3 := Int.emod_lt_of_pos e (b := most + 1) (by omega)
  rw [madeS, mkB_size, List.length_map, List.length_take]
  omega
theorem made_ok {e kd : Int} {xs : List Int} {most : Int} (h : 0 ≤ kd) (h0 : 0 ≤ most) (h1 : most ≤ 12) : rimE (madeS e kd xs most) = 0 := rimE_good (by have := made_size (e := e) (kd := kd) (xs := xs) h0; omega) (made_lets h)
theorem shl_one {n : Nat} (h : n ≤ 13) : IntKind.i64.wrap (1 * 2 ^ min ((n : Int)).toNat (IntKind.i64).bits) = 2 ^ n := by
  have : ∀ n < 14, IntKind.i64.wrap (1 * 2 ^ min (((n : Nat) : Int)).toNat (IntKind.i64).bits) = 2 ^ n := by decide +kernel
  exact this n (by omega)
theorem pow_bd2 {n : Nat} (h : n ≤ 9) : (2 : Int) ^ n ≤ 512 := by
  have : ∀ n < 10, (2 : Int) ^ n ≤ 512 := by decide
  exact this n (by omega)
theorem ats_end {s : ByteArray} {i : Int} {out : List Int} (h0 : 0 ≤ i) (h1 : i + 1 ≤ s.size ∨ i = 0) (hc : ¬ i + 1 < s.size) (h2 : out = (rng 0 i).filter fun i => fitR s i (i + 1)) : atsL s = out := by
  rw [h2, atsL]
  by_cases h : i = (s.size : Int) - 1
  · rw [h]
  · rw [rng_nil (by omega), rng_nil (by omega)]
theorem less_size (s : ByteArray) {n : Int} (hn : 0 ≤ n) : (lessS s n).size ≤ s.size := by
  rw [lessS]
  split
  · exact Nat.le_refl _
  · next h =>
    obtain ⟨⟨h0, h1⟩, _⟩ := atsL_mem.1 (less_at (s := s) hn h)
    have := cut_size h0 (show ix 0 (atsL s) (n % (atsL s).length) < ix 0 (atsL s) (n % (atsL s).length) + 1 by omega) h1
    omega
end Go.Proofs.YtokdjjebnomciaaDoor

namespace Go.Wk
open Go.RowKit Go.ChangeShapes

section
variable {H : Type} {enc : TypeId × Value → H} {P : Program} {W : World}

theorem inK_of_wf {k : IntKind} {n : Int} (h : (Lit.int k n).wf = true) : InK k n := by
  cases k <;> simp [Lit.wf, IntKind.min, IntKind.max, IntKind.bits, IntKind.signed] at h <;> simp only [InK, lo, hi] <;> omega

theorem cell_lt {a : Addr} {v : Value} (h : W.cell? a = some v) : a.block < W.heap.size := by
  by_cases hb : a.block < W.heap.size
  · exact hb
  · have : W.heap[a.block]? = none := by simp; omega
    simp [World.cell?, this] at h

theorem add_add (a : Addr) (i j : Nat) : (a.add i).add j = a.add (i + j) := by
  obtain ⟨b, o, s⟩ := a
  by_cases hi : i = 0
  · subst hi; simp [Addr.add]
  · by_cases hj : j = 0
    · subst hj; simp [Addr.add]
    · simp [Addr.add, hi, hj, Nat.add_assoc]
/-- What reads as data of type e stands for a y. -/
structure Rds {α : Type} (enc : TypeId × Value → H) (P : Program) (W : World) (t : Ty α) (e : TypeId) : Prop where
  n : P.cellsOf e = t.n
  pos : 0 < t.n
  get : ∀ fuel cs x, DataW.trod enc P W 0 (fun _ => true) true fuel e cs = some x → ∃ y, t.rep [] W y cs

theorem Rds.int {k : IntKind} {e : TypeId} (hu : P.underlying e = some (.int k)) (hc : P.cellsOf e = 1) : Rds enc P W (tI k) e :=
  ⟨hc, Nat.one_pos, fun _ _ _ h => let ⟨n, h1, _, h3⟩ := DataW.trod_int hu h; ⟨n, h1, inK_of_wf h3⟩⟩

theorem list_of {α : Type} {p : Nat → α → Prop} : ∀ n : Nat, (∀ i, i < n → ∃ y, p i y) → ∃ ys : List α, ys.length = n ∧ ∀ i y, ys[i]? = some y → p i y
  | 0, _ => ⟨[], rfl, by simp⟩
  | n + 1, h => by
    obtain ⟨ys, h1, h2⟩ := list_of n (fun i hi => h i (by omega))
    obtain ⟨y, hy⟩ := h n (by omega)
    refine ⟨ys ++ [y], by simp [h1], fun i z hz => ?_⟩
    by_cases hi : i < ys.length
    · rw [List.getElem?_append_left hi] at hz; exact h2 i z hz
    · rw [List.getElem?_append_right (by omega)] at hz
      have : i - ys.length = 0 := by
        rcases Nat.eq_zero_or_pos (i - ys.length) with h | h
        · exact h
        · rw [List.getElem?_eq_none (by simp; omega)] at hz; cases hz
      rw [this] at hz
      simp at hz
      subst hz
      have : i = n := by omega
      rw [this]; exact hy

theorem Rds.sl {α : Type} {t : Ty α} {e s : TypeId} (h : Rds enc P W t e) (hu : P.underlying s = some (.slice e)) (hc : P.cellsOf s = 1) : Rds enc P W (tSl t) s := by
  refine ⟨hc, Nat.one_pos, fun fuel cs x hx => ?_⟩
  rcases Go.Deep.open_slice hu hx with ⟨rfl, _⟩ | ⟨a, len, cap, m, n, D, Pl, rfl, _, hl, hm, hmm, _, hel⟩
  · exact ⟨[], none, 0, rfl, Nat.le_refl _, Nat.zero_le _, fun h => (h rfl).elim⟩
  · obtain ⟨ys, hy1, hy2⟩ := list_of (p := fun i y => ∃ cs', W.cells? 0 (a.add (i * P.cellsOf e)) (P.cellsOf e) = some cs' ∧ t.rep [] W y cs') len (fun i hi => by
      obtain ⟨cs', h1, h2⟩ := hel i (by simp at hmm; omega)
      obtain ⟨y, hy⟩ := h.get _ _ _ h2
      exact ⟨y, cs', h1, hy⟩)
    refine ⟨ys, some a, cap, by rw [hy1], by omega, hm, fun hn => ?_⟩
    have hp : 0 < ys.length := by cases ys with | nil => exact (hn rfl).elim | cons => simp
    have hcell : ∀ i y, ys[i]? = some y → ∃ es, t.rep [] W y es ∧ ∀ j u, es[j]? = some u → W.cell? (a.add (i * t.n + j)) = some u := by
      intro i y hi
      obtain ⟨cs', h1, h2⟩ := hy2 i y hi
      obtain ⟨_, hlen, hc'⟩ := World.cells?_some h1
      refine ⟨cs', h2, fun j u hu' => ?_⟩
      have hj : j < P.cellsOf e := by
        obtain ⟨hlt, _⟩ := List.getElem?_eq_some_iff.1 hu'
        omega
      have := hc' j hj
      rw [hu', h.n, add_add] at this
      exact this
    obtain ⟨y0, hy0⟩ : ∃ y, ys[0]? = some y := ⟨ys[0], List.getElem?_eq_getElem hp⟩
    obtain ⟨es, he, hce⟩ := hcell 0 y0 hy0
    have hel' := t.len he
    obtain ⟨u0, hu0⟩ : ∃ u, es[0]? = some u := ⟨es[0]'(by have := h.pos; omega), List.getElem?_eq_getElem _⟩
    have hc0 := hce 0 u0 hu0
    obtain ⟨b, o, spot⟩ := a
    have hspot : spot = none := by simpa [Addr.add] using World.cell?_spot hc0
    subst hspot
    refine ⟨b, o, rfl, by simp, by simpa [Addr.add] using cell_lt hc0, fun i x hx => ?_⟩
    obtain ⟨es', he', hce'⟩ := hcell i x hx
    exact ⟨es', he', fun j u hu' => by rw [Nat.add_assoc, ← Go.WideShapes.add_plain]; exact hce' j u hu'⟩

/-- A slice's value: an argument, or one field of a struct. -/
theorem Rds.v {α : Type} {t : Ty α} {e : TypeId} {v : Value} {d : DataW H} {p : List MemPlace} (h : Rds enc P W (tSl t) e) (hx : DataW.Trod enc P W 0 (fun _ => true) true e v d p) (hone : v.oneCell' = true) : ∃ y, V (tSl t) y v [] W := by
  obtain ⟨fuel, hf⟩ := hx
  obtain ⟨y, hy⟩ := h.get _ _ _ hf
  rw [cells_one hone] at hy
  obtain ⟨a, cap, h1, h2⟩ := hy
  exact ⟨y, [v], by simp at h1; rw [h1]; rfl, a, cap, h1, h2⟩
theorem Rds.v1 {α : Type} {t : Ty α} {e : TypeId} {v : Value} {fuel : Nat} {x : DataW H × List MemPlace} (h : Rds enc P W (tSl t) e) (hx : DataW.trod enc P W 0 (fun _ => true) true fuel e [v] = some x) : ∃ y, V (tSl t) y v [] W := by
  obtain ⟨y, a, cap, h1, h2⟩ := h.get _ _ _ hx
  exact ⟨y, [v], by simp at h1; rw [h1]; rfl, a, cap, h1, h2⟩
/-- A value of integers of one kind alone, as many as it has cells. -/
def RdI (enc : TypeId × Value → H) (P : Program) (W : World) (k : IntKind) (m : Nat) (e : TypeId) : Prop :=
  ∀ fuel cs x, DataW.trod enc P W 0 (fun _ => true) true fuel e cs = some x → ∃ zs : List Int, zs.length = m ∧ cs = zs.map (Value.int k) ∧ ∀ z ∈ zs, InK k z
theorem RdI.int {k : IntKind} {e : TypeId} (hu : P.underlying e = some (.int k)) : RdI enc P W k 1 e := by
  intro fuel cs x h
  obtain ⟨n, rfl, _, h3⟩ := DataW.trod_int hu h
  exact ⟨[n], rfl, rfl, by simpa using inK_of_wf h3⟩
theorem RdI.array {k : IntKind} {n : Nat} {e t : TypeId} (hu : P.underlying t = some (.array n e)) (he : P.underlying e = some (.int k)) (hc : P.cellsOf e = 1) (hn : P.cellsOf t = n) : RdI enc P W k n t := by
  intro fuel cs x h
  obtain ⟨xs, m, _, _, hl, hx, hel⟩ := DataW.trod_array hu h
  rw [hc] at hel
  rw [hn] at hl
  have h1 : ∀ i, i < n → ∃ z, cs[i]? = some (.int k z) ∧ InK k z := by
    intro i hi
    have := hel i hi
    cases hxi : xs[i]? with
    | none => rw [List.getElem?_eq_none_iff] at hxi; omega
    | some y =>
      rw [hxi] at this
      obtain ⟨z, hz, _, hw⟩ := DataW.trod_int he this
      refine ⟨z, ?_, inK_of_wf hw⟩
      have h2 := congrArg (fun l : List Value => l[0]?) hz
      simp only [List.getElem?_take, List.getElem?_drop] at h2
      simpa using h2
  obtain ⟨zs, z1, z2⟩ := list_of (p := fun i z => cs[i]? = some (.int k z) ∧ InK k z) n h1
  refine ⟨zs, z1, List.ext_getElem? fun i => ?_, fun z hz => ?_⟩
  · rw [List.getElem?_map]
    by_cases hi : i < n
    · have hzi : zs[i]? = some zs[i] := List.getElem?_eq_getElem (by omega)
      rw [hzi, (z2 i _ hzi).1]; rfl
    · rw [List.getElem?_eq_none (by omega), List.getElem?_eq_none (by omega)]; rfl
  · obtain ⟨i, hi⟩ := List.getElem?_of_mem hz
    exact (z2 i z hi).2
theorem RdI.struct3 {k : IntKind} {t : TypeId} {f0 f1 f2 : Field} {m0 m1 m2 : Nat} (hu : P.underlying t = some (.struct #[f0, f1, f2])) (h0 : RdI enc P W k m0 f0.type) (h1 : RdI enc P W k m1 f1.type) (h2 : RdI enc P W k m2 f2.type)
    (c0 : P.cellsOf f0.type = m0) (c1 : P.cellsOf f1.type = m1) (c2 : P.cellsOf f2.type = m2) (o0 : f0.offset = 0) (o1 : f1.offset = m0) (o2 : f2.offset = m0 + m1) (hC : P.cellsOf t = m0 + m1 + m2) : RdI enc P W k (m0 + m1 + m2) t := by
  intro fuel cs x h
  obtain ⟨y0, y1, y2, n, _, hl, r0, r1, r2⟩ := Go.Deep.trod_struct3 hu h
  rw [c0, o0] at r0
  rw [c1, o1] at r1
  rw [c2, o2] at r2
  rw [hC] at hl
  obtain ⟨z0, l0, e0, i0⟩ := h0 _ _ _ r0
  obtain ⟨z1, l1, e1, i1⟩ := h1 _ _ _ r1
  obtain ⟨z2, l2, e2, i2⟩ := h2 _ _ _ r2
  refine ⟨z0 ++ z1 ++ z2, by simp only [List.length_append, l0, l1, l2], ?_, fun z hz => ?_⟩
  · have h3 : List.take m2 (List.drop (m0 + m1) cs) = List.drop m1 (List.drop m0 cs) := by rw [List.drop_drop]; exact List.take_of_length_le (by simp; omega)
    rw [List.map_append, List.map_append, ← e0, ← e1, ← e2, List.drop_zero, h3, List.append_assoc, List.take_append_drop, List.take_append_drop]
  · rcases List.mem_append.1 hz with hz | hz
    · rcases List.mem_append.1 hz with hz | hz
      · exact i0 z hz
      · exact i1 z hz
    · exact i2 z hz
theorem RdI.v {k : IntKind} {t : TypeId} {m : Nat} {cs : Array Value} {d : DataW H} {p : List MemPlace} (h : RdI enc P W k m t) (hx : DataW.Trod enc P W 0 (fun _ => true) true t (.agg cs) d p) : ∃ zs : List Int, zs.length = m ∧ cs = (zs.map (Value.int k)).toArray ∧ ∀ z ∈ zs, InK k z := by
  obtain ⟨fuel, hf⟩ := hx
  obtain ⟨zs, h1, h2, h3⟩ := h _ _ _ hf
  refine ⟨zs, h1, ?_, h3⟩
  rw [← h2]
  simp [Value.cells]
end
end Go.Wk

namespace Go.Wk
open Go.RowKit Go.ChangeShapes
section
variable {H : Type} {enc : TypeId × Value → H} {P : Program} {W : World}
theorem Rds.i2 {k : IntKind} {e t : TypeId} (hu : P.underlying t = some (.array 2 e)) (he : P.underlying e = some (.int k)) (hc : P.cellsOf e = 1) (hn : P.cellsOf t = 2) : Rds enc P W (tP (tI k) (tI k)) t := by
  refine ⟨hn, Nat.succ_pos _, fun fuel cs x h => ?_⟩
  obtain ⟨zs, hz, rfl, hi⟩ := RdI.array hu he hc hn _ _ _ h
  match zs, hz with
  | [a, b], _ => exact ⟨(a, b), [.int k a], [.int k b], rfl, ⟨rfl, hi a (by simp)⟩, ⟨rfl, hi b (by simp)⟩⟩
end
/-- One string is no smaller than another one. -/
def geqB (s t : ByteArray) : Bool := !(Go.Op.bytesLess s.toList t.toList)
section
variable {P : Program} {σ : Fr} {w : World} {x y : Operand} {ty T T' : TypeId}
theorem rd_geqS {s t : ByteArray} (hx : ev σ x = .string s) (hy : ev σ y = .string t) : Rd P σ (.binOp .geq T x y T') ty w (.bool (geqB s t)) :=
  Rd.of fun w' => by simp [xop, execOp, hx, hy, eqGuard_at_string, binOp, Op.stringOp, geqB]
end
end Go.Wk

namespace Go.Proofs.YtokdjjebnomciaaDoor
open Go.Wk Go.RowKit Go.Lib Go
set_option linter.unusedVariables false

def aS : ByteArray := { data := #[97] }
def AsciiS (s : ByteArray) : Prop := ∀ (j : Nat) (b : UInt8), s.data.toList[j]? = some b → b.toNat < 128
theorem F85 {s : ByteArray} {w : World} (_ : s.size ≤ maxLen) (p_s : (s.size : Int) ≤ 1000) (p_a : AsciiS s) : Calls Tryd.prog 85 #[.string s] w (Ret w fun q _ => q = .string (mkB (toUpperA s.data.toList))) :=
  ret_of_below (Tryd.strings_ToUpper_ascii s w (by omega) p_a)
theorem F86 {s : ByteArray} {w : World} (_ : s.size ≤ maxLen) (p_s : (s.size : Int) ≤ 1000) (p_a : AsciiS s) : Calls Tryd.prog 86 #[.string s] w (Ret w fun q _ => q = .string (mkB (toLowerA s.data.toList))) :=
  ret_of_below (Tryd.strings_ToLower_ascii s w (by omega) p_a)
theorem up_all : ∀ i < 256, isLet ((i : Nat) : Int) = true → (if 97 ≤ i then toUpperA [UInt8.ofNat i] = [swB (UInt8.ofNat i)] else toLowerA [UInt8.ofNat i] = [swB (UInt8.ofNat i)]) ∧ (Go.Op.bytesLess [UInt8.ofNat i] [97] = decide (i < 97)) := by decide +kernel
theorem one_data {s : ByteArray} {i : Int} (h0 : 0 ≤ i) (h1 : i < s.size) : (s.extract i.toNat (i + 1).toNat).data.toList = [byteAt s i] := by rw [mkB_one h0 h1]; rfl
theorem one_ascii {s : ByteArray} {i : Int} (hs : Lets s) (h0 : 0 ≤ i) (h1 : i < s.size) : AsciiS (s.extract i.toNat (i + 1).toNat) := by
  intro j b hb
  rw [one_data h0 h1] at hb
  have hm := List.mem_of_getElem? hb
  rw [List.mem_singleton] at hm
  subst hm
  exact let_lt (hs i h0 h1)
theorem toList_data (s : ByteArray) : s.toList = s.data.toList := by
  exact ByteArray.toList_eq s
theorem one_up {s : ByteArray} {i : Int} (hs : Lets s) (h0 : 0 ≤ i) (h1 : i < s.size) (hg : geqB (s.extract i.toNat (i + 1).toNat) aS = true) : mkB (toUpperA (s.extract i.toNat (i + 1).toNat).data.toList) = mkB [swB (byteAt s i)] := by
  have h := up_all (byteAt s i).toNat (UInt8.toNat_lt _) (hs i h0 h1)
  rw [UInt8.ofNat_toNat] at h
  rw [geqB, toList_data, one_data h0 h1, show aS.toList = [97] from by decide +kernel, h.2] at hg
  rw [one_data h0 h1]
  have h3 : ¬ (byteAt s i).toNat < 97 := by simpa using hg
  rw [if_pos (by omega)] at h
  rw [h.1]
theorem one_low {s : ByteArray} {i : Int} (hs : Lets s) (h0 : 0 ≤ i) (h1 : i < s.size) (hg : geqB (s.extract i.toNat (i + 1).toNat) aS = false) : mkB (toLowerA (s.extract i.toNat (i + 1).toNat).data.toList) = mkB [swB (byteAt s i)] := by
  have h := up_all (byteAt s i).toNat (UInt8.toNat_lt _) (hs i h0 h1)
  rw [UInt8.ofNat_toNat] at h
  rw [geqB, toList_data, one_data h0 h1, show aS.toList = [97] from by decide +kernel, h.2] at hg
  rw [one_data h0 h1]
  have h3 : (byteAt s i).toNat < 97 := by simpa using hg
  rw [if_neg (by omega)] at h
  rw [h.1]
end Go.Proofs.YtokdjjebnomciaaDoor

namespace Go.Proofs.YtokdjjebnomciaaDoor
open Go.Wk Go
set_option linter.unusedVariables false
def p0 : ByteArray := { data := #[97, 65] }
def p1 : ByteArray := { data := #[65, 97] }
def p2 : ByteArray := { data := #[98, 66] }
def p3 : ByteArray := { data := #[66, 98] }
def p4 : ByteArray := { data := #[100, 68] }
def p5 : ByteArray := { data := #[68, 100] }
theorem six_pairs {k : Int} (h0 : 0 ≤ k) (h1 : k < 6) : Lets (ix ByteArray.empty [p0, p1, p2, p3, p4, p5] k) ∧ (ix ByteArray.empty [p0, p1, p2, p3, p4, p5] k).size = 2 ∧ ∃ a b, wd (ix ByteArray.empty [p0, p1, p2, p3, p4, p5] k) = [a, b] ∧ a + b = 0 := by
  have : ∀ q < 6, letsB (ix ByteArray.empty [p0, p1, p2, p3, p4, p5] ((q : Nat) : Int)) = true ∧ (ix ByteArray.empty [p0, p1, p2, p3, p4, p5] ((q : Nat) : Int)).size = 2 ∧ wd (ix ByteArray.empty [p0, p1, p2, p3, p4, p5] ((q : Nat) : Int)) = [numC (tabAt (ix ByteArray.empty [p0, p1, p2, p3, p4, p5] ((q : Nat) : Int)) 0), -numC (tabAt (ix ByteArray.empty [p0, p1, p2, p3, p4, p5] ((q : Nat) : Int)) 0)] := by decide +kernel
  obtain ⟨a, b, c⟩ := this k.toNat (by omega)
  rw [Int.toNat_of_nonneg h0] at a b c
  exact ⟨letsB_iff.1 a, b, _, _, c, by omega⟩
theorem six_one {k : Int} (h0 : 0 ≤ k) (h1 : k < 6) : Lets (sixS.extract k.toNat (k + 1).toNat) ∧ (sixS.extract k.toNat (k + 1).toNat).size = 1 := by
  have : ∀ q < 6, letsB (sixS.extract q (q + 1)) = true ∧ (sixS.extract q (q + 1)).size = 1 := by decide +kernel
  obtain ⟨a, b⟩ := this k.toNat (by omega)
  rw [show (k + 1).toNat = k.toNat + 1 by omega]
  exact ⟨letsB_iff.1 a, b⟩
theorem turned_lets {s : ByteArray} (hs : Lets s) (d : Int) : Lets (s.extract d.toNat s.size ++ s.extract 0 d.toNat) := (hs.extract _ _).app (hs.extract _ _)
theorem full_all {s t : ByteArray} (h : allV s = allV t) (hs : Lets s) (ht : Lets t) (hz : s.size = t.size) (h1 : rimE s = 0) (h2 : rimE t = 0) : fullP s = fullP t := by
  rw [fullP, fullP, rest_empty hs, rest_empty ht, h, hz, h1, h2]
theorem alike_rot {a b : ByteArray} (ha : rimE a = 0) (hb : rimE b = 0) : alikeE a b = 0 ∧ alikeP a b = rotB (coreF (restV a)) (coreF (restV b)) := by
  have e : alikeE a b = 0 := (if_pos ha).trans hb
  exact ⟨e, by rw [alike_eq, alikeR, if_pos e]⟩
theorem turn_max {s : ByteArray} (h : rimE s = 0) : turnE s (max 1 (s.size : Int)) = 1 := (turn_bad h (.inr (by omega))).2
theorem core_v {s : ByteArray} (h : rimE s = 0) : coreV s = coreF (restV s) := if_pos h
theorem most_v {s : ByteArray} (h : rimE s = 0) : mostV s = (allV s).1 := if_pos h
theorem count_v {s : ByteArray} (h : rimE s = 0) : countV s = (allV s).2 := if_pos h
theorem rest_e {s : ByteArray} (h : rimE s = 0) : restE s = restV s := if_pos h
theorem opp_v {s : ByteArray} (h : rimE s = 0) : oppV s = oppS s := if_pos h
theorem restN_size {s : ByteArray} (l : List Int) (h : ∀ n ∈ l, 0 ≤ n) : (restN s l).size ≤ s.size := by
  induction l generalizing s with
  | nil => exact Nat.le_refl _
  | cons n l ih => exact Nat.le_trans (ih fun m hm => h m (List.mem_cons_of_mem _ hm)) (less_size s (h n List.mem_cons_self))
end Go.Proofs.YtokdjjebnomciaaDoor

namespace Go.Proofs.YtokdjjebnomciaaDoor
open Go.Wk Go.RowKit Go.Lib
set_option linter.unusedVariables false
set_option linter.unusedSimpArgs false
theorem mixedHb_ : Tryd.prog.follows .mixedOrders = true := by kernel_rfl

theorem F17 {rim : ByteArray} {w : World} (s_rim : rim.size ≤ maxLen) : Calls Tryd.prog 17 #[.string rim] w (Ret w (fun r _ => r = .int .i64 (rimE rim))) := by
  have hS := St.start0 w
  refine enterR Tryd.func17 rfl Tryd.ntmps17 Tryd.results17 rfl ?_
  refine W.seq ?_
  refine W.reg ?_
  refine Wx.rd (v := .int .i64 0) (rd_assign rfl) rfl ?_
  refine Wx.nil ?_
  refine W.seq ?_
  refine W.seq ?_
  refine W.reg ?_
  refine Wx.rd (v := .string rim) (rd_move rfl) rfl ?_
  refine Wx.rd (v := .int .i64 (rim.size : Int)) (rd_lenS rfl Tryd.underlying9) rfl ?_
  refine Wx.rd (v := .bool (decide (12 < (rim.size : Int)))) (rd_gtr rfl rfl) rfl ?_
  refine Wx.nil ?_
  refine W.condD rfl (fun c0 => ?_) (fun c0 => ?_)
  · -- yes
    refine W.seq ?_
    refine W.reg ?_
    refine Wx.rd (v := .int .i64 3) (rd_assign rfl) rfl ?_
    refine Wx.nil ?_
    have e0_0 : (rimE rim) = (3 : Int) := by rw [rimE, if_pos c0]
    exact W.ret ⟨.int .i64 3, ResIs.one, hS.bel, (by rw [e0_0])⟩
  · -- no
    refine W.skip ?_
    refine W.seq ?_
    refine W.seq ?_
    refine W.reg ?_
    refine Wx.rd (v := .string rim) (rd_move rfl) rfl ?_
    refine Wx.rangeS (s := rim) hS rfl Tryd.underlying9 rfl (fun g_1 w_2 hx_3 hS => ?_)
    refine Wx.nil ?_
    refine W.block ?_
    refine W.loop [2, 4, 10, 11, 12, 13, 14, 15] (fun (p : Nat) => []) (fun (p : Nat) w' => St w [] w' [.raw g_1 (.stringIter rim p)] ∧ p ≤ rim.size ∧ (∀ q : Int, 0 ≤ q → q < p → isLet (tabAt rim q) = true)) (fun (p : Nat) => rim.size - p) 0 trivial ⟨hS, (Nat.zero_le _), (fun q q0 q1 => by omega)⟩ ?_
    rintro p u_5 w_4 ⟨hS, h1, h2⟩
    refine W.seq ?_
    refine W.reg ?_
    refine Wx.nextS hS 0 rfl rfl rfl (fun hn w_6 hz_7 hS => ?_) (fun hn => ?_)
    · -- a rune
      have hS : St _ _ w_6 [.raw g_1 (.stringIter rim (p + (runeW rim (p : Int)).toNat))] := hS
      have hrb := runeAt_bd rim (p : Int)
      refine Wx.rd (v := .bool true) (rd_extract rfl rfl) rfl ?_
      refine Wx.nil ?_
      refine W.seq ?_
      refine W.condT rfl rfl ?_
      refine W.skip ?_
      refine W.block ?_
      refine W.seq ?_
      refine W.reg ?_
      refine Wx.rd (v := .int .i32 (runeAt rim (p : Int))) (rd_extract rfl rfl) rfl ?_
      refine Wx.rd (v := .int .i32 (runeAt rim (p : Int))) (rd_assign rfl) rfl ?_
      refine Wx.nil ?_
      refine W.seq ?_
      refine W.reg ?_
      refine Wx.rd (v := .int .i32 (runeAt rim (p : Int))) (rd_move rfl) rfl ?_
      refine Wx.callF (run_callF Tryd.call59 rfl) (F59 (by first | assumption | (simp only [maxLen]; omega) | (simp only [ByteArray.size_extract, ByteArray.size_append, maxLen] at *; omega) | decide) (in_i32 (by omega) (by omega)) letS_asc (by decide) (by omega)) rfl ?_
      rintro r_9 w_10 hx_11 rfl
      have hS := hS.ext hx_11
      refine Wx.rd (v := .bool (!(hasRune letS (runeAt rim (p : Int))))) (rd_not rfl) rfl ?_
      refine Wx.nil ?_
      refine W.cond rfl (fun c2 => ?_) (fun c2 => ?_)
      · -- yes
        try simp only [Bool.and_eq_true, Bool.or_eq_true, Bool.not_eq_true', Bool.and_eq_false_iff, Bool.or_eq_false_iff, Bool.not_eq_false', decide_eq_true_eq, decide_eq_false_iff_not, not_or, Bool.false_eq_true, Bool.true_eq_false, false_or, or_false, not_false_eq_true] at c2
        have hnl := rune_not (s := rim) (p := (p : Int)) (by omega) c2
        refine W.seq ?_
        refine W.reg ?_
        refine Wx.rd (v := .int .i64 10) (rd_assign rfl) rfl ?_
        refine Wx.nil ?_
        have e1_0 : (rimE rim) = (10 : Int) := by exact rimE_bad (by omega) (by omega) hn hnl
        exact W.ret ⟨.int .i64 10, ResIs.one, hS.bel, (by rw [e1_0])⟩
      · -- no
        try simp only [Bool.and_eq_true, Bool.or_eq_true, Bool.not_eq_true', Bool.and_eq_false_iff, Bool.or_eq_false_iff, Bool.not_eq_false', decide_eq_true_eq, decide_eq_false_iff_not, not_or, Bool.false_eq_true, Bool.true_eq_false, false_or, or_false, not_false_eq_true] at c2
        have hle := rune_let (s := rim) (p := (p : Int)) (by omega) c2
        refine W.skip ?_
        refine ⟨p + (runeW rim (p : Int)).toNat, (by show rim.size - (p + (runeW rim (p : Int)).toNat) < rim.size - p; omega), ?_, ?_, Out.look rfl Out.self⟩
        · exact ⟨hS, (by omega), (fun q q0 q1 => by by_cases hq : q = (p : Int); (subst hq; exact hle.2); exact h2 q q0 (by omega))⟩
        · exact trivial
    · -- the end
      refine Wx.rd (v := .bool false) (rd_extract rfl rfl) rfl ?_
      refine Wx.nil ?_
      refine W.seq ?_
      refine W.condF rfl rfl ?_
      refine W.exit rfl ?_
      refine W.seq ?_
      refine W.reg ?_
      refine Wx.rd (v := .int .i64 0) (rd_assign rfl) rfl ?_
      refine Wx.nil ?_
      have e2_0 : (rimE rim) = (0 : Int) := by exact rimE_good (by omega) (fun q q0 q1 => h2 q q0 (by omega))
      exact W.ret ⟨.int .i64 0, ResIs.one, hS.bel, (by rw [e2_0])⟩

theorem F63 {lv : Value} {l : List (Int × Int)} {Fr_lv : List (Option Nat)} {i : Int} {w : World} (h_lv : V (tSl (tP (tI .i64) (tI .i64))) l lv Fr_lv w) (i_i : InK .i64 i) : Calls Tryd.prog 63 #[lv, .int .i64 i] w (Ret w (fun r _ => r = .bool (usedB l i))) := by
  have b_i := bd_i64 i_i
  have a_lv := h_lv.any
  have l_lv := h_lv.len63
  have hS := St.start0 w
  refine enterR Tryd.func63 rfl Tryd.ntmps63 Tryd.results63 rfl ?_
  refine W.seq ?_
  refine W.reg ?_
  refine Wx.rd (v := .bool false) (rd_assign rfl) rfl ?_
  refine Wx.nil ?_
  refine W.seq ?_
  refine W.seq ?_
  refine W.reg ?_
  refine Wx.rd (v := .int .i64 0) (rd_assign rfl) rfl ?_
  refine Wx.nil ?_
  refine W.block ?_
  refine W.loop [4, 5, 6, 7, 8, 9, 10, 11, 12, 13, 14, 15, 16, 17, 18, 19, 20, 21, 22, 23, 24, 25, 26, 27] (fun (k : Int) => [(5, .int .i64 k)]) (fun (k : Int) w' => St w [] w' [] ∧ 0 ≤ k ∧ k ≤ l.length ∧ usedB (l.drop k.toNat) i = usedB l i) (fun (k : Int) => (l.length - k).toNat) 0 ⟨rfl, trivial⟩ ⟨hS, (by first | omega | simp), (by first | omega | simp), (by simp)⟩ ?_
  rintro k u_2 w_1 ⟨hS, h0, h1, h2⟩
  refine W.seq ?_
  refine W.seq ?_
  refine W.reg ?_
  refine Wx.rd (v := .int .i64 k) (rd_move rfl) rfl ?_
  refine Wx.rd (v := lv) (rd_move rfl) rfl ?_
  refine Wx.rd (v := .int .i64 (l.length : Int)) (rd_lenV rfl (hS.arg a_lv) Tryd.underlying22) rfl ?_
  refine Wx.rd (v := .bool (decide (k < (l.length : Int)))) (rd_lss rfl rfl) rfl ?_
  refine Wx.nil ?_
  refine W.condD rfl (fun c0 => ?_) (fun c0 => ?_)
  · -- yes
    refine W.skip ?_
    refine W.seq ?_
    refine W.block ?_
    refine W.seq ?_
    refine W.reg ?_
    refine Wx.rd (v := lv) (rd_move rfl) rfl ?_
    refine Wx.rd (v := .int .i64 k) (rd_move rfl) rfl ?_
    refine Wx.ex (rd_index (0, 0) (hS.arg a_lv) rfl rfl Tryd.underlying22 Tryd.sizeOf58 (by first | omega | (simp only [List.length_set, List.length_append, List.length_cons, List.length_nil, List.length_replicate]; omega)) (by first | omega | (simp only [List.length_set, List.length_append, List.length_cons, List.length_nil, List.length_replicate]; omega))) rfl (fun p_3 hp_4 => ?_)
    refine Wx.ex (rd_indexE1 hp_4 rfl rfl Tryd.underlying58 (by decide) Tryd.sizeOf3) rfl (fun p_5 hp_6 => ?_)
    refine Wx.rd (v := .int .i64 ((ix (0, 0) l k).1)) (rd_loadI hp_6 rfl Tryd.isAgg3 Tryd.sizeOf3) rfl ?_
    have bd_7 := bd_i64 hp_6.inK
    refine Wx.rd (v := .int .i64 i) (rd_move rfl) rfl ?_
    refine Wx.rd (v := .bool (decide (((ix (0, 0) l k).1) = i))) (rd_eql rfl rfl) rfl ?_
    refine Wx.rd (v := .bool (decide (((ix (0, 0) l k).1) = i))) (rd_move rfl) rfl ?_
    refine Wx.cut (X := Unit) 8 [20, 21, 22, 23, 24, 25, 26, 27] (fun _ => [(27, .bool (decide (((ix (0, 0) l k).1) = i) || decide (((ix (0, 0) l k).2) = i)))]) (fun _ w' => St w [] w' []) ?_ ?_
    · rcases Bool.eq_false_or_eq_true (decide (((ix (0, 0) l k).1) = i)) with g_8 | g_8
      · -- True
        have gp_9 := of_decide_eq_true g_8
        refine Wx.gnoB rfl rfl (congrArg Value.bool g_8) rfl rfl ?_
        refine Wx.gnoB rfl rfl (congrArg Value.bool g_8) rfl rfl ?_
        refine Wx.gnoB rfl rfl (congrArg Value.bool g_8) rfl rfl ?_
        refine Wx.gnoB rfl rfl (congrArg Value.bool g_8) rfl rfl ?_
        refine Wx.gnoB rfl rfl (congrArg Value.bool g_8) rfl rfl ?_
        refine Wx.gnoB rfl rfl (congrArg Value.bool g_8) rfl rfl ?_
        refine Wx.gnoB rfl rfl (congrArg Value.bool g_8) rfl rfl ?_
        refine Wx.rd (v := .bool true) (rd_pickT (congrArg Value.bool g_8) rfl) rfl ?_
        refine Wx.nil ⟨(), hS, ⟨?_, trivial⟩, Out.look rfl Out.refl⟩
        show Value.bool true = Value.bool (decide (((ix (0, 0) l k).1) = i) || decide (((ix (0, 0) l k).2) = i))
        rw [g_8]; rfl
      · -- False
        have gp_10 := of_decide_eq_false g_8
        refine Wx.gyes rfl rfl (congrArg Value.bool g_8) ?_
        refine Wx.rd (v := lv) (rd_move rfl) rfl ?_
        refine Wx.gyes rfl rfl (congrArg Value.bool g_8) ?_
        refine Wx.rd (v := .int .i64 k) (rd_move rfl) rfl ?_
        refine Wx.gyes rfl rfl (congrArg Value.bool g_8) ?_
        refine Wx.ex (rd_index (0, 0) (hS.arg a_lv) rfl rfl Tryd.underlying22 Tryd.sizeOf58 (by first | omega | (simp only [List.length_set, List.length_append, List.length_cons, List.length_nil, List.length_replicate]; omega)) (by first | omega | (simp only [List.length_set, List.length_append, List.length_cons, List.length_nil, List.length_replicate]; omega))) rfl (fun p_11 hp_12 => ?_)
        refine Wx.gyes rfl rfl (congrArg Value.bool g_8) ?_
        refine Wx.ex (rd_indexE2 hp_12 rfl rfl Tryd.underlying58 (by decide) Tryd.sizeOf3) rfl (fun p_13 hp_14 => ?_)
        refine Wx.gyes rfl rfl (congrArg Value.bool g_8) ?_
        refine Wx.rd (v := .int .i64 ((ix (0, 0) l k).2)) (rd_loadI hp_14 rfl Tryd.isAgg3 Tryd.sizeOf3) rfl ?_
        have bd_15 := bd_i64 hp_14.inK
        refine Wx.gyes rfl rfl (congrArg Value.bool g_8) ?_
        refine Wx.rd (v := .int .i64 i) (rd_move rfl) rfl ?_
        refine Wx.gyes rfl rfl (congrArg Value.bool g_8) ?_
        refine Wx.rd (v := .bool (decide (((ix (0, 0) l k).2) = i))) (rd_eql rfl rfl) rfl ?_
        refine Wx.rd (v := .bool (decide (((ix (0, 0) l k).2) = i))) (rd_pickF (congrArg Value.bool g_8) rfl) rfl ?_
        refine Wx.nil ⟨(), hS, ⟨?_, trivial⟩, Out.look rfl Out.refl⟩
        show Value.bool (decide (((ix (0, 0) l k).2) = i)) = Value.bool (decide (((ix (0, 0) l k).1) = i) || decide (((ix (0, 0) l k).2) = i))
        rw [g_8]; rfl
    rintro ⟨⟩ u_17 w_16 hS
    refine Wx.nil ?_
    refine W.cond rfl (fun c1 => ?_) (fun c1 => ?_)
    · -- yes
      try simp only [Bool.and_eq_true, Bool.or_eq_true, Bool.not_eq_true', Bool.and_eq_false_iff, Bool.or_eq_false_iff, Bool.not_eq_false', decide_eq_true_eq, decide_eq_false_iff_not, not_or, Bool.false_eq_true, Bool.true_eq_false, false_or, or_false, not_false_eq_true] at c1
      refine W.seq ?_
      refine W.reg ?_
      refine Wx.rd (v := .bool true) (rd_assign rfl) rfl ?_
      refine Wx.nil ?_
      have e0_0 : (usedB l i) = true := by exact usedB_yes h0 c0 h2 c1
      exact W.ret ⟨.bool true, ResIs.one, hS.bel, (by rw [e0_0])⟩
    · -- no
      try simp only [Bool.and_eq_true, Bool.or_eq_true, Bool.not_eq_true', Bool.and_eq_false_iff, Bool.or_eq_false_iff, Bool.not_eq_false', decide_eq_true_eq, decide_eq_false_iff_not, not_or, Bool.false_eq_true, Bool.true_eq_false, false_or, or_false, not_false_eq_true] at c1
      refine W.skip ?_
      refine W.reg ?_
      refine Wx.rd (v := .int .i64 k) (rd_move rfl) rfl ?_
      refine Wx.rd (v := .int .i64 (k + 1)) (rd_add rfl rfl (in_i64 (by omega) (by omega))) rfl ?_
      refine Wx.rd (v := .int .i64 (k + 1)) (rd_assign rfl) rfl ?_
      refine Wx.nil ?_
      refine ⟨k + 1, (by show (l.length - (k + 1)).toNat < (l.length - k).toNat; omega), ?_, ?_, Out.look rfl (Out.hav rfl (Out.look rfl Out.self))⟩
      · exact ⟨hS, (by first | omega | assumption), (by first | omega | assumption), (usedB_no h0 c0 h2 c1)⟩
      · exact ⟨rfl, trivial⟩
  · -- no
    refine W.exit rfl ?_
    refine W.seq ?_
    refine W.reg ?_
    refine Wx.rd (v := .bool false) (rd_assign rfl) rfl ?_
    refine Wx.nil ?_
    have e1_0 : (usedB l i) = false := by exact usedB_end (by omega) h2
    exact W.ret ⟨.bool false, ResIs.one, hS.bel, (by rw [e1_0])⟩

theorem F65 {lv : Value} {l : List (Int × Int)} {Fr_lv : List (Option Nat)} {a : Int} {b : Int} {w : World} (h_lv : V (tSl (tP (tI .i64) (tI .i64))) l lv Fr_lv w) (i_a : InK .i64 a) (i_b : InK .i64 b) : Calls Tryd.prog 65 #[lv, .agg #[.int .i64 a, .int .i64 b]] w (Ret w (fun r _ => r = .bool (crossesB l (a, b)))) := by
  have b_b := bd_i64 i_b
  have b_a := bd_i64 i_a
  have a_lv := h_lv.any
  have l_lv := h_lv.len63
  have hS := St.start0 w
  refine enterR Tryd.func65 rfl Tryd.ntmps65 Tryd.results65 rfl ?_
  refine W.seq ?_
  refine W.reg ?_
  refine Wx.box (cs := [.int .i64 a, .int .i64 b]) hS rfl rfl rfl (fun g_1 w_2 hx_4 hb_3 hS => ?_)
  refine Wx.rd (v := .bool false) (rd_assign rfl) rfl ?_
  refine Wx.nil ?_
  refine W.seq ?_
  refine W.seq ?_
  refine W.reg ?_
  refine Wx.rd (v := .int .i64 0) (rd_assign rfl) rfl ?_
  refine Wx.nil ?_
  refine W.block ?_
  refine W.loop [4, 5, 6, 7, 8, 9, 10, 11, 12, 13, 14, 15, 16, 17, 18, 19, 20, 21, 22, 23, 24, 25, 26, 27, 28, 29, 30, 31, 32, 33, 34, 35, 36, 37, 38, 39, 40, 41, 42, 43, 44, 45, 46, 47, 48, 49, 50, 51, 52, 53, 54, 55, 56] (fun (k : Int) => [(5, .int .i64 k)]) (fun (k : Int) w' => St w [] w' [.box g_1 58 [.int .i64 a, .int .i64 b]] ∧ 0 ≤ k ∧ k ≤ l.length ∧ crossesB (l.drop k.toNat) (a, b) = crossesB l (a, b)) (fun (k : Int) => (l.length - k).toNat) 0 ⟨rfl, trivial⟩ ⟨hS, (by first | omega | simp), (by first | omega | simp), (by simp)⟩ ?_
  rintro k u_6 w_5 ⟨hS, h0, h1, h2⟩
  refine W.seq ?_
  refine W.seq ?_
  refine W.reg ?_
  refine Wx.rd (v := .int .i64 k) (rd_move rfl) rfl ?_
  refine Wx.rd (v := lv) (rd_move rfl) rfl ?_
  refine Wx.rd (v := .int .i64 (l.length : Int)) (rd_lenV rfl (hS.arg a_lv) Tryd.underlying22) rfl ?_
  refine Wx.rd (v := .bool (decide (k < (l.length : Int)))) (rd_lss rfl rfl) rfl ?_
  refine Wx.nil ?_
  refine W.condD rfl (fun c0 => ?_) (fun c0 => ?_)
  · -- yes
    refine W.skip ?_
    refine W.seq ?_
    refine W.block ?_
    refine W.seq ?_
    refine W.reg ?_
    refine Wx.rd (v := lv) (rd_move rfl) rfl ?_
    refine Wx.rd (v := .int .i64 k) (rd_move rfl) rfl ?_
    refine Wx.ex (rd_index (0, 0) (hS.arg a_lv) rfl rfl Tryd.underlying22 Tryd.sizeOf58 (by first | omega | (simp only [List.length_set, List.length_append, List.length_cons, List.length_nil, List.length_replicate]; omega)) (by first | omega | (simp only [List.length_set, List.length_append, List.length_cons, List.length_nil, List.length_replicate]; omega))) rfl (fun p_7 hp_8 => ?_)
    refine Wx.ex (rd_load hp_8 rfl Tryd.isAgg58 Tryd.sizeOf58) rfl (fun v_9 hv_10 => ?_)
    obtain ⟨rfl, bd_11, bd_12⟩ := hv_10.i2
    have bd_11 := bd_i64 bd_11
    have bd_12 := bd_i64 bd_12
    refine Wx.alloc (cs := [.int .i64 0, .int .i64 0]) hS Tryd.zeroValue58 rfl rfl (fun g_13 w_14 hx_16 hb_15 hS => ?_)
    refine Wx.storeX (cs' := [.int .i64 ((ix (0, 0) l k).1), .int .i64 ((ix (0, 0) l k).2)]) (ds := [.int .i64 ((ix (0, 0) l k).1), .int .i64 ((ix (0, 0) l k).2)]) hS 0 rfl rfl rfl rfl Tryd.sizeOf58 (Nat.le_of_ble_eq_true rfl) (one_cons rfl (one_cons rfl one_nil)) rfl (fun w_17 hz_18 hS => ?_)
    refine Wx.nil ?_
    refine W.seq ?_
    refine W.reg ?_
    refine Wx.rd (v := .pointer (some ⟨g_1, 0, none⟩)) (rd_indexArr (n := 0) rfl rfl Tryd.underlying58 Tryd.sizeOf3 (by decide) (by decide)) rfl ?_
    refine Wx.rd (v := .int .i64 a) (rd_loadX hS 1 rfl rfl rfl Tryd.isAgg3) rfl ?_
    refine Wx.rd (v := .pointer (some ⟨g_13, 0, none⟩)) (rd_indexArr (n := 0) rfl rfl Tryd.underlying58 Tryd.sizeOf3 (by decide) (by decide)) rfl ?_
    refine Wx.rd (v := .int .i64 ((ix (0, 0) l k).1)) (rd_loadX hS 0 rfl rfl rfl Tryd.isAgg3) rfl ?_
    refine Wx.rd (v := .bool (decide (a < ((ix (0, 0) l k).1)))) (rd_lss rfl rfl) rfl ?_
    refine Wx.rd (v := .bool (decide (a < ((ix (0, 0) l k).1)))) (rd_move rfl) rfl ?_
    refine Wx.cut (X := Unit) 6 [23, 24, 25, 26, 27, 28] (fun _ => [(28, .bool (decide (a < ((ix (0, 0) l k).1)) && decide (((ix (0, 0) l k).1) < b)))]) (fun _ w' => St w [] w' [.box g_13 58 [.int .i64 ((ix (0, 0) l k).1), .int .i64 ((ix (0, 0) l k).2)], .box g_1 58 [.int .i64 a, .int .i64 b]]) ?_ ?_
    · rcases Bool.eq_false_or_eq_true (decide (a < ((ix (0, 0) l k).1))) with g_19 | g_19
      · -- True
        have gp_20 := of_decide_eq_true g_19
        refine Wx.gyes rfl rfl (congrArg Value.bool g_19) ?_
        refine Wx.rd (v := .pointer (some ⟨g_13, 0, none⟩)) (rd_indexArr (n := 0) rfl rfl Tryd.underlying58 Tryd.sizeOf3 (by decide) (by decide)) rfl ?_
        refine Wx.gyes rfl rfl (congrArg Value.bool g_19) ?_
        refine Wx.rd (v := .int .i64 ((ix (0, 0) l k).1)) (rd_loadX hS 0 rfl rfl rfl Tryd.isAgg3) rfl ?_
        refine Wx.gyes rfl rfl (congrArg Value.bool g_19) ?_
        refine Wx.rd (v := .pointer (some ⟨g_1, 1, none⟩)) (rd_indexArr (n := 1) rfl rfl Tryd.underlying58 Tryd.sizeOf3 (by decide) (by decide)) rfl ?_
        refine Wx.gyes rfl rfl (congrArg Value.bool g_19) ?_
        refine Wx.rd (v := .int .i64 b) (rd_loadX hS 1 rfl rfl rfl Tryd.isAgg3) rfl ?_
        refine Wx.gyes rfl rfl (congrArg Value.bool g_19) ?_
        refine Wx.rd (v := .bool (decide (((ix (0, 0) l k).1) < b))) (rd_lss rfl rfl) rfl ?_
        refine Wx.rd (v := .bool (decide (((ix (0, 0) l k).1) < b))) (rd_pickT (congrArg Value.bool g_19) rfl) rfl ?_
        refine Wx.nil ⟨(), hS, ⟨?_, trivial⟩, Out.look rfl Out.refl⟩
        show Value.bool (decide (((ix (0, 0) l k).1) < b)) = Value.bool (decide (a < ((ix (0, 0) l k).1)) && decide (((ix (0, 0) l k).1) < b))
        rw [g_19]; rfl
      · -- False
        have gp_21 := of_decide_eq_false g_19
        refine Wx.gnoB rfl rfl (congrArg Value.bool g_19) rfl rfl ?_
        refine Wx.gnoB rfl rfl (congrArg Value.bool g_19) rfl rfl ?_
        refine Wx.gnoB rfl rfl (congrArg Value.bool g_19) rfl rfl ?_
        refine Wx.gnoB rfl rfl (congrArg Value.bool g_19) rfl rfl ?_
        refine Wx.gnoB rfl rfl (congrArg Value.bool g_19) rfl rfl ?_
        refine Wx.rd (v := .bool false) (rd_pickF (congrArg Value.bool g_19) rfl) rfl ?_
        refine Wx.nil ⟨(), hS, ⟨?_, trivial⟩, Out.look rfl Out.refl⟩
        show Value.bool false = Value.bool (decide (a < ((ix (0, 0) l k).1)) && decide (((ix (0, 0) l k).1) < b))
        rw [g_19]; rfl
    rintro ⟨⟩ u_23 w_22 hS
    refine Wx.rd (v := .bool (decide (a < ((ix (0, 0) l k).1)) && decide (((ix (0, 0) l k).1) < b))) (rd_move rfl) rfl ?_
    refine Wx.cut (X := Unit) 6 [30, 31, 32, 33, 34, 35] (fun _ => [(35, .bool ((decide (a < ((ix (0, 0) l k).1)) && decide (((ix (0, 0) l k).1) < b)) && decide (b < ((ix (0, 0) l k).2))))]) (fun _ w' => St w [] w' [.box g_13 58 [.int .i64 ((ix (0, 0) l k).1), .int .i64 ((ix (0, 0) l k).2)], .box g_1 58 [.int .i64 a, .int .i64 b]]) ?_ ?_
    · rcases Bool.eq_false_or_eq_true (decide (a < ((ix (0, 0) l k).1)) && decide (((ix (0, 0) l k).1) < b)) with g_24 | g_24
      · -- True
        have gp_25 := g_24
        try simp only [Bool.and_eq_true, Bool.or_eq_true, Bool.not_eq_true', Bool.and_eq_false_iff, Bool.or_eq_false_iff, Bool.not_eq_false', decide_eq_true_eq, decide_eq_false_iff_not, not_or, Bool.false_eq_true, Bool.true_eq_false, false_or, or_false, not_false_eq_true] at gp_25
        refine Wx.gyes rfl rfl (congrArg Value.bool g_24) ?_
        refine Wx.rd (v := .pointer (some ⟨g_1, 1, none⟩)) (rd_indexArr (n := 1) rfl rfl Tryd.underlying58 Tryd.sizeOf3 (by decide) (by decide)) rfl ?_
        refine Wx.gyes rfl rfl (congrArg Value.bool g_24) ?_
        refine Wx.rd (v := .int .i64 b) (rd_loadX hS 1 rfl rfl rfl Tryd.isAgg3) rfl ?_
        refine Wx.gyes rfl rfl (congrArg Value.bool g_24) ?_
        refine Wx.rd (v := .pointer (some ⟨g_13, 1, none⟩)) (rd_indexArr (n := 1) rfl rfl Tryd.underlying58 Tryd.sizeOf3 (by decide) (by decide)) rfl ?_
        refine Wx.gyes rfl rfl (congrArg Value.bool g_24) ?_
        refine Wx.rd (v := .int .i64 ((ix (0, 0) l k).2)) (rd_loadX hS 0 rfl rfl rfl Tryd.isAgg3) rfl ?_
        refine Wx.gyes rfl rfl (congrArg Value.bool g_24) ?_
        refine Wx.rd (v := .bool (decide (b < ((ix (0, 0) l k).2)))) (rd_lss rfl rfl) rfl ?_
        refine Wx.rd (v := .bool (decide (b < ((ix (0, 0) l k).2)))) (rd_pickT (congrArg Value.bool g_24) rfl) rfl ?_
        refine Wx.nil ⟨(), hS, ⟨?_, trivial⟩, Out.look rfl Out.refl⟩
        show Value.bool (decide (b < ((ix (0, 0) l k).2))) = Value.bool ((decide (a < ((ix (0, 0) l k).1)) && decide (((ix (0, 0) l k).1) < b)) && decide (b < ((ix (0, 0) l k).2)))
        rw [g_24]; rfl
      · -- False
        have gp_26 := g_24
        try simp only [Bool.and_eq_true, Bool.or_eq_true, Bool.not_eq_true', Bool.and_eq_false_iff, Bool.or_eq_false_iff, Bool.not_eq_false', decide_eq_true_eq, decide_eq_false_iff_not, not_or, Bool.false_eq_true, Bool.true_eq_false, false_or, or_false, not_false_eq_true] at gp_26
        refine Wx.gnoB rfl rfl (congrArg Value.bool g_24) rfl rfl ?_
        refine Wx.gnoB rfl rfl (congrArg Value.bool g_24) rfl rfl ?_
        refine Wx.gnoB rfl rfl (congrArg Value.bool g_24) rfl rfl ?_
        refine Wx.gnoB rfl rfl (congrArg Value.bool g_24) rfl rfl ?_
        refine Wx.gnoB rfl rfl (congrArg Value.bool g_24) rfl rfl ?_
        refine Wx.rd (v := .bool false) (rd_pickF (congrArg Value.bool g_24) rfl) rfl ?_
        refine Wx.nil ⟨(), hS, ⟨?_, trivial⟩, Out.look rfl Out.refl⟩
        show Value.bool false = Value.bool ((decide (a < ((ix (0, 0) l k).1)) && decide (((ix (0, 0) l k).1) < b)) && decide (b < ((ix (0, 0) l k).2)))
        rw [g_24]; rfl
    rintro ⟨⟩ u_28 w_27 hS
    refine Wx.rd (v := .bool ((decide (a < ((ix (0, 0) l k).1)) && decide (((ix (0, 0) l k).1) < b)) && decide (b < ((ix (0, 0) l k).2)))) (rd_move rfl) rfl ?_
    refine Wx.cut (X := Unit) 20 [37, 38, 39, 40, 41, 42, 43, 44, 45, 46, 47, 48, 49, 50, 51, 52, 53, 54, 55, 56] (fun _ => [(56, .bool (((decide (a < ((ix (0, 0) l k).1)) && decide (((ix (0, 0) l k).1) < b)) && decide (b < ((ix (0, 0) l k).2))) || ((decide (((ix (0, 0) l k).1) < a) && decide (a < ((ix (0, 0) l k).2))) && decide (((ix (0, 0) l k).2) < b))))]) (fun _ w' => St w [] w' [.box g_13 58 [.int .i64 ((ix (0, 0) l k).1), .int .i64 ((ix (0, 0) l k).2)], .box g_1 58 [.int .i64 a, .int .i64 b]]) ?_ ?_
    · rcases Bool.eq_false_or_eq_true ((decide (a < ((ix (0, 0) l k).1)) && decide (((ix (0, 0) l k).1) < b)) && decide (b < ((ix (0, 0) l k).2))) with g_29 | g_29
      · -- True
        have gp_30 := g_29
        try simp only [Bool.and_eq_true, Bool.or_eq_true, Bool.not_eq_true', Bool.and_eq_false_iff, Bool.or_eq_false_iff, Bool.not_eq_false', decide_eq_true_eq, decide_eq_false_iff_not, not_or, Bool.false_eq_true, Bool.true_eq_false, false_or, or_false, not_false_eq_true] at gp_30
        refine Wx.gnoB rfl rfl (congrArg Value.bool g_29) rfl rfl ?_
        refine Wx.gnoB rfl rfl (congrArg Value.bool g_29) rfl rfl ?_
        refine Wx.gnoB rfl rfl (congrArg Value.bool g_29) rfl rfl ?_
        refine Wx.gnoB rfl rfl (congrArg Value.bool g_29) rfl rfl ?_
        refine Wx.gnoB rfl rfl (congrArg Value.bool g_29) rfl rfl ?_
        refine Wx.gnoB rfl rfl (congrArg Value.bool g_29) rfl rfl ?_
        refine Wx.gno rfl rfl rfl rfl ?_
        refine Wx.gno rfl rfl rfl rfl ?_
        refine Wx.gno rfl rfl rfl rfl ?_
        refine Wx.gno rfl rfl rfl rfl ?_
        refine Wx.gno rfl rfl rfl rfl ?_
        refine Wx.gnoB rfl rfl (congrArg Value.bool g_29) rfl rfl ?_
        refine Wx.gnoB rfl rfl (congrArg Value.bool g_29) rfl rfl ?_
        refine Wx.gno rfl rfl rfl rfl ?_
        refine Wx.gno rfl rfl rfl rfl ?_
        refine Wx.gno rfl rfl rfl rfl ?_
        refine Wx.gno rfl rfl rfl rfl ?_
        refine Wx.gno rfl rfl rfl rfl ?_
        refine Wx.gnoB rfl rfl (congrArg Value.bool g_29) rfl rfl ?_
        refine Wx.rd (v := .bool true) (rd_pickT (congrArg Value.bool g_29) rfl) rfl ?_
        refine Wx.nil ⟨(), hS, ⟨?_, trivial⟩, Out.look rfl Out.refl⟩
        show Value.bool true = Value.bool (((decide (a < ((ix (0, 0) l k).1)) && decide (((ix (0, 0) l k).1) < b)) && decide (b < ((ix (0, 0) l k).2))) || ((decide (((ix (0, 0) l k).1) < a) && decide (a < ((ix (0, 0) l k).2))) && decide (((ix (0, 0) l k).2) < b)))
        rw [g_29]; rfl
      · -- False
        have gp_31 := g_29
        try simp only [Bool.and_eq_true, Bool.or_eq_true, Bool.not_eq_true', Bool.and_eq_false_iff, Bool.or_eq_false_iff, Bool.not_eq_false', decide_eq_true_eq, decide_eq_false_iff_not, not_or, Bool.false_eq_true, Bool.true_eq_false, false_or, or_false, not_false_eq_true] at gp_31
        refine Wx.gyes rfl rfl (congrArg Value.bool g_29) ?_
        refine Wx.rd (v := .pointer (some ⟨g_13, 0, none⟩)) (rd_indexArr (n := 0) rfl rfl Tryd.underlying58 Tryd.sizeOf3 (by decide) (by decide)) rfl ?_
        refine Wx.gyes rfl rfl (congrArg Value.bool g_29) ?_
        refine Wx.rd (v := .int .i64 ((ix (0, 0) l k).1)) (rd_loadX hS 0 rfl rfl rfl Tryd.isAgg3) rfl ?_
        refine Wx.gyes rfl rfl (congrArg Value.bool g_29) ?_
        refine Wx.rd (v := .pointer (some ⟨g_1, 0, none⟩)) (rd_indexArr (n := 0) rfl rfl Tryd.underlying58 Tryd.sizeOf3 (by decide) (by decide)) rfl ?_
        refine Wx.gyes rfl rfl (congrArg Value.bool g_29) ?_
        refine Wx.rd (v := .int .i64 a) (rd_loadX hS 1 rfl rfl rfl Tryd.isAgg3) rfl ?_
        refine Wx.gyes rfl rfl (congrArg Value.bool g_29) ?_
        refine Wx.rd (v := .bool (decide (((ix (0, 0) l k).1) < a))) (rd_lss rfl rfl) rfl ?_
        refine Wx.gyes rfl rfl (congrArg Value.bool g_29) ?_
        refine Wx.rd (v := .bool (decide (((ix (0, 0) l k).1) < a))) (rd_move rfl) rfl ?_
        refine Wx.cut (X := Unit) 6 [43, 44, 45, 46, 47, 48] (fun _ => [(48, .bool (decide (((ix (0, 0) l k).1) < a) && decide (a < ((ix (0, 0) l k).2))))]) (fun _ w' => St w [] w' [.box g_13 58 [.int .i64 ((ix (0, 0) l k).1), .int .i64 ((ix (0, 0) l k).2)], .box g_1 58 [.int .i64 a, .int .i64 b]]) ?_ ?_
        · rcases Bool.eq_false_or_eq_true (decide (((ix (0, 0) l k).1) < a)) with g_32 | g_32
          · -- True
            have gp_33 := of_decide_eq_true g_32
            refine Wx.gyes rfl rfl (congrArg Value.bool g_32) ?_
            refine Wx.rd (v := .pointer (some ⟨g_1, 0, none⟩)) (rd_indexArr (n := 0) rfl rfl Tryd.underlying58 Tryd.sizeOf3 (by decide) (by decide)) rfl ?_
            refine Wx.gyes rfl rfl (congrArg Value.bool g_32) ?_
            refine Wx.rd (v := .int .i64 a) (rd_loadX hS 1 rfl rfl rfl Tryd.isAgg3) rfl ?_
            refine Wx.gyes rfl rfl (congrArg Value.bool g_32) ?_
            refine Wx.rd (v := .pointer (some ⟨g_13, 1, none⟩)) (rd_indexArr (n := 1) rfl rfl Tryd.underlying58 Tryd.sizeOf3 (by decide) (by decide)) rfl ?_
            refine Wx.gyes rfl rfl (congrArg Value.bool g_32) ?_
            refine Wx.rd (v := .int .i64 ((ix (0, 0) l k).2)) (rd_loadX hS 0 rfl rfl rfl Tryd.isAgg3) rfl ?_
            refine Wx.gyes rfl rfl (congrArg Value.bool g_32) ?_
            refine Wx.rd (v := .bool (decide (a < ((ix (0, 0) l k).2)))) (rd_lss rfl rfl) rfl ?_
            refine Wx.gyes rfl rfl (congrArg Value.bool g_29) ?_
            refine Wx.rd (v := .bool (decide (a < ((ix (0, 0) l k).2)))) (rd_pickT (congrArg Value.bool g_32) rfl) rfl ?_
            refine Wx.nil ⟨(), hS, ⟨?_, trivial⟩, Out.look rfl Out.refl⟩
            show Value.bool (decide (a < ((ix (0, 0) l k).2))) = Value.bool (decide (((ix (0, 0) l k).1) < a) && decide (a < ((ix (0, 0) l k).2)))
            rw [g_32]; rfl
          · -- False
            have gp_34 := of_decide_eq_false g_32
            refine Wx.gnoB rfl rfl (congrArg Value.bool g_32) rfl rfl ?_
            refine Wx.gnoB rfl rfl (congrArg Value.bool g_32) rfl rfl ?_
            refine Wx.gnoB rfl rfl (congrArg Value.bool g_32) rfl rfl ?_
            refine Wx.gnoB rfl rfl (congrArg Value.bool g_32) rfl rfl ?_
            refine Wx.gnoB rfl rfl (congrArg Value.bool g_32) rfl rfl ?_
            refine Wx.gyes rfl rfl (congrArg Value.bool g_29) ?_
            refine Wx.rd (v := .bool false) (rd_pickF (congrArg Value.bool g_32) rfl) rfl ?_
            refine Wx.nil ⟨(), hS, ⟨?_, trivial⟩, Out.look rfl Out.refl⟩
            show Value.bool false = Value.bool (decide (((ix (0, 0) l k).1) < a) && decide (a < ((ix (0, 0) l k).2)))
            rw [g_32]; rfl
        rintro ⟨⟩ u_36 w_35 hS
        refine Wx.gyes rfl rfl (congrArg Value.bool g_29) ?_
        refine Wx.rd (v := .bool (decide (((ix (0, 0) l k).1) < a) && decide (a < ((ix (0, 0) l k).2)))) (rd_move rfl) rfl ?_
        refine Wx.cut (X := Unit) 6 [50, 51, 52, 53, 54, 55] (fun _ => [(55, .bool ((decide (((ix (0, 0) l k).1) < a) && decide (a < ((ix (0, 0) l k).2))) && decide (((ix (0, 0) l k).2) < b)))]) (fun _ w' => St w [] w' [.box g_13 58 [.int .i64 ((ix (0, 0) l k).1), .int .i64 ((ix (0, 0) l k).2)], .box g_1 58 [.int .i64 a, .int .i64 b]]) ?_ ?_
        · rcases Bool.eq_false_or_eq_true (decide (((ix (0, 0) l k).1) < a) && decide (a < ((ix (0, 0) l k).2))) with g_37 | g_37
          · -- True
            have gp_38 := g_37
            try simp only [Bool.and_eq_true, Bool.or_eq_true, Bool.not_eq_true', Bool.and_eq_false_iff, Bool.or_eq_false_iff, Bool.not_eq_false', decide_eq_true_eq, decide_eq_false_iff_not, not_or, Bool.false_eq_true, Bool.true_eq_false, false_or, or_false, not_false_eq_true] at gp_38
            refine Wx.gyes rfl rfl (congrArg Value.bool g_37) ?_
            refine Wx.rd (v := .pointer (some ⟨g_13, 1, none⟩)) (rd_indexArr (n := 1) rfl rfl Tryd.underlying58 Tryd.sizeOf3 (by decide) (by decide)) rfl ?_
            refine Wx.gyes rfl rfl (congrArg Value.bool g_37) ?_
            refine Wx.rd (v := .int .i64 ((ix (0, 0) l k).2)) (rd_loadX hS 0 rfl rfl rfl Tryd.isAgg3) rfl ?_
            refine Wx.gyes rfl rfl (congrArg Value.bool g_37) ?_
            refine Wx.rd (v := .pointer (some ⟨g_1, 1, none⟩)) (rd_indexArr (n := 1) rfl rfl Tryd.underlying58 Tryd.sizeOf3 (by decide) (by decide)) rfl ?_
            refine Wx.gyes rfl rfl (congrArg Value.bool g_37) ?_
            refine Wx.rd (v := .int .i64 b) (rd_loadX hS 1 rfl rfl rfl Tryd.isAgg3) rfl ?_
            refine Wx.gyes rfl rfl (congrArg Value.bool g_37) ?_
            refine Wx.rd (v := .bool (decide (((ix (0, 0) l k).2) < b))) (rd_lss rfl rfl) rfl ?_
            refine Wx.gyes rfl rfl (congrArg Value.bool g_29) ?_
            refine Wx.rd (v := .bool (decide (((ix (0, 0) l k).2) < b))) (rd_pickT (congrArg Value.bool g_37) rfl) rfl ?_
            refine Wx.nil ⟨(), hS, ⟨?_, trivial⟩, Out.look rfl Out.refl⟩
            show Value.bool (decide (((ix (0, 0) l k).2) < b)) = Value.bool ((decide (((ix (0, 0) l k).1) < a) && decide (a < ((ix (0, 0) l k).2))) && decide (((ix (0, 0) l k).2) < b))
            rw [g_37]; rfl
          · -- False
            have gp_39 := g_37
            try simp only [Bool.and_eq_true, Bool.or_eq_true, Bool.not_eq_true', Bool.and_eq_false_iff, Bool.or_eq_false_iff, Bool.not_eq_false', decide_eq_true_eq, decide_eq_false_iff_not, not_or, Bool.false_eq_true, Bool.true_eq_false, false_or, or_false, not_false_eq_true] at gp_39
            refine Wx.gnoB rfl rfl (congrArg Value.bool g_37) rfl rfl ?_
            refine Wx.gnoB rfl rfl (congrArg Value.bool g_37) rfl rfl ?_
            refine Wx.gnoB rfl rfl (congrArg Value.bool g_37) rfl rfl ?_
            refine Wx.gnoB rfl rfl (congrArg Value.bool g_37) rfl rfl ?_
            refine Wx.gnoB rfl rfl (congrArg Value.bool g_37) rfl rfl ?_
            refine Wx.gyes rfl rfl (congrArg Value.bool g_29) ?_
            refine Wx.rd (v := .bool false) (rd_pickF (congrArg Value.bool g_37) rfl) rfl ?_
            refine Wx.nil ⟨(), hS, ⟨?_, trivial⟩, Out.look rfl Out.refl⟩
            show Value.bool false = Value.bool ((decide (((ix (0, 0) l k).1) < a) && decide (a < ((ix (0, 0) l k).2))) && decide (((ix (0, 0) l k).2) < b))
            rw [g_37]; rfl
        rintro ⟨⟩ u_41 w_40 hS
        refine Wx.rd (v := .bool ((decide (((ix (0, 0) l k).1) < a) && decide (a < ((ix (0, 0) l k).2))) && decide (((ix (0, 0) l k).2) < b))) (rd_pickF (congrArg Value.bool g_29) rfl) rfl ?_
        refine Wx.nil ⟨(), hS, ⟨?_, trivial⟩, Out.look rfl (Out.hav rfl (Out.look rfl (Out.hav rfl (Out.look rfl Out.refl))))⟩
        show Value.bool ((decide (((ix (0, 0) l k).1) < a) && decide (a < ((ix (0, 0) l k).2))) && decide (((ix (0, 0) l k).2) < b)) = Value.bool (((decide (a < ((ix (0, 0) l k).1)) && decide (((ix (0, 0) l k).1) < b)) && decide (b < ((ix (0, 0) l k).2))) || ((decide (((ix (0, 0) l k).1) < a) && decide (a < ((ix (0, 0) l k).2))) && decide (((ix (0, 0) l k).2) < b)))
        rw [g_29]; rfl
    rintro ⟨⟩ u_43 w_42 hS
    refine Wx.nil ?_
    refine W.cond rfl (fun c1 => ?_) (fun c1 => ?_)
    · -- yes
      try simp only [Bool.and_eq_true, Bool.or_eq_true, Bool.not_eq_true', Bool.and_eq_false_iff, Bool.or_eq_false_iff, Bool.not_eq_false', decide_eq_true_eq, decide_eq_false_iff_not, not_or, Bool.false_eq_true, Bool.true_eq_false, false_or, or_false, not_false_eq_true] at c1
      refine W.seq ?_
      refine W.reg ?_
      refine Wx.rd (v := .bool true) (rd_assign rfl) rfl ?_
      refine Wx.nil ?_
      have e0_0 : (crossesB l (a, b)) = true := by exact crossesB_yes h0 c0 h2 (by rw [crossB_iff]; omega)
      exact W.ret ⟨.bool true, ResIs.one, hS.bel, (by rw [e0_0])⟩
    · -- no
      try simp only [Bool.and_eq_true, Bool.or_eq_true, Bool.not_eq_true', Bool.and_eq_false_iff, Bool.or_eq_false_iff, Bool.not_eq_false', decide_eq_true_eq, decide_eq_false_iff_not, not_or, Bool.false_eq_true, Bool.true_eq_false, false_or, or_false, not_false_eq_true] at c1
      refine W.skip ?_
      refine W.reg ?_
      refine Wx.rd (v := .int .i64 k) (rd_move rfl) rfl ?_
      refine Wx.rd (v := .int .i64 (k + 1)) (rd_add rfl rfl (in_i64 (by omega) (by omega))) rfl ?_
      refine Wx.rd (v := .int .i64 (k + 1)) (rd_assign rfl) rfl ?_
      refine Wx.nil ?_
      refine ⟨k + 1, (by show (l.length - (k + 1)).toNat < (l.length - k).toNat; omega), ?_, ?_, Out.look rfl (Out.hav rfl (Out.look rfl (Out.hav rfl (Out.look rfl (Out.hav rfl (Out.look rfl Out.self))))))⟩
      · exact ⟨hS.tl, (by first | omega | assumption), (by first | omega | assumption), (crossesB_no h0 c0 h2 (by rw [← Bool.not_eq_true, crossB_iff]; omega))⟩
      · exact ⟨rfl, trivial⟩
  · -- no
    refine W.exit rfl ?_
    refine W.seq ?_
    refine W.reg ?_
    refine Wx.rd (v := .bool false) (rd_assign rfl) rfl ?_
    refine Wx.nil ?_
    have e1_0 : (crossesB l (a, b)) = false := by exact crossesB_end (by omega) h2
    exact W.ret ⟨.bool false, ResIs.one, hS.bel, (by rw [e1_0])⟩

theorem F20 {rim : ByteArray} {lv : Value} {l : List (Int × Int)} {Fr_lv : List (Option Nat)} {w : World} (s_rim : rim.size ≤ maxLen) (h_lv : V (tSl (tP (tI .i64) (tI .i64))) l lv Fr_lv w) : Calls Tryd.prog 20 #[.string rim, lv] w (Ret w (fun r _ => r = .int .i64 (validE rim l))) := by
  have a_lv := h_lv.any
  have l_lv := h_lv.len63
  have hS := St.start0 w
  refine enterR Tryd.func20 rfl Tryd.ntmps20 Tryd.results20 rfl ?_
  refine W.seq ?_
  refine W.reg ?_
  refine Wx.rd (v := .int .i64 0) (rd_assign rfl) rfl ?_
  refine Wx.nil ?_
  refine W.seq ?_
  refine W.reg ?_
  refine Wx.rd (v := .string rim) (rd_move rfl) rfl ?_
  refine Wx.callF (run_callF Tryd.call18 rfl) (F18 (by first | assumption | (simp only [maxLen]; omega) | (simp only [ByteArray.size_extract, ByteArray.size_append, maxLen] at *; omega) | decide)) rfl ?_
  rintro r_1 w_2 hx_3 rfl
  have hS := hS.ext hx_3
  refine Wx.rd (v := .int .i64 (rimE rim)) (rd_assign rfl) rfl ?_
  refine Wx.nil ?_
  refine W.seq ?_
  refine W.seq ?_
  refine W.reg ?_
  refine Wx.rd (v := .int .i64 (rimE rim)) (rd_move rfl) rfl ?_
  refine Wx.rd (v := .bool (decide ((rimE rim) ≠ 0))) (rd_neq rfl rfl) rfl ?_
  refine Wx.nil ?_
  refine W.condD rfl (fun c0 => ?_) (fun c0 => ?_)
  · -- yes
    refine W.seq ?_
    refine W.reg ?_
    refine Wx.rd (v := .int .i64 (rimE rim)) (rd_move rfl) rfl ?_
    refine Wx.rd (v := .int .i64 (rimE rim)) (rd_assign rfl) rfl ?_
    refine Wx.nil ?_
    have e0_0 : (validE rim l) = (rimE rim : Int) := by exact if_neg c0
    exact W.ret ⟨.int .i64 (rimE rim), ResIs.one, hS.bel, (by rw [e0_0])⟩
  · -- no
    have hr0 : rimE rim = 0 := by omega
    obtain ⟨hr1, hr2⟩ := rimE_ok hr0
    refine W.skip ?_
    refine W.seq ?_
    refine W.seq ?_
    refine W.reg ?_
    refine Wx.rd (v := .int .i64 0) (rd_assign rfl) rfl ?_
    refine Wx.nil ?_
    refine W.block ?_
    refine W.loop [4, 6, 7, 13, 14, 15, 16, 17, 18, 19, 20, 21, 22, 23, 24, 25, 26, 27, 28, 29, 30, 31, 32, 33, 34, 35, 36, 37, 38, 39, 40, 41, 42, 43, 44, 45, 46, 47, 48, 49, 50, 51, 52, 53, 54, 55, 56, 57, 58, 59, 60, 61, 62, 63, 64, 65, 66, 67, 68, 69, 70, 71, 72, 73, 74, 75, 76, 77, 78, 79, 80, 81, 82] (fun (k : Int) => [(6, .int .i64 k)]) (fun (k : Int) w' => St w [] w' [] ∧ 0 ≤ k ∧ k ≤ l.length ∧ validT rim (l.take k.toNat) (l.drop k.toNat) = validT rim [] l) (fun (k : Int) => (l.length - k).toNat) 0 ⟨rfl, trivial⟩ ⟨hS, (by first | omega | simp), (by first | omega | simp), (by simp)⟩ ?_
    rintro k u_5 w_4 ⟨hS, h0, h1, h2⟩
    refine W.seq ?_
    refine W.seq ?_
    refine W.reg ?_
    refine Wx.rd (v := .int .i64 k) (rd_move rfl) rfl ?_
    refine Wx.rd (v := lv) (rd_move rfl) rfl ?_
    refine Wx.rd (v := .int .i64 (l.length : Int)) (rd_lenV rfl (hS.arg a_lv) Tryd.underlying22) rfl ?_
    refine Wx.rd (v := .bool (decide (k < (l.length : Int)))) (rd_lss rfl rfl) rfl ?_
    refine Wx.nil ?_
    refine W.condD rfl (fun c1 => ?_) (fun c1 => ?_)
    · -- yes
      refine W.skip ?_
      refine W.seq ?_
      refine W.block ?_
      refine W.seq ?_
      refine W.reg ?_
      refine Wx.rd (v := lv) (rd_move rfl) rfl ?_
      refine Wx.rd (v := .int .i64 k) (rd_move rfl) rfl ?_
      refine Wx.ex (rd_index (0, 0) (hS.arg a_lv) rfl rfl Tryd.underlying22 Tryd.sizeOf58 (by first | omega | (simp only [List.length_set, List.length_append, List.length_cons, List.length_nil, List.length_replicate]; omega)) (by first | omega | (simp only [List.length_set, List.length_append, List.length_cons, List.length_nil, List.length_replicate]; omega))) rfl (fun p_6 hp_7 => ?_)
      refine Wx.ex (rd_load hp_7 rfl Tryd.isAgg58 Tryd.sizeOf58) rfl (fun v_8 hv_9 => ?_)
      obtain ⟨rfl, bd_10, bd_11⟩ := hv_9.i2
      have bd_10 := bd_i64 bd_10
      have bd_11 := bd_i64 bd_11
      refine Wx.alloc (cs := [.int .i64 0, .int .i64 0]) hS Tryd.zeroValue58 rfl rfl (fun g_12 w_13 hx_15 hb_14 hS => ?_)
      refine Wx.storeX (cs' := [.int .i64 ((ix (0, 0) l k).1), .int .i64 ((ix (0, 0) l k).2)]) (ds := [.int .i64 ((ix (0, 0) l k).1), .int .i64 ((ix (0, 0) l k).2)]) hS 0 rfl rfl rfl rfl Tryd.sizeOf58 (Nat.le_of_ble_eq_true rfl) (one_cons rfl (one_cons rfl one_nil)) rfl (fun w_16 hz_17 hS => ?_)
      refine Wx.nil ?_
      refine W.seq ?_
      refine W.seq ?_
      refine W.reg ?_
      refine Wx.rd (v := .pointer (some ⟨g_12, 0, none⟩)) (rd_indexArr (n := 0) rfl rfl Tryd.underlying58 Tryd.sizeOf3 (by decide) (by decide)) rfl ?_
      refine Wx.rd (v := .int .i64 ((ix (0, 0) l k).1)) (rd_loadX hS 0 rfl rfl rfl Tryd.isAgg3) rfl ?_
      refine Wx.rd (v := .string rim) (rd_move rfl) rfl ?_
      refine Wx.rd (v := .int .i64 (rim.size : Int)) (rd_lenS rfl Tryd.underlying9) rfl ?_
      refine Wx.rd (v := .int .i64 ((rim.size : Int) - 1)) (rd_sub rfl rfl (in_i64 (by omega) (by omega))) rfl ?_
      refine Wx.callF (run_callF Tryd.call62 rfl) (F62 (in_i64 (by omega) (by omega)) (in_i64 (by omega) (by omega)) (in_i64 (by omega) (by omega))) rfl ?_
      rintro r_18 w_19 hx_20 rfl
      have hS := hS.ext hx_20
      refine Wx.rd (v := .bool (!(decide (0 ≤ ((ix (0, 0) l k).1)) && decide (((ix (0, 0) l k).1) ≤ ((rim.size : Int) - 1))))) (rd_not rfl) rfl ?_
      refine Wx.rd (v := .bool (!(decide (0 ≤ ((ix (0, 0) l k).1)) && decide (((ix (0, 0) l k).1) ≤ ((rim.size : Int) - 1))))) (rd_move rfl) rfl ?_
      refine Wx.cut (X := Unit) 8 [31, 32, 33, 34, 35, 36, 37, 38] (fun _ => [(38, .bool (!(decide (0 ≤ ((ix (0, 0) l k).1)) && decide (((ix (0, 0) l k).1) ≤ ((rim.size : Int) - 1))) || !(decide (0 ≤ ((ix (0, 0) l k).2)) && decide (((ix (0, 0) l k).2) ≤ ((rim.size : Int) - 1)))))]) (fun _ w' => St w [] w' [.box g_12 58 [.int .i64 ((ix (0, 0) l k).1), .int .i64 ((ix (0, 0) l k).2)]]) ?_ ?_
      · rcases Bool.eq_false_or_eq_true (!(decide (0 ≤ ((ix (0, 0) l k).1)) && decide (((ix (0, 0) l k).1) ≤ ((rim.size : Int) - 1)))) with g_21 | g_21
        · -- True
          have gp_22 := g_21
          try simp only [Bool.and_eq_true, Bool.or_eq_true, Bool.not_eq_true', Bool.and_eq_false_iff, Bool.or_eq_false_iff, Bool.not_eq_false', decide_eq_true_eq, decide_eq_false_iff_not, not_or, Bool.false_eq_true, Bool.true_eq_false, false_or, or_false, not_false_eq_true] at gp_22
          refine Wx.gnoB rfl rfl (congrArg Value.bool g_21) rfl rfl ?_
          refine Wx.gnoB rfl rfl (congrArg Value.bool g_21) rfl rfl ?_
          refine Wx.gnoB rfl rfl (congrArg Value.bool g_21) rfl rfl ?_
          refine Wx.gnoB rfl rfl (congrArg Value.bool g_21) rfl rfl ?_
          refine Wx.gnoB rfl rfl (congrArg Value.bool g_21) rfl rfl ?_
          refine Wx.gnoB rfl rfl (congrArg Value.bool g_21) rfl rfl ?_
          refine Wx.gnoB rfl rfl (congrArg Value.bool g_21) rfl rfl ?_
          refine Wx.rd (v := .bool true) (rd_pickT (congrArg Value.bool g_21) rfl) rfl ?_
          refine Wx.nil ⟨(), hS, ⟨?_, trivial⟩, Out.look rfl Out.refl⟩
          show Value.bool true = Value.bool (!(decide (0 ≤ ((ix (0, 0) l k).1)) && decide (((ix (0, 0) l k).1) ≤ ((rim.size : Int) - 1))) || !(decide (0 ≤ ((ix (0, 0) l k).2)) && decide (((ix (0, 0) l k).2) ≤ ((rim.size : Int) - 1))))
          rw [g_21]; rfl
        · -- False
          have gp_23 := g_21
          try simp only [Bool.and_eq_true, Bool.or_eq_true, Bool.not_eq_true', Bool.and_eq_false_iff, Bool.or_eq_false_iff, Bool.not_eq_false', decide_eq_true_eq, decide_eq_false_iff_not, not_or, Bool.false_eq_true, Bool.true_eq_false, false_or, or_false, not_false_eq_true] at gp_23
          refine Wx.gyes rfl rfl (congrArg Value.bool g_21) ?_
          refine Wx.rd (v := .pointer (some ⟨g_12, 1, none⟩)) (rd_indexArr (n := 1) rfl rfl Tryd.underlying58 Tryd.sizeOf3 (by decide) (by decide)) rfl ?_
          refine Wx.gyes rfl rfl (congrArg Value.bool g_21) ?_
          refine Wx.rd (v := .int .i64 ((ix (0, 0) l k).2)) (rd_loadX hS 0 rfl rfl rfl Tryd.isAgg3) rfl ?_
          refine Wx.gyes rfl rfl (congrArg Value.bool g_21) ?_
          refine Wx.rd (v := .string rim) (rd_move rfl) rfl ?_
          refine Wx.gyes rfl rfl (congrArg Value.bool g_21) ?_
          refine Wx.rd (v := .int .i64 (rim.size : Int)) (rd_lenS rfl Tryd.underlying9) rfl ?_
          refine Wx.gyes rfl rfl (congrArg Value.bool g_21) ?_
          refine Wx.rd (v := .int .i64 ((rim.size : Int) - 1)) (rd_sub rfl rfl (in_i64 (by omega) (by omega))) rfl ?_
          refine Wx.gyes rfl rfl (congrArg Value.bool g_21) ?_
          refine Wx.callF (run_callF Tryd.call62 rfl) (F62 (in_i64 (by omega) (by omega)) (in_i64 (by omega) (by omega)) (in_i64 (by omega) (by omega))) rfl ?_
          rintro r_24 w_25 hx_26 rfl
          have hS := hS.ext hx_26
          refine Wx.gyes rfl rfl (congrArg Value.bool g_21) ?_
          refine Wx.rd (v := .bool (!(decide (0 ≤ ((ix (0, 0) l k).2)) && decide (((ix (0, 0) l k).2) ≤ ((rim.size : Int) - 1))))) (rd_not rfl) rfl ?_
          refine Wx.rd (v := .bool (!(decide (0 ≤ ((ix (0, 0) l k).2)) && decide (((ix (0, 0) l k).2) ≤ ((rim.size : Int) - 1))))) (rd_pickF (congrArg Value.bool g_21) rfl) rfl ?_
          refine Wx.nil ⟨(), hS, ⟨?_, trivial⟩, Out.look rfl Out.refl⟩
          show Value.bool (!(decide (0 ≤ ((ix (0, 0) l k).2)) && decide (((ix (0, 0) l k).2) ≤ ((rim.size : Int) - 1)))) = Value.bool (!(decide (0 ≤ ((ix (0, 0) l k).1)) && decide (((ix (0, 0) l k).1) ≤ ((rim.size : Int) - 1))) || !(decide (0 ≤ ((ix (0, 0) l k).2)) && decide (((ix (0, 0) l k).2) ≤ ((rim.size : Int) - 1))))
          rw [g_21]; rfl
      rintro ⟨⟩ u_28 w_27 hS
      refine Wx.nil ?_
      refine W.cond rfl (fun c2 => ?_) (fun c2 => ?_)
      · -- yes
        try simp only [Bool.and_eq_true, Bool.or_eq_true, Bool.not_eq_true', Bool.and_eq_false_iff, Bool.or_eq_false_iff, Bool.not_eq_false', decide_eq_true_eq, decide_eq_false_iff_not, not_or, Bool.false_eq_true, Bool.true_eq_false, false_or, or_false, not_false_eq_true] at c2
        refine W.seq ?_
        refine W.reg ?_
        refine Wx.rd (v := .int .i64 2) (rd_assign rfl) rfl ?_
        refine Wx.nil ?_
        have e1_0 : (validE rim l) = (2 : Int) := by exact validT_bad h0 c1 h2 (badX_none (by omega)) (by decide) hr0
        exact W.ret ⟨.int .i64 2, ResIs.one, hS.bel, (by rw [e1_0])⟩
      · -- no
        try simp only [Bool.and_eq_true, Bool.or_eq_true, Bool.not_eq_true', Bool.and_eq_false_iff, Bool.or_eq_false_iff, Bool.not_eq_false', decide_eq_true_eq, decide_eq_false_iff_not, not_or, Bool.false_eq_true, Bool.true_eq_false, false_or, or_false, not_false_eq_true] at c2
        refine W.skip ?_
        refine W.seq ?_
        refine W.seq ?_
        refine W.reg ?_
        refine Wx.rd (v := .pointer (some ⟨g_12, 0, none⟩)) (rd_indexArr (n := 0) rfl rfl Tryd.underlying58 Tryd.sizeOf3 (by decide) (by decide)) rfl ?_
        refine Wx.rd (v := .int .i64 ((ix (0, 0) l k).1)) (rd_loadX hS 0 rfl rfl rfl Tryd.isAgg3) rfl ?_
        refine Wx.rd (v := .pointer (some ⟨g_12, 1, none⟩)) (rd_indexArr (n := 1) rfl rfl Tryd.underlying58 Tryd.sizeOf3 (by decide) (by decide)) rfl ?_
        refine Wx.rd (v := .int .i64 ((ix (0, 0) l k).2)) (rd_loadX hS 0 rfl rfl rfl Tryd.isAgg3) rfl ?_
        refine Wx.rd (v := .bool (decide (((ix (0, 0) l k).2) ≤ ((ix (0, 0) l k).1)))) (rd_geq rfl rfl) rfl ?_
        refine Wx.nil ?_
        refine W.condD rfl (fun c3 => ?_) (fun c3 => ?_)
        · -- yes
          refine W.seq ?_
          refine W.reg ?_
          refine Wx.rd (v := .int .i64 7) (rd_assign rfl) rfl ?_
          refine Wx.nil ?_
          have e2_0 : (validE rim l) = (7 : Int) := by exact validT_bad h0 c1 h2 (badX_order ⟨by omega, by omega⟩ c3) (by decide) hr0
          exact W.ret ⟨.int .i64 7, ResIs.one, hS.bel, (by rw [e2_0])⟩
        · -- no
          refine W.skip ?_
          refine W.seq ?_
          refine W.seq ?_
          refine W.regQ mixedHb_ (by kernel_rfl) ?_
          refine Wx.rd (v := lv) (rd_move rfl) rfl ?_
          refine Wx.rd (v := .int .i64 k) (rd_move rfl) rfl ?_
          refine Wx.ex (rd_sliceH (hS.arg a_lv) Tryd.underlying22 Tryd.sizeOf58 rfl rfl (by omega) (by omega)) rfl (fun u_29 hu_30 => ?_)
          have ln_31 := hu_30.len63
          have hS := hS.add hu_30
          refine Wx.rd (v := .pointer (some ⟨g_12, 0, none⟩)) (rd_indexArr (n := 0) rfl rfl Tryd.underlying58 Tryd.sizeOf3 (by decide) (by decide)) rfl ?_
          refine Wx.rd (v := .int .i64 ((ix (0, 0) l k).1)) (rd_loadX hS 1 rfl rfl rfl Tryd.isAgg3) rfl ?_
          refine Wx.callV (v := .bool (usedB (l.take k.toNat) ((ix (0, 0) l k).1))) (run_callF Tryd.call63 rfl) (fun w_33 hw_34 => (F63 ((hS.v 0 rfl).ext hw_34) (in_i64 (by omega) (by omega)))) rfl ?_
          refine Wx.rd (v := .bool (usedB (l.take k.toNat) ((ix (0, 0) l k).1))) (rd_move rfl) rfl ?_
          refine Wx.cutQ (X := Unit) 7 [51, 52, 53, 54, 55, 56, 57] (fun _ => [(57, .bool (usedB (l.take k.toNat) ((ix (0, 0) l k).1) || usedB (l.take k.toNat) ((ix (0, 0) l k).2)))]) (fun _ => True) ?_ ?_
          · rcases Bool.eq_false_or_eq_true (usedB (l.take k.toNat) ((ix (0, 0) l k).1)) with g_35 | g_35
            · -- True
              have gp_36 := g_35
              try simp only [Bool.and_eq_true, Bool.or_eq_true, Bool.not_eq_true', Bool.and_eq_false_iff, Bool.or_eq_false_iff, Bool.not_eq_false', decide_eq_true_eq, decide_eq_false_iff_not, not_or, Bool.false_eq_true, Bool.true_eq_false, false_or, or_false, not_false_eq_true] at gp_36
              refine Wx.gnoB rfl rfl (congrArg Value.bool g_35) rfl rfl ?_
              refine Wx.gnoB rfl rfl (congrArg Value.bool g_35) rfl rfl ?_
              refine Wx.gnoB rfl rfl (congrArg Value.bool g_35) rfl rfl ?_
              refine Wx.gnoB rfl rfl (congrArg Value.bool g_35) rfl rfl ?_
              refine Wx.gnoB rfl rfl (congrArg Value.bool g_35) rfl rfl ?_
              refine Wx.gnoB rfl rfl (congrArg Value.bool g_35) rfl rfl ?_
              refine Wx.rd (v := .bool true) (rd_pickT (congrArg Value.bool g_35) rfl) rfl ?_
              refine Wx.nilQ (fun _ _ => ⟨(), trivial, ⟨?_, trivial⟩, Out.look rfl Out.refl⟩)
              show Value.bool true = Value.bool (usedB (l.take k.toNat) ((ix (0, 0) l k).1) || usedB (l.take k.toNat) ((ix (0, 0) l k).2))
              rw [g_35]; rfl
            · -- False
              have gp_37 := g_35
              try simp only [Bool.and_eq_true, Bool.or_eq_true, Bool.not_eq_true', Bool.and_eq_false_iff, Bool.or_eq_false_iff, Bool.not_eq_false', decide_eq_true_eq, decide_eq_false_iff_not, not_or, Bool.false_eq_true, Bool.true_eq_false, false_or, or_false, not_false_eq_true] at gp_37
              refine Wx.gyes rfl rfl (congrArg Value.bool g_35) ?_
              refine Wx.rd (v := lv) (rd_move rfl) rfl ?_
              refine Wx.gyes rfl rfl (congrArg Value.bool g_35) ?_
              refine Wx.rd (v := .int .i64 k) (rd_move rfl) rfl ?_
              refine Wx.gyes rfl rfl (congrArg Value.bool g_35) ?_
              refine Wx.ex (rd_sliceH (hS.arg a_lv) Tryd.underlying22 Tryd.sizeOf58 rfl rfl (by omega) (by omega)) rfl (fun u_38 hu_39 => ?_)
              have ln_40 := hu_39.len63
              have hS := hS.add hu_39
              refine Wx.gyes rfl rfl (congrArg Value.bool g_35) ?_
              refine Wx.rd (v := .pointer (some ⟨g_12, 1, none⟩)) (rd_indexArr (n := 1) rfl rfl Tryd.underlying58 Tryd.sizeOf3 (by decide) (by decide)) rfl ?_
              refine Wx.gyes rfl rfl (congrArg Value.bool g_35) ?_
              refine Wx.rd (v := .int .i64 ((ix (0, 0) l k).2)) (rd_loadX hS 2 rfl rfl rfl Tryd.isAgg3) rfl ?_
              refine Wx.gyes rfl rfl (congrArg Value.bool g_35) ?_
              refine Wx.callV (v := .bool (usedB (l.take k.toNat) ((ix (0, 0) l k).2))) (run_callF Tryd.call63 rfl) (fun w_42 hw_43 => (F63 ((hS.v 0 rfl).ext hw_43) (in_i64 (by omega) (by omega)))) rfl ?_
              refine Wx.rd (v := .bool (usedB (l.take k.toNat) ((ix (0, 0) l k).2))) (rd_pickF (congrArg Value.bool g_35) rfl) rfl ?_
              refine Wx.nilQ (fun _ _ => ⟨(), trivial, ⟨?_, trivial⟩, Out.look rfl Out.refl⟩)
              show Value.bool (usedB (l.take k.toNat) ((ix (0, 0) l k).2)) = Value.bool (usedB (l.take k.toNat) ((ix (0, 0) l k).1) || usedB (l.take k.toNat) ((ix (0, 0) l k).2))
              rw [g_35]; rfl
          rintro ⟨⟩ u_45 -
          refine Wx.nilQ (fun w_46 hx_47 => ?_)
          have hS := hS.ext hx_47
          refine W.cond rfl (fun c4 => ?_) (fun c4 => ?_)
          · -- yes
            try simp only [Bool.and_eq_true, Bool.or_eq_true, Bool.not_eq_true', Bool.and_eq_false_iff, Bool.or_eq_false_iff, Bool.not_eq_false', decide_eq_true_eq, decide_eq_false_iff_not, not_or, Bool.false_eq_true, Bool.true_eq_false, false_or, or_false, not_false_eq_true] at c4
            refine W.seq ?_
            refine W.reg ?_
            refine Wx.rd (v := .int .i64 6) (rd_assign rfl) rfl ?_
            refine Wx.nil ?_
            have e3_0 : (validE rim l) = (6 : Int) := by exact validT_bad h0 c1 h2 (badX_twice ⟨by omega, by omega⟩ (by omega) c4) (by decide) hr0
            exact W.ret ⟨.int .i64 6, ResIs.one, hS.bel, (by rw [e3_0])⟩
          · -- no
            try simp only [Bool.and_eq_true, Bool.or_eq_true, Bool.not_eq_true', Bool.and_eq_false_iff, Bool.or_eq_false_iff, Bool.not_eq_false', decide_eq_true_eq, decide_eq_false_iff_not, not_or, Bool.false_eq_true, Bool.true_eq_false, false_or, or_false, not_false_eq_true] at c4
            refine W.skip ?_
            refine W.seq ?_
            refine W.seq ?_
            refine W.reg ?_
            refine Wx.rd (v := .string rim) (rd_move rfl) rfl ?_
            refine Wx.rd (v := .pointer (some ⟨g_12, 0, none⟩)) (rd_indexArr (n := 0) rfl rfl Tryd.underlying58 Tryd.sizeOf3 (by decide) (by decide)) rfl ?_
            refine Wx.rd (v := .int .i64 ((ix (0, 0) l k).1)) (rd_loadX hS 1 rfl rfl rfl Tryd.isAgg3) rfl ?_
            refine Wx.rd (v := .pointer (some ⟨g_12, 1, none⟩)) (rd_indexArr (n := 1) rfl rfl Tryd.underlying58 Tryd.sizeOf3 (by decide) (by decide)) rfl ?_
            refine Wx.rd (v := .int .i64 ((ix (0, 0) l k).2)) (rd_loadX hS 1 rfl rfl rfl Tryd.isAgg3) rfl ?_
            refine Wx.callF (run_callF Tryd.call64 rfl) (F64 (by first | assumption | (simp only [maxLen]; omega) | (simp only [ByteArray.size_extract, ByteArray.size_append, maxLen] at *; omega) | decide) (in_i64 (by omega) (by omega)) (in_i64 (by omega) (by omega)) (by omega) (by omega) (by omega) (by omega) (by omega)) rfl ?_
            rintro r_48 w_49 hx_50 rfl
            have hS := hS.ext hx_50
            refine Wx.rd (v := .bool (!(fitR rim ((ix (0, 0) l k).1) ((ix (0, 0) l k).2)))) (rd_not rfl) rfl ?_
            refine Wx.nil ?_
            refine W.cond rfl (fun c5 => ?_) (fun c5 => ?_)
            · -- yes
              try simp only [Bool.and_eq_true, Bool.or_eq_true, Bool.not_eq_true', Bool.and_eq_false_iff, Bool.or_eq_false_iff, Bool.not_eq_false', decide_eq_true_eq, decide_eq_false_iff_not, not_or, Bool.false_eq_true, Bool.true_eq_false, false_or, or_false, not_false_eq_true] at c5
              refine W.seq ?_
              refine W.reg ?_
              refine Wx.rd (v := .int .i64 13) (rd_assign rfl) rfl ?_
              refine Wx.nil ?_
              have e4_0 : (validE rim l) = (13 : Int) := by exact validT_bad h0 c1 h2 (badX_clash ⟨by omega, by omega⟩ (by omega) c4.1 c4.2 c5) (by decide) hr0
              exact W.ret ⟨.int .i64 13, ResIs.one, hS.bel, (by rw [e4_0])⟩
            · -- no
              try simp only [Bool.and_eq_true, Bool.or_eq_true, Bool.not_eq_true', Bool.and_eq_false_iff, Bool.or_eq_false_iff, Bool.not_eq_false', decide_eq_true_eq, decide_eq_false_iff_not, not_or, Bool.false_eq_true, Bool.true_eq_false, false_or, or_false, not_false_eq_true] at c5
              refine W.skip ?_
              refine W.seq ?_
              refine W.seq ?_
              refine W.regQ mixedHb_ (by kernel_rfl) ?_
              refine Wx.rd (v := lv) (rd_move rfl) rfl ?_
              refine Wx.rd (v := .int .i64 k) (rd_move rfl) rfl ?_
              refine Wx.ex (rd_sliceH (hS.arg a_lv) Tryd.underlying22 Tryd.sizeOf58 rfl rfl (by omega) (by omega)) rfl (fun u_51 hu_52 => ?_)
              have ln_53 := hu_52.len63
              have hS := hS.add hu_52
              refine Wx.rd (v := .agg #[.int .i64 ((ix (0, 0) l k).1), .int .i64 ((ix (0, 0) l k).2)]) (rd_loadXs (ds := [.int .i64 ((ix (0, 0) l k).1), .int .i64 ((ix (0, 0) l k).2)]) hS 2 rfl rfl rfl rfl Tryd.isAgg58 Tryd.sizeOf58) rfl ?_
              refine Wx.callV (v := .bool (crossesB (l.take k.toNat) (((ix (0, 0) l k).1), ((ix (0, 0) l k).2)))) (run_callF Tryd.call65 rfl) (fun w_55 hw_56 => (F65 ((hS.v 0 rfl).ext hw_56) (in_i64 (by omega) (by omega)) (in_i64 (by omega) (by omega)))) rfl ?_
              refine Wx.nilQ (fun w_57 hx_58 => ?_)
              have hS := hS.ext hx_58
              refine W.cond rfl (fun c6 => ?_) (fun c6 => ?_)
              · -- yes
                try simp only [Bool.and_eq_true, Bool.or_eq_true, Bool.not_eq_true', Bool.and_eq_false_iff, Bool.or_eq_false_iff, Bool.not_eq_false', decide_eq_true_eq, decide_eq_false_iff_not, not_or, Bool.false_eq_true, Bool.true_eq_false, false_or, or_false, not_false_eq_true] at c6
                refine W.seq ?_
                refine W.reg ?_
                refine Wx.rd (v := .int .i64 5) (rd_assign rfl) rfl ?_
                refine Wx.nil ?_
                have e5_0 : (validE rim l) = (5 : Int) := by exact validT_bad h0 c1 h2 (badX_shape ⟨by omega, by omega⟩ (by omega) c4.1 c4.2 c5 c6) (by decide) hr0
                exact W.ret ⟨.int .i64 5, ResIs.one, hS.bel, (by rw [e5_0])⟩
              · -- no
                try simp only [Bool.and_eq_true, Bool.or_eq_true, Bool.not_eq_true', Bool.and_eq_false_iff, Bool.or_eq_false_iff, Bool.not_eq_false', decide_eq_true_eq, decide_eq_false_iff_not, not_or, Bool.false_eq_true, Bool.true_eq_false, false_or, or_false, not_false_eq_true] at c6
                refine W.skip ?_
                refine W.seq ?_
                refine W.regQ mixedHb_ (by kernel_rfl) ?_
                refine Wx.rd (v := .int .i64 k) (rd_move rfl) rfl ?_
                refine Wx.rd (v := .bool (decide (0 < k))) (rd_gtr rfl rfl) rfl ?_
                refine Wx.rd (v := .bool (decide (0 < k))) (rd_move rfl) rfl ?_
                refine Wx.cutQ (X := Unit) 10 [73, 74, 75, 76, 77, 78, 79, 80, 81, 82] (fun _ => [(82, .bool (decide (0 < k) && decide (((ix (0, 0) l k).1) < ((ix (0, 0) l (k - 1)).1))))]) (fun _ => True) ?_ ?_
                · rcases Bool.eq_false_or_eq_true (decide (0 < k)) with g_59 | g_59
                  · -- True
                    have gp_60 := of_decide_eq_true g_59
                    refine Wx.gyes rfl rfl (congrArg Value.bool g_59) ?_
                    refine Wx.rd (v := .pointer (some ⟨g_12, 0, none⟩)) (rd_indexArr (n := 0) rfl rfl Tryd.underlying58 Tryd.sizeOf3 (by decide) (by decide)) rfl ?_
                    refine Wx.gyes rfl rfl (congrArg Value.bool g_59) ?_
                    refine Wx.rd (v := .int .i64 ((ix (0, 0) l k).1)) (rd_loadX hS 2 rfl rfl rfl Tryd.isAgg3) rfl ?_
                    refine Wx.gyes rfl rfl (congrArg Value.bool g_59) ?_
                    refine Wx.rd (v := lv) (rd_move rfl) rfl ?_
                    refine Wx.gyes rfl rfl (congrArg Value.bool g_59) ?_
                    refine Wx.rd (v := .int .i64 k) (rd_move rfl) rfl ?_
                    refine Wx.gyes rfl rfl (congrArg Value.bool g_59) ?_
                    refine Wx.rd (v := .int .i64 (k - 1)) (rd_sub rfl rfl (in_i64 (by omega) (by omega))) rfl ?_
                    refine Wx.gyes rfl rfl (congrArg Value.bool g_59) ?_
                    refine Wx.ex (rd_index (0, 0) (hS.arg a_lv) rfl rfl Tryd.underlying22 Tryd.sizeOf58 (by first | omega | (simp only [List.length_set, List.length_append, List.length_cons, List.length_nil, List.length_replicate]; omega)) (by first | omega | (simp only [List.length_set, List.length_append, List.length_cons, List.length_nil, List.length_replicate]; omega))) rfl (fun p_61 hp_62 => ?_)
                    refine Wx.gyes rfl rfl (congrArg Value.bool g_59) ?_
                    refine Wx.ex (rd_indexE1 hp_62 rfl rfl Tryd.underlying58 (by decide) Tryd.sizeOf3) rfl (fun p_63 hp_64 => ?_)
                    refine Wx.gyes rfl rfl (congrArg Value.bool g_59) ?_
                    refine Wx.rd (v := .int .i64 ((ix (0, 0) l (k - 1)).1)) (rd_loadI hp_64 rfl Tryd.isAgg3 Tryd.sizeOf3) rfl ?_
                    have bd_65 := bd_i64 hp_64.inK
                    refine Wx.gyes rfl rfl (congrArg Value.bool g_59) ?_
                    refine Wx.rd (v := .bool (decide (((ix (0, 0) l k).1) < ((ix (0, 0) l (k - 1)).1)))) (rd_lss rfl rfl) rfl ?_
                    refine Wx.rd (v := .bool (decide (((ix (0, 0) l k).1) < ((ix (0, 0) l (k - 1)).1)))) (rd_pickT (congrArg Value.bool g_59) rfl) rfl ?_
                    refine Wx.nilQ (fun _ _ => ⟨(), trivial, ⟨?_, trivial⟩, Out.look rfl Out.refl⟩)
                    show Value.bool (decide (((ix (0, 0) l k).1) < ((ix (0, 0) l (k - 1)).1))) = Value.bool (decide (0 < k) && decide (((ix (0, 0) l k).1) < ((ix (0, 0) l (k - 1)).1)))
                    rw [g_59]; rfl
                  · -- False
                    have gp_66 := of_decide_eq_false g_59
                    refine Wx.gnoB rfl rfl (congrArg Value.bool g_59) rfl rfl ?_
                    refine Wx.gnoB rfl rfl (congrArg Value.bool g_59) rfl rfl ?_
                    refine Wx.gnoB rfl rfl (congrArg Value.bool g_59) rfl rfl ?_
                    refine Wx.gnoB rfl rfl (congrArg Value.bool g_59) rfl rfl ?_
                    refine Wx.gnoB rfl rfl (congrArg Value.bool g_59) rfl rfl ?_
                    refine Wx.gnoB rfl rfl (congrArg Value.bool g_59) rfl rfl ?_
                    refine Wx.gnoB rfl rfl (congrArg Value.bool g_59) rfl rfl ?_
                    refine Wx.gnoB rfl rfl (congrArg Value.bool g_59) rfl rfl ?_
                    refine Wx.gnoB rfl rfl (congrArg Value.bool g_59) rfl rfl ?_
                    refine Wx.rd (v := .bool false) (rd_pickF (congrArg Value.bool g_59) rfl) rfl ?_
                    refine Wx.nilQ (fun _ _ => ⟨(), trivial, ⟨?_, trivial⟩, Out.look rfl Out.refl⟩)
                    show Value.bool false = Value.bool (decide (0 < k) && decide (((ix (0, 0) l k).1) < ((ix (0, 0) l (k - 1)).1)))
                    rw [g_59]; rfl
                rintro ⟨⟩ u_68 -
                refine Wx.nilQ (fun w_69 hx_70 => ?_)
                have hS := hS.ext hx_70
                refine W.cond rfl (fun c7 => ?_) (fun c7 => ?_)
                · -- yes
                  try simp only [Bool.and_eq_true, Bool.or_eq_true, Bool.not_eq_true', Bool.and_eq_false_iff, Bool.or_eq_false_iff, Bool.not_eq_false', decide_eq_true_eq, decide_eq_false_iff_not, not_or, Bool.false_eq_true, Bool.true_eq_false, false_or, or_false, not_false_eq_true] at c7
                  refine W.seq ?_
                  refine W.reg ?_
                  refine Wx.rd (v := .int .i64 7) (rd_assign rfl) rfl ?_
                  refine Wx.nil ?_
                  have e6_0 : (validE rim l) = (7 : Int) := by exact validT_bad h0 c1 h2 (badX_late ⟨by omega, by omega⟩ (by omega) c4.1 c4.2 c5 c6 (by rw [lastI_take c7.1 (by omega)]; exact c7.2)) (by decide) hr0
                  exact W.ret ⟨.int .i64 7, ResIs.one, hS.bel, (by rw [e6_0])⟩
                · -- no
                  try simp only [Bool.and_eq_true, Bool.or_eq_true, Bool.not_eq_true', Bool.and_eq_false_iff, Bool.or_eq_false_iff, Bool.not_eq_false', decide_eq_true_eq, decide_eq_false_iff_not, not_or, Bool.false_eq_true, Bool.true_eq_false, false_or, or_false, not_false_eq_true] at c7
                  refine W.skip ?_
                  refine W.reg ?_
                  refine Wx.rd (v := .int .i64 k) (rd_move rfl) rfl ?_
                  refine Wx.rd (v := .int .i64 (k + 1)) (rd_add rfl rfl (in_i64 (by omega) (by omega))) rfl ?_
                  refine Wx.rd (v := .int .i64 (k + 1)) (rd_assign rfl) rfl ?_
                  refine Wx.nil ?_
                  refine ⟨k + 1, (by show (l.length - (k + 1)).toNat < (l.length - k).toNat; omega), ?_, ?_, Out.look rfl (Out.hav rfl (Out.look rfl (Out.hav rfl (Out.look rfl (Out.hav rfl (Out.look rfl Out.self))))))⟩
                  · exact ⟨St.tl (St.tl (hS.tl)), (by first | omega | assumption), (by first | omega | assumption), (validT_good h0 c1 h2 (badX_good ⟨by omega, by omega⟩ (by omega) c4.1 c4.2 c5 c6 (lastI_no h0 (by omega) (by omega) c7)))⟩
                  · exact ⟨rfl, trivial⟩
    · -- no
      refine W.exit rfl ?_
      refine W.seq ?_
      refine W.reg ?_
      refine Wx.rd (v := .int .i64 0) (rd_assign rfl) rfl ?_
      refine Wx.nil ?_
      have e7_0 : (validE rim l) = (0 : Int) := by exact validT_end (by omega) h2 hr0
      exact W.ret ⟨.int .i64 0, ResIs.one, hS.bel, (by rw [e7_0])⟩

theorem F19 {rim : ByteArray} {lv : Value} {l : List (Int × Int)} {Fr_lv : List (Option Nat)} {w : World} (s_rim : rim.size ≤ maxLen) (h_lv : V (tSl (tP (tI .i64) (tI .i64))) l lv Fr_lv w) (hG : Laid w) : Calls Tryd.prog 19 #[.string rim, lv] w (Ret w (fun r _ => r = .int .i64 (validE rim l))) := by
  have a_lv := h_lv.any
  have l_lv := h_lv.len63
  have hS := St.start0 w
  refine enterR Tryd.func19 rfl Tryd.ntmps19 Tryd.results19 rfl ?_
  refine W.seq ?_
  refine W.reg ?_
  refine Wx.rd (v := .int .i64 0) (rd_assign rfl) rfl ?_
  refine Wx.nil ?_
  refine W.seq ?_
  refine W.seq ?_
  refine W.reg ?_
  refine Wx.rd (v := .string rim) (rd_move rfl) rfl ?_
  refine Wx.callF (run_callF Tryd.call17 rfl) (F17 (by first | assumption | (simp only [maxLen]; omega) | (simp only [ByteArray.size_extract, ByteArray.size_append, maxLen] at *; omega) | decide)) rfl ?_
  rintro r_1 w_2 hx_3 rfl
  have hS := hS.ext hx_3
  refine Wx.rd (v := .int .i64 (rimE rim)) (rd_assign rfl) rfl ?_
  refine Wx.nil ?_
  refine W.seq ?_
  refine W.reg ?_
  refine Wx.rd (v := .int .i64 (rimE rim)) (rd_move rfl) rfl ?_
  refine Wx.rd (v := .bool (decide ((rimE rim) ≠ 0))) (rd_neq rfl rfl) rfl ?_
  refine Wx.nil ?_
  refine W.condD rfl (fun c0 => ?_) (fun c0 => ?_)
  · -- yes
    refine W.seq ?_
    refine W.reg ?_
    refine Wx.rd (v := .int .i64 (rimE rim)) (rd_move rfl) rfl ?_
    refine Wx.rd (v := .int .i64 (rimE rim)) (rd_assign rfl) rfl ?_
    refine Wx.nil ?_
    have e0_0 : (validE rim l) = (rimE rim : Int) := by exact if_neg c0
    exact W.ret ⟨.int .i64 (rimE rim), ResIs.one, hS.bel, (by rw [e0_0])⟩
  · -- no
    have hr0 : rimE rim = 0 := by omega
    obtain ⟨hr1, hr2⟩ := rimE_ok hr0
    refine W.skip ?_
    refine W.seq ?_
    refine W.reg ?_
    refine Wx.alloc (cs := [.int .i64 0, .int .i64 0, .int .i64 0, .int .i64 0, .int .i64 0, .int .i64 0, .int .i64 0, .int .i64 0, .int .i64 0, .int .i64 0, .int .i64 0, .int .i64 0]) hS Tryd.zeroValue76 rfl rfl (fun g_4 w_5 hx_7 hb_6 hS => ?_)
    have hS : St _ _ w_5 [.box g_4 76 (List.map (Value.int .i64) (List.replicate 12 0))] := hS
    refine Wx.nil ?_
    refine W.seq ?_
    refine W.reg ?_
    refine Wx.rd (v := .int .i64 (-1)) (rd_assign rfl) rfl ?_
    refine Wx.nil ?_
    refine W.seq ?_
    refine W.seq ?_
    refine W.reg ?_
    refine Wx.rd (v := lv) (rd_move rfl) rfl ?_
    refine Wx.rd (v := .int .i64 (l.length : Int)) (rd_lenV rfl (hS.arg a_lv) Tryd.underlying22) rfl ?_
    refine Wx.rd (v := .int .i64 0) (rd_move rfl) rfl ?_
    refine Wx.nil ?_
    refine W.block ?_
    refine W.loop [4, 7, 9, 10, 11, 12, 20, 21, 22, 23, 24, 25, 26, 27, 28, 29, 30, 31, 32, 33, 34, 35, 36, 37, 38, 39, 40, 41, 42, 43, 44, 45, 46, 47, 48, 49, 50, 51, 52, 53, 54, 55, 56, 57, 58, 59, 60, 61, 62, 63, 64, 65, 66, 67, 68, 69, 70, 71, 72, 73, 74, 75, 76, 77, 78, 79, 80, 81, 82, 83, 84, 85, 86, 87, 88, 89, 90, 91, 92, 93, 94, 95, 96, 97, 98, 99, 100, 101] (fun x : Int × Int × (List Int) => match x with | (last, k, tb) => [(7, .int .i64 last), (20, .int .i64 k)]) (fun (x : Int × Int × (List Int)) w' => match x with | (last, k, tb) => St w [] w' [.box g_4 76 (List.map (Value.int .i64) tb)] ∧ 0 ≤ k ∧ k ≤ l.length ∧ validT rim (l.take k.toNat) (l.drop k.toNat) = validT rim [] l ∧ ToOK (l.take k.toNat) tb ∧ last = lastI (l.take k.toNat)) (fun x : Int × Int × (List Int) => match x with | (last, k, tb) => (l.length - k).toNat) (-1, 0, List.replicate 12 0) ⟨rfl, rfl, trivial⟩ ⟨hS, (by first | omega | simp), (by first | omega | simp), (by simp), (ToOK.nil), (rfl)⟩ ?_
    rintro ⟨last, k, tb⟩ u_9 w_8 ⟨hS, h0, h1, h2, h3, h4⟩
    have hl12 := h3.len
    refine W.seq ?_
    refine W.reg ?_
    refine Wx.rd (v := .bool (decide (k < (l.length : Int)))) (rd_lss rfl rfl) rfl ?_
    refine Wx.nil ?_
    refine W.seq ?_
    refine W.condD rfl (fun c1 => ?_) (fun c1 => ?_)
    · -- yes
      refine W.skip ?_
      refine W.seq ?_
      refine W.block ?_
      refine W.seq ?_
      refine W.reg ?_
      refine Wx.ex (rd_index (0, 0) (hS.arg a_lv) rfl rfl Tryd.underlying22 Tryd.sizeOf58 (by first | omega | (simp only [List.length_set, List.length_append, List.length_cons, List.length_nil, List.length_replicate]; omega)) (by first | omega | (simp only [List.length_set, List.length_append, List.length_cons, List.length_nil, List.length_replicate]; omega))) rfl (fun p_10 hp_11 => ?_)
      refine Wx.ex (rd_load hp_11 rfl Tryd.isAgg58 Tryd.sizeOf58) rfl (fun v_12 hv_13 => ?_)
      obtain ⟨rfl, bd_14, bd_15⟩ := hv_13.i2
      have bd_14 := bd_i64 bd_14
      have bd_15 := bd_i64 bd_15
      refine Wx.alloc (cs := [.int .i64 0, .int .i64 0]) hS Tryd.zeroValue58 rfl rfl (fun g_16 w_17 hx_19 hb_18 hS => ?_)
      refine Wx.storeX (cs' := [.int .i64 ((ix (0, 0) l k).1), .int .i64 ((ix (0, 0) l k).2)]) (ds := [.int .i64 ((ix (0, 0) l k).1), .int .i64 ((ix (0, 0) l k).2)]) hS 0 rfl rfl rfl rfl Tryd.sizeOf58 (Nat.le_of_ble_eq_true rfl) (one_cons rfl (one_cons rfl one_nil)) rfl (fun w_20 hz_21 hS => ?_)
      refine Wx.nil ?_
      refine W.seq ?_
      refine W.regQ mixedHb_ (by kernel_rfl) ?_
      refine Wx.rd (v := .pointer (some ⟨g_16, 0, none⟩)) (rd_indexArr (n := 0) rfl rfl Tryd.underlying58 Tryd.sizeOf3 (by decide) (by decide)) rfl ?_
      refine Wx.rd (v := .int .i64 ((ix (0, 0) l k).1)) (rd_loadX hS 0 rfl rfl rfl Tryd.isAgg3) rfl ?_
      refine Wx.rd (v := .pointer (some ⟨g_16, 1, none⟩)) (rd_indexArr (n := 1) rfl rfl Tryd.underlying58 Tryd.sizeOf3 (by decide) (by decide)) rfl ?_
      refine Wx.rd (v := .int .i64 ((ix (0, 0) l k).2)) (rd_loadX hS 0 rfl rfl rfl Tryd.isAgg3) rfl ?_
      refine Wx.rd (v := .int .i64 ((ix (0, 0) l k).1)) (rd_assign rfl) rfl ?_
      refine Wx.rd (v := .int .i64 ((ix (0, 0) l k).2)) (rd_assign rfl) rfl ?_
      refine Wx.nilQ (fun w_22 hx_23 => ?_)
      have hS := hS.ext hx_23
      refine W.seq ?_
      refine W.block ?_
      refine W.seq ?_
      refine W.reg ?_
      refine Wx.rd (v := .int .i64 ((ix (0, 0) l k).1)) (rd_move rfl) rfl ?_
      refine Wx.rd (v := .int .i64 ((ix (0, 0) l k).2)) (rd_move rfl) rfl ?_
      refine Wx.rd (v := .int .i64 (min ((ix (0, 0) l k).1) ((ix (0, 0) l k).2))) (rd_min rfl rfl) rfl ?_
      refine Wx.rd (v := .bool (decide ((min ((ix (0, 0) l k).1) ((ix (0, 0) l k).2)) < 0))) (rd_lss rfl rfl) rfl ?_
      refine Wx.rd (v := .bool (decide ((min ((ix (0, 0) l k).1) ((ix (0, 0) l k).2)) < 0))) (rd_move rfl) rfl ?_
      refine Wx.cut (X := Unit) 7 [34, 35, 36, 37, 38, 39, 40] (fun _ => [(40, .bool (decide ((min ((ix (0, 0) l k).1) ((ix (0, 0) l k).2)) < 0) || decide ((rim.size : Int) ≤ (max ((ix (0, 0) l k).1) ((ix (0, 0) l k).2)))))]) (fun _ w' => St w [] w' [.box g_16 58 [.int .i64 ((ix (0, 0) l k).1), .int .i64 ((ix (0, 0) l k).2)], .box g_4 76 (List.map (Value.int .i64) tb)]) ?_ ?_
      · rcases Bool.eq_false_or_eq_true (decide ((min ((ix (0, 0) l k).1) ((ix (0, 0) l k).2)) < 0)) with g_24 | g_24
        · -- True
          have gp_25 := of_decide_eq_true g_24
          refine Wx.gnoB rfl rfl (congrArg Value.bool g_24) rfl rfl ?_
          refine Wx.gnoB rfl rfl (congrArg Value.bool g_24) rfl rfl ?_
          refine Wx.gnoB rfl rfl (congrArg Value.bool g_24) rfl rfl ?_
          refine Wx.gnoB rfl rfl (congrArg Value.bool g_24) rfl rfl ?_
          refine Wx.gnoB rfl rfl (congrArg Value.bool g_24) rfl rfl ?_
          refine Wx.gnoB rfl rfl (congrArg Value.bool g_24) rfl rfl ?_
          refine Wx.rd (v := .bool true) (rd_pickT (congrArg Value.bool g_24) rfl) rfl ?_
          refine Wx.nil ⟨(), hS, ⟨?_, trivial⟩, Out.look rfl Out.refl⟩
          show Value.bool true = Value.bool (decide ((min ((ix (0, 0) l k).1) ((ix (0, 0) l k).2)) < 0) || decide ((rim.size : Int) ≤ (max ((ix (0, 0) l k).1) ((ix (0, 0) l k).2))))
          rw [g_24]; rfl
        · -- False
          have gp_26 := of_decide_eq_false g_24
          refine Wx.gyes rfl rfl (congrArg Value.bool g_24) ?_
          refine Wx.rd (v := .int .i64 ((ix (0, 0) l k).1)) (rd_move rfl) rfl ?_
          refine Wx.gyes rfl rfl (congrArg Value.bool g_24) ?_
          refine Wx.rd (v := .int .i64 ((ix (0, 0) l k).2)) (rd_move rfl) rfl ?_
          refine Wx.gyes rfl rfl (congrArg Value.bool g_24) ?_
          refine Wx.rd (v := .int .i64 (max ((ix (0, 0) l k).1) ((ix (0, 0) l k).2))) (rd_max rfl rfl) rfl ?_
          refine Wx.gyes rfl rfl (congrArg Value.bool g_24) ?_
          refine Wx.rd (v := .string rim) (rd_move rfl) rfl ?_
          refine Wx.gyes rfl rfl (congrArg Value.bool g_24) ?_
          refine Wx.rd (v := .int .i64 (rim.size : Int)) (rd_lenS rfl Tryd.underlying9) rfl ?_
          refine Wx.gyes rfl rfl (congrArg Value.bool g_24) ?_
          refine Wx.rd (v := .bool (decide ((rim.size : Int) ≤ (max ((ix (0, 0) l k).1) ((ix (0, 0) l k).2))))) (rd_geq rfl rfl) rfl ?_
          refine Wx.rd (v := .bool (decide ((rim.size : Int) ≤ (max ((ix (0, 0) l k).1) ((ix (0, 0) l k).2))))) (rd_pickF (congrArg Value.bool g_24) rfl) rfl ?_
          refine Wx.nil ⟨(), hS, ⟨?_, trivial⟩, Out.look rfl Out.refl⟩
          show Value.bool (decide ((rim.size : Int) ≤ (max ((ix (0, 0) l k).1) ((ix (0, 0) l k).2)))) = Value.bool (decide ((min ((ix (0, 0) l k).1) ((ix (0, 0) l k).2)) < 0) || decide ((rim.size : Int) ≤ (max ((ix (0, 0) l k).1) ((ix (0, 0) l k).2))))
          rw [g_24]; rfl
      rintro ⟨⟩ u_28 w_27 hS
      refine Wx.rd (v := .bool (decide ((min ((ix (0, 0) l k).1) ((ix (0, 0) l k).2)) < 0) || decide ((rim.size : Int) ≤ (max ((ix (0, 0) l k).1) ((ix (0, 0) l k).2))))) (rd_assign rfl) rfl ?_
      refine Wx.nil ?_
      refine W.cond rfl (fun c2 => ?_) (fun c2 => ?_)
      · -- yes
        try simp only [Bool.and_eq_true, Bool.or_eq_true, Bool.not_eq_true', Bool.and_eq_false_iff, Bool.or_eq_false_iff, Bool.not_eq_false', decide_eq_true_eq, decide_eq_false_iff_not, not_or, Bool.false_eq_true, Bool.true_eq_false, false_or, or_false, not_false_eq_true] at c2
        refine W.seq ?_
        refine W.reg ?_
        refine Wx.rd (v := .int .i64 2) (rd_assign rfl) rfl ?_
        refine Wx.nil ?_
        have e1_0 : (validE rim l) = (2 : Int) := by exact validT_bad h0 c1 h2 (badX_none (by omega)) (by decide) hr0
        exact W.ret ⟨.int .i64 2, ResIs.one, hS.bel, (by rw [e1_0])⟩
      · -- no
        try simp only [Bool.and_eq_true, Bool.or_eq_true, Bool.not_eq_true', Bool.and_eq_false_iff, Bool.or_eq_false_iff, Bool.not_eq_false', decide_eq_true_eq, decide_eq_false_iff_not, not_or, Bool.false_eq_true, Bool.true_eq_false, false_or, or_false, not_false_eq_true] at c2
        refine W.seq ?_
        refine W.reg ?_
        refine Wx.rd (v := .int .i64 ((ix (0, 0) l k).1)) (rd_move rfl) rfl ?_
        refine Wx.rd (v := .int .i64 ((ix (0, 0) l k).2)) (rd_move rfl) rfl ?_
        refine Wx.rd (v := .bool (decide (((ix (0, 0) l k).2) ≤ ((ix (0, 0) l k).1)))) (rd_geq rfl rfl) rfl ?_
        refine Wx.rd (v := .bool (decide (((ix (0, 0) l k).2) ≤ ((ix (0, 0) l k).1)))) (rd_assign rfl) rfl ?_
        refine Wx.nil ?_
        refine W.condD rfl (fun c3 => ?_) (fun c3 => ?_)
        · -- yes
          refine W.seq ?_
          refine W.reg ?_
          refine Wx.rd (v := .int .i64 7) (rd_assign rfl) rfl ?_
          refine Wx.nil ?_
          have e2_0 : (validE rim l) = (7 : Int) := by exact validT_bad h0 c1 h2 (badX_order ⟨by omega, by omega⟩ c3) (by decide) hr0
          exact W.ret ⟨.int .i64 7, ResIs.one, hS.bel, (by rw [e2_0])⟩
        · -- no
          have hx0 : 0 ≤ (ix (0, 0) l k).1 ∧ (ix (0, 0) l k).1 ≤ 11 ∧ 0 ≤ (ix (0, 0) l k).2 ∧ (ix (0, 0) l k).2 ≤ 11 := ⟨by omega, by omega, by omega, by omega⟩
          have hb1 := h3.bd (ix (0, 0) l k).1 (by omega) (by omega)
          have hb2 := h3.bd (ix (0, 0) l k).2 (by omega) (by omega)
          have hu1 := h3.used (q := (ix (0, 0) l k).1) (by omega) (by omega)
          have hu2 := h3.used (q := (ix (0, 0) l k).2) (by omega) (by omega)
          have hv1 := h3.free (q := (ix (0, 0) l k).1) (by omega) (by omega)
          have hv2 := h3.free (q := (ix (0, 0) l k).2) (by omega) (by omega)
          refine W.seq ?_
          refine W.reg ?_
          refine Wx.rd (v := .int .i64 ((ix (0, 0) l k).1)) (rd_move rfl) rfl ?_
          refine Wx.rd (v := .pointer (some ⟨g_4, 0 + ((ix (0, 0) l k).1).toNat * 1, none⟩)) (rd_indexArr rfl rfl Tryd.underlying76 Tryd.sizeOf3 (by omega) (by omega)) rfl ?_
          refine Wx.rd (v := .int .i64 (ix 0 tb ((ix (0, 0) l k).1))) (rd_loadXa (d := 0) (f := (Value.int .i64)) (j := ((ix (0, 0) l k).1)) hS 1 rfl rfl (by omega) (by omega) (by omega) Tryd.isAgg3) rfl ?_
          refine Wx.rd (v := .bool (decide (0 < (ix 0 tb ((ix (0, 0) l k).1))))) (rd_gtr rfl rfl) rfl ?_
          refine Wx.rd (v := .bool (decide (0 < (ix 0 tb ((ix (0, 0) l k).1))))) (rd_move rfl) rfl ?_
          refine Wx.cut (X := Unit) 5 [51, 52, 53, 54, 55] (fun _ => [(55, .bool (decide (0 < (ix 0 tb ((ix (0, 0) l k).1))) || decide (0 < (ix 0 tb ((ix (0, 0) l k).2)))))]) (fun _ w' => St w [] w' [.box g_16 58 [.int .i64 ((ix (0, 0) l k).1), .int .i64 ((ix (0, 0) l k).2)], .box g_4 76 (List.map (Value.int .i64) tb)]) ?_ ?_
          · rcases Bool.eq_false_or_eq_true (decide (0 < (ix 0 tb ((ix (0, 0) l k).1)))) with g_29 | g_29
            · -- True
              have gp_30 := of_decide_eq_true g_29
              refine Wx.gnoB rfl rfl (congrArg Value.bool g_29) rfl rfl ?_
              refine Wx.gnoB rfl rfl (congrArg Value.bool g_29) rfl rfl ?_
              refine Wx.gnoB rfl rfl (congrArg Value.bool g_29) rfl rfl ?_
              refine Wx.gnoB rfl rfl (congrArg Value.bool g_29) rfl rfl ?_
              refine Wx.rd (v := .bool true) (rd_pickT (congrArg Value.bool g_29) rfl) rfl ?_
              refine Wx.nil ⟨(), hS, ⟨?_, trivial⟩, Out.look rfl Out.refl⟩
              show Value.bool true = Value.bool (decide (0 < (ix 0 tb ((ix (0, 0) l k).1))) || decide (0 < (ix 0 tb ((ix (0, 0) l k).2))))
              rw [g_29]; rfl
            · -- False
              have gp_31 := of_decide_eq_false g_29
              refine Wx.gyes rfl rfl (congrArg Value.bool g_29) ?_
              refine Wx.rd (v := .int .i64 ((ix (0, 0) l k).2)) (rd_move rfl) rfl ?_
              refine Wx.gyes rfl rfl (congrArg Value.bool g_29) ?_
              refine Wx.rd (v := .pointer (some ⟨g_4, 0 + ((ix (0, 0) l k).2).toNat * 1, none⟩)) (rd_indexArr rfl rfl Tryd.underlying76 Tryd.sizeOf3 (by omega) (by omega)) rfl ?_
              refine Wx.gyes rfl rfl (congrArg Value.bool g_29) ?_
              refine Wx.rd (v := .int .i64 (ix 0 tb ((ix (0, 0) l k).2))) (rd_loadXa (d := 0) (f := (Value.int .i64)) (j := ((ix (0, 0) l k).2)) hS 1 rfl rfl (by omega) (by omega) (by omega) Tryd.isAgg3) rfl ?_
              refine Wx.gyes rfl rfl (congrArg Value.bool g_29) ?_
              refine Wx.rd (v := .bool (decide (0 < (ix 0 tb ((ix (0, 0) l k).2))))) (rd_gtr rfl rfl) rfl ?_
              refine Wx.rd (v := .bool (decide (0 < (ix 0 tb ((ix (0, 0) l k).2))))) (rd_pickF (congrArg Value.bool g_29) rfl) rfl ?_
              refine Wx.nil ⟨(), hS, ⟨?_, trivial⟩, Out.look rfl Out.refl⟩
              show Value.bool (decide (0 < (ix 0 tb ((ix (0, 0) l k).2)))) = Value.bool (decide (0 < (ix 0 tb ((ix (0, 0) l k).1))) || decide (0 < (ix 0 tb ((ix (0, 0) l k).2))))
              rw [g_29]; rfl
          rintro ⟨⟩ u_33 w_32 hS
          refine Wx.rd (v := .bool (decide (0 < (ix 0 tb ((ix (0, 0) l k).1))) || decide (0 < (ix 0 tb ((ix (0, 0) l k).2))))) (rd_assign rfl) rfl ?_
          refine Wx.nil ?_
          refine W.cond rfl (fun c4 => ?_) (fun c4 => ?_)
          · -- yes
            try simp only [Bool.and_eq_true, Bool.or_eq_true, Bool.not_eq_true', Bool.and_eq_false_iff, Bool.or_eq_false_iff, Bool.not_eq_false', decide_eq_true_eq, decide_eq_false_iff_not, not_or, Bool.false_eq_true, Bool.true_eq_false, false_or, or_false, not_false_eq_true] at c4
            refine W.seq ?_
            refine W.reg ?_
            refine Wx.rd (v := .int .i64 6) (rd_assign rfl) rfl ?_
            refine Wx.nil ?_
            have e3_0 : (validE rim l) = (6 : Int) := by exact validT_bad h0 c1 h2 (badX_twice ⟨by omega, by omega⟩ (by omega) (c4.imp hu1.1 hu2.1)) (by decide) hr0
            exact W.ret ⟨.int .i64 6, ResIs.one, hS.bel, (by rw [e3_0])⟩
          · -- no
            try simp only [Bool.and_eq_true, Bool.or_eq_true, Bool.not_eq_true', Bool.and_eq_false_iff, Bool.or_eq_false_iff, Bool.not_eq_false', decide_eq_true_eq, decide_eq_false_iff_not, not_or, Bool.false_eq_true, Bool.true_eq_false, false_or, or_false, not_false_eq_true] at c4
            refine W.seq ?_
            refine W.reg ?_
            refine Wx.rd (v := .string rim) (rd_move rfl) rfl ?_
            refine Wx.rd (v := .int .i64 ((ix (0, 0) l k).1)) (rd_move rfl) rfl ?_
            refine Wx.rd (v := .int .i64 ((ix (0, 0) l k).2)) (rd_move rfl) rfl ?_
            refine Wx.callF (run_callF Tryd.call61 rfl) (F61 (by first | assumption | (simp only [maxLen]; omega) | (simp only [ByteArray.size_extract, ByteArray.size_append, maxLen] at *; omega) | decide) (in_i64 (by omega) (by omega)) (in_i64 (by omega) (by omega)) (by omega) (by omega) (by omega) (by omega) (by omega) (hG.ext hS.bel)) rfl ?_
            rintro r_34 w_35 hx_36 rfl
            have hS := hS.ext hx_36
            refine Wx.rd (v := .bool (!(fitR rim ((ix (0, 0) l k).1) ((ix (0, 0) l k).2)))) (rd_not rfl) rfl ?_
            refine Wx.rd (v := .bool (!(fitR rim ((ix (0, 0) l k).1) ((ix (0, 0) l k).2)))) (rd_assign rfl) rfl ?_
            refine Wx.nil ?_
            refine W.cond rfl (fun c5 => ?_) (fun c5 => ?_)
            · -- yes
              try simp only [Bool.and_eq_true, Bool.or_eq_true, Bool.not_eq_true', Bool.and_eq_false_iff, Bool.or_eq_false_iff, Bool.not_eq_false', decide_eq_true_eq, decide_eq_false_iff_not, not_or, Bool.false_eq_true, Bool.true_eq_false, false_or, or_false, not_false_eq_true] at c5
              refine W.seq ?_
              refine W.reg ?_
              refine Wx.rd (v := .int .i64 13) (rd_assign rfl) rfl ?_
              refine Wx.nil ?_
              have e4_0 : (validE rim l) = (13 : Int) := by exact validT_bad h0 c1 h2 (badX_clash ⟨by omega, by omega⟩ (by omega) (hv1.2 c4.1) (hv2.2 c4.2) c5) (by decide) hr0
              exact W.ret ⟨.int .i64 13, ResIs.one, hS.bel, (by rw [e4_0])⟩
            · -- no
              try simp only [Bool.and_eq_true, Bool.or_eq_true, Bool.not_eq_true', Bool.and_eq_false_iff, Bool.or_eq_false_iff, Bool.not_eq_false', decide_eq_true_eq, decide_eq_false_iff_not, not_or, Bool.false_eq_true, Bool.true_eq_false, false_or, or_false, not_false_eq_true] at c5
              refine W.skip ?_
              refine W.seq ?_
              refine W.seq ?_
              refine W.reg ?_
              refine Wx.rd (v := .int .i64 ((ix (0, 0) l k).1)) (rd_move rfl) rfl ?_
              refine Wx.rd (v := .int .i64 (((ix (0, 0) l k).1) + 1)) (rd_add rfl rfl (in_i64 (by omega) (by omega))) rfl ?_
              refine Wx.rd (v := .int .i64 (((ix (0, 0) l k).1) + 1)) (rd_assign rfl) rfl ?_
              refine Wx.nil ?_
              refine W.block ?_
              refine W.loop [4, 12, 64, 65, 66, 67, 68, 69, 70, 71, 72, 73, 74, 75, 76, 77, 78, 79, 80, 81, 82, 83, 84, 85, 86, 87, 88] (fun (q : Int) => [(12, .int .i64 q)]) (fun (q : Int) w' => St w [] w' [.box g_16 58 [.int .i64 ((ix (0, 0) l k).1), .int .i64 ((ix (0, 0) l k).2)], .box g_4 76 (List.map (Value.int .i64) tb)] ∧ (ix (0, 0) l k).1 < q ∧ q ≤ (ix (0, 0) l k).2 ∧ (∀ r, (ix (0, 0) l k).1 < r → r < q → ¬ badQ tb (ix (0, 0) l k).1 (ix (0, 0) l k).2 r)) (fun (q : Int) => ((ix (0, 0) l k).2 - q).toNat) (((ix (0, 0) l k).1) + 1) ⟨rfl, trivial⟩ ⟨hS, (by first | omega | simp), (by first | omega | simp), (fun r r1 r2 => by omega)⟩ ?_
              rintro q u_38 w_37 ⟨hS, g0, g1, g2⟩
              refine W.seq ?_
              refine W.seq ?_
              refine W.reg ?_
              refine Wx.rd (v := .int .i64 q) (rd_move rfl) rfl ?_
              refine Wx.rd (v := .int .i64 ((ix (0, 0) l k).2)) (rd_move rfl) rfl ?_
              refine Wx.rd (v := .bool (decide (q < ((ix (0, 0) l k).2)))) (rd_lss rfl rfl) rfl ?_
              refine Wx.nil ?_
              refine W.condD rfl (fun c6 => ?_) (fun c6 => ?_)
              · -- yes
                have hbq := h3.bd q (by omega) (by omega)
                refine W.skip ?_
                refine W.seq ?_
                refine W.block ?_
                refine W.seq ?_
                refine W.reg ?_
                refine Wx.rd (v := .int .i64 q) (rd_move rfl) rfl ?_
                refine Wx.rd (v := .pointer (some ⟨g_4, 0 + q.toNat * 1, none⟩)) (rd_indexArr rfl rfl Tryd.underlying76 Tryd.sizeOf3 (by omega) (by omega)) rfl ?_
                refine Wx.rd (v := .int .i64 (ix 0 tb q)) (rd_loadXa (d := 0) (f := (Value.int .i64)) (j := q) hS 1 rfl rfl (by omega) (by omega) (by omega) Tryd.isAgg3) rfl ?_
                refine Wx.rd (v := .bool (decide (0 < (ix 0 tb q)))) (rd_gtr rfl rfl) rfl ?_
                refine Wx.rd (v := .bool (decide (0 < (ix 0 tb q)))) (rd_move rfl) rfl ?_
                refine Wx.cut (X := Unit) 15 [74, 75, 76, 77, 78, 79, 80, 81, 82, 83, 84, 85, 86, 87, 88] (fun _ => [(88, .bool (decide (0 < (ix 0 tb q)) && (decide (((ix 0 tb q) - 1) < ((ix (0, 0) l k).1)) || decide (((ix (0, 0) l k).2) < ((ix 0 tb q) - 1)))))]) (fun _ w' => St w [] w' [.box g_16 58 [.int .i64 ((ix (0, 0) l k).1), .int .i64 ((ix (0, 0) l k).2)], .box g_4 76 (List.map (Value.int .i64) tb)]) ?_ ?_
                · rcases Bool.eq_false_or_eq_true (decide (0 < (ix 0 tb q))) with g_39 | g_39
                  · -- True
                    have gp_40 := of_decide_eq_true g_39
                    refine Wx.gyes rfl rfl (congrArg Value.bool g_39) ?_
                    refine Wx.rd (v := .int .i64 q) (rd_move rfl) rfl ?_
                    refine Wx.gyes rfl rfl (congrArg Value.bool g_39) ?_
                    refine Wx.rd (v := .pointer (some ⟨g_4, 0 + q.toNat * 1, none⟩)) (rd_indexArr rfl rfl Tryd.underlying76 Tryd.sizeOf3 (by omega) (by omega)) rfl ?_
                    refine Wx.gyes rfl rfl (congrArg Value.bool g_39) ?_
                    refine Wx.rd (v := .int .i64 (ix 0 tb q)) (rd_loadXa (d := 0) (f := (Value.int .i64)) (j := q) hS 1 rfl rfl (by omega) (by omega) (by omega) Tryd.isAgg3) rfl ?_
                    refine Wx.gyes rfl rfl (congrArg Value.bool g_39) ?_
                    refine Wx.rd (v := .int .i64 ((ix 0 tb q) - 1)) (rd_sub rfl rfl (in_i64 (by omega) (by omega))) rfl ?_
                    refine Wx.gyes rfl rfl (congrArg Value.bool g_39) ?_
                    refine Wx.rd (v := .int .i64 ((ix (0, 0) l k).1)) (rd_move rfl) rfl ?_
                    refine Wx.gyes rfl rfl (congrArg Value.bool g_39) ?_
                    refine Wx.rd (v := .bool (decide (((ix 0 tb q) - 1) < ((ix (0, 0) l k).1)))) (rd_lss rfl rfl) rfl ?_
                    refine Wx.gyes rfl rfl (congrArg Value.bool g_39) ?_
                    refine Wx.rd (v := .bool (decide (((ix 0 tb q) - 1) < ((ix (0, 0) l k).1)))) (rd_move rfl) rfl ?_
                    refine Wx.cut (X := Unit) 7 [81, 82, 83, 84, 85, 86, 87] (fun _ => [(87, .bool (decide (((ix 0 tb q) - 1) < ((ix (0, 0) l k).1)) || decide (((ix (0, 0) l k).2) < ((ix 0 tb q) - 1))))]) (fun _ w' => St w [] w' [.box g_16 58 [.int .i64 ((ix (0, 0) l k).1), .int .i64 ((ix (0, 0) l k).2)], .box g_4 76 (List.map (Value.int .i64) tb)]) ?_ ?_
                    · rcases Bool.eq_false_or_eq_true (decide (((ix 0 tb q) - 1) < ((ix (0, 0) l k).1))) with g_41 | g_41
                      · -- True
                        have gp_42 := of_decide_eq_true g_41
                        refine Wx.gnoB rfl rfl (congrArg Value.bool g_41) rfl rfl ?_
                        refine Wx.gnoB rfl rfl (congrArg Value.bool g_41) rfl rfl ?_
                        refine Wx.gnoB rfl rfl (congrArg Value.bool g_41) rfl rfl ?_
                        refine Wx.gnoB rfl rfl (congrArg Value.bool g_41) rfl rfl ?_
                        refine Wx.gnoB rfl rfl (congrArg Value.bool g_41) rfl rfl ?_
                        refine Wx.gnoB rfl rfl (congrArg Value.bool g_41) rfl rfl ?_
                        refine Wx.gyes rfl rfl (congrArg Value.bool g_39) ?_
                        refine Wx.rd (v := .bool true) (rd_pickT (congrArg Value.bool g_41) rfl) rfl ?_
                        refine Wx.nil ⟨(), hS, ⟨?_, trivial⟩, Out.look rfl Out.refl⟩
                        show Value.bool true = Value.bool (decide (((ix 0 tb q) - 1) < ((ix (0, 0) l k).1)) || decide (((ix (0, 0) l k).2) < ((ix 0 tb q) - 1)))
                        rw [g_41]; rfl
                      · -- False
                        have gp_43 := of_decide_eq_false g_41
                        refine Wx.gyes rfl rfl (congrArg Value.bool g_41) ?_
                        refine Wx.rd (v := .int .i64 q) (rd_move rfl) rfl ?_
                        refine Wx.gyes rfl rfl (congrArg Value.bool g_41) ?_
                        refine Wx.rd (v := .pointer (some ⟨g_4, 0 + q.toNat * 1, none⟩)) (rd_indexArr rfl rfl Tryd.underlying76 Tryd.sizeOf3 (by omega) (by omega)) rfl ?_
                        refine Wx.gyes rfl rfl (congrArg Value.bool g_41) ?_
                        refine Wx.rd (v := .int .i64 (ix 0 tb q)) (rd_loadXa (d := 0) (f := (Value.int .i64)) (j := q) hS 1 rfl rfl (by omega) (by omega) (by omega) Tryd.isAgg3) rfl ?_
                        refine Wx.gyes rfl rfl (congrArg Value.bool g_41) ?_
                        refine Wx.rd (v := .int .i64 ((ix 0 tb q) - 1)) (rd_sub rfl rfl (in_i64 (by omega) (by omega))) rfl ?_
                        refine Wx.gyes rfl rfl (congrArg Value.bool g_41) ?_
                        refine Wx.rd (v := .int .i64 ((ix (0, 0) l k).2)) (rd_move rfl) rfl ?_
                        refine Wx.gyes rfl rfl (congrArg Value.bool g_41) ?_
                        refine Wx.rd (v := .bool (decide (((ix (0, 0) l k).2) < ((ix 0 tb q) - 1)))) (rd_gtr rfl rfl) rfl ?_
                        refine Wx.gyes rfl rfl (congrArg Value.bool g_39) ?_
                        refine Wx.rd (v := .bool (decide (((ix (0, 0) l k).2) < ((ix 0 tb q) - 1)))) (rd_pickF (congrArg Value.bool g_41) rfl) rfl ?_
                        refine Wx.nil ⟨(), hS, ⟨?_, trivial⟩, Out.look rfl Out.refl⟩
                        show Value.bool (decide (((ix (0, 0) l k).2) < ((ix 0 tb q) - 1))) = Value.bool (decide (((ix 0 tb q) - 1) < ((ix (0, 0) l k).1)) || decide (((ix (0, 0) l k).2) < ((ix 0 tb q) - 1)))
                        rw [g_41]; rfl
                    rintro ⟨⟩ u_45 w_44 hS
                    refine Wx.rd (v := .bool (decide (((ix 0 tb q) - 1) < ((ix (0, 0) l k).1)) || decide (((ix (0, 0) l k).2) < ((ix 0 tb q) - 1)))) (rd_pickT (congrArg Value.bool g_39) rfl) rfl ?_
                    refine Wx.nil ⟨(), hS, ⟨?_, trivial⟩, Out.look rfl (Out.hav rfl (Out.look rfl Out.refl))⟩
                    show Value.bool (decide (((ix 0 tb q) - 1) < ((ix (0, 0) l k).1)) || decide (((ix (0, 0) l k).2) < ((ix 0 tb q) - 1))) = Value.bool (decide (0 < (ix 0 tb q)) && (decide (((ix 0 tb q) - 1) < ((ix (0, 0) l k).1)) || decide (((ix (0, 0) l k).2) < ((ix 0 tb q) - 1))))
                    rw [g_39]; rfl
                  · -- False
                    have gp_46 := of_decide_eq_false g_39
                    refine Wx.gnoB rfl rfl (congrArg Value.bool g_39) rfl rfl ?_
                    refine Wx.gnoB rfl rfl (congrArg Value.bool g_39) rfl rfl ?_
                    refine Wx.gnoB rfl rfl (congrArg Value.bool g_39) rfl rfl ?_
                    refine Wx.gnoB rfl rfl (congrArg Value.bool g_39) rfl rfl ?_
                    refine Wx.gnoB rfl rfl (congrArg Value.bool g_39) rfl rfl ?_
                    refine Wx.gnoB rfl rfl (congrArg Value.bool g_39) rfl rfl ?_
                    refine Wx.gnoB rfl rfl (congrArg Value.bool g_39) rfl rfl ?_
                    refine Wx.gno rfl rfl rfl rfl ?_
                    refine Wx.gno rfl rfl rfl rfl ?_
                    refine Wx.gno rfl rfl rfl rfl ?_
                    refine Wx.gno rfl rfl rfl rfl ?_
                    refine Wx.gno rfl rfl rfl rfl ?_
                    refine Wx.gno rfl rfl rfl rfl ?_
                    refine Wx.gnoB rfl rfl (congrArg Value.bool g_39) rfl rfl ?_
                    refine Wx.rd (v := .bool false) (rd_pickF (congrArg Value.bool g_39) rfl) rfl ?_
                    refine Wx.nil ⟨(), hS, ⟨?_, trivial⟩, Out.look rfl Out.refl⟩
                    show Value.bool false = Value.bool (decide (0 < (ix 0 tb q)) && (decide (((ix 0 tb q) - 1) < ((ix (0, 0) l k).1)) || decide (((ix (0, 0) l k).2) < ((ix 0 tb q) - 1))))
                    rw [g_39]; rfl
                rintro ⟨⟩ u_48 w_47 hS
                refine Wx.nil ?_
                refine W.cond rfl (fun c7 => ?_) (fun c7 => ?_)
                · -- yes
                  try simp only [Bool.and_eq_true, Bool.or_eq_true, Bool.not_eq_true', Bool.and_eq_false_iff, Bool.or_eq_false_iff, Bool.not_eq_false', decide_eq_true_eq, decide_eq_false_iff_not, not_or, Bool.false_eq_true, Bool.true_eq_false, false_or, or_false, not_false_eq_true] at c7
                  refine W.seq ?_
                  refine W.reg ?_
                  refine Wx.rd (v := .int .i64 5) (rd_assign rfl) rfl ?_
                  refine Wx.nil ?_
                  have e5_0 : (validE rim l) = (5 : Int) := by exact validT_bad h0 c1 h2 (badX_shape ⟨by omega, by omega⟩ (by omega) (hv1.2 c4.1) (hv2.2 c4.2) c5 (h3.cross (i := (ix (0, 0) l k).1) (j := (ix (0, 0) l k).2) (by omega) (by omega) c6 (by omega) c7)) (by decide) hr0
                  exact W.ret ⟨.int .i64 5, ResIs.one, hS.bel, (by rw [e5_0])⟩
                · -- no
                  try simp only [Bool.and_eq_true, Bool.or_eq_true, Bool.not_eq_true', Bool.and_eq_false_iff, Bool.or_eq_false_iff, Bool.not_eq_false', decide_eq_true_eq, decide_eq_false_iff_not, not_or, Bool.false_eq_true, Bool.true_eq_false, false_or, or_false, not_false_eq_true] at c7
                  refine W.skip ?_
                  refine W.reg ?_
                  refine Wx.rd (v := .int .i64 q) (rd_move rfl) rfl ?_
                  refine Wx.rd (v := .int .i64 (q + 1)) (rd_add rfl rfl (in_i64 (by omega) (by omega))) rfl ?_
                  refine Wx.rd (v := .int .i64 (q + 1)) (rd_assign rfl) rfl ?_
                  refine Wx.nil ?_
                  refine ⟨q + 1, (by show ((ix (0, 0) l k).2 - (q + 1)).toNat < ((ix (0, 0) l k).2 - q).toNat; omega), ?_, ?_, Out.look rfl (Out.hav rfl (Out.look rfl Out.self))⟩
                  · exact ⟨hS, (by first | omega | assumption), (by first | omega | assumption), (fun r r1 r2 => by by_cases hq : r = q; (subst hq; exact fun hb => by have := hb.1; have := hb.2; omega); exact g2 r r1 (by omega))⟩
                  · exact ⟨rfl, trivial⟩
              · -- no
                have hap := h3.apart (i := (ix (0, 0) l k).1) (j := (ix (0, 0) l k).2) (by omega) (by omega) (by omega) (hv1.2 c4.1) (hv2.2 c4.2) (fun r r1 r2 => g2 r r1 (by omega))
                refine W.exit rfl ?_
                refine W.seq ?_
                refine W.seq ?_
                refine W.reg ?_
                refine Wx.rd (v := .int .i64 ((ix (0, 0) l k).1)) (rd_move rfl) rfl ?_
                refine Wx.rd (v := .int .i64 last) (rd_move rfl) rfl ?_
                refine Wx.rd (v := .bool (decide (((ix (0, 0) l k).1) < last))) (rd_lss rfl rfl) rfl ?_
                refine Wx.nil ?_
                refine W.condD rfl (fun c8 => ?_) (fun c8 => ?_)
                · -- yes
                  refine W.seq ?_
                  refine W.reg ?_
                  refine Wx.rd (v := .int .i64 7) (rd_assign rfl) rfl ?_
                  refine Wx.nil ?_
                  have e6_0 : (validE rim l) = (7 : Int) := by exact validT_bad h0 c1 h2 (badX_late ⟨by omega, by omega⟩ (by omega) (hv1.2 c4.1) (hv2.2 c4.2) c5 hap (by omega)) (by decide) hr0
                  exact W.ret ⟨.int .i64 7, ResIs.one, hS.bel, (by rw [e6_0])⟩
                · -- no
                  refine W.skip ?_
                  refine W.reg ?_
                  refine Wx.rd (v := .int .i64 ((ix (0, 0) l k).1)) (rd_move rfl) rfl ?_
                  refine Wx.rd (v := .int .i64 ((ix (0, 0) l k).2)) (rd_move rfl) rfl ?_
                  refine Wx.rd (v := .int .i64 ((ix (0, 0) l k).2)) (rd_move rfl) rfl ?_
                  refine Wx.rd (v := .int .i64 (((ix (0, 0) l k).2) + 1)) (rd_add rfl rfl (in_i64 (by omega) (by omega))) rfl ?_
                  refine Wx.rd (v := .int .i64 ((ix (0, 0) l k).1)) (rd_move rfl) rfl ?_
                  refine Wx.rd (v := .int .i64 (((ix (0, 0) l k).1) + 1)) (rd_add rfl rfl (in_i64 (by omega) (by omega))) rfl ?_
                  refine Wx.rd (v := .int .i64 ((ix (0, 0) l k).1)) (rd_move rfl) rfl ?_
                  refine Wx.rd (v := .pointer (some ⟨g_4, 0 + ((ix (0, 0) l k).1).toNat * 1, none⟩)) (rd_indexArr rfl rfl Tryd.underlying76 Tryd.sizeOf3 (by omega) (by omega)) rfl ?_
                  refine Wx.storeXa (j := ((ix (0, 0) l k).1)) (f := (Value.int .i64)) (u := (((ix (0, 0) l k).2) + 1)) hS 1 rfl rfl (by omega) rfl rfl rfl Tryd.sizeOf3 (by omega) (by omega) (fun w_49 hz_50 hS => ?_)
                  refine Wx.rd (v := .pointer (some ⟨g_4, 0 + ((ix (0, 0) l k).2).toNat * 1, none⟩)) (rd_indexArr rfl rfl Tryd.underlying76 Tryd.sizeOf3 (by omega) (by omega)) rfl ?_
                  refine Wx.storeXa (j := ((ix (0, 0) l k).2)) (f := (Value.int .i64)) (u := (((ix (0, 0) l k).1) + 1)) hS 1 rfl rfl (by omega) rfl rfl rfl Tryd.sizeOf3 (by omega) (by rw [List.length_set]; omega) (fun w_51 hz_52 hS => ?_)
                  refine Wx.rd (v := .int .i64 ((ix (0, 0) l k).1)) (rd_assign rfl) rfl ?_
                  refine Wx.nil ?_
                  refine W.reg ?_
                  refine Wx.rd (v := .int .i64 (k + 1)) (rd_add rfl rfl (in_i64 (by omega) (by omega))) rfl ?_
                  refine Wx.rd (v := .int .i64 (k + 1)) (rd_move rfl) rfl ?_
                  refine Wx.nil ?_
                  refine ⟨((ix (0, 0) l k).1, k + 1, List.set (List.set tb ((ix (0, 0) l k).1).toNat (((ix (0, 0) l k).2) + 1)) ((ix (0, 0) l k).2).toNat (((ix (0, 0) l k).1) + 1)), (by show (l.length - (k + 1)).toNat < (l.length - k).toNat; omega), ?_, ?_, Out.look rfl (Out.hav rfl (Out.look rfl (Out.hav rfl (Out.look rfl (Out.hav rfl (Out.look rfl Out.self))))))⟩
                  · exact ⟨hS.tl, (by first | omega | assumption), (by first | omega | assumption), (validT_good h0 c1 h2 (badX_good ⟨by omega, by omega⟩ (by omega) (hv1.2 c4.1) (hv2.2 c4.2) c5 hap (by omega))), (by rw [take_ix (d := (0, 0)) h0 c1]; exact h3.push (i := (ix (0, 0) l k).1) (j := (ix (0, 0) l k).2) (by omega) (by omega) (by omega) (hv1.2 c4.1) (hv2.2 c4.2)), ((lastI_next h0 c1).symm)⟩
                  · exact ⟨rfl, rfl, trivial⟩
    · -- no
      refine W.exit rfl ?_
      refine W.seq ?_
      refine W.reg ?_
      refine Wx.rd (v := .int .i64 0) (rd_assign rfl) rfl ?_
      refine Wx.nil ?_
      have e7_0 : (validE rim l) = (0 : Int) := by exact validT_end (by omega) h2 hr0
      exact W.ret ⟨.int .i64 0, ResIs.one, hS.bel, (by rw [e7_0])⟩
end Go.Proofs.YtokdjjebnomciaaDoor
