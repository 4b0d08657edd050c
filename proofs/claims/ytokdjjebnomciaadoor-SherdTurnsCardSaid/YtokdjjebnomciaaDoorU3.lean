/-
  WHAT IS PROVED HERE, TEXT BY TEXT (several texts of one prover, joined to one file; the conditions stand in each statement):
  * WHAT IS PROVED HERE: plain laws of words of numbers from which neighbours whose sum is 0 are taken away; there is a full plan just if nothing is left. No program in sight. Conditions stand in each statement.
  * WHAT IS PROVED HERE: plain laws of the core of a word: a word that is turned has a core that is turned. No program in sight. Conditions stand in each statement.
  * WHAT IS PROVED HERE: plain laws that join the program and the reference: full plans, joins of all greatest plans, rims compared. No program in sight. Conditions stand in each statement.
  * WHAT IS SAID HERE: the examples' rims, and joins out of a list of numbers. No program in sight.
  * WHAT IS PROVED HERE: what functions of layer 5 hand back, each out of its own code; the conditions stand in each statement.
  * WHAT IS PROVED HERE: what functions of layer 5 hand back, each out of its own code; the conditions stand in each statement.
-/
import Derived.Test.YtokdjjebnomciaaDoorU2
import Derived.Lib.IndexLaws
import Derived.Lib.IndexMore
import Derived.Test.YtokdjjebnomciaaDoorProg

set_option linter.unusedVariables false
set_option linter.unusedSimpArgs false

namespace Go.Proofs.YtokdjjebnomciaaDoor
set_option linter.unusedVariables false

/-- What is left, the last one first, and a number more. -/
def stk : List Int → Int → List Int
  | [], c => [c]
  | t :: r, c => if t + c = 0 then r else c :: t :: r
def runK (st w : List Int) : List Int := w.foldl stk st
def redK (w : List Int) : List Int := runK [] w
def Irr : List Int → Prop
  | t :: u :: r => t + u ≠ 0 ∧ Irr (u :: r)
  | _ => True
theorem Irr.tl {t : Int} {r : List Int} (h : Irr (t :: r)) : Irr r := by
  cases r with
  | nil => trivial
  | cons u r => exact h.2
theorem stk_irr {st : List Int} {c : Int} (h : Irr st) : Irr (stk st c) := by
  cases st with
  | nil => trivial
  | cons t r =>
    rw [stk]; split
    · exact h.tl
    · next hn => exact ⟨by omega, h⟩
theorem stk_two {st : List Int} {a b : Int} (h : Irr st) (hab : a + b = 0) : stk (stk st a) b = st := by
  cases st with
  | nil => rw [stk, stk, if_pos hab]
  | cons t r =>
    rw [stk]; split
    · next ht =>
      have e : b = t := by omega
      subst e
      cases r with
      | nil => rfl
      | cons u r => rw [stk, if_neg (by have := h.1; omega)]
    · rw [stk, if_pos hab]
theorem runK_irr : ∀ {w st : List Int}, Irr st → Irr (runK st w)
  | [], _, h => h
  | c :: w, _, h => runK_irr (w := w) (stk_irr h)
theorem runK_app (st u v : List Int) : runK st (u ++ v) = runK (runK st u) v := List.foldl_append
theorem runK_cons (st : List Int) (c : Int) (v : List Int) : runK st (c :: v) = runK (stk st c) v := rfl
/-- Two neighbours that are taken away change nothing. -/
theorem runK_del {st u v : List Int} {a b : Int} (h : Irr st) (hab : a + b = 0) : runK st (u ++ a :: b :: v) = runK st (u ++ v) := by
  rw [runK_app, runK_app, runK_cons, runK_cons, stk_two (runK_irr h) hab]
theorem redK_del {u v : List Int} {a b : Int} (hab : a + b = 0) : redK (u ++ a :: b :: v) = redK (u ++ v) := runK_del trivial hab
theorem runK_bottom {c : Int} : ∀ {w t : List Int}, runK (t ++ [c]) w = [] → ∃ u d v, w = u ++ d :: v ∧ runK t u = [] ∧ c + d = 0 ∧ redK v = []
  | [], t, h => by
    have h : t ++ [c] = [] := h
    simp at h
  | d :: w, [], h => by
    rw [List.nil_append, runK_cons, stk] at h
    by_cases hc : c + d = 0
    · rw [if_pos hc] at h
      exact ⟨[], d, w, rfl, rfl, hc, h⟩
    · rw [if_neg hc] at h
      obtain ⟨u, e, v, h1, h2, h3, h4⟩ := runK_bottom (c := c) (w := w) (t := [d]) h
      exact ⟨d :: u, e, v, by rw [h1]; rfl, h2, h3, h4⟩
  | d :: w, t0 :: t, h => by
    rw [List.cons_append, runK_cons, stk] at h
    by_cases hc : t0 + d = 0
    · rw [if_pos hc] at h
      obtain ⟨u, e, v, h1, h2, h3, h4⟩ := runK_bottom (c := c) (w := w) (t := t) h
      exact ⟨d :: u, e, v, by rw [h1]; rfl, by rw [runK_cons, stk, if_pos hc]; exact h2, h3, h4⟩
    · rw [if_neg hc] at h
      obtain ⟨u, e, v, h1, h2, h3, h4⟩ := runK_bottom (c := c) (w := w) (t := d :: t0 :: t) h
      exact ⟨d :: u, e, v, by rw [h1]; rfl, by rw [runK_cons, stk, if_neg hc]; exact h2, h3, h4⟩
/-- The first one of a word of which nothing is left goes with another one. -/
theorem red_split {c : Int} {w : List Int} (h : redK (c :: w) = []) : ∃ u d v, w = u ++ d :: v ∧ redK u = [] ∧ c + d = 0 ∧ redK v = [] := runK_bottom (t := []) h
theorem runK_nil : ∀ (m : Nat) {u st : List Int}, u.length ≤ m → redK u = [] → Irr st → runK st u = st
  | _, [], _, _, _, _ => rfl
  | 0, _ :: _, _, hm, _, _ => by simp at hm
  | m + 1, c :: w, st, hm, h, hi => by
    obtain ⟨u, d, v, rfl, h1, h2, h3⟩ := red_split h
    simp only [List.length_cons, List.length_append] at hm
    rw [runK_cons, runK_app, runK_nil m (by omega) h1 (stk_irr hi), runK_cons, stk_two hi h2, runK_nil m (by omega) h3 hi]
theorem redK_app {u v : List Int} (h : redK u = []) : redK (u ++ v) = redK v := by rw [redK, runK_app, show runK [] u = [] from h]; rfl
theorem redK_wrap {c d : Int} {u v : List Int} (h : redK u = []) (hcd : c + d = 0) (k : redK v = []) : redK (c :: (u ++ d :: v)) = [] := by
  rw [redK, runK_cons, runK_app, runK_nil _ (Nat.le_refl _) h (show Irr (stk [] c) from trivial), runK_cons, stk_two (st := []) trivial hcd]; exact k
theorem runK_rev : ∀ {w st : List Int}, Irr (w.reverse ++ st) → runK st w = w.reverse ++ st
  | [], _, _ => rfl
  | c :: w, st, h => by
    rw [List.reverse_cons, List.append_assoc] at h
    have h : Irr (w.reverse ++ c :: st) := h
    have hk : stk st c = c :: st := by
      cases st with
      | nil => rfl
      | cons t r =>
        rw [stk, if_neg]
        have : ∀ l : List Int, Irr (l ++ c :: t :: r) → c + t ≠ 0 := by
          intro l
          induction l with
          | nil => exact fun h => h.1
          | cons x l ih => exact fun h => ih h.tl
        have := this _ h
        omega
    rw [runK_cons, hk, runK_rev h, List.reverse_cons, List.append_assoc]; rfl
/-- A word of which nothing can be taken away. -/
theorem redK_irr {w : List Int} (h : Irr w.reverse) : redK w = w.reverse := by
  have := runK_rev (w := w) (st := []) (by rw [List.append_nil]; exact h)
  rw [List.append_nil] at this; exact this
theorem irr_mid {l r : List Int} {a b : Int} (h : Irr (l ++ a :: b :: r)) : a + b ≠ 0 := by
  induction l with
  | nil => exact h.1
  | cons x l ih => exact ih h.tl
theorem irr_of {l : List Int} (h : ∀ u a b v, l = u ++ a :: b :: v → a + b ≠ 0) : Irr l := by
  induction l with
  | nil => trivial
  | cons a l ih =>
    have := ih fun u x y v e => h (a :: u) x y v (by rw [e]; rfl)
    cases l with
    | nil => trivial
    | cons b r => exact ⟨h [] a b r rfl, this⟩
theorem irr_rev {l : List Int} (h : Irr l) : Irr l.reverse := irr_of fun u a b v e => by
  have : l = v.reverse ++ b :: a :: u.reverse := by rw [← List.reverse_reverse l, e]; simp
  rw [this] at h
  have := irr_mid h
  omega

/-! ### plans and words -/
variable {F : Int → Int → Bool} {wt : Int → Int} {N : Int}
/-- Edges of a rim of N edges fit just if their numbers' sum is 0. -/
def Fits (F : Int → Int → Bool) (wt : Int → Int) (N : Int) : Prop := ∀ i j, 0 ≤ i → i < N → 0 ≤ j → j < N → F i j = decide (wt i + wt j = 0)
theorem plan_of_red (hF : Fits F wt N) : ∀ (m : Nat) {L : List Int} {lo hi : Int}, L.length ≤ m → 0 ≤ lo → hi ≤ N → L.Pairwise (· < ·) → (∀ x ∈ L, lo ≤ x ∧ x < hi) → redK (L.map wt) = [] → ∃ p, Plan F lo hi p ∧ 2 * p.length = L.length
  | _, [], _, _, _, _, _, _, _, _ => ⟨[], Plan.nil, rfl⟩
  | 0, _ :: _, _, _, hm, _, _, _, _, _ => by simp at hm
  | m + 1, i :: L, lo, hi, hm, n0, n1, ha, hb, h => by
    obtain ⟨u, d, v, e, h1, h2, h3⟩ := red_split (w := L.map wt) h
    obtain ⟨L1, L', rfl, rfl, e2⟩ := List.map_eq_append_iff.1 e
    obtain ⟨j, L2, rfl, rfl, rfl⟩ := List.map_eq_cons_iff.1 e2
    obtain ⟨a1, a2⟩ := List.pairwise_cons.1 ha
    obtain ⟨a3, a4, a5⟩ := List.pairwise_append.1 a2
    obtain ⟨a6, a7⟩ := List.pairwise_cons.1 a4
    simp only [List.length_cons, List.length_append] at hm
    have hi0 := hb i List.mem_cons_self
    have hj0 := hb j (by simp)
    obtain ⟨p, hp, lp⟩ := plan_of_red hF m (L := L1) (lo := i + 1) (hi := j) (by omega) (by omega) (by omega) a3 (fun x hx => ⟨by have := a1 x (List.mem_append_left _ hx); omega, a5 x hx j List.mem_cons_self⟩) h1
    obtain ⟨q, hq, lq⟩ := plan_of_red hF m (L := L2) (lo := j + 1) (hi := hi) (by omega) (by omega) (by omega) a7 (fun x hx => ⟨by have := a6 x hx; omega, (hb x (by simp [hx])).2⟩) h3
    refine ⟨(i, j) :: (p ++ q), (plan_cons (a1 j (by simp)) hj0.2 (by rw [hF i j (by omega) (by omega) (by omega) (by omega)]; exact decide_eq_true h2) hp hq).wide hi0.1 (Int.le_refl _), ?_⟩
    simp only [List.length_cons, List.length_append]; omega
theorem rng_split {i j n : Int} (h1 : i ≤ j) (h2 : j ≤ n) : rng i n = rng i j ++ rng j n := by
  have : ∀ (m : Nat) (i : Int), (j - i).toNat = m → i ≤ j → rng i n = rng i j ++ rng j n := by
    intro m
    induction m with
    | zero => intro i hm hi; rw [show i = j by omega, rng_nil (Int.le_refl j)]; rfl
    | succ m ih => intro i hm hi; rw [rng_cons (i := i) (n := n) (by omega), rng_cons (i := i) (n := j) (by omega), ih (i + 1) (by omega) (by omega)]; rfl
  exact this _ i rfl h1
theorem used_mem {l : List Join} {i : Int} : usedB l i = true ↔ ∃ x ∈ l, x.1 = i ∨ x.2 = i := by
  simp only [usedB, List.any_eq_true, Bool.or_eq_true, decide_eq_true_eq]
theorem filter_congr' {α : Type} {f g : α → Bool} {l : List α} (h : ∀ x ∈ l, f x = g x) : l.filter f = l.filter g := List.filter_congr h
theorem bool_iff {a b : Bool} (h : a = true ↔ b = true) : a = b := by cases a <;> cases b <;> simp_all
theorem red_of_plan (hF : Fits F wt N) : ∀ (m : Nat) {lo hi : Int} {p : List Join}, (hi - lo).toNat ≤ m → 0 ≤ lo → hi ≤ N → p ∈ plansP F lo hi → redK (((rng lo hi).filter (usedB p)).map wt) = [] ∧ ((rng lo hi).filter (usedB p)).length = 2 * p.length
  | m, lo, hi, p, hm, n0, n1, hp => by
    by_cases hle : hi ≤ lo
    · rw [plansP_nil hle, List.mem_singleton] at hp
      subst hp
      rw [rng_nil hle]; exact ⟨rfl, rfl⟩
    · cases m with
      | zero => omega
      | succ m =>
        rw [plansP_eq (by omega), List.mem_append] at hp
        rcases hp with hp | hp
        · obtain ⟨j, hj, hp⟩ := List.mem_flatMap.1 hp
          rw [rng_mem] at hj
          split at hp
          · next hf =>
            obtain ⟨p1, h1, hp⟩ := List.mem_flatMap.1 hp
            obtain ⟨p2, h2, rfl⟩ := List.mem_map.1 hp
            have b1 := (mem_plans.1 h1).1
            have b2 := (mem_plans.1 h2).1
            obtain ⟨r1, l1⟩ := red_of_plan hF m (by omega) (by omega) (by omega) h1
            obtain ⟨r2, l2⟩ := red_of_plan hF m (by omega) (by omega) (by omega) h2
            have hu0 : usedB ((lo, j) :: (p1 ++ p2)) lo = true := used_mem.2 ⟨(lo, j), by simp, .inl rfl⟩
            have hu1 : usedB ((lo, j) :: (p1 ++ p2)) j = true := used_mem.2 ⟨(lo, j), by simp, .inr rfl⟩
            have e1 : (rng (lo + 1) j).filter (usedB ((lo, j) :: (p1 ++ p2))) = (rng (lo + 1) j).filter (usedB p1) := filter_congr' fun q hq => by
              rw [rng_mem] at hq
              refine bool_iff ?_
              rw [used_mem, used_mem]
              constructor
              · rintro ⟨x, hx, hxq⟩
                rcases List.mem_cons.1 hx with rfl | hx
                · exfalso; rcases hxq with h | h <;> (simp only at h; omega)
                · rcases List.mem_append.1 hx with hx | hx
                  · exact ⟨x, hx, hxq⟩
                  · have := b2 x hx; omega
              · rintro ⟨x, hx, hxq⟩; exact ⟨x, by simp [hx], hxq⟩
            have e2 : (rng (j + 1) hi).filter (usedB ((lo, j) :: (p1 ++ p2))) = (rng (j + 1) hi).filter (usedB p2) := filter_congr' fun q hq => by
              rw [rng_mem] at hq
              refine bool_iff ?_
              rw [used_mem, used_mem]
              constructor
              · rintro ⟨x, hx, hxq⟩
                rcases List.mem_cons.1 hx with rfl | hx
                · exfalso; rcases hxq with h | h <;> (simp only at h; omega)
                · rcases List.mem_append.1 hx with hx | hx
                  · have := b1 x hx; omega
                  · exact ⟨x, hx, hxq⟩
              · rintro ⟨x, hx, hxq⟩; exact ⟨x, by simp [hx], hxq⟩
            rw [rng_cons (by omega), rng_split (i := lo + 1) (j := j) (by omega) (by omega), rng_cons (i := j) (by omega), List.filter_cons, if_pos hu0, List.filter_append, List.filter_cons, if_pos hu1, e1, e2]
            rw [hF lo j (by omega) (by omega) (by omega) (by omega), decide_eq_true_eq] at hf
            constructor
            · rw [List.map_cons, List.map_append, List.map_cons]; exact redK_wrap r1 hf r2
            · simp only [List.length_cons, List.length_append]; omega
          · cases hp
        · obtain ⟨r1, l1⟩ := red_of_plan hF m (by omega) (by omega) (by omega) hp
          have b1 := (mem_plans.1 hp).1
          have hu : ¬ usedB p lo = true := fun h => by
            obtain ⟨x, hx, hxq⟩ := used_mem.1 h
            have := b1 x hx; omega
          rw [rng_cons (by omega), List.filter_cons, if_neg hu]
          exact ⟨r1, l1⟩
theorem rng_length {i n : Int} (h : i ≤ n) : ((rng i n).length : Int) = n - i := by rw [rng, List.length_map, List.length_range]; omega
/-- There is a full plan just if nothing is left. -/
theorem full_iff (hF : Fits F wt N) {lo hi : Int} (n0 : 0 ≤ lo) (h : lo ≤ hi) (n1 : hi ≤ N) : 2 * (partP F lo hi).1 = hi - lo ↔ redK ((rng lo hi).map wt) = [] := by
  have hb := best_all F lo hi
  constructor
  · intro e
    obtain ⟨p, hp, lp⟩ := hb.1
    obtain ⟨r, l⟩ := red_of_plan hF _ (Nat.le_refl _) n0 n1 hp
    have hl := rng_length h
    have : (rng lo hi).filter (usedB p) = rng lo hi := List.filter_eq_self.2 (List.length_filter_eq_length_iff.1 (by omega))
    rw [← this]; exact r
  · intro e
    obtain ⟨p, hp, lp⟩ := plan_of_red hF _ (Nat.le_refl _) n0 n1 (rng_asc lo hi) (fun x hx => rng_mem.1 hx) e
    have h1 := hb.2.1 p (mem_plans.2 hp)
    have hl := rng_length h
    obtain ⟨q, hq, lq⟩ := hb.1
    have := plan_len h (mem_plans.1 hq)
    omega
end Go.Proofs.YtokdjjebnomciaaDoor

namespace Go.Proofs.YtokdjjebnomciaaDoor
set_option linter.unusedVariables false

/-- What is left of a word, in order. -/
def redW (w : List Int) : List Int := (redK w).reverse
theorem redW_irr (w : List Int) : Irr (redW w) := irr_rev (runK_irr trivial)
theorem runK_redW : ∀ (m : Nat) {w st : List Int}, w.length = m → Irr st → runK st w = runK st (redW w)
  | 0, w, st, hm, _ => by rw [List.eq_nil_of_length_eq_zero hm]; rfl
  | m + 1, w, st, hm, hi => by
    obtain ⟨w', e, rfl⟩ : ∃ w' e, w = w' ++ [e] := ⟨w.dropLast, w.getLast (by intro h; rw [h] at hm; cases hm), (List.dropLast_concat_getLast _).symm⟩
    have ih := runK_redW m (w := w') (st := st) (by simp at hm; omega) hi
    have hr : redK (w' ++ [e]) = stk (redK w') e := by rw [redK, runK_app]; rfl
    rw [runK_app, ih, show redW (w' ++ [e]) = (stk (redK w') e).reverse from by rw [redW, hr]]
    show stk (runK st (redW w')) e = _
    rw [redW]
    cases hk : redK w' with
    | nil => rfl
    | cons t r =>
      rw [stk, List.reverse_cons, runK_app]
      split
      · next h => exact stk_two (runK_irr hi) h
      · rw [List.reverse_cons, List.reverse_cons, runK_app, runK_app]; rfl
theorem redW_fix {w : List Int} (h : Irr w) : redW w = w := by rw [redW, redK_irr (irr_rev h), List.reverse_reverse]
theorem redW_del {u v : List Int} {a b : Int} (h : a + b = 0) : redW (u ++ a :: b :: v) = redW (u ++ v) := by rw [redW, redK_del h, redW]
theorem redW_part {p w q : List Int} : redW (p ++ w ++ q) = redW (p ++ redW w ++ q) := by
  rw [redW, redW, redK, redK, runK_app, runK_app, runK_app, runK_app, runK_redW _ rfl (runK_irr (st := []) trivial)]

/-- The core: ends that go with each other are taken off. -/
def coreL : Nat → List Int → List Int
  | 0, w => w
  | m + 1, w => match w with
    | [] => []
    | c :: r => match r.getLast? with
      | some d => if c + d = 0 then coreL m r.dropLast else c :: r
      | none => c :: r
def coreW (w : List Int) : List Int := coreL w.length w
theorem coreL_fuel : ∀ (m k : Nat) (w : List Int), w.length ≤ m → w.length ≤ k → coreL m w = coreL k w
  | 0, 0, _, _, _ => rfl
  | 0, k + 1, w, h, _ => by rw [List.eq_nil_of_length_eq_zero (Nat.le_zero.1 h)]; rfl
  | m + 1, 0, w, _, h => by rw [List.eq_nil_of_length_eq_zero (Nat.le_zero.1 h)]; rfl
  | m + 1, k + 1, w, h1, h2 => by
    cases w with
    | nil => rfl
    | cons c r =>
      simp only [coreL]
      cases r.getLast? with
      | none => rfl
      | some d =>
        simp only
        split
        · refine coreL_fuel m k _ ?_ ?_ <;> simp at h1 h2 ⊢ <;> omega
        · rfl
theorem coreW_yes {c d : Int} {y : List Int} (h : c + d = 0) : coreW (c :: (y ++ [d])) = coreW y := by
  rw [coreW, List.length_cons, coreL]
  simp only [List.getLast?_concat, List.dropLast_concat]
  rw [if_pos h]
  exact coreL_fuel _ _ _ (by simp) (Nat.le_refl _)
theorem coreW_no {c d : Int} {y : List Int} (h : c + d ≠ 0) : coreW (c :: (y ++ [d])) = c :: (y ++ [d]) := by
  rw [coreW, List.length_cons, coreL]
  simp only [List.getLast?_concat]
  rw [if_neg h]
theorem coreW_one (c : Int) : coreW [c] = [c] := rfl
theorem coreW_nil : coreW [] = [] := rfl
theorem last_cases (w : List Int) : w = [] ∨ ∃ y d, w = y ++ [d] := by
  rcases List.eq_nil_or_concat w with h | ⟨y, d, h⟩
  · exact .inl h
  · exact .inr ⟨y, d, by rw [h, List.concat_eq_append]⟩

def IsRot {α : Type} (a b : List α) : Prop := ∃ u v, a = u ++ v ∧ b = v ++ u
theorem IsRot.refl {α : Type} (a : List α) : IsRot a a := ⟨[], a, rfl, (List.append_nil a).symm⟩
theorem IsRot.symm {α : Type} {a b : List α} (h : IsRot a b) : IsRot b a := by
  obtain ⟨u, v, h1, h2⟩ := h
  exact ⟨v, u, h2, h1⟩
theorem IsRot.trans {α : Type} {a b c : List α} (h : IsRot a b) (k : IsRot b c) : IsRot a c := by
  obtain ⟨u, v, rfl, rfl⟩ := h
  obtain ⟨u', v', e, rfl⟩ := k
  rcases List.append_eq_append_iff.1 e with ⟨x, rfl, rfl⟩ | ⟨x, rfl, rfl⟩
  · exact ⟨x, v' ++ v, by simp, by simp⟩
  · exact ⟨u ++ u', x, by simp, by simp⟩
theorem irr_snoc {y : List Int} {d : Int} (h : Irr y) (hd : ∀ z e, y = z ++ [e] → e + d ≠ 0) : Irr (y ++ [d]) := irr_of fun u a b v e => by
  rcases last_cases v with rfl | ⟨v', f, rfl⟩
  · have : y ++ [d] = (u ++ [a]) ++ [b] := by rw [e]; simp
    obtain ⟨h1, h2⟩ := List.append_inj' this rfl
    obtain rfl := (List.cons.inj h2).1
    exact hd u a h1
  · have : y ++ [d] = (u ++ a :: b :: v') ++ [f] := by rw [e]; simp
    obtain ⟨h1, _⟩ := List.append_inj' this rfl
    rw [h1] at h
    exact irr_mid h
theorem irr_cons {y : List Int} {c : Int} (h : Irr y) (hd : ∀ z e, y = e :: z → c + e ≠ 0) : Irr (c :: y) := by
  cases y with
  | nil => trivial
  | cons e z => exact ⟨hd z e rfl, h⟩
theorem Irr.left {y z : List Int} (h : Irr (y ++ z)) : Irr y := irr_of fun u a b v e => by
  rw [e, List.append_assoc] at h
  exact irr_mid (l := u) (r := v ++ z) h
theorem core_step (c : Int) (u : List Int) : IsRot (coreW (redW (c :: u))) (coreW (redW (u ++ [c]))) := by
  have e1 : redW (u ++ [c]) = redW (-c :: (redW (c :: u) ++ [c])) := by
    have h1 := redW_del (u := []) (v := u ++ [c]) (a := -c) (b := c) (by omega)
    have h2 := redW_part (p := [-c]) (w := c :: u) (q := [c])
    rw [List.nil_append, List.nil_append] at h1
    rw [← h1]; exact h2
  rw [e1]
  have hx := redW_irr (c :: u)
  generalize redW (c :: u) = x at hx
  by_cases hs : ∃ y, x = c :: y
  · obtain ⟨y, rfl⟩ := hs
    have e2 : redW (-c :: (c :: y ++ [c])) = redW (y ++ [c]) := redW_del (u := []) (by omega)
    rw [e2]
    rcases last_cases y with rfl | ⟨z, d, rfl⟩
    · exact IsRot.refl _
    · by_cases hd : c + d = 0
      · rw [coreW_yes hd, List.append_assoc]
        have e3 : redW (z ++ ([d] ++ [c])) = redW (z ++ []) := redW_del (v := []) (by omega)
        rw [e3, List.append_nil, redW_fix hx.tl.left]
        exact IsRot.refl _
      · have hi : Irr ((z ++ [d]) ++ [c]) := irr_snoc hx.tl fun z' e h => by
          obtain ⟨_, h2⟩ := List.append_inj' h rfl
          obtain rfl := (List.cons.inj h2).1
          omega
        rw [coreW_no hd, redW_fix hi]
        have e4 : coreW ((z ++ [d]) ++ [c]) = (z ++ [d]) ++ [c] := by
          cases z with
          | nil => exact coreW_no (y := []) (by omega)
          | cons z0 z => exact coreW_no (c := z0) (y := z ++ [d]) (d := c) (by have := hx.1; omega)
        rw [e4]
        exact ⟨[c], z ++ [d], rfl, rfl⟩
  · rcases last_cases x with rfl | ⟨y, d, rfl⟩
    · have : redW (-c :: ([] ++ [c])) = redW [] := redW_del (u := []) (v := []) (by omega)
      rw [this]
      exact IsRot.refl _
    · by_cases hd : d = -c
      · subst hd
        have e3 : redW (-c :: (y ++ [-c] ++ [c])) = redW (-c :: y) := by
          have := redW_del (u := -c :: y) (v := []) (a := -c) (b := c) (by omega)
          rw [List.append_nil] at this
          rw [← this, List.append_assoc]; rfl
        have hi : Irr (-c :: y) := irr_cons hx.left fun z e h hc => hs ⟨z ++ [-c], by rw [h, show e = c by omega]; rfl⟩
        rw [e3, redW_fix hi]
        rcases last_cases y with rfl | ⟨z, e, rfl⟩
        · exact IsRot.refl _
        · have h1 : coreW (z ++ [e] ++ [-c]) = z ++ [e] ++ [-c] := by
            cases z with
            | nil => exact coreW_no (y := []) fun hc => hs ⟨[-c], by rw [show e = c by omega]; rfl⟩
            | cons z0 z => exact coreW_no (c := z0) (y := z ++ [e]) (d := -c) fun hc => hs ⟨z ++ [e] ++ [-c], by rw [show z0 = c by omega]; rfl⟩
          have h2 : coreW (-c :: (z ++ [e])) = -c :: (z ++ [e]) := coreW_no (by
            rw [List.append_assoc] at hx
            have := irr_mid (l := z) (a := e) (b := -c) (r := []) hx
            omega)
          rw [h1, h2]
          exact ⟨z ++ [e], [-c], rfl, rfl⟩
      · have hi : Irr (-c :: (y ++ [d] ++ [c])) := irr_cons (irr_snoc hx fun z' e h => by
            obtain ⟨_, h2⟩ := List.append_inj' h rfl
            obtain rfl := (List.cons.inj h2).1
            omega) fun z e h hc => by
          cases y with
          | nil => exact hs ⟨[], by have := (List.cons.inj h).1; rw [show d = c by omega]; rfl⟩
          | cons y0 y => exact hs ⟨y ++ [d], by have := (List.cons.inj h).1; rw [show y0 = c by omega]; rfl⟩
        rw [redW_fix hi, coreW_yes (by omega)]
        exact IsRot.refl _
theorem core_rot : ∀ (u v : List Int), IsRot (coreW (redW (u ++ v))) (coreW (redW (v ++ u)))
  | [], v => by rw [List.append_nil]; exact IsRot.refl _
  | c :: u, v => by
    have h1 := core_step c (u ++ v)
    have h2 := core_rot u (v ++ [c])
    rw [List.append_assoc] at h1
    have e : v ++ [c] ++ u = v ++ c :: u := by simp
    rw [e] at h2
    exact h1.trans h2
end Go.Proofs.YtokdjjebnomciaaDoor

namespace Go.Proofs.YtokdjjebnomciaaDoor
open Go.Wk Go.RowKit Go.Lib Go
set_option linter.unusedVariables false

theorem ba_beq {a b : ByteArray} : (a == b) = true ↔ a = b := by
  cases a with | mk x => cases b with | mk y =>
  show (ByteArray.beq _ _) = true ↔ _
  unfold ByteArray.beq
  simp

/-! ### a rim as a word of numbers -/
def wtS (s : ByteArray) (q : Int) : Int := numC (tabAt s q)
def wd (s : ByteArray) : List Int := s.data.toList.map fun b => numC (b.toNat : Int)
theorem wt_word (s : ByteArray) : (rng 0 s.size).map (wtS s) = wd s := by
  have hl : s.size = s.data.toList.length := (by simp)
  refine List.ext_getElem? fun i => ?_
  by_cases hi : i < s.size
  · rw [rng, List.map_map, List.getElem?_map, List.getElem?_range (by omega), wd, List.getElem?_map, List.getElem?_eq_getElem (by omega)]
    simp only [Option.map_some, Function.comp_apply, wtS, Int.zero_add]
    rw [tabAt, Int.toNat_natCast, List.getD_eq_getElem?_getD, List.getElem?_eq_getElem (by omega)]; rfl
  · rw [List.getElem?_eq_none (by rw [List.length_map, rng, List.length_map, List.length_range]; omega), List.getElem?_eq_none (by rw [wd, List.length_map]; omega)]
theorem fits_wt {s : ByteArray} (h : Lets s) : Fits (fitR s) (wtS s) s.size := fun i j i0 i1 j0 j1 => (numC_fit (h i i0 i1) (h j j0 j1)).symm
theorem run_word {s : ByteArray} (h : Lets s) : ∀ (idx : List Int) (st : List Join) (lf : List Int), (∀ x ∈ lf, 0 ≤ x ∧ x < s.size) → (∀ x ∈ idx, 0 ≤ x ∧ x < s.size) →
    (runS s (st, lf) idx).2.map (wtS s) = (runK (lf.map (wtS s)).reverse (idx.map (wtS s))).reverse
  | [], st, lf, _, _ => by rw [List.map_nil]; simp [runS, runK]
  | j :: idx, st, lf, hl, hi => by
    have hj := hi j List.mem_cons_self
    have hi' : ∀ x ∈ idx, 0 ≤ x ∧ x < s.size := fun x hx => hi x (List.mem_cons_of_mem _ hx)
    rw [runS_cons, List.map_cons, runK_cons]
    rcases List.eq_nil_or_concat lf with rfl | ⟨lf', t, rfl⟩
    · rw [stepS_no (.inl (by decide)), run_word h idx _ _ (fun x hx => by rw [List.nil_append, List.mem_singleton] at hx; subst hx; exact hj) hi']
      rfl
    · rw [List.concat_eq_append] at hl ⊢
      have ht := hl t (by simp)
      have hx : ix 0 (lf' ++ [t]) (((lf' ++ [t]).length : Int) - 1) = t := ix_app (by rw [List.length_append, List.length_singleton]; omega)
      have hst : stk ((lf' ++ [t]).map (wtS s)).reverse (wtS s j) = if wtS s t + wtS s j = 0 then (lf'.map (wtS s)).reverse else wtS s j :: ((lf' ++ [t]).map (wtS s)).reverse := by
        rw [List.map_append, List.reverse_append]
        simp only [List.map_cons, List.map_nil, List.reverse_cons, List.reverse_nil, List.nil_append, List.cons_append, stk]
      by_cases hf : fitR s t j = true
      · rw [stepS_yes (by rw [List.length_append, List.length_singleton]; omega) (by rw [hx]; exact hf), hx, hst, if_pos (by have := fits_wt h t j ht.1 ht.2 hj.1 hj.2; rw [hf] at this; exact of_decide_eq_true this.symm)]
        rw [show (((lf' ++ [t]).length : Int) - 1).toNat = lf'.length by rw [List.length_append, List.length_singleton]; omega, List.take_left]
        exact run_word h idx _ _ (fun x hx => hl x (by simp [hx])) hi'
      · rw [stepS_no (.inr (by rw [hx]; simpa using hf)), hst, if_neg (fun q => hf (by rw [fits_wt h t j ht.1 ht.2 hj.1 hj.2]; exact decide_eq_true q))]
        rw [run_word h idx _ _ (fun x hx => by
          rcases List.mem_append.1 hx with hx | hx
          · exact hl x hx
          · rw [List.mem_singleton] at hx; subst hx; exact hj) hi', List.map_append, List.map_append, List.reverse_append]
        simp
theorem rest_word {s : ByteArray} (h : Lets s) : wd (restV s) = redW (wd s) := by
  have h1 := run_word h (rng 0 s.size) [] [] (by simp) fun x hx => by rw [rng_mem] at hx; exact hx
  rw [wt_word] at h1
  rw [redW, redK]
  refine Eq.trans ?_ h1
  rw [restV, wd]
  show ((takS s).2.map (byteAt s)).map _ = _
  rw [List.map_map]; rfl
theorem wd_size (s : ByteArray) : (wd s).length = s.size := by rw [wd, List.length_map]; simp
theorem rest_empty {s : ByteArray} (h : Lets s) : (restV s == ByteArray.empty) = decide (2 * (allV s).1 = s.size) := by
  have hf := full_iff (fits_wt h) (Int.le_refl 0) (by omega) (Int.le_refl (s.size : Int))
  rw [wt_word, Int.sub_zero] at hf
  have hr := rest_word h
  refine bool_iff ?_
  rw [decide_eq_true_eq, ba_beq]
  show _ ↔ 2 * (partP (fitR s) 0 s.size).1 = s.size
  rw [hf]
  constructor
  · intro e
    rw [e] at hr
    have : redW (wd s) = [] := hr.symm
    exact List.reverse_eq_nil_iff.1 this
  · intro e
    have hz : (restV s).size = 0 := by
      have := wd_size (restV s)
      rw [hr, redW, e] at this; exact this.symm
    exact ByteArray.size_eq_zero_iff.1 hz
theorem full_eq (s : ByteArray) : fullP s = fullR s := by
  rw [fullP, fullR]
  by_cases h : rimE s = 0
  · rw [if_pos h, decide_eq_true h, Bool.true_and, rest_empty (rimE_ok h).2]
  · rw [if_neg h, decide_eq_false h, Bool.false_and]

/-! ### the joins of all greatest plans -/
theorem tab_cut {s : ByteArray} {a b q : Int} (a0 : 0 ≤ a) (ab : a < b) (bn : b < s.size) (q0 : 0 ≤ q) (q1 : q < s.size - (b - a + 1)) : tabAt (cutS s a b) q = tabAt s (upC a b q) := by
  have e1 : ((s.extract 0 a.toNat).size : Int) = a := by rw [ByteArray.size_extract]; omega
  rw [cutS, tab_app q0, e1, upC]
  split
  · rw [tab_extract q0 (by omega)]; congr 1; omega
  · rw [tab_extract (by omega) (by rw [ByteArray.size_extract]; omega)]; congr 1; omega
theorem cut_of {s : ByteArray} {x : Join} (h0 : 0 ≤ x.1) (h1 : x.1 < x.2) (h2 : x.2 < s.size) (hf : fitR s x.1 x.2 = true) : Cut (fitR s) (fitR (cutS s x.1 x.2)) x.1 x.2 s.size :=
  ⟨h0, h1, h2, hf, fun i j i0 i1 j0 j1 => by rw [fitR, tab_cut h0 h1 h2 i0 i1, tab_cut h0 h1 h2 j0 j1]; rfl⟩
theorem great_mem (s : ByteArray) : firstP (fitR s) 0 s.size ∈ greatV s := List.mem_of_mem_head? (great_head s)
theorem forced_eq (s : ByteArray) : forcedP s = forcedV s := by
  rw [forcedP, forcedV]
  split
  · refine List.filter_congr fun x hx => ?_
    have hg := great_mem s
    have e : greatV s = greatL (fitR s) 0 s.size := great_is s
    rw [e] at hg
    have hp := (greatL_mem.1 hg).1
    obtain ⟨h0, h1, h2, hf⟩ := hp.1 x hx
    have hc := (cut_of h0 h1 h2 hf).forced hg (by exact hx)
    have hs := cut_size h0 h1 h2
    refine bool_iff ?_
    rw [frcN, decide_eq_true_eq, List.all_eq_true, e]
    rw [← hs] at hc
    refine Iff.trans hc ?_
    simp only [hasB_iff]
  · rfl

/-! ### rims compared -/
theorem rot_list {c d : List UInt8} (hl : c.length = d.length) : Lib.contains (c ++ c) d = true ↔ ∃ i, i ≤ c.length ∧ c.drop i ++ c.take i = d := by
  have key : ∀ i, i ≤ c.length → (occAt (c ++ c) d i = true ↔ c.drop i ++ c.take i = d) := by
    intro i hi
    rw [occAt, List.isPrefixOf_iff_prefix, List.drop_append_of_le_length hi]
    have e : c.drop i ++ c = (c.drop i ++ c.take i) ++ c.drop i := by rw [List.append_assoc, List.take_append_drop]
    constructor
    · intro h
      rw [e] at h
      have h2 : (c.drop i ++ c.take i) <+: (c.drop i ++ c.take i) ++ c.drop i := List.prefix_append _ _
      have := List.prefix_of_prefix_length_le h2 h (by simp; omega)
      exact this.eq_of_length (by simp; omega)
    · intro h
      rw [e, h]; exact List.prefix_append _ _
  rw [Lib.contains, decide_eq_true_eq]
  rcases index_spec (c ++ c) d with ⟨h1, h2⟩ | ⟨i, h1, h2, h3, h4⟩
  · rw [h1]
    constructor
    · intro h; omega
    · rintro ⟨i, hi, hd⟩
      have := h2 i (by simp; omega)
      rw [(key i hi).2 hd] at this; cases this
  · rw [h1]
    refine ⟨fun _ => ?_, fun _ => by omega⟩
    by_cases hi : i ≤ c.length
    · exact ⟨i, hi, (key i hi).1 h3⟩
    · exfalso
      rw [occAt, List.isPrefixOf_iff_prefix] at h3
      have := h3.length_le
      simp at this h2
      omega
theorem rot_data (c : ByteArray) (d : Int) : (rotS c d).data.toList = c.data.toList.drop d.toNat ++ c.data.toList.take d.toNat := by
  have hl : c.size = c.data.toList.length := (by simp)
  rw [rotS, ByteArray.data_append, Array.toList_append, ByteArray.data_extract, ByteArray.data_extract, Array.toList_extract, Array.toList_extract]
  show (c.data.toList.drop d.toNat).take (c.size - d.toNat) ++ (c.data.toList.drop 0).take (d.toNat - 0) = _
  rw [List.take_of_length_le (by rw [List.length_drop]; omega), List.drop_zero, Nat.sub_zero]
theorem ba_ext {a b : ByteArray} (h : a.data.toList = b.data.toList) : a = b := ByteArray.ext (Array.toList_inj.1 h)
theorem rotB_iff {c d : ByteArray} : rotB c d = true ↔ ∃ i, i ≤ c.size ∧ c.data.toList.drop i ++ c.data.toList.take i = d.data.toList := by
  have hl : c.size = c.data.toList.length := (by simp)
  rw [rotB, Bool.or_eq_true, List.any_eq_true, ba_beq]
  constructor
  · rintro (rfl | ⟨i, hi, h⟩)
    · exact ⟨0, Nat.zero_le _, by simp⟩
    · rw [rng_mem] at hi
      rw [ba_beq] at h
      exact ⟨i.toNat, by omega, by rw [← h, rot_data]⟩
  · rintro ⟨i, hi, h⟩
    by_cases h0 : i = 0 ∨ i = c.size
    · left
      refine ba_ext ?_
      rw [← h]
      rcases h0 with rfl | rfl
      · simp
      · rw [List.drop_of_length_le (by omega), List.take_of_length_le (by omega)]; rfl
    · right
      exact ⟨i, rng_mem.2 (by omega), by rw [ba_beq]; exact ba_ext (by rw [rot_data, Int.toNat_natCast, h])⟩
theorem rot_contains (c d : ByteArray) : (decide ((c.size : Int) = d.size) && Lib.contains (c ++ c).data.toList d.data.toList) = rotB c d := by
  have hc : c.size = c.data.toList.length := (by simp)
  have hd : d.size = d.data.toList.length := (by simp)
  refine bool_iff ?_
  rw [Bool.and_eq_true, decide_eq_true_eq, rotB_iff, ByteArray.data_append, Array.toList_append]
  constructor
  · rintro ⟨h1, h2⟩
    obtain ⟨i, hi, h⟩ := (rot_list (by omega)).1 h2
    exact ⟨i, by omega, h⟩
  · rintro ⟨i, hi, h⟩
    have : c.data.toList.length = d.data.toList.length := by rw [← h]; simp; omega
    exact ⟨by omega, (rot_list this).2 ⟨i, by omega, h⟩⟩
theorem alike_eq (a b : ByteArray) : alikeP a b = alikeR a b := by
  rw [alikeP, alikeR]
  split
  · next h =>
    have ha : rimE a = 0 := by
      rw [alikeE] at h
      split at h
      · assumption
      · exact h
    have hb : rimE b = 0 := by rw [alikeE, if_pos ha] at h; exact h
    rw [coreV, coreV, if_pos ha, if_pos hb]
    exact rot_contains _ _
  · rfl
end Go.Proofs.YtokdjjebnomciaaDoor

namespace Go.Proofs.YtokdjjebnomciaaDoor
open Go.Wk Go
def pairsU : List Int → List Join
  | a :: b :: l => (a, b) :: pairsU l
  | _ => []
def rP : ByteArray := { data := #[97, 98, 66, 65] }
def rQ : ByteArray := { data := #[97, 98, 65, 66] }
def rR : ByteArray := { data := #[97, 65, 97, 65] }
def r1 : ByteArray := { data := #[98, 97, 99, 65, 66] }
def r2 : ByteArray := { data := #[97, 98, 67] }
def r3 : ByteArray := { data := #[97, 98, 65] }
def r4 : ByteArray := { data := #[98] }
def r5 : ByteArray := { data := #[97, 98] }
def r6 : ByteArray := { data := #[97, 66] }
theorem pairsU_step {l : List Int} {i : Int} (h0 : 0 ≤ i) (h : i + 1 < l.length) : pairsU (l.drop i.toNat) = (ix 0 l i, ix 0 l (i + 1)) :: pairsU (l.drop (i + 2).toNat) := by
  rw [drop_ix (d := 0) h0 (by omega), drop_ix (d := 0) (n := i + 1) (by omega) h, pairsU]
  rw [show (i + 1 + 1).toNat = (i + 2).toNat by omega]
theorem pairsU_end {l : List Int} {i : Int} (h0 : 0 ≤ i) (h : ¬ i + 1 < l.length) : pairsU (l.drop i.toNat) = [] := by
  have : (l.drop i.toNat).length ≤ 1 := by rw [List.length_drop]; omega
  match hd : l.drop i.toNat with
  | [] => rfl
  | [a] => rfl
  | a :: b :: r => rw [hd] at this; simp at this
theorem first_in (s : ByteArray) : ∀ x ∈ firstP (fitR s) 0 s.size, 0 ≤ x.1 ∧ x.1 < x.2 ∧ x.2 < s.size := fun x hx => by
  have hg := great_mem s
  rw [show greatV s = greatL (fitR s) 0 s.size from great_is s] at hg
  obtain ⟨h0, h1, h2, _⟩ := (greatL_mem.1 hg).1.1 x hx
  exact ⟨h0, h1, h2⟩
end Go.Proofs.YtokdjjebnomciaaDoor

namespace Go.Proofs.YtokdjjebnomciaaDoor
open Go.Wk Go.RowKit Go.Lib
set_option linter.unusedVariables false
set_option linter.unusedSimpArgs false
theorem mixedHb_ : Tryd.prog.follows .mixedOrders = true := by kernel_rfl

theorem F17 {rim : ByteArray} {w : World} (s_rim : rim.size ≤ maxLen) : Calls Tryd.prog 17 #[.string rim] w (Ret w (fun r _ => r = .int .i64 (rimE rim))) := by
  have hS := St.start0 w
  refine enterR Tryd.func17 rfl Tryd.ntmps17 Tryd.results17 rfl ?_
  refine W.seq ?_
  refine W.reg ?_
  refine Wx.rd (v := .int .i64 0) (rd_assign rfl) rfl ?_
  refine Wx.nil ?_
  refine W.seq ?_
  refine W.seq ?_
  refine W.reg ?_
  refine Wx.rd (v := .string rim) (rd_move rfl) rfl ?_
  refine Wx.rd (v := .int .i64 (rim.size : Int)) (rd_lenS rfl Tryd.underlying9) rfl ?_
  refine Wx.rd (v := .bool (decide (12 < (rim.size : Int)))) (rd_gtr rfl rfl) rfl ?_
  refine Wx.nil ?_
  refine W.condD rfl (fun c0 => ?_) (fun c0 => ?_)
  · -- yes
    refine W.seq ?_
    refine W.reg ?_
    refine Wx.rd (v := .int .i64 3) (rd_assign rfl) rfl ?_
    refine Wx.nil ?_
    have e0_0 : (rimE rim) = (3 : Int) := by rw [rimE, if_pos c0]
    exact W.ret ⟨.int .i64 3, ResIs.one, hS.bel, (by rw [e0_0])⟩
  · -- no
    refine W.skip ?_
    refine W.seq ?_
    refine W.seq ?_
    refine W.reg ?_
    refine Wx.rd (v := .string rim) (rd_move rfl) rfl ?_
    refine Wx.rangeS (s := rim) hS rfl Tryd.underlying9 rfl (fun g_1 w_2 hx_3 hS => ?_)
    refine Wx.nil ?_
    refine W.block ?_
    refine W.loop [2, 4, 10, 11, 12, 13, 14, 15] (fun (p : Nat) => []) (fun (p : Nat) w' => St w [] w' [.raw g_1 (.stringIter rim p)] ∧ p ≤ rim.size ∧ (∀ q : Int, 0 ≤ q → q < p → isLet (tabAt rim q) = true)) (fun (p : Nat) => rim.size - p) 0 trivial ⟨hS, (Nat.zero_le _), (fun q q0 q1 => by omega)⟩ ?_
    rintro p u_5 w_4 ⟨hS, h1, h2⟩
    refine W.seq ?_
    refine W.reg ?_
    refine Wx.nextS hS 0 rfl rfl rfl (fun hn w_6 hz_7 hS => ?_) (fun hn => ?_)
    · -- a rune
      have hS : St _ _ w_6 [.raw g_1 (.stringIter rim (p + (runeW rim (p : Int)).toNat))] := hS
      have hrb := runeAt_bd rim (p : Int)
      refine Wx.rd (v := .bool true) (rd_extract rfl rfl) rfl ?_
      refine Wx.nil ?_
      refine W.seq ?_
      refine W.condT rfl rfl ?_
      refine W.skip ?_
      refine W.block ?_
      refine W.seq ?_
      refine W.reg ?_
      refine Wx.rd (v := .int .i32 (runeAt rim (p : Int))) (rd_extract rfl rfl) rfl ?_
      refine Wx.rd (v := .int .i32 (runeAt rim (p : Int))) (rd_assign rfl) rfl ?_
      refine Wx.nil ?_
      refine W.seq ?_
      refine W.reg ?_
      refine Wx.rd (v := .int .i32 (runeAt rim (p : Int))) (rd_move rfl) rfl ?_
      refine Wx.callF (run_callF Tryd.call59 rfl) (F59 (by first | assumption | (simp only [maxLen]; omega) | (simp only [ByteArray.size_extract, ByteArray.size_append, maxLen] at *; omega) | decide) (in_i32 (by omega) (by omega)) letS_asc (by decide) (by omega)) rfl ?_
      rintro r_9 w_10 hx_11 rfl
      have hS := hS.ext hx_11
      refine Wx.rd (v := .bool (!(hasRune letS (runeAt rim (p : Int))))) (rd_not rfl) rfl ?_
      refine Wx.nil ?_
      refine W.cond rfl (fun c2 => ?_) (fun c2 => ?_)
      · -- yes
        try simp only [Bool.and_eq_true, Bool.or_eq_true, Bool.not_eq_true', Bool.and_eq_false_iff, Bool.or_eq_false_iff, Bool.not_eq_false', decide_eq_true_eq, decide_eq_false_iff_not, not_or, Bool.false_eq_true, Bool.true_eq_false, false_or, or_false, not_false_eq_true] at c2
        have hnl := rune_not (s := rim) (p := (p : Int)) (by omega) c2
        refine W.seq ?_
        refine W.reg ?_
        refine Wx.rd (v := .int .i64 10) (rd_assign rfl) rfl ?_
        refine Wx.nil ?_
        have e1_0 : (rimE rim) = (10 : Int) := by exact rimE_bad (by omega) (by omega) hn hnl
        exact W.ret ⟨.int .i64 10, ResIs.one, hS.bel, (by rw [e1_0])⟩
      · -- no
        try simp only [Bool.and_eq_true, Bool.or_eq_true, Bool.not_eq_true', Bool.and_eq_false_iff, Bool.or_eq_false_iff, Bool.not_eq_false', decide_eq_true_eq, decide_eq_false_iff_not, not_or, Bool.false_eq_true, Bool.true_eq_false, false_or, or_false, not_false_eq_true] at c2
        have hle := rune_let (s := rim) (p := (p : Int)) (by omega) c2
        refine W.skip ?_
        refine ⟨p + (runeW rim (p : Int)).toNat, (by show rim.size - (p + (runeW rim (p : Int)).toNat) < rim.size - p; omega), ?_, ?_, Out.look rfl Out.self⟩
        · exact ⟨hS, (by omega), (fun q q0 q1 => by by_cases hq : q = (p : Int); (subst hq; exact hle.2); exact h2 q q0 (by omega))⟩
        · exact trivial
    · -- the end
      refine Wx.rd (v := .bool false) (rd_extract rfl rfl) rfl ?_
      refine Wx.nil ?_
      refine W.seq ?_
      refine W.condF rfl rfl ?_
      refine W.exit rfl ?_
      refine W.seq ?_
      refine W.reg ?_
      refine Wx.rd (v := .int .i64 0) (rd_assign rfl) rfl ?_
      refine Wx.nil ?_
      have e2_0 : (rimE rim) = (0 : Int) := by exact rimE_good (by omega) (fun q q0 q1 => h2 q q0 (by omega))
      exact W.ret ⟨.int .i64 0, ResIs.one, hS.bel, (by rw [e2_0])⟩

theorem F63 {lv : Value} {l : List (Int × Int)} {Fr_lv : List (Option Nat)} {i : Int} {w : World} (h_lv : V (tSl (tP (tI .i64) (tI .i64))) l lv Fr_lv w) (i_i : InK .i64 i) : Calls Tryd.prog 63 #[lv, .int .i64 i] w (Ret w (fun r _ => r = .bool (usedB l i))) := by
  have b_i := bd_i64 i_i
  have a_lv := h_lv.any
  have l_lv := h_lv.len63
  have hS := St.start0 w
  refine enterR Tryd.func63 rfl Tryd.ntmps63 Tryd.results63 rfl ?_
  refine W.seq ?_
  refine W.reg ?_
  refine Wx.rd (v := .bool false) (rd_assign rfl) rfl ?_
  refine Wx.nil ?_
  refine W.seq ?_
  refine W.seq ?_
  refine W.reg ?_
  refine Wx.rd (v := .int .i64 0) (rd_assign rfl) rfl ?_
  refine Wx.nil ?_
  refine W.block ?_
  refine W.loop [4, 5, 6, 7, 8, 9, 10, 11, 12, 13, 14, 15, 16, 17, 18, 19, 20, 21, 22, 23, 24, 25, 26, 27] (fun (k : Int) => [(5, .int .i64 k)]) (fun (k : Int) w' => St w [] w' [] ∧ 0 ≤ k ∧ k ≤ l.length ∧ usedB (l.drop k.toNat) i = usedB l i) (fun (k : Int) => (l.length - k).toNat) 0 ⟨rfl, trivial⟩ ⟨hS, (by first | omega | simp), (by first | omega | simp), (by simp)⟩ ?_
  rintro k u_2 w_1 ⟨hS, h0, h1, h2⟩
  refine W.seq ?_
  refine W.seq ?_
  refine W.reg ?_
  refine Wx.rd (v := .int .i64 k) (rd_move rfl) rfl ?_
  refine Wx.rd (v := lv) (rd_move rfl) rfl ?_
  refine Wx.rd (v := .int .i64 (l.length : Int)) (rd_lenV rfl (hS.arg a_lv) Tryd.underlying22) rfl ?_
  refine Wx.rd (v := .bool (decide (k < (l.length : Int)))) (rd_lss rfl rfl) rfl ?_
  refine Wx.nil ?_
  refine W.condD rfl (fun c0 => ?_) (fun c0 => ?_)
  · -- yes
    refine W.skip ?_
    refine W.seq ?_
    refine W.block ?_
    refine W.seq ?_
    refine W.reg ?_
    refine Wx.rd (v := lv) (rd_move rfl) rfl ?_
    refine Wx.rd (v := .int .i64 k) (rd_move rfl) rfl ?_
    refine Wx.ex (rd_index (0, 0) (hS.arg a_lv) rfl rfl Tryd.underlying22 Tryd.sizeOf58 (by first | omega | (simp only [List.length_set, List.length_append, List.length_cons, List.length_nil, List.length_replicate]; omega)) (by first | omega | (simp only [List.length_set, List.length_append, List.length_cons, List.length_nil, List.length_replicate]; omega))) rfl (fun p_3 hp_4 => ?_)
    refine Wx.ex (rd_indexE1 hp_4 rfl rfl Tryd.underlying58 (by decide) Tryd.sizeOf3) rfl (fun p_5 hp_6 => ?_)
    refine Wx.rd (v := .int .i64 ((ix (0, 0) l k).1)) (rd_loadI hp_6 rfl Tryd.isAgg3 Tryd.sizeOf3) rfl ?_
    have bd_7 := bd_i64 hp_6.inK
    refine Wx.rd (v := .int .i64 i) (rd_move rfl) rfl ?_
    refine Wx.rd (v := .bool (decide (((ix (0, 0) l k).1) = i))) (rd_eql rfl rfl) rfl ?_
    refine Wx.rd (v := .bool (decide (((ix (0, 0) l k).1) = i))) (rd_move rfl) rfl ?_
    refine Wx.cut (X := Unit) 8 [20, 21, 22, 23, 24, 25, 26, 27] (fun _ => [(27, .bool (decide (((ix (0, 0) l k).1) = i) || decide (((ix (0, 0) l k).2) = i)))]) (fun _ w' => St w [] w' []) ?_ ?_
    · rcases Bool.eq_false_or_eq_true (decide (((ix (0, 0) l k).1) = i)) with g_8 | g_8
      · -- True
        have gp_9 := of_decide_eq_true g_8
        refine Wx.gnoB rfl rfl (congrArg Value.bool g_8) rfl rfl ?_
        refine Wx.gnoB rfl rfl (congrArg Value.bool g_8) rfl rfl ?_
        refine Wx.gnoB rfl rfl (congrArg Value.bool g_8) rfl rfl ?_
        refine Wx.gnoB rfl rfl (congrArg Value.bool g_8) rfl rfl ?_
        refine Wx.gnoB rfl rfl (congrArg Value.bool g_8) rfl rfl ?_
        refine Wx.gnoB rfl rfl (congrArg Value.bool g_8) rfl rfl ?_
        refine Wx.gnoB rfl rfl (congrArg Value.bool g_8) rfl rfl ?_
        refine Wx.rd (v := .bool true) (rd_pickT (congrArg Value.bool g_8) rfl) rfl ?_
        refine Wx.nil ⟨(), hS, ⟨?_, trivial⟩, Out.look rfl Out.refl⟩
        show Value.bool true = Value.bool (decide (((ix (0, 0) l k).1) = i) || decide (((ix (0, 0) l k).2) = i))
        rw [g_8]; rfl
      · -- False
        have gp_10 := of_decide_eq_false g_8
        refine Wx.gyes rfl rfl (congrArg Value.bool g_8) ?_
        refine Wx.rd (v := lv) (rd_move rfl) rfl ?_
        refine Wx.gyes rfl rfl (congrArg Value.bool g_8) ?_
        refine Wx.rd (v := .int .i64 k) (rd_move rfl) rfl ?_
        refine Wx.gyes rfl rfl (congrArg Value.bool g_8) ?_
        refine Wx.ex (rd_index (0, 0) (hS.arg a_lv) rfl rfl Tryd.underlying22 Tryd.sizeOf58 (by first | omega | (simp only [List.length_set, List.length_append, List.length_cons, List.length_nil, List.length_replicate]; omega)) (by first | omega | (simp only [List.length_set, List.length_append, List.length_cons, List.length_nil, List.length_replicate]; omega))) rfl (fun p_11 hp_12 => ?_)
        refine Wx.gyes rfl rfl (congrArg Value.bool g_8) ?_
        refine Wx.ex (rd_indexE2 hp_12 rfl rfl Tryd.underlying58 (by decide) Tryd.sizeOf3) rfl (fun p_13 hp_14 => ?_)
        refine Wx.gyes rfl rfl (congrArg Value.bool g_8) ?_
        refine Wx.rd (v := .int .i64 ((ix (0, 0) l k).2)) (rd_loadI hp_14 rfl Tryd.isAgg3 Tryd.sizeOf3) rfl ?_
        have bd_15 := bd_i64 hp_14.inK
        refine Wx.gyes rfl rfl (congrArg Value.bool g_8) ?_
        refine Wx.rd (v := .int .i64 i) (rd_move rfl) rfl ?_
        refine Wx.gyes rfl rfl (congrArg Value.bool g_8) ?_
        refine Wx.rd (v := .bool (decide (((ix (0, 0) l k).2) = i))) (rd_eql rfl rfl) rfl ?_
        refine Wx.rd (v := .bool (decide (((ix (0, 0) l k).2) = i))) (rd_pickF (congrArg Value.bool g_8) rfl) rfl ?_
        refine Wx.nil ⟨(), hS, ⟨?_, trivial⟩, Out.look rfl Out.refl⟩
        show Value.bool (decide (((ix (0, 0) l k).2) = i)) = Value.bool (decide (((ix (0, 0) l k).1) = i) || decide (((ix (0, 0) l k).2) = i))
        rw [g_8]; rfl
    rintro ⟨⟩ u_17 w_16 hS
    refine Wx.nil ?_
    refine W.cond rfl (fun c1 => ?_) (fun c1 => ?_)
    · -- yes
      try simp only [Bool.and_eq_true, Bool.or_eq_true, Bool.not_eq_true', Bool.and_eq_false_iff, Bool.or_eq_false_iff, Bool.not_eq_false', decide_eq_true_eq, decide_eq_false_iff_not, not_or, Bool.false_eq_true, Bool.true_eq_false, false_or, or_false, not_false_eq_true] at c1
      refine W.seq ?_
      refine W.reg ?_
      refine Wx.rd (v := .bool true) (rd_assign rfl) rfl ?_
      refine Wx.nil ?_
      have e0_0 : (usedB l i) = true := by exact usedB_yes h0 c0 h2 c1
      exact W.ret ⟨.bool true, ResIs.one, hS.bel, (by rw [e0_0])⟩
    · -- no
      try simp only [Bool.and_eq_true, Bool.or_eq_true, Bool.not_eq_true', Bool.and_eq_false_iff, Bool.or_eq_false_iff, Bool.not_eq_false', decide_eq_true_eq, decide_eq_false_iff_not, not_or, Bool.false_eq_true, Bool.true_eq_false, false_or, or_false, not_false_eq_true] at c1
      refine W.skip ?_
      refine W.reg ?_
      refine Wx.rd (v := .int .i64 k) (rd_move rfl) rfl ?_
      refine Wx.rd (v := .int .i64 (k + 1)) (rd_add rfl rfl (in_i64 (by omega) (by omega))) rfl ?_
      refine Wx.rd (v := .int .i64 (k + 1)) (rd_assign rfl) rfl ?_
      refine Wx.nil ?_
      refine ⟨k + 1, (by show (l.length - (k + 1)).toNat < (l.length - k).toNat; omega), ?_, ?_, Out.look rfl (Out.hav rfl (Out.look rfl Out.self))⟩
      · exact ⟨hS, (by first | omega | assumption), (by first | omega | assumption), (usedB_no h0 c0 h2 c1)⟩
      · exact ⟨rfl, trivial⟩
  · -- no
    refine W.exit rfl ?_
    refine W.seq ?_
    refine W.reg ?_
    refine Wx.rd (v := .bool false) (rd_assign rfl) rfl ?_
    refine Wx.nil ?_
    have e1_0 : (usedB l i) = false := by exact usedB_end (by omega) h2
    exact W.ret ⟨.bool false, ResIs.one, hS.bel, (by rw [e1_0])⟩

theorem F65 {lv : Value} {l : List (Int × Int)} {Fr_lv : List (Option Nat)} {a : Int} {b : Int} {w : World} (h_lv : V (tSl (tP (tI .i64) (tI .i64))) l lv Fr_lv w) (i_a : InK .i64 a) (i_b : InK .i64 b) : Calls Tryd.prog 65 #[lv, .agg #[.int .i64 a, .int .i64 b]] w (Ret w (fun r _ => r = .bool (crossesB l (a, b)))) := by
  have b_b := bd_i64 i_b
  have b_a := bd_i64 i_a
  have a_lv := h_lv.any
  have l_lv := h_lv.len63
  have hS := St.start0 w
  refine enterR Tryd.func65 rfl Tryd.ntmps65 Tryd.results65 rfl ?_
  refine W.seq ?_
  refine W.reg ?_
  refine Wx.box (cs := [.int .i64 a, .int .i64 b]) hS rfl rfl rfl (fun g_1 w_2 hx_4 hb_3 hS => ?_)
  refine Wx.rd (v := .bool false) (rd_assign rfl) rfl ?_
  refine Wx.nil ?_
  refine W.seq ?_
  refine W.seq ?_
  refine W.reg ?_
  refine Wx.rd (v := .int .i64 0) (rd_assign rfl) rfl ?_
  refine Wx.nil ?_
  refine W.block ?_
  refine W.loop [4, 5, 6, 7, 8, 9, 10, 11, 12, 13, 14, 15, 16, 17, 18, 19, 20, 21, 22, 23, 24, 25, 26, 27, 28, 29, 30, 31, 32, 33, 34, 35, 36, 37, 38, 39, 40, 41, 42, 43, 44, 45, 46, 47, 48, 49, 50, 51, 52, 53, 54, 55, 56] (fun (k : Int) => [(5, .int .i64 k)]) (fun (k : Int) w' => St w [] w' [.box g_1 58 [.int .i64 a, .int .i64 b]] ∧ 0 ≤ k ∧ k ≤ l.length ∧ crossesB (l.drop k.toNat) (a, b) = crossesB l (a, b)) (fun (k : Int) => (l.length - k).toNat) 0 ⟨rfl, trivial⟩ ⟨hS, (by first | omega | simp), (by first | omega | simp), (by simp)⟩ ?_
  rintro k u_6 w_5 ⟨hS, h0, h1, h2⟩
  refine W.seq ?_
  refine W.seq ?_
  refine W.reg ?_
  refine Wx.rd (v := .int .i64 k) (rd_move rfl) rfl ?_
  refine Wx.rd (v := lv) (rd_move rfl) rfl ?_
  refine Wx.rd (v := .int .i64 (l.length : Int)) (rd_lenV rfl (hS.arg a_lv) Tryd.underlying22) rfl ?_
  refine Wx.rd (v := .bool (decide (k < (l.length : Int)))) (rd_lss rfl rfl) rfl ?_
  refine Wx.nil ?_
  refine W.condD rfl (fun c0 => ?_) (fun c0 => ?_)
  · -- yes
    refine W.skip ?_
    refine W.seq ?_
    refine W.block ?_
    refine W.seq ?_
    refine W.reg ?_
    refine Wx.rd (v := lv) (rd_move rfl) rfl ?_
    refine Wx.rd (v := .int .i64 k) (rd_move rfl) rfl ?_
    refine Wx.ex (rd_index (0, 0) (hS.arg a_lv) rfl rfl Tryd.underlying22 Tryd.sizeOf58 (by first | omega | (simp only [List.length_set, List.length_append, List.length_cons, List.length_nil, List.length_replicate]; omega)) (by first | omega | (simp only [List.length_set, List.length_append, List.length_cons, List.length_nil, List.length_replicate]; omega))) rfl (fun p_7 hp_8 => ?_)
    refine Wx.ex (rd_load hp_8 rfl Tryd.isAgg58 Tryd.sizeOf58) rfl (fun v_9 hv_10 => ?_)
    obtain ⟨rfl, bd_11, bd_12⟩ := hv_10.i2
    have bd_11 := bd_i64 bd_11
    have bd_12 := bd_i64 bd_12
    refine Wx.alloc (cs := [.int .i64 0, .int .i64 0]) hS Tryd.zeroValue58 rfl rfl (fun g_13 w_14 hx_16 hb_15 hS => ?_)
    refine Wx.storeX (cs' := [.int .i64 ((ix (0, 0) l k).1), .int .i64 ((ix (0, 0) l k).2)]) (ds := [.int .i64 ((ix (0, 0) l k).1), .int .i64 ((ix (0, 0) l k).2)]) hS 0 rfl rfl rfl rfl Tryd.sizeOf58 (Nat.le_of_ble_eq_true rfl) (one_cons rfl (one_cons rfl one_nil)) rfl (fun w_17 hz_18 hS => ?_)
    refine Wx.nil ?_
    refine W.seq ?_
    refine W.reg ?_
    refine Wx.rd (v := .pointer (some ⟨g_1, 0, none⟩)) (rd_indexArr (n := 0) rfl rfl Tryd.underlying58 Tryd.sizeOf3 (by decide) (by decide)) rfl ?_
    refine Wx.rd (v := .int .i64 a) (rd_loadX hS 1 rfl rfl rfl Tryd.isAgg3) rfl ?_
    refine Wx.rd (v := .pointer (some ⟨g_13, 0, none⟩)) (rd_indexArr (n := 0) rfl rfl Tryd.underlying58 Tryd.sizeOf3 (by decide) (by decide)) rfl ?_
    refine Wx.rd (v := .int .i64 ((ix (0, 0) l k).1)) (rd_loadX hS 0 rfl rfl rfl Tryd.isAgg3) rfl ?_
    refine Wx.rd (v := .bool (decide (a < ((ix (0, 0) l k).1)))) (rd_lss rfl rfl) rfl ?_
    refine Wx.rd (v := .bool (decide (a < ((ix (0, 0) l k).1)))) (rd_move rfl) rfl ?_
    refine Wx.cut (X := Unit) 6 [23, 24, 25, 26, 27, 28] (fun _ => [(28, .bool (decide (a < ((ix (0, 0) l k).1)) && decide (((ix (0, 0) l k).1) < b)))]) (fun _ w' => St w [] w' [.box g_13 58 [.int .i64 ((ix (0, 0) l k).1), .int .i64 ((ix (0, 0) l k).2)], .box g_1 58 [.int .i64 a, .int .i64 b]]) ?_ ?_
    · rcases Bool.eq_false_or_eq_true (decide (a < ((ix (0, 0) l k).1))) with g_19 | g_19
      · -- True
        have gp_20 := of_decide_eq_true g_19
        refine Wx.gyes rfl rfl (congrArg Value.bool g_19) ?_
        refine Wx.rd (v := .pointer (some ⟨g_13, 0, none⟩)) (rd_indexArr (n := 0) rfl rfl Tryd.underlying58 Tryd.sizeOf3 (by decide) (by decide)) rfl ?_
        refine Wx.gyes rfl rfl (congrArg Value.bool g_19) ?_
        refine Wx.rd (v := .int .i64 ((ix (0, 0) l k).1)) (rd_loadX hS 0 rfl rfl rfl Tryd.isAgg3) rfl ?_
        refine Wx.gyes rfl rfl (congrArg Value.bool g_19) ?_
        refine Wx.rd (v := .pointer (some ⟨g_1, 1, none⟩)) (rd_indexArr (n := 1) rfl rfl Tryd.underlying58 Tryd.sizeOf3 (by decide) (by decide)) rfl ?_
        refine Wx.gyes rfl rfl (congrArg Value.bool g_19) ?_
        refine Wx.rd (v := .int .i64 b) (rd_loadX hS 1 rfl rfl rfl Tryd.isAgg3) rfl ?_
        refine Wx.gyes rfl rfl (congrArg Value.bool g_19) ?_
        refine Wx.rd (v := .bool (decide (((ix (0, 0) l k).1) < b))) (rd_lss rfl rfl) rfl ?_
        refine Wx.rd (v := .bool (decide (((ix (0, 0) l k).1) < b))) (rd_pickT (congrArg Value.bool g_19) rfl) rfl ?_
        refine Wx.nil ⟨(), hS, ⟨?_, trivial⟩, Out.look rfl Out.refl⟩
        show Value.bool (decide (((ix (0, 0) l k).1) < b)) = Value.bool (decide (a < ((ix (0, 0) l k).1)) && decide (((ix (0, 0) l k).1) < b))
        rw [g_19]; rfl
      · -- False
        have gp_21 := of_decide_eq_false g_19
        refine Wx.gnoB rfl rfl (congrArg Value.bool g_19) rfl rfl ?_
        refine Wx.gnoB rfl rfl (congrArg Value.bool g_19) rfl rfl ?_
        refine Wx.gnoB rfl rfl (congrArg Value.bool g_19) rfl rfl ?_
        refine Wx.gnoB rfl rfl (congrArg Value.bool g_19) rfl rfl ?_
        refine Wx.gnoB rfl rfl (congrArg Value.bool g_19) rfl rfl ?_
        refine Wx.rd (v := .bool false) (rd_pickF (congrArg Value.bool g_19) rfl) rfl ?_
        refine Wx.nil ⟨(), hS, ⟨?_, trivial⟩, Out.look rfl Out.refl⟩
        show Value.bool false = Value.bool (decide (a < ((ix (0, 0) l k).1)) && decide (((ix (0, 0) l k).1) < b))
        rw [g_19]; rfl
    rintro ⟨⟩ u_23 w_22 hS
    refine Wx.rd (v := .bool (decide (a < ((ix (0, 0) l k).1)) && decide (((ix (0, 0) l k).1) < b))) (rd_move rfl) rfl ?_
    refine Wx.cut (X := Unit) 6 [30, 31, 32, 33, 34, 35] (fun _ => [(35, .bool ((decide (a < ((ix (0, 0) l k).1)) && decide (((ix (0, 0) l k).1) < b)) && decide (b < ((ix (0, 0) l k).2))))]) (fun _ w' => St w [] w' [.box g_13 58 [.int .i64 ((ix (0, 0) l k).1), .int .i64 ((ix (0, 0) l k).2)], .box g_1 58 [.int .i64 a, .int .i64 b]]) ?_ ?_
    · rcases Bool.eq_false_or_eq_true (decide (a < ((ix (0, 0) l k).1)) && decide (((ix (0, 0) l k).1) < b)) with g_24 | g_24
      · -- True
        have gp_25 := g_24
        try simp only [Bool.and_eq_true, Bool.or_eq_true, Bool.not_eq_true', Bool.and_eq_false_iff, Bool.or_eq_false_iff, Bool.not_eq_false', decide_eq_true_eq, decide_eq_false_iff_not, not_or, Bool.false_eq_true, Bool.true_eq_false, false_or, or_false, not_false_eq_true] at gp_25
        refine Wx.gyes rfl rfl (congrArg Value.bool g_24) ?_
        refine Wx.rd (v := .pointer (some ⟨g_1, 1, none⟩)) (rd_indexArr (n := 1) rfl rfl Tryd.underlying58 Tryd.sizeOf3 (by decide) (by decide)) rfl ?_
        refine Wx.gyes rfl rfl (congrArg Value.bool g_24) ?_
        refine Wx.rd (v := .int .i64 b) (rd_loadX hS 1 rfl rfl rfl Tryd.isAgg3) rfl ?_
        refine Wx.gyes rfl rfl (congrArg Value.bool g_24) ?_
        refine Wx.rd (v := .pointer (some ⟨g_13, 1, none⟩)) (rd_indexArr (n := 1) rfl rfl Tryd.underlying58 Tryd.sizeOf3 (by decide) (by decide)) rfl ?_
        refine Wx.gyes rfl rfl (congrArg Value.bool g_24) ?_
        refine Wx.rd (v := .int .i64 ((ix (0, 0) l k).2)) (rd_loadX hS 0 rfl rfl rfl Tryd.isAgg3) rfl ?_
        refine Wx.gyes rfl rfl (congrArg Value.bool g_24) ?_
        refine Wx.rd (v := .bool (decide (b < ((ix (0, 0) l k).2)))) (rd_lss rfl rfl) rfl ?_
        refine Wx.rd (v := .bool (decide (b < ((ix (0, 0) l k).2)))) (rd_pickT (congrArg Value.bool g_24) rfl) rfl ?_
        refine Wx.nil ⟨(), hS, ⟨?_, trivial⟩, Out.look rfl Out.refl⟩
        show Value.bool (decide (b < ((ix (0, 0) l k).2))) = Value.bool ((decide (a < ((ix (0, 0) l k).1)) && decide (((ix (0, 0) l k).1) < b)) && decide (b < ((ix (0, 0) l k).2)))
        rw [g_24]; rfl
      · -- False
        have gp_26 := g_24
        try simp only [Bool.and_eq_true, Bool.or_eq_true, Bool.not_eq_true', Bool.and_eq_false_iff, Bool.or_eq_false_iff, Bool.not_eq_false', decide_eq_true_eq, decide_eq_false_iff_not, not_or, Bool.false_eq_true, Bool.true_eq_false, false_or, or_false, not_false_eq_true] at gp_26
        refine Wx.gnoB rfl rfl (congrArg Value.bool g_24) rfl rfl ?_
        refine Wx.gnoB rfl rfl (congrArg Value.bool g_24) rfl rfl ?_
        refine Wx.gnoB rfl rfl (congrArg Value.bool g_24) rfl rfl ?_
        refine Wx.gnoB rfl rfl (congrArg Value.bool g_24) rfl rfl ?_
        refine Wx.gnoB rfl rfl (congrArg Value.bool g_24) rfl rfl ?_
        refine Wx.rd (v := .bool false) (rd_pickF (congrArg Value.bool g_24) rfl) rfl ?_
        refine Wx.nil ⟨(), hS, ⟨?_, trivial⟩, Out.look rfl Out.refl⟩
        show Value.bool false = Value.bool ((decide (a < ((ix (0, 0) l k).1)) && decide (((ix (0, 0) l k).1) < b)) && decide (b < ((ix (0, 0) l k).2)))
        rw [g_24]; rfl
    rintro ⟨⟩ u_28 w_27 hS
    refine Wx.rd (v := .bool ((decide (a < ((ix (0, 0) l k).1)) && decide (((ix (0, 0) l k).1) < b)) && decide (b < ((ix (0, 0) l k).2)))) (rd_move rfl) rfl ?_
    refine Wx.cut (X := Unit) 20 [37, 38, 39, 40, 41, 42, 43, 44, 45, 46, 47, 48, 49, 50, 51, 52, 53, 54, 55, 56] (fun _ => [(56, .bool (((decide (a < ((ix (0, 0) l k).1)) && decide (((ix (0, 0) l k).1) < b)) && decide (b < ((ix (0, 0) l k).2))) || ((decide (((ix (0, 0) l k).1) < a) && decide (a < ((ix (0, 0) l k).2))) && decide (((ix (0, 0) l k).2) < b))))]) (fun _ w' => St w [] w' [.box g_13 58 [.int .i64 ((ix (0, 0) l k).1), .int .i64 ((ix (0, 0) l k).2)], .box g_1 58 [.int .i64 a, .int .i64 b]]) ?_ ?_
    · rcases Bool.eq_false_or_eq_true ((decide (a < ((ix (0, 0) l k).1)) && decide (((ix (0, 0) l k).1) < b)) && decide (b < ((ix (0, 0) l k).2))) with g_29 | g_29
      · -- True
        have gp_30 := g_29
        try simp only [Bool.and_eq_true, Bool.or_eq_true, Bool.not_eq_true', Bool.and_eq_false_iff, Bool.or_eq_false_iff, Bool.not_eq_false', decide_eq_true_eq, decide_eq_false_iff_not, not_or, Bool.false_eq_true, Bool.true_eq_false, false_or, or_false, not_false_eq_true] at gp_30
        refine Wx.gnoB rfl rfl (congrArg Value.bool g_29) rfl rfl ?_
        refine Wx.gnoB rfl rfl (congrArg Value.bool g_29) rfl rfl ?_
        refine Wx.gnoB rfl rfl (congrArg Value.bool g_29) rfl rfl ?_
        refine Wx.gnoB rfl rfl (congrArg Value.bool g_29) rfl rfl ?_
        refine Wx.gnoB rfl rfl (congrArg Value.bool g_29) rfl rfl ?_
        refine Wx.gnoB rfl rfl (congrArg Value.bool g_29) rfl rfl ?_
        refine Wx.gno rfl rfl rfl rfl ?_
        refine Wx.gno rfl rfl rfl rfl ?_
        refine Wx.gno rfl rfl rfl rfl ?_
        refine Wx.gno rfl rfl rfl rfl ?_
        refine Wx.gno rfl rfl rfl rfl ?_
        refine Wx.gnoB rfl rfl (congrArg Value.bool g_29) rfl rfl ?_
        refine Wx.gnoB rfl rfl (congrArg Value.bool g_29) rfl rfl ?_
        refine Wx.gno rfl rfl rfl rfl ?_
        refine Wx.gno rfl rfl rfl rfl ?_
        refine Wx.gno rfl rfl rfl rfl ?_
        refine Wx.gno rfl rfl rfl rfl ?_
        refine Wx.gno rfl rfl rfl rfl ?_
        refine Wx.gnoB rfl rfl (congrArg Value.bool g_29) rfl rfl ?_
        refine Wx.rd (v := .bool true) (rd_pickT (congrArg Value.bool g_29) rfl) rfl ?_
        refine Wx.nil ⟨(), hS, ⟨?_, trivial⟩, Out.look rfl Out.refl⟩
        show Value.bool true = Value.bool (((decide (a < ((ix (0, 0) l k).1)) && decide (((ix (0, 0) l k).1) < b)) && decide (b < ((ix (0, 0) l k).2))) || ((decide (((ix (0, 0) l k).1) < a) && decide (a < ((ix (0, 0) l k).2))) && decide (((ix (0, 0) l k).2) < b)))
        rw [g_29]; rfl
      · -- False
        have gp_31 := g_29
        try simp only [Bool.and_eq_true, Bool.or_eq_true, Bool.not_eq_true', Bool.and_eq_false_iff, Bool.or_eq_false_iff, Bool.not_eq_false', decide_eq_true_eq, decide_eq_false_iff_not, not_or, Bool.false_eq_true, Bool.true_eq_false, false_or, or_false, not_false_eq_true] at gp_31
        refine Wx.gyes rfl rfl (congrArg Value.bool g_29) ?_
        refine Wx.rd (v := .pointer (some ⟨g_13, 0, none⟩)) (rd_indexArr (n := 0) rfl rfl Tryd.underlying58 Tryd.sizeOf3 (by decide) (by decide)) rfl ?_
        refine Wx.gyes rfl rfl (congrArg Value.bool g_29) ?_
        refine Wx.rd (v := .int .i64 ((ix (0, 0) l k).1)) (rd_loadX hS 0 rfl rfl rfl Tryd.isAgg3) rfl ?_
        refine Wx.gyes rfl rfl (congrArg Value.bool g_29) ?_
        refine Wx.rd (v := .pointer (some ⟨g_1, 0, none⟩)) (rd_indexArr (n := 0) rfl rfl Tryd.underlying58 Tryd.sizeOf3 (by decide) (by decide)) rfl ?_
        refine Wx.gyes rfl rfl (congrArg Value.bool g_29) ?_
        refine Wx.rd (v := .int .i64 a) (rd_loadX hS 1 rfl rfl rfl Tryd.isAgg3) rfl ?_
        refine Wx.gyes rfl rfl (congrArg Value.bool g_29) ?_
        refine Wx.rd (v := .bool (decide (((ix (0, 0) l k).1) < a))) (rd_lss rfl rfl) rfl ?_
        refine Wx.gyes rfl rfl (congrArg Value.bool g_29) ?_
        refine Wx.rd (v := .bool (decide (((ix (0, 0) l k).1) < a))) (rd_move rfl) rfl ?_
        refine Wx.cut (X := Unit) 6 [43, 44, 45, 46, 47, 48] (fun _ => [(48, .bool (decide (((ix (0, 0) l k).1) < a) && decide (a < ((ix (0, 0) l k).2))))]) (fun _ w' => St w [] w' [.box g_13 58 [.int .i64 ((ix (0, 0) l k).1), .int .i64 ((ix (0, 0) l k).2)], .box g_1 58 [.int .i64 a, .int .i64 b]]) ?_ ?_
        · rcases Bool.eq_false_or_eq_true (decide (((ix (0, 0) l k).1) < a)) with g_32 | g_32
          · -- True
            have gp_33 := of_decide_eq_true g_32
            refine Wx.gyes rfl rfl (congrArg Value.bool g_32) ?_
            refine Wx.rd (v := .pointer (some ⟨g_1, 0, none⟩)) (rd_indexArr (n := 0) rfl rfl Tryd.underlying58 Tryd.sizeOf3 (by decide) (by decide)) rfl ?_
            refine Wx.gyes rfl rfl (congrArg Value.bool g_32) ?_
            refine Wx.rd (v := .int .i64 a) (rd_loadX hS 1 rfl rfl rfl Tryd.isAgg3) rfl ?_
            refine Wx.gyes rfl rfl (congrArg Value.bool g_32) ?_
            refine Wx.rd (v := .pointer (some ⟨g_13, 1, none⟩)) (rd_indexArr (n := 1) rfl rfl Tryd.underlying58 Tryd.sizeOf3 (by decide) (by decide)) rfl ?_
            refine Wx.gyes rfl rfl (congrArg Value.bool g_32) ?_
            refine Wx.rd (v := .int .i64 ((ix (0, 0) l k).2)) (rd_loadX hS 0 rfl rfl rfl Tryd.isAgg3) rfl ?_
            refine Wx.gyes rfl rfl (congrArg Value.bool g_32) ?_
            refine Wx.rd (v := .bool (decide (a < ((ix (0, 0) l k).2)))) (rd_lss rfl rfl) rfl ?_
            refine Wx.gyes rfl rfl (congrArg Value.bool g_29) ?_
            refine Wx.rd (v := .bool (decide (a < ((ix (0, 0) l k).2)))) (rd_pickT (congrArg Value.bool g_32) rfl) rfl ?_
            refine Wx.nil ⟨(), hS, ⟨?_, trivial⟩, Out.look rfl Out.refl⟩
            show Value.bool (decide (a < ((ix (0, 0) l k).2))) = Value.bool (decide (((ix (0, 0) l k).1) < a) && decide (a < ((ix (0, 0) l k).2)))
            rw [g_32]; rfl
          · -- False
            have gp_34 := of_decide_eq_false g_32
            refine Wx.gnoB rfl rfl (congrArg Value.bool g_32) rfl rfl ?_
            refine Wx.gnoB rfl rfl (congrArg Value.bool g_32) rfl rfl ?_
            refine Wx.gnoB rfl rfl (congrArg Value.bool g_32) rfl rfl ?_
            refine Wx.gnoB rfl rfl (congrArg Value.bool g_32) rfl rfl ?_
            refine Wx.gnoB rfl rfl (congrArg Value.bool g_32) rfl rfl ?_
            refine Wx.gyes rfl rfl (congrArg Value.bool g_29) ?_
            refine Wx.rd (v := .bool false) (rd_pickF (congrArg Value.bool g_32) rfl) rfl ?_
            refine Wx.nil ⟨(), hS, ⟨?_, trivial⟩, Out.look rfl Out.refl⟩
            show Value.bool false = Value.bool (decide (((ix (0, 0) l k).1) < a) && decide (a < ((ix (0, 0) l k).2)))
            rw [g_32]; rfl
        rintro ⟨⟩ u_36 w_35 hS
        refine Wx.gyes rfl rfl (congrArg Value.bool g_29) ?_
        refine Wx.rd (v := .bool (decide (((ix (0, 0) l k).1) < a) && decide (a < ((ix (0, 0) l k).2)))) (rd_move rfl) rfl ?_
        refine Wx.cut (X := Unit) 6 [50, 51, 52, 53, 54, 55] (fun _ => [(55, .bool ((decide (((ix (0, 0) l k).1) < a) && decide (a < ((ix (0, 0) l k).2))) && decide (((ix (0, 0) l k).2) < b)))]) (fun _ w' => St w [] w' [.box g_13 58 [.int .i64 ((ix (0, 0) l k).1), .int .i64 ((ix (0, 0) l k).2)], .box g_1 58 [.int .i64 a, .int .i64 b]]) ?_ ?_
        · rcases Bool.eq_false_or_eq_true (decide (((ix (0, 0) l k).1) < a) && decide (a < ((ix (0, 0) l k).2))) with g_37 | g_37
          · -- True
            have gp_38 := g_37
            try simp only [Bool.and_eq_true, Bool.or_eq_true, Bool.not_eq_true', Bool.and_eq_false_iff, Bool.or_eq_false_iff, Bool.not_eq_false', decide_eq_true_eq, decide_eq_false_iff_not, not_or, Bool.false_eq_true, Bool.true_eq_false, false_or, or_false, not_false_eq_true] at gp_38
            refine Wx.gyes rfl rfl (congrArg Value.bool g_37) ?_
            refine Wx.rd (v := .pointer (some ⟨g_13, 1, none⟩)) (rd_indexArr (n := 1) rfl rfl Tryd.underlying58 Tryd.sizeOf3 (by decide) (by decide)) rfl ?_
            refine Wx.gyes rfl rfl (congrArg Value.bool g_37) ?_
            refine Wx.rd (v := .int .i64 ((ix (0, 0) l k).2)) (rd_loadX hS 0 rfl rfl rfl Tryd.isAgg3) rfl ?_
            refine Wx.gyes rfl rfl (congrArg Value.bool g_37) ?_
            refine Wx.rd (v := .pointer (some ⟨g_1, 1, none⟩)) (rd_indexArr (n := 1) rfl rfl Tryd.underlying58 Tryd.sizeOf3 (by decide) (by decide)) rfl ?_
            refine Wx.gyes rfl rfl (congrArg Value.bool g_37) ?_
            refine Wx.rd (v := .int .i64 b) (rd_loadX hS 1 rfl rfl rfl Tryd.isAgg3) rfl ?_
            refine Wx.gyes rfl rfl (congrArg Value.bool g_37) ?_
            refine Wx.rd (v := .bool (decide (((ix (0, 0) l k).2) < b))) (rd_lss rfl rfl) rfl ?_
            refine Wx.gyes rfl rfl (congrArg Value.bool g_29) ?_
            refine Wx.rd (v := .bool (decide (((ix (0, 0) l k).2) < b))) (rd_pickT (congrArg Value.bool g_37) rfl) rfl ?_
            refine Wx.nil ⟨(), hS, ⟨?_, trivial⟩, Out.look rfl Out.refl⟩
            show Value.bool (decide (((ix (0, 0) l k).2) < b)) = Value.bool ((decide (((ix (0, 0) l k).1) < a) && decide (a < ((ix (0, 0) l k).2))) && decide (((ix (0, 0) l k).2) < b))
            rw [g_37]; rfl
          · -- False
            have gp_39 := g_37
            try simp only [Bool.and_eq_true, Bool.or_eq_true, Bool.not_eq_true', Bool.and_eq_false_iff, Bool.or_eq_false_iff, Bool.not_eq_false', decide_eq_true_eq, decide_eq_false_iff_not, not_or, Bool.false_eq_true, Bool.true_eq_false, false_or, or_false, not_false_eq_true] at gp_39
            refine Wx.gnoB rfl rfl (congrArg Value.bool g_37) rfl rfl ?_
            refine Wx.gnoB rfl rfl (congrArg Value.bool g_37) rfl rfl ?_
            refine Wx.gnoB rfl rfl (congrArg Value.bool g_37) rfl rfl ?_
            refine Wx.gnoB rfl rfl (congrArg Value.bool g_37) rfl rfl ?_
            refine Wx.gnoB rfl rfl (congrArg Value.bool g_37) rfl rfl ?_
            refine Wx.gyes rfl rfl (congrArg Value.bool g_29) ?_
            refine Wx.rd (v := .bool false) (rd_pickF (congrArg Value.bool g_37) rfl) rfl ?_
            refine Wx.nil ⟨(), hS, ⟨?_, trivial⟩, Out.look rfl Out.refl⟩
            show Value.bool false = Value.bool ((decide (((ix (0, 0) l k).1) < a) && decide (a < ((ix (0, 0) l k).2))) && decide (((ix (0, 0) l k).2) < b))
            rw [g_37]; rfl
        rintro ⟨⟩ u_41 w_40 hS
        refine Wx.rd (v := .bool ((decide (((ix (0, 0) l k).1) < a) && decide (a < ((ix (0, 0) l k).2))) && decide (((ix (0, 0) l k).2) < b))) (rd_pickF (congrArg Value.bool g_29) rfl) rfl ?_
        refine Wx.nil ⟨(), hS, ⟨?_, trivial⟩, Out.look rfl (Out.hav rfl (Out.look rfl (Out.hav rfl (Out.look rfl Out.refl))))⟩
        show Value.bool ((decide (((ix (0, 0) l k).1) < a) && decide (a < ((ix (0, 0) l k).2))) && decide (((ix (0, 0) l k).2) < b)) = Value.bool (((decide (a < ((ix (0, 0) l k).1)) && decide (((ix (0, 0) l k).1) < b)) && decide (b < ((ix (0, 0) l k).2))) || ((decide (((ix (0, 0) l k).1) < a) && decide (a < ((ix (0, 0) l k).2))) && decide (((ix (0, 0) l k).2) < b)))
        rw [g_29]; rfl
    rintro ⟨⟩ u_43 w_42 hS
    refine Wx.nil ?_
    refine W.cond rfl (fun c1 => ?_) (fun c1 => ?_)
    · -- yes
      try simp only [Bool.and_eq_true, Bool.or_eq_true, Bool.not_eq_true', Bool.and_eq_false_iff, Bool.or_eq_false_iff, Bool.not_eq_false', decide_eq_true_eq, decide_eq_false_iff_not, not_or, Bool.false_eq_true, Bool.true_eq_false, false_or, or_false, not_false_eq_true] at c1
      refine W.seq ?_
      refine W.reg ?_
      refine Wx.rd (v := .bool true) (rd_assign rfl) rfl ?_
      refine Wx.nil ?_
      have e0_0 : (crossesB l (a, b)) = true := by exact crossesB_yes h0 c0 h2 (by rw [crossB_iff]; omega)
      exact W.ret ⟨.bool true, ResIs.one, hS.bel, (by rw [e0_0])⟩
    · -- no
      try simp only [Bool.and_eq_true, Bool.or_eq_true, Bool.not_eq_true', Bool.and_eq_false_iff, Bool.or_eq_false_iff, Bool.not_eq_false', decide_eq_true_eq, decide_eq_false_iff_not, not_or, Bool.false_eq_true, Bool.true_eq_false, false_or, or_false, not_false_eq_true] at c1
      refine W.skip ?_
      refine W.reg ?_
      refine Wx.rd (v := .int .i64 k) (rd_move rfl) rfl ?_
      refine Wx.rd (v := .int .i64 (k + 1)) (rd_add rfl rfl (in_i64 (by omega) (by omega))) rfl ?_
      refine Wx.rd (v := .int .i64 (k + 1)) (rd_assign rfl) rfl ?_
      refine Wx.nil ?_
      refine ⟨k + 1, (by show (l.length - (k + 1)).toNat < (l.length - k).toNat; omega), ?_, ?_, Out.look rfl (Out.hav rfl (Out.look rfl (Out.hav rfl (Out.look rfl (Out.hav rfl (Out.look rfl Out.self))))))⟩
      · exact ⟨hS.tl, (by first | omega | assumption), (by first | omega | assumption), (crossesB_no h0 c0 h2 (by rw [← Bool.not_eq_true, crossB_iff]; omega))⟩
      · exact ⟨rfl, trivial⟩
  · -- no
    refine W.exit rfl ?_
    refine W.seq ?_
    refine W.reg ?_
    refine Wx.rd (v := .bool false) (rd_assign rfl) rfl ?_
    refine Wx.nil ?_
    have e1_0 : (crossesB l (a, b)) = false := by exact crossesB_end (by omega) h2
    exact W.ret ⟨.bool false, ResIs.one, hS.bel, (by rw [e1_0])⟩

theorem F20 {rim : ByteArray} {lv : Value} {l : List (Int × Int)} {Fr_lv : List (Option Nat)} {w : World} (s_rim : rim.size ≤ maxLen) (h_lv : V (tSl (tP (tI .i64) (tI .i64))) l lv Fr_lv w) : Calls Tryd.prog 20 #[.string rim, lv] w (Ret w (fun r _ => r = .int .i64 (validE rim l))) := by
  have a_lv := h_lv.any
  have l_lv := h_lv.len63
  have hS := St.start0 w
  refine enterR Tryd.func20 rfl Tryd.ntmps20 Tryd.results20 rfl ?_
  refine W.seq ?_
  refine W.reg ?_
  refine Wx.rd (v := .int .i64 0) (rd_assign rfl) rfl ?_
  refine Wx.nil ?_
  refine W.seq ?_
  refine W.reg ?_
  refine Wx.rd (v := .string rim) (rd_move rfl) rfl ?_
  refine Wx.callF (run_callF Tryd.call18 rfl) (F18 (by first | assumption | (simp only [maxLen]; omega) | (simp only [ByteArray.size_extract, ByteArray.size_append, maxLen] at *; omega) | decide)) rfl ?_
  rintro r_1 w_2 hx_3 rfl
  have hS := hS.ext hx_3
  refine Wx.rd (v := .int .i64 (rimE rim)) (rd_assign rfl) rfl ?_
  refine Wx.nil ?_
  refine W.seq ?_
  refine W.seq ?_
  refine W.reg ?_
  refine Wx.rd (v := .int .i64 (rimE rim)) (rd_move rfl) rfl ?_
  refine Wx.rd (v := .bool (decide ((rimE rim) ≠ 0))) (rd_neq rfl rfl) rfl ?_
  refine Wx.nil ?_
  refine W.condD rfl (fun c0 => ?_) (fun c0 => ?_)
  · -- yes
    refine W.seq ?_
    refine W.reg ?_
    refine Wx.rd (v := .int .i64 (rimE rim)) (rd_move rfl) rfl ?_
    refine Wx.rd (v := .int .i64 (rimE rim)) (rd_assign rfl) rfl ?_
    refine Wx.nil ?_
    have e0_0 : (validE rim l) = (rimE rim : Int) := by exact if_neg c0
    exact W.ret ⟨.int .i64 (rimE rim), ResIs.one, hS.bel, (by rw [e0_0])⟩
  · -- no
    have hr0 : rimE rim = 0 := by omega
    obtain ⟨hr1, hr2⟩ := rimE_ok hr0
    refine W.skip ?_
    refine W.seq ?_
    refine W.seq ?_
    refine W.reg ?_
    refine Wx.rd (v := .int .i64 0) (rd_assign rfl) rfl ?_
    refine Wx.nil ?_
    refine W.block ?_
    refine W.loop [4, 6, 7, 13, 14, 15, 16, 17, 18, 19, 20, 21, 22, 23, 24, 25, 26, 27, 28, 29, 30, 31, 32, 33, 34, 35, 36, 37, 38, 39, 40, 41, 42, 43, 44, 45, 46, 47, 48, 49, 50, 51, 52, 53, 54, 55, 56, 57, 58, 59, 60, 61, 62, 63, 64, 65, 66, 67, 68, 69, 70, 71, 72, 73, 74, 75, 76, 77, 78, 79, 80, 81, 82] (fun (k : Int) => [(6, .int .i64 k)]) (fun (k : Int) w' => St w [] w' [] ∧ 0 ≤ k ∧ k ≤ l.length ∧ validT rim (l.take k.toNat) (l.drop k.toNat) = validT rim [] l) (fun (k : Int) => (l.length - k).toNat) 0 ⟨rfl, trivial⟩ ⟨hS, (by first | omega | simp), (by first | omega | simp), (by simp)⟩ ?_
    rintro k u_5 w_4 ⟨hS, h0, h1, h2⟩
    refine W.seq ?_
    refine W.seq ?_
    refine W.reg ?_
    refine Wx.rd (v := .int .i64 k) (rd_move rfl) rfl ?_
    refine Wx.rd (v := lv) (rd_move rfl) rfl ?_
    refine Wx.rd (v := .int .i64 (l.length : Int)) (rd_lenV rfl (hS.arg a_lv) Tryd.underlying22) rfl ?_
    refine Wx.rd (v := .bool (decide (k < (l.length : Int)))) (rd_lss rfl rfl) rfl ?_
    refine Wx.nil ?_
    refine W.condD rfl (fun c1 => ?_) (fun c1 => ?_)
    · -- yes
      refine W.skip ?_
      refine W.seq ?_
      refine W.block ?_
      refine W.seq ?_
      refine W.reg ?_
      refine Wx.rd (v := lv) (rd_move rfl) rfl ?_
      refine Wx.rd (v := .int .i64 k) (rd_move rfl) rfl ?_
      refine Wx.ex (rd_index (0, 0) (hS.arg a_lv) rfl rfl Tryd.underlying22 Tryd.sizeOf58 (by first | omega | (simp only [List.length_set, List.length_append, List.length_cons, List.length_nil, List.length_replicate]; omega)) (by first | omega | (simp only [List.length_set, List.length_append, List.length_cons, List.length_nil, List.length_replicate]; omega))) rfl (fun p_6 hp_7 => ?_)
      refine Wx.ex (rd_load hp_7 rfl Tryd.isAgg58 Tryd.sizeOf58) rfl (fun v_8 hv_9 => ?_)
      obtain ⟨rfl, bd_10, bd_11⟩ := hv_9.i2
      have bd_10 := bd_i64 bd_10
      have bd_11 := bd_i64 bd_11
      refine Wx.alloc (cs := [.int .i64 0, .int .i64 0]) hS Tryd.zeroValue58 rfl rfl (fun g_12 w_13 hx_15 hb_14 hS => ?_)
      refine Wx.storeX (cs' := [.int .i64 ((ix (0, 0) l k).1), .int .i64 ((ix (0, 0) l k).2)]) (ds := [.int .i64 ((ix (0, 0) l k).1), .int .i64 ((ix (0, 0) l k).2)]) hS 0 rfl rfl rfl rfl Tryd.sizeOf58 (Nat.le_of_ble_eq_true rfl) (one_cons rfl (one_cons rfl one_nil)) rfl (fun w_16 hz_17 hS => ?_)
      refine Wx.nil ?_
      refine W.seq ?_
      refine W.seq ?_
      refine W.reg ?_
      refine Wx.rd (v := .pointer (some ⟨g_12, 0, none⟩)) (rd_indexArr (n := 0) rfl rfl Tryd.underlying58 Tryd.sizeOf3 (by decide) (by decide)) rfl ?_
      refine Wx.rd (v := .int .i64 ((ix (0, 0) l k).1)) (rd_loadX hS 0 rfl rfl rfl Tryd.isAgg3) rfl ?_
      refine Wx.rd (v := .string rim) (rd_move rfl) rfl ?_
      refine Wx.rd (v := .int .i64 (rim.size : Int)) (rd_lenS rfl Tryd.underlying9) rfl ?_
      refine Wx.rd (v := .int .i64 ((rim.size : Int) - 1)) (rd_sub rfl rfl (in_i64 (by omega) (by omega))) rfl ?_
      refine Wx.callF (run_callF Tryd.call62 rfl) (F62 (in_i64 (by omega) (by omega)) (in_i64 (by omega) (by omega)) (in_i64 (by omega) (by omega))) rfl ?_
      rintro r_18 w_19 hx_20 rfl
      have hS := hS.ext hx_20
      refine Wx.rd (v := .bool (!(decide (0 ≤ ((ix (0, 0) l k).1)) && decide (((ix (0, 0) l k).1) ≤ ((rim.size : Int) - 1))))) (rd_not rfl) rfl ?_
      refine Wx.rd (v := .bool (!(decide (0 ≤ ((ix (0, 0) l k).1)) && decide (((ix (0, 0) l k).1) ≤ ((rim.size : Int) - 1))))) (rd_move rfl) rfl ?_
      refine Wx.cut (X := Unit) 8 [31, 32, 33, 34, 35, 36, 37, 38] (fun _ => [(38, .bool (!(decide (0 ≤ ((ix (0, 0) l k).1)) && decide (((ix (0, 0) l k).1) ≤ ((rim.size : Int) - 1))) || !(decide (0 ≤ ((ix (0, 0) l k).2)) && decide (((ix (0, 0) l k).2) ≤ ((rim.size : Int) - 1)))))]) (fun _ w' => St w [] w' [.box g_12 58 [.int .i64 ((ix (0, 0) l k).1), .int .i64 ((ix (0, 0) l k).2)]]) ?_ ?_
      · rcases Bool.eq_false_or_eq_true (!(decide (0 ≤ ((ix (0, 0) l k).1)) && decide (((ix (0, 0) l k).1) ≤ ((rim.size : Int) - 1)))) with g_21 | g_21
        · -- True
          have gp_22 := g_21
          try simp only [Bool.and_eq_true, Bool.or_eq_true, Bool.not_eq_true', Bool.and_eq_false_iff, Bool.or_eq_false_iff, Bool.not_eq_false', decide_eq_true_eq, decide_eq_false_iff_not, not_or, Bool.false_eq_true, Bool.true_eq_false, false_or, or_false, not_false_eq_true] at gp_22
          refine Wx.gnoB rfl rfl (congrArg Value.bool g_21) rfl rfl ?_
          refine Wx.gnoB rfl rfl (congrArg Value.bool g_21) rfl rfl ?_
          refine Wx.gnoB rfl rfl (congrArg Value.bool g_21) rfl rfl ?_
          refine Wx.gnoB rfl rfl (congrArg Value.bool g_21) rfl rfl ?_
          refine Wx.gnoB rfl rfl (congrArg Value.bool g_21) rfl rfl ?_
          refine Wx.gnoB rfl rfl (congrArg Value.bool g_21) rfl rfl ?_
          refine Wx.gnoB rfl rfl (congrArg Value.bool g_21) rfl rfl ?_
          refine Wx.rd (v := .bool true) (rd_pickT (congrArg Value.bool g_21) rfl) rfl ?_
          refine Wx.nil ⟨(), hS, ⟨?_, trivial⟩, Out.look rfl Out.refl⟩
          show Value.bool true = Value.bool (!(decide (0 ≤ ((ix (0, 0) l k).1)) && decide (((ix (0, 0) l k).1) ≤ ((rim.size : Int) - 1))) || !(decide (0 ≤ ((ix (0, 0) l k).2)) && decide (((ix (0, 0) l k).2) ≤ ((rim.size : Int) - 1))))
          rw [g_21]; rfl
        · -- False
          have gp_23 := g_21
          try simp only [Bool.and_eq_true, Bool.or_eq_true, Bool.not_eq_true', Bool.and_eq_false_iff, Bool.or_eq_false_iff, Bool.not_eq_false', decide_eq_true_eq, decide_eq_false_iff_not, not_or, Bool.false_eq_true, Bool.true_eq_false, false_or, or_false, not_false_eq_true] at gp_23
          refine Wx.gyes rfl rfl (congrArg Value.bool g_21) ?_
          refine Wx.rd (v := .pointer (some ⟨g_12, 1, none⟩)) (rd_indexArr (n := 1) rfl rfl Tryd.underlying58 Tryd.sizeOf3 (by decide) (by decide)) rfl ?_
          refine Wx.gyes rfl rfl (congrArg Value.bool g_21) ?_
          refine Wx.rd (v := .int .i64 ((ix (0, 0) l k).2)) (rd_loadX hS 0 rfl rfl rfl Tryd.isAgg3) rfl ?_
          refine Wx.gyes rfl rfl (congrArg Value.bool g_21) ?_
          refine Wx.rd (v := .string rim) (rd_move rfl) rfl ?_
          refine Wx.gyes rfl rfl (congrArg Value.bool g_21) ?_
          refine Wx.rd (v := .int .i64 (rim.size : Int)) (rd_lenS rfl Tryd.underlying9) rfl ?_
          refine Wx.gyes rfl rfl (congrArg Value.bool g_21) ?_
          refine Wx.rd (v := .int .i64 ((rim.size : Int) - 1)) (rd_sub rfl rfl (in_i64 (by omega) (by omega))) rfl ?_
          refine Wx.gyes rfl rfl (congrArg Value.bool g_21) ?_
          refine Wx.callF (run_callF Tryd.call62 rfl) (F62 (in_i64 (by omega) (by omega)) (in_i64 (by omega) (by omega)) (in_i64 (by omega) (by omega))) rfl ?_
          rintro r_24 w_25 hx_26 rfl
          have hS := hS.ext hx_26
          refine Wx.gyes rfl rfl (congrArg Value.bool g_21) ?_
          refine Wx.rd (v := .bool (!(decide (0 ≤ ((ix (0, 0) l k).2)) && decide (((ix (0, 0) l k).2) ≤ ((rim.size : Int) - 1))))) (rd_not rfl) rfl ?_
          refine Wx.rd (v := .bool (!(decide (0 ≤ ((ix (0, 0) l k).2)) && decide (((ix (0, 0) l k).2) ≤ ((rim.size : Int) - 1))))) (rd_pickF (congrArg Value.bool g_21) rfl) rfl ?_
          refine Wx.nil ⟨(), hS, ⟨?_, trivial⟩, Out.look rfl Out.refl⟩
          show Value.bool (!(decide (0 ≤ ((ix (0, 0) l k).2)) && decide (((ix (0, 0) l k).2) ≤ ((rim.size : Int) - 1)))) = Value.bool (!(decide (0 ≤ ((ix (0, 0) l k).1)) && decide (((ix (0, 0) l k).1) ≤ ((rim.size : Int) - 1))) || !(decide (0 ≤ ((ix (0, 0) l k).2)) && decide (((ix (0, 0) l k).2) ≤ ((rim.size : Int) - 1))))
          rw [g_21]; rfl
      rintro ⟨⟩ u_28 w_27 hS
      refine Wx.nil ?_
      refine W.cond rfl (fun c2 => ?_) (fun c2 => ?_)
      · -- yes
        try simp only [Bool.and_eq_true, Bool.or_eq_true, Bool.not_eq_true', Bool.and_eq_false_iff, Bool.or_eq_false_iff, Bool.not_eq_false', decide_eq_true_eq, decide_eq_false_iff_not, not_or, Bool.false_eq_true, Bool.true_eq_false, false_or, or_false, not_false_eq_true] at c2
        refine W.seq ?_
        refine W.reg ?_
        refine Wx.rd (v := .int .i64 2) (rd_assign rfl) rfl ?_
        refine Wx.nil ?_
        have e1_0 : (validE rim l) = (2 : Int) := by exact validT_bad h0 c1 h2 (badX_none (by omega)) (by decide) hr0
        exact W.ret ⟨.int .i64 2, ResIs.one, hS.bel, (by rw [e1_0])⟩
      · -- no
        try simp only [Bool.and_eq_true, Bool.or_eq_true, Bool.not_eq_true', Bool.and_eq_false_iff, Bool.or_eq_false_iff, Bool.not_eq_false', decide_eq_true_eq, decide_eq_false_iff_not, not_or, Bool.false_eq_true, Bool.true_eq_false, false_or, or_false, not_false_eq_true] at c2
        refine W.skip ?_
        refine W.seq ?_
        refine W.seq ?_
        refine W.reg ?_
        refine Wx.rd (v := .pointer (some ⟨g_12, 0, none⟩)) (rd_indexArr (n := 0) rfl rfl Tryd.underlying58 Tryd.sizeOf3 (by decide) (by decide)) rfl ?_
        refine Wx.rd (v := .int .i64 ((ix (0, 0) l k).1)) (rd_loadX hS 0 rfl rfl rfl Tryd.isAgg3) rfl ?_
        refine Wx.rd (v := .pointer (some ⟨g_12, 1, none⟩)) (rd_indexArr (n := 1) rfl rfl Tryd.underlying58 Tryd.sizeOf3 (by decide) (by decide)) rfl ?_
        refine Wx.rd (v := .int .i64 ((ix (0, 0) l k).2)) (rd_loadX hS 0 rfl rfl rfl Tryd.isAgg3) rfl ?_
        refine Wx.rd (v := .bool (decide (((ix (0, 0) l k).2) ≤ ((ix (0, 0) l k).1)))) (rd_geq rfl rfl) rfl ?_
        refine Wx.nil ?_
        refine W.condD rfl (fun c3 => ?_) (fun c3 => ?_)
        · -- yes
          refine W.seq ?_
          refine W.reg ?_
          refine Wx.rd (v := .int .i64 7) (rd_assign rfl) rfl ?_
          refine Wx.nil ?_
          have e2_0 : (validE rim l) = (7 : Int) := by exact validT_bad h0 c1 h2 (badX_order ⟨by omega, by omega⟩ c3) (by decide) hr0
          exact W.ret ⟨.int .i64 7, ResIs.one, hS.bel, (by rw [e2_0])⟩
        · -- no
          refine W.skip ?_
          refine W.seq ?_
          refine W.seq ?_
          refine W.regQ mixedHb_ (by kernel_rfl) ?_
          refine Wx.rd (v := lv) (rd_move rfl) rfl ?_
          refine Wx.rd (v := .int .i64 k) (rd_move rfl) rfl ?_
          refine Wx.ex (rd_sliceH (hS.arg a_lv) Tryd.underlying22 Tryd.sizeOf58 rfl rfl (by omega) (by omega)) rfl (fun u_29 hu_30 => ?_)
          have ln_31 := hu_30.len63
          have hS := hS.add hu_30
          refine Wx.rd (v := .pointer (some ⟨g_12, 0, none⟩)) (rd_indexArr (n := 0) rfl rfl Tryd.underlying58 Tryd.sizeOf3 (by decide) (by decide)) rfl ?_
          refine Wx.rd (v := .int .i64 ((ix (0, 0) l k).1)) (rd_loadX hS 1 rfl rfl rfl Tryd.isAgg3) rfl ?_
          refine Wx.callV (v := .bool (usedB (l.take k.toNat) ((ix (0, 0) l k).1))) (run_callF Tryd.call63 rfl) (fun w_33 hw_34 => (F63 ((hS.v 0 rfl).ext hw_34) (in_i64 (by omega) (by omega)))) rfl ?_
          refine Wx.rd (v := .bool (usedB (l.take k.toNat) ((ix (0, 0) l k).1))) (rd_move rfl) rfl ?_
          refine Wx.cutQ (X := Unit) 7 [51, 52, 53, 54, 55, 56, 57] (fun _ => [(57, .bool (usedB (l.take k.toNat) ((ix (0, 0) l k).1) || usedB (l.take k.toNat) ((ix (0, 0) l k).2)))]) (fun _ => True) ?_ ?_
          · rcases Bool.eq_false_or_eq_true (usedB (l.take k.toNat) ((ix (0, 0) l k).1)) with g_35 | g_35
            · -- True
              have gp_36 := g_35
              try simp only [Bool.and_eq_true, Bool.or_eq_true, Bool.not_eq_true', Bool.and_eq_false_iff, Bool.or_eq_false_iff, Bool.not_eq_false', decide_eq_true_eq, decide_eq_false_iff_not, not_or, Bool.false_eq_true, Bool.true_eq_false, false_or, or_false, not_false_eq_true] at gp_36
              refine Wx.gnoB rfl rfl (congrArg Value.bool g_35) rfl rfl ?_
              refine Wx.gnoB rfl rfl (congrArg Value.bool g_35) rfl rfl ?_
              refine Wx.gnoB rfl rfl (congrArg Value.bool g_35) rfl rfl ?_
              refine Wx.gnoB rfl rfl (congrArg Value.bool g_35) rfl rfl ?_
              refine Wx.gnoB rfl rfl (congrArg Value.bool g_35) rfl rfl ?_
              refine Wx.gnoB rfl rfl (congrArg Value.bool g_35) rfl rfl ?_
              refine Wx.rd (v := .bool true) (rd_pickT (congrArg Value.bool g_35) rfl) rfl ?_
              refine Wx.nilQ (fun _ _ => ⟨(), trivial, ⟨?_, trivial⟩, Out.look rfl Out.refl⟩)
              show Value.bool true = Value.bool (usedB (l.take k.toNat) ((ix (0, 0) l k).1) || usedB (l.take k.toNat) ((ix (0, 0) l k).2))
              rw [g_35]; rfl
            · -- False
              have gp_37 := g_35
              try simp only [Bool.and_eq_true, Bool.or_eq_true, Bool.not_eq_true', Bool.and_eq_false_iff, Bool.or_eq_false_iff, Bool.not_eq_false', decide_eq_true_eq, decide_eq_false_iff_not, not_or, Bool.false_eq_true, Bool.true_eq_false, false_or, or_false, not_false_eq_true] at gp_37
              refine Wx.gyes rfl rfl (congrArg Value.bool g_35) ?_
              refine Wx.rd (v := lv) (rd_move rfl) rfl ?_
              refine Wx.gyes rfl rfl (congrArg Value.bool g_35) ?_
              refine Wx.rd (v := .int .i64 k) (rd_move rfl) rfl ?_
              refine Wx.gyes rfl rfl (congrArg Value.bool g_35) ?_
              refine Wx.ex (rd_sliceH (hS.arg a_lv) Tryd.underlying22 Tryd.sizeOf58 rfl rfl (by omega) (by omega)) rfl (fun u_38 hu_39 => ?_)
              have ln_40 := hu_39.len63
              have hS := hS.add hu_39
              refine Wx.gyes rfl rfl (congrArg Value.bool g_35) ?_
              refine Wx.rd (v := .pointer (some ⟨g_12, 1, none⟩)) (rd_indexArr (n := 1) rfl rfl Tryd.underlying58 Tryd.sizeOf3 (by decide) (by decide)) rfl ?_
              refine Wx.gyes rfl rfl (congrArg Value.bool g_35) ?_
              refine Wx.rd (v := .int .i64 ((ix (0, 0) l k).2)) (rd_loadX hS 2 rfl rfl rfl Tryd.isAgg3) rfl ?_
              refine Wx.gyes rfl rfl (congrArg Value.bool g_35) ?_
              refine Wx.callV (v := .bool (usedB (l.take k.toNat) ((ix (0, 0) l k).2))) (run_callF Tryd.call63 rfl) (fun w_42 hw_43 => (F63 ((hS.v 0 rfl).ext hw_43) (in_i64 (by omega) (by omega)))) rfl ?_
              refine Wx.rd (v := .bool (usedB (l.take k.toNat) ((ix (0, 0) l k).2))) (rd_pickF (congrArg Value.bool g_35) rfl) rfl ?_
              refine Wx.nilQ (fun _ _ => ⟨(), trivial, ⟨?_, trivial⟩, Out.look rfl Out.refl⟩)
              show Value.bool (usedB (l.take k.toNat) ((ix (0, 0) l k).2)) = Value.bool (usedB (l.take k.toNat) ((ix (0, 0) l k).1) || usedB (l.take k.toNat) ((ix (0, 0) l k).2))
              rw [g_35]; rfl
          rintro ⟨⟩ u_45 -
          refine Wx.nilQ (fun w_46 hx_47 => ?_)
          have hS := hS.ext hx_47
          refine W.cond rfl (fun c4 => ?_) (fun c4 => ?_)
          · -- yes
            try simp only [Bool.and_eq_true, Bool.or_eq_true, Bool.not_eq_true', Bool.and_eq_false_iff, Bool.or_eq_false_iff, Bool.not_eq_false', decide_eq_true_eq, decide_eq_false_iff_not, not_or, Bool.false_eq_true, Bool.true_eq_false, false_or, or_false, not_false_eq_true] at c4
            refine W.seq ?_
            refine W.reg ?_
            refine Wx.rd (v := .int .i64 6) (rd_assign rfl) rfl ?_
            refine Wx.nil ?_
            have e3_0 : (validE rim l) = (6 : Int) := by exact validT_bad h0 c1 h2 (badX_twice ⟨by omega, by omega⟩ (by omega) c4) (by decide) hr0
            exact W.ret ⟨.int .i64 6, ResIs.one, hS.bel, (by rw [e3_0])⟩
          · -- no
            try simp only [Bool.and_eq_true, Bool.or_eq_true, Bool.not_eq_true', Bool.and_eq_false_iff, Bool.or_eq_false_iff, Bool.not_eq_false', decide_eq_true_eq, decide_eq_false_iff_not, not_or, Bool.false_eq_true, Bool.true_eq_false, false_or, or_false, not_false_eq_true] at c4
            refine W.skip ?_
            refine W.seq ?_
            refine W.seq ?_
            refine W.reg ?_
            refine Wx.rd (v := .string rim) (rd_move rfl) rfl ?_
            refine Wx.rd (v := .pointer (some ⟨g_12, 0, none⟩)) (rd_indexArr (n := 0) rfl rfl Tryd.underlying58 Tryd.sizeOf3 (by decide) (by decide)) rfl ?_
            refine Wx.rd (v := .int .i64 ((ix (0, 0) l k).1)) (rd_loadX hS 1 rfl rfl rfl Tryd.isAgg3) rfl ?_
            refine Wx.rd (v := .pointer (some ⟨g_12, 1, none⟩)) (rd_indexArr (n := 1) rfl rfl Tryd.underlying58 Tryd.sizeOf3 (by decide) (by decide)) rfl ?_
            refine Wx.rd (v := .int .i64 ((ix (0, 0) l k).2)) (rd_loadX hS 1 rfl rfl rfl Tryd.isAgg3) rfl ?_
            refine Wx.callF (run_callF Tryd.call64 rfl) (F64 (by first | assumption | (simp only [maxLen]; omega) | (simp only [ByteArray.size_extract, ByteArray.size_append, maxLen] at *; omega) | decide) (in_i64 (by omega) (by omega)) (in_i64 (by omega) (by omega)) (by omega) (by omega) (by omega) (by omega) (by omega)) rfl ?_
            rintro r_48 w_49 hx_50 rfl
            have hS := hS.ext hx_50
            refine Wx.rd (v := .bool (!(fitR rim ((ix (0, 0) l k).1) ((ix (0, 0) l k).2)))) (rd_not rfl) rfl ?_
            refine Wx.nil ?_
            refine W.cond rfl (fun c5 => ?_) (fun c5 => ?_)
            · -- yes
              try simp only [Bool.and_eq_true, Bool.or_eq_true, Bool.not_eq_true', Bool.and_eq_false_iff, Bool.or_eq_false_iff, Bool.not_eq_false', decide_eq_true_eq, decide_eq_false_iff_not, not_or, Bool.false_eq_true, Bool.true_eq_false, false_or, or_false, not_false_eq_true] at c5
              refine W.seq ?_
              refine W.reg ?_
              refine Wx.rd (v := .int .i64 13) (rd_assign rfl) rfl ?_
              refine Wx.nil ?_
              have e4_0 : (validE rim l) = (13 : Int) := by exact validT_bad h0 c1 h2 (badX_clash ⟨by omega, by omega⟩ (by omega) c4.1 c4.2 c5) (by decide) hr0
              exact W.ret ⟨.int .i64 13, ResIs.one, hS.bel, (by rw [e4_0])⟩
            · -- no
              try simp only [Bool.and_eq_true, Bool.or_eq_true, Bool.not_eq_true', Bool.and_eq_false_iff, Bool.or_eq_false_iff, Bool.not_eq_false', decide_eq_true_eq, decide_eq_false_iff_not, not_or, Bool.false_eq_true, Bool.true_eq_false, false_or, or_false, not_false_eq_true] at c5
              refine W.skip ?_
              refine W.seq ?_
              refine W.seq ?_
              refine W.regQ mixedHb_ (by kernel_rfl) ?_
              refine Wx.rd (v := lv) (rd_move rfl) rfl ?_
              refine Wx.rd (v := .int .i64 k) (rd_move rfl) rfl ?_
              refine Wx.ex (rd_sliceH (hS.arg a_lv) Tryd.underlying22 Tryd.sizeOf58 rfl rfl (by omega) (by omega)) rfl (fun u_51 hu_52 => ?_)
              have ln_53 := hu_52.len63
              have hS := hS.add hu_52
              refine Wx.rd (v := .agg #[.int .i64 ((ix (0, 0) l k).1), .int .i64 ((ix (0, 0) l k).2)]) (rd_loadXs (ds := [.int .i64 ((ix (0, 0) l k).1), .int .i64 ((ix (0, 0) l k).2)]) hS 2 rfl rfl rfl rfl Tryd.isAgg58 Tryd.sizeOf58) rfl ?_
              refine Wx.callV (v := .bool (crossesB (l.take k.toNat) (((ix (0, 0) l k).1), ((ix (0, 0) l k).2)))) (run_callF Tryd.call65 rfl) (fun w_55 hw_56 => (F65 ((hS.v 0 rfl).ext hw_56) (in_i64 (by omega) (by omega)) (in_i64 (by omega) (by omega)))) rfl ?_
              refine Wx.nilQ (fun w_57 hx_58 => ?_)
              have hS := hS.ext hx_58
              refine W.cond rfl (fun c6 => ?_) (fun c6 => ?_)
              · -- yes
                try simp only [Bool.and_eq_true, Bool.or_eq_true, Bool.not_eq_true', Bool.and_eq_false_iff, Bool.or_eq_false_iff, Bool.not_eq_false', decide_eq_true_eq, decide_eq_false_iff_not, not_or, Bool.false_eq_true, Bool.true_eq_false, false_or, or_false, not_false_eq_true] at c6
                refine W.seq ?_
                refine W.reg ?_
                refine Wx.rd (v := .int .i64 5) (rd_assign rfl) rfl ?_
                refine Wx.nil ?_
                have e5_0 : (validE rim l) = (5 : Int) := by exact validT_bad h0 c1 h2 (badX_shape ⟨by omega, by omega⟩ (by omega) c4.1 c4.2 c5 c6) (by decide) hr0
                exact W.ret ⟨.int .i64 5, ResIs.one, hS.bel, (by rw [e5_0])⟩
              · -- no
                try simp only [Bool.and_eq_true, Bool.or_eq_true, Bool.not_eq_true', Bool.and_eq_false_iff, Bool.or_eq_false_iff, Bool.not_eq_false', decide_eq_true_eq, decide_eq_false_iff_not, not_or, Bool.false_eq_true, Bool.true_eq_false, false_or, or_false, not_false_eq_true] at c6
                refine W.skip ?_
                refine W.seq ?_
                refine W.regQ mixedHb_ (by kernel_rfl) ?_
                refine Wx.rd (v := .int .i64 k) (rd_move rfl) rfl ?_
                refine Wx.rd (v := .bool (decide (0 < k))) (rd_gtr rfl rfl) rfl ?_
                refine Wx.rd (v := .bool (decide (0 < k))) (rd_move rfl) rfl ?_
                refine Wx.cutQ (X := Unit) 10 [73, 74, 75, 76, 77, 78, 79, 80, 81, 82] (fun _ => [(82, .bool (decide (0 < k) && decide (((ix (0, 0) l k).1) < ((ix (0, 0) l (k - 1)).1))))]) (fun _ => True) ?_ ?_
                · rcases Bool.eq_false_or_eq_true (decide (0 < k)) with g_59 | g_59
                  · -- True
                    have gp_60 := of_decide_eq_true g_59
                    refine Wx.gyes rfl rfl (congrArg Value.bool g_59) ?_
                    refine Wx.rd (v := .pointer (some ⟨g_12, 0, none⟩)) (rd_indexArr (n := 0) rfl rfl Tryd.underlying58 Tryd.sizeOf3 (by decide) (by decide)) rfl ?_
                    refine Wx.gyes rfl rfl (congrArg Value.bool g_59) ?_
                    refine Wx.rd (v := .int .i64 ((ix (0, 0) l k).1)) (rd_loadX hS 2 rfl rfl rfl Tryd.isAgg3) rfl ?_
                    refine Wx.gyes rfl rfl (congrArg Value.bool g_59) ?_
                    refine Wx.rd (v := lv) (rd_move rfl) rfl ?_
                    refine Wx.gyes rfl rfl (congrArg Value.bool g_59) ?_
                    refine Wx.rd (v := .int .i64 k) (rd_move rfl) rfl ?_
                    refine Wx.gyes rfl rfl (congrArg Value.bool g_59) ?_
                    refine Wx.rd (v := .int .i64 (k - 1)) (rd_sub rfl rfl (in_i64 (by omega) (by omega))) rfl ?_
                    refine Wx.gyes rfl rfl (congrArg Value.bool g_59) ?_
                    refine Wx.ex (rd_index (0, 0) (hS.arg a_lv) rfl rfl Tryd.underlying22 Tryd.sizeOf58 (by first | omega | (simp only [List.length_set, List.length_append, List.length_cons, List.length_nil, List.length_replicate]; omega)) (by first | omega | (simp only [List.length_set, List.length_append, List.length_cons, List.length_nil, List.length_replicate]; omega))) rfl (fun p_61 hp_62 => ?_)
                    refine Wx.gyes rfl rfl (congrArg Value.bool g_59) ?_
                    refine Wx.ex (rd_indexE1 hp_62 rfl rfl Tryd.underlying58 (by decide) Tryd.sizeOf3) rfl (fun p_63 hp_64 => ?_)
                    refine Wx.gyes rfl rfl (congrArg Value.bool g_59) ?_
                    refine Wx.rd (v := .int .i64 ((ix (0, 0) l (k - 1)).1)) (rd_loadI hp_64 rfl Tryd.isAgg3 Tryd.sizeOf3) rfl ?_
                    have bd_65 := bd_i64 hp_64.inK
                    refine Wx.gyes rfl rfl (congrArg Value.bool g_59) ?_
                    refine Wx.rd (v := .bool (decide (((ix (0, 0) l k).1) < ((ix (0, 0) l (k - 1)).1)))) (rd_lss rfl rfl) rfl ?_
                    refine Wx.rd (v := .bool (decide (((ix (0, 0) l k).1) < ((ix (0, 0) l (k - 1)).1)))) (rd_pickT (congrArg Value.bool g_59) rfl) rfl ?_
                    refine Wx.nilQ (fun _ _ => ⟨(), trivial, ⟨?_, trivial⟩, Out.look rfl Out.refl⟩)
                    show Value.bool (decide (((ix (0, 0) l k).1) < ((ix (0, 0) l (k - 1)).1))) = Value.bool (decide (0 < k) && decide (((ix (0, 0) l k).1) < ((ix (0, 0) l (k - 1)).1)))
                    rw [g_59]; rfl
                  · -- False
                    have gp_66 := of_decide_eq_false g_59
                    refine Wx.gnoB rfl rfl (congrArg Value.bool g_59) rfl rfl ?_
                    refine Wx.gnoB rfl rfl (congrArg Value.bool g_59) rfl rfl ?_
                    refine Wx.gnoB rfl rfl (congrArg Value.bool g_59) rfl rfl ?_
                    refine Wx.gnoB rfl rfl (congrArg Value.bool g_59) rfl rfl ?_
                    refine Wx.gnoB rfl rfl (congrArg Value.bool g_59) rfl rfl ?_
                    refine Wx.gnoB rfl rfl (congrArg Value.bool g_59) rfl rfl ?_
                    refine Wx.gnoB rfl rfl (congrArg Value.bool g_59) rfl rfl ?_
                    refine Wx.gnoB rfl rfl (congrArg Value.bool g_59) rfl rfl ?_
                    refine Wx.gnoB rfl rfl (congrArg Value.bool g_59) rfl rfl ?_
                    refine Wx.rd (v := .bool false) (rd_pickF (congrArg Value.bool g_59) rfl) rfl ?_
                    refine Wx.nilQ (fun _ _ => ⟨(), trivial, ⟨?_, trivial⟩, Out.look rfl Out.refl⟩)
                    show Value.bool false = Value.bool (decide (0 < k) && decide (((ix (0, 0) l k).1) < ((ix (0, 0) l (k - 1)).1)))
                    rw [g_59]; rfl
                rintro ⟨⟩ u_68 -
                refine Wx.nilQ (fun w_69 hx_70 => ?_)
                have hS := hS.ext hx_70
                refine W.cond rfl (fun c7 => ?_) (fun c7 => ?_)
                · -- yes
                  try simp only [Bool.and_eq_true, Bool.or_eq_true, Bool.not_eq_true', Bool.and_eq_false_iff, Bool.or_eq_false_iff, Bool.not_eq_false', decide_eq_true_eq, decide_eq_false_iff_not, not_or, Bool.false_eq_true, Bool.true_eq_false, false_or, or_false, not_false_eq_true] at c7
                  refine W.seq ?_
                  refine W.reg ?_
                  refine Wx.rd (v := .int .i64 7) (rd_assign rfl) rfl ?_
                  refine Wx.nil ?_
                  have e6_0 : (validE rim l) = (7 : Int) := by exact validT_bad h0 c1 h2 (badX_late ⟨by omega, by omega⟩ (by omega) c4.1 c4.2 c5 c6 (by rw [lastI_take c7.1 (by omega)]; exact c7.2)) (by decide) hr0
                  exact W.ret ⟨.int .i64 7, ResIs.one, hS.bel, (by rw [e6_0])⟩
                · -- no
                  try simp only [Bool.and_eq_true, Bool.or_eq_true, Bool.not_eq_true', Bool.and_eq_false_iff, Bool.or_eq_false_iff, Bool.not_eq_false', decide_eq_true_eq, decide_eq_false_iff_not, not_or, Bool.false_eq_true, Bool.true_eq_false, false_or, or_false, not_false_eq_true] at c7
                  refine W.skip ?_
                  refine W.reg ?_
                  refine Wx.rd (v := .int .i64 k) (rd_move rfl) rfl ?_
                  refine Wx.rd (v := .int .i64 (k + 1)) (rd_add rfl rfl (in_i64 (by omega) (by omega))) rfl ?_
                  refine Wx.rd (v := .int .i64 (k + 1)) (rd_assign rfl) rfl ?_
                  refine Wx.nil ?_
                  refine ⟨k + 1, (by show (l.length - (k + 1)).toNat < (l.length - k).toNat; omega), ?_, ?_, Out.look rfl (Out.hav rfl (Out.look rfl (Out.hav rfl (Out.look rfl (Out.hav rfl (Out.look rfl Out.self))))))⟩
                  · exact ⟨St.tl (St.tl (hS.tl)), (by first | omega | assumption), (by first | omega | assumption), (validT_good h0 c1 h2 (badX_good ⟨by omega, by omega⟩ (by omega) c4.1 c4.2 c5 c6 (lastI_no h0 (by omega) (by omega) c7)))⟩
                  · exact ⟨rfl, trivial⟩
    · -- no
      refine W.exit rfl ?_
      refine W.seq ?_
      refine W.reg ?_
      refine Wx.rd (v := .int .i64 0) (rd_assign rfl) rfl ?_
      refine Wx.nil ?_
      have e7_0 : (validE rim l) = (0 : Int) := by exact validT_end (by omega) h2 hr0
      exact W.ret ⟨.int .i64 0, ResIs.one, hS.bel, (by rw [e7_0])⟩

theorem F19 {rim : ByteArray} {lv : Value} {l : List (Int × Int)} {Fr_lv : List (Option Nat)} {w : World} (s_rim : rim.size ≤ maxLen) (h_lv : V (tSl (tP (tI .i64) (tI .i64))) l lv Fr_lv w) (hG : Laid w) : Calls Tryd.prog 19 #[.string rim, lv] w (Ret w (fun r _ => r = .int .i64 (validE rim l))) := by
  have a_lv := h_lv.any
  have l_lv := h_lv.len63
  have hS := St.start0 w
  refine enterR Tryd.func19 rfl Tryd.ntmps19 Tryd.results19 rfl ?_
  refine W.seq ?_
  refine W.reg ?_
  refine Wx.rd (v := .int .i64 0) (rd_assign rfl) rfl ?_
  refine Wx.nil ?_
  refine W.seq ?_
  refine W.seq ?_
  refine W.reg ?_
  refine Wx.rd (v := .string rim) (rd_move rfl) rfl ?_
  refine Wx.callF (run_callF Tryd.call17 rfl) (F17 (by first | assumption | (simp only [maxLen]; omega) | (simp only [ByteArray.size_extract, ByteArray.size_append, maxLen] at *; omega) | decide)) rfl ?_
  rintro r_1 w_2 hx_3 rfl
  have hS := hS.ext hx_3
  refine Wx.rd (v := .int .i64 (rimE rim)) (rd_assign rfl) rfl ?_
  refine Wx.nil ?_
  refine W.seq ?_
  refine W.reg ?_
  refine Wx.rd (v := .int .i64 (rimE rim)) (rd_move rfl) rfl ?_
  refine Wx.rd (v := .bool (decide ((rimE rim) ≠ 0))) (rd_neq rfl rfl) rfl ?_
  refine Wx.nil ?_
  refine W.condD rfl (fun c0 => ?_) (fun c0 => ?_)
  · -- yes
    refine W.seq ?_
    refine W.reg ?_
    refine Wx.rd (v := .int .i64 (rimE rim)) (rd_move rfl) rfl ?_
    refine Wx.rd (v := .int .i64 (rimE rim)) (rd_assign rfl) rfl ?_
    refine Wx.nil ?_
    have e0_0 : (validE rim l) = (rimE rim : Int) := by exact if_neg c0
    exact W.ret ⟨.int .i64 (rimE rim), ResIs.one, hS.bel, (by rw [e0_0])⟩
  · -- no
    have hr0 : rimE rim = 0 := by omega
    obtain ⟨hr1, hr2⟩ := rimE_ok hr0
    refine W.skip ?_
    refine W.seq ?_
    refine W.reg ?_
    refine Wx.alloc (cs := [.int .i64 0, .int .i64 0, .int .i64 0, .int .i64 0, .int .i64 0, .int .i64 0, .int .i64 0, .int .i64 0, .int .i64 0, .int .i64 0, .int .i64 0, .int .i64 0]) hS Tryd.zeroValue76 rfl rfl (fun g_4 w_5 hx_7 hb_6 hS => ?_)
    have hS : St _ _ w_5 [.box g_4 76 (List.map (Value.int .i64) (List.replicate 12 0))] := hS
    refine Wx.nil ?_
    refine W.seq ?_
    refine W.reg ?_
    refine Wx.rd (v := .int .i64 (-1)) (rd_assign rfl) rfl ?_
    refine Wx.nil ?_
    refine W.seq ?_
    refine W.seq ?_
    refine W.reg ?_
    refine Wx.rd (v := lv) (rd_move rfl) rfl ?_
    refine Wx.rd (v := .int .i64 (l.length : Int)) (rd_lenV rfl (hS.arg a_lv) Tryd.underlying22) rfl ?_
    refine Wx.rd (v := .int .i64 0) (rd_move rfl) rfl ?_
    refine Wx.nil ?_
    refine W.block ?_
    refine W.loop [4, 7, 9, 10, 11, 12, 20, 21, 22, 23, 24, 25, 26, 27, 28, 29, 30, 31, 32, 33, 34, 35, 36, 37, 38, 39, 40, 41, 42, 43, 44, 45, 46, 47, 48, 49, 50, 51, 52, 53, 54, 55, 56, 57, 58, 59, 60, 61, 62, 63, 64, 65, 66, 67, 68, 69, 70, 71, 72, 73, 74, 75, 76, 77, 78, 79, 80, 81, 82, 83, 84, 85, 86, 87, 88, 89, 90, 91, 92, 93, 94, 95, 96, 97, 98, 99, 100, 101] (fun x : Int × Int × (List Int) => match x with | (last, k, tb) => [(7, .int .i64 last), (20, .int .i64 k)]) (fun (x : Int × Int × (List Int)) w' => match x with | (last, k, tb) => St w [] w' [.box g_4 76 (List.map (Value.int .i64) tb)] ∧ 0 ≤ k ∧ k ≤ l.length ∧ validT rim (l.take k.toNat) (l.drop k.toNat) = validT rim [] l ∧ ToOK (l.take k.toNat) tb ∧ last = lastI (l.take k.toNat)) (fun x : Int × Int × (List Int) => match x with | (last, k, tb) => (l.length - k).toNat) (-1, 0, List.replicate 12 0) ⟨rfl, rfl, trivial⟩ ⟨hS, (by first | omega | simp), (by first | omega | simp), (by simp), (ToOK.nil), (rfl)⟩ ?_
    rintro ⟨last, k, tb⟩ u_9 w_8 ⟨hS, h0, h1, h2, h3, h4⟩
    have hl12 := h3.len
    refine W.seq ?_
    refine W.reg ?_
    refine Wx.rd (v := .bool (decide (k < (l.length : Int)))) (rd_lss rfl rfl) rfl ?_
    refine Wx.nil ?_
    refine W.seq ?_
    refine W.condD rfl (fun c1 => ?_) (fun c1 => ?_)
    · -- yes
      refine W.skip ?_
      refine W.seq ?_
      refine W.block ?_
      refine W.seq ?_
      refine W.reg ?_
      refine Wx.ex (rd_index (0, 0) (hS.arg a_lv) rfl rfl Tryd.underlying22 Tryd.sizeOf58 (by first | omega | (simp only [List.length_set, List.length_append, List.length_cons, List.length_nil, List.length_replicate]; omega)) (by first | omega | (simp only [List.length_set, List.length_append, List.length_cons, List.length_nil, List.length_replicate]; omega))) rfl (fun p_10 hp_11 => ?_)
      refine Wx.ex (rd_load hp_11 rfl Tryd.isAgg58 Tryd.sizeOf58) rfl (fun v_12 hv_13 => ?_)
      obtain ⟨rfl, bd_14, bd_15⟩ := hv_13.i2
      have bd_14 := bd_i64 bd_14
      have bd_15 := bd_i64 bd_15
      refine Wx.alloc (cs := [.int .i64 0, .int .i64 0]) hS Tryd.zeroValue58 rfl rfl (fun g_16 w_17 hx_19 hb_18 hS => ?_)
      refine Wx.storeX (cs' := [.int .i64 ((ix (0, 0) l k).1), .int .i64 ((ix (0, 0) l k).2)]) (ds := [.int .i64 ((ix (0, 0) l k).1), .int .i64 ((ix (0, 0) l k).2)]) hS 0 rfl rfl rfl rfl Tryd.sizeOf58 (Nat.le_of_ble_eq_true rfl) (one_cons rfl (one_cons rfl one_nil)) rfl (fun w_20 hz_21 hS => ?_)
      refine Wx.nil ?_
      refine W.seq ?_
      refine W.regQ mixedHb_ (by kernel_rfl) ?_
      refine Wx.rd (v := .pointer (some ⟨g_16, 0, none⟩)) (rd_indexArr (n := 0) rfl rfl Tryd.underlying58 Tryd.sizeOf3 (by decide) (by decide)) rfl ?_
      refine Wx.rd (v := .int .i64 ((ix (0, 0) l k).1)) (rd_loadX hS 0 rfl rfl rfl Tryd.isAgg3) rfl ?_
      refine Wx.rd (v := .pointer (some ⟨g_16, 1, none⟩)) (rd_indexArr (n := 1) rfl rfl Tryd.underlying58 Tryd.sizeOf3 (by decide) (by decide)) rfl ?_
      refine Wx.rd (v := .int .i64 ((ix (0, 0) l k).2)) (rd_loadX hS 0 rfl rfl rfl Tryd.isAgg3) rfl ?_
      refine Wx.rd (v := .int .i64 ((ix (0, 0) l k).1)) (rd_assign rfl) rfl ?_
      refine Wx.rd (v := .int .i64 ((ix (0, 0) l k).2)) (rd_assign rfl) rfl ?_
      refine Wx.nilQ (fun w_22 hx_23 => ?_)
      have hS := hS.ext hx_23
      refine W.seq ?_
      refine W.block ?_
      refine W.seq ?_
      refine W.reg ?_
      refine Wx.rd (v := .int .i64 ((ix (0, 0) l k).1)) (rd_move rfl) rfl ?_
      refine Wx.rd (v := .int .i64 ((ix (0, 0) l k).2)) (rd_move rfl) rfl ?_
      refine Wx.rd (v := .int .i64 (min ((ix (0, 0) l k).1) ((ix (0, 0) l k).2))) (rd_min rfl rfl) rfl ?_
      refine Wx.rd (v := .bool (decide ((min ((ix (0, 0) l k).1) ((ix (0, 0) l k).2)) < 0))) (rd_lss rfl rfl) rfl ?_
      refine Wx.rd (v := .bool (decide ((min ((ix (0, 0) l k).1) ((ix (0, 0) l k).2)) < 0))) (rd_move rfl) rfl ?_
      refine Wx.cut (X := Unit) 7 [34, 35, 36, 37, 38, 39, 40] (fun _ => [(40, .bool (decide ((min ((ix (0, 0) l k).1) ((ix (0, 0) l k).2)) < 0) || decide ((rim.size : Int) ≤ (max ((ix (0, 0) l k).1) ((ix (0, 0) l k).2)))))]) (fun _ w' => St w [] w' [.box g_16 58 [.int .i64 ((ix (0, 0) l k).1), .int .i64 ((ix (0, 0) l k).2)], .box g_4 76 (List.map (Value.int .i64) tb)]) ?_ ?_
      · rcases Bool.eq_false_or_eq_true (decide ((min ((ix (0, 0) l k).1) ((ix (0, 0) l k).2)) < 0)) with g_24 | g_24
        · -- True
          have gp_25 := of_decide_eq_true g_24
          refine Wx.gnoB rfl rfl (congrArg Value.bool g_24) rfl rfl ?_
          refine Wx.gnoB rfl rfl (congrArg Value.bool g_24) rfl rfl ?_
          refine Wx.gnoB rfl rfl (congrArg Value.bool g_24) rfl rfl ?_
          refine Wx.gnoB rfl rfl (congrArg Value.bool g_24) rfl rfl ?_
          refine Wx.gnoB rfl rfl (congrArg Value.bool g_24) rfl rfl ?_
          refine Wx.gnoB rfl rfl (congrArg Value.bool g_24) rfl rfl ?_
          refine Wx.rd (v := .bool true) (rd_pickT (congrArg Value.bool g_24) rfl) rfl ?_
          refine Wx.nil ⟨(), hS, ⟨?_, trivial⟩, Out.look rfl Out.refl⟩
          show Value.bool true = Value.bool (decide ((min ((ix (0, 0) l k).1) ((ix (0, 0) l k).2)) < 0) || decide ((rim.size : Int) ≤ (max ((ix (0, 0) l k).1) ((ix (0, 0) l k).2))))
          rw [g_24]; rfl
        · -- False
          have gp_26 := of_decide_eq_false g_24
          refine Wx.gyes rfl rfl (congrArg Value.bool g_24) ?_
          refine Wx.rd (v := .int .i64 ((ix (0, 0) l k).1)) (rd_move rfl) rfl ?_
          refine Wx.gyes rfl rfl (congrArg Value.bool g_24) ?_
          refine Wx.rd (v := .int .i64 ((ix (0, 0) l k).2)) (rd_move rfl) rfl ?_
          refine Wx.gyes rfl rfl (congrArg Value.bool g_24) ?_
          refine Wx.rd (v := .int .i64 (max ((ix (0, 0) l k).1) ((ix (0, 0) l k).2))) (rd_max rfl rfl) rfl ?_
          refine Wx.gyes rfl rfl (congrArg Value.bool g_24) ?_
          refine Wx.rd (v := .string rim) (rd_move rfl) rfl ?_
          refine Wx.gyes rfl rfl (congrArg Value.bool g_24) ?_
          refine Wx.rd (v := .int .i64 (rim.size : Int)) (rd_lenS rfl Tryd.underlying9) rfl ?_
          refine Wx.gyes rfl rfl (congrArg Value.bool g_24) ?_
          refine Wx.rd (v := .bool (decide ((rim.size : Int) ≤ (max ((ix (0, 0) l k).1) ((ix (0, 0) l k).2))))) (rd_geq rfl rfl) rfl ?_
          refine Wx.rd (v := .bool (decide ((rim.size : Int) ≤ (max ((ix (0, 0) l k).1) ((ix (0, 0) l k).2))))) (rd_pickF (congrArg Value.bool g_24) rfl) rfl ?_
          refine Wx.nil ⟨(), hS, ⟨?_, trivial⟩, Out.look rfl Out.refl⟩
          show Value.bool (decide ((rim.size : Int) ≤ (max ((ix (0, 0) l k).1) ((ix (0, 0) l k).2)))) = Value.bool (decide ((min ((ix (0, 0) l k).1) ((ix (0, 0) l k).2)) < 0) || decide ((rim.size : Int) ≤ (max ((ix (0, 0) l k).1) ((ix (0, 0) l k).2))))
          rw [g_24]; rfl
      rintro ⟨⟩ u_28 w_27 hS
      refine Wx.rd (v := .bool (decide ((min ((ix (0, 0) l k).1) ((ix (0, 0) l k).2)) < 0) || decide ((rim.size : Int) ≤ (max ((ix (0, 0) l k).1) ((ix (0, 0) l k).2))))) (rd_assign rfl) rfl ?_
      refine Wx.nil ?_
      refine W.cond rfl (fun c2 => ?_) (fun c2 => ?_)
      · -- yes
        try simp only [Bool.and_eq_true, Bool.or_eq_true, Bool.not_eq_true', Bool.and_eq_false_iff, Bool.or_eq_false_iff, Bool.not_eq_false', decide_eq_true_eq, decide_eq_false_iff_not, not_or, Bool.false_eq_true, Bool.true_eq_false, false_or, or_false, not_false_eq_true] at c2
        refine W.seq ?_
        refine W.reg ?_
        refine Wx.rd (v := .int .i64 2) (rd_assign rfl) rfl ?_
        refine Wx.nil ?_
        have e1_0 : (validE rim l) = (2 : Int) := by exact validT_bad h0 c1 h2 (badX_none (by omega)) (by decide) hr0
        exact W.ret ⟨.int .i64 2, ResIs.one, hS.bel, (by rw [e1_0])⟩
      · -- no
        try simp only [Bool.and_eq_true, Bool.or_eq_true, Bool.not_eq_true', Bool.and_eq_false_iff, Bool.or_eq_false_iff, Bool.not_eq_false', decide_eq_true_eq, decide_eq_false_iff_not, not_or, Bool.false_eq_true, Bool.true_eq_false, false_or, or_false, not_false_eq_true] at c2
        refine W.seq ?_
        refine W.reg ?_
        refine Wx.rd (v := .int .i64 ((ix (0, 0) l k).1)) (rd_move rfl) rfl ?_
        refine Wx.rd (v := .int .i64 ((ix (0, 0) l k).2)) (rd_move rfl) rfl ?_
        refine Wx.rd (v := .bool (decide (((ix (0, 0) l k).2) ≤ ((ix (0, 0) l k).1)))) (rd_geq rfl rfl) rfl ?_
        refine Wx.rd (v := .bool (decide (((ix (0, 0) l k).2) ≤ ((ix (0, 0) l k).1)))) (rd_assign rfl) rfl ?_
        refine Wx.nil ?_
        refine W.condD rfl (fun c3 => ?_) (fun c3 => ?_)
        · -- yes
          refine W.seq ?_
          refine W.reg ?_
          refine Wx.rd (v := .int .i64 7) (rd_assign rfl) rfl ?_
          refine Wx.nil ?_
          have e2_0 : (validE rim l) = (7 : Int) := by exact validT_bad h0 c1 h2 (badX_order ⟨by omega, by omega⟩ c3) (by decide) hr0
          exact W.ret ⟨.int .i64 7, ResIs.one, hS.bel, (by rw [e2_0])⟩
        · -- no
          have hx0 : 0 ≤ (ix (0, 0) l k).1 ∧ (ix (0, 0) l k).1 ≤ 11 ∧ 0 ≤ (ix (0, 0) l k).2 ∧ (ix (0, 0) l k).2 ≤ 11 := ⟨by omega, by omega, by omega, by omega⟩
          have hb1 := h3.bd (ix (0, 0) l k).1 (by omega) (by omega)
          have hb2 := h3.bd (ix (0, 0) l k).2 (by omega) (by omega)
          have hu1 := h3.used (q := (ix (0, 0) l k).1) (by omega) (by omega)
          have hu2 := h3.used (q := (ix (0, 0) l k).2) (by omega) (by omega)
          have hv1 := h3.free (q := (ix (0, 0) l k).1) (by omega) (by omega)
          have hv2 := h3.free (q := (ix (0, 0) l k).2) (by omega) (by omega)
          refine W.seq ?_
          refine W.reg ?_
          refine Wx.rd (v := .int .i64 ((ix (0, 0) l k).1)) (rd_move rfl) rfl ?_
          refine Wx.rd (v := .pointer (some ⟨g_4, 0 + ((ix (0, 0) l k).1).toNat * 1, none⟩)) (rd_indexArr rfl rfl Tryd.underlying76 Tryd.sizeOf3 (by omega) (by omega)) rfl ?_
          refine Wx.rd (v := .int .i64 (ix 0 tb ((ix (0, 0) l k).1))) (rd_loadXa (d := 0) (f := (Value.int .i64)) (j := ((ix (0, 0) l k).1)) hS 1 rfl rfl (by omega) (by omega) (by omega) Tryd.isAgg3) rfl ?_
          refine Wx.rd (v := .bool (decide (0 < (ix 0 tb ((ix (0, 0) l k).1))))) (rd_gtr rfl rfl) rfl ?_
          refine Wx.rd (v := .bool (decide (0 < (ix 0 tb ((ix (0, 0) l k).1))))) (rd_move rfl) rfl ?_
          refine Wx.cut (X := Unit) 5 [51, 52, 53, 54, 55] (fun _ => [(55, .bool (decide (0 < (ix 0 tb ((ix (0, 0) l k).1))) || decide (0 < (ix 0 tb ((ix (0, 0) l k).2)))))]) (fun _ w' => St w [] w' [.box g_16 58 [.int .i64 ((ix (0, 0) l k).1), .int .i64 ((ix (0, 0) l k).2)], .box g_4 76 (List.map (Value.int .i64) tb)]) ?_ ?_
          · rcases Bool.eq_false_or_eq_true (decide (0 < (ix 0 tb ((ix (0, 0) l k).1)))) with g_29 | g_29
            · -- True
              have gp_30 := of_decide_eq_true g_29
              refine Wx.gnoB rfl rfl (congrArg Value.bool g_29) rfl rfl ?_
              refine Wx.gnoB rfl rfl (congrArg Value.bool g_29) rfl rfl ?_
              refine Wx.gnoB rfl rfl (congrArg Value.bool g_29) rfl rfl ?_
              refine Wx.gnoB rfl rfl (congrArg Value.bool g_29) rfl rfl ?_
              refine Wx.rd (v := .bool true) (rd_pickT (congrArg Value.bool g_29) rfl) rfl ?_
              refine Wx.nil ⟨(), hS, ⟨?_, trivial⟩, Out.look rfl Out.refl⟩
              show Value.bool true = Value.bool (decide (0 < (ix 0 tb ((ix (0, 0) l k).1))) || decide (0 < (ix 0 tb ((ix (0, 0) l k).2))))
              rw [g_29]; rfl
            · -- False
              have gp_31 := of_decide_eq_false g_29
              refine Wx.gyes rfl rfl (congrArg Value.bool g_29) ?_
              refine Wx.rd (v := .int .i64 ((ix (0, 0) l k).2)) (rd_move rfl) rfl ?_
              refine Wx.gyes rfl rfl (congrArg Value.bool g_29) ?_
              refine Wx.rd (v := .pointer (some ⟨g_4, 0 + ((ix (0, 0) l k).2).toNat * 1, none⟩)) (rd_indexArr rfl rfl Tryd.underlying76 Tryd.sizeOf3 (by omega) (by omega)) rfl ?_
              refine Wx.gyes rfl rfl (congrArg Value.bool g_29) ?_
              refine Wx.rd (v := .int .i64 (ix 0 tb ((ix (0, 0) l k).2))) (rd_loadXa (d := 0) (f := (Value.int .i64)) (j := ((ix (0, 0) l k).2)) hS 1 rfl rfl (by omega) (by omega) (by omega) Tryd.isAgg3) rfl ?_
              refine Wx.gyes rfl rfl (congrArg Value.bool g_29) ?_
              refine Wx.rd (v := .bool (decide (0 < (ix 0 tb ((ix (0, 0) l k).2))))) (rd_gtr rfl rfl) rfl ?_
              refine Wx.rd (v := .bool (decide (0 < (ix 0 tb ((ix (0, 0) l k).2))))) (rd_pickF (congrArg Value.bool g_29) rfl) rfl ?_
              refine Wx.nil ⟨(), hS, ⟨?_, trivial⟩, Out.look rfl Out.refl⟩
              show Value.bool (decide (0 < (ix 0 tb ((ix (0, 0) l k).2)))) = Value.bool (decide (0 < (ix 0 tb ((ix (0, 0) l k).1))) || decide (0 < (ix 0 tb ((ix (0, 0) l k).2))))
              rw [g_29]; rfl
          rintro ⟨⟩ u_33 w_32 hS
          refine Wx.rd (v := .bool (decide (0 < (ix 0 tb ((ix (0, 0) l k).1))) || decide (0 < (ix 0 tb ((ix (0, 0) l k).2))))) (rd_assign rfl) rfl ?_
          refine Wx.nil ?_
          refine W.cond rfl (fun c4 => ?_) (fun c4 => ?_)
          · -- yes
            try simp only [Bool.and_eq_true, Bool.or_eq_true, Bool.not_eq_true', Bool.and_eq_false_iff, Bool.or_eq_false_iff, Bool.not_eq_false', decide_eq_true_eq, decide_eq_false_iff_not, not_or, Bool.false_eq_true, Bool.true_eq_false, false_or, or_false, not_false_eq_true] at c4
            refine W.seq ?_
            refine W.reg ?_
            refine Wx.rd (v := .int .i64 6) (rd_assign rfl) rfl ?_
            refine Wx.nil ?_
            have e3_0 : (validE rim l) = (6 : Int) := by exact validT_bad h0 c1 h2 (badX_twice ⟨by omega, by omega⟩ (by omega) (c4.imp hu1.1 hu2.1)) (by decide) hr0
            exact W.ret ⟨.int .i64 6, ResIs.one, hS.bel, (by rw [e3_0])⟩
          · -- no
            try simp only [Bool.and_eq_true, Bool.or_eq_true, Bool.not_eq_true', Bool.and_eq_false_iff, Bool.or_eq_false_iff, Bool.not_eq_false', decide_eq_true_eq, decide_eq_false_iff_not, not_or, Bool.false_eq_true, Bool.true_eq_false, false_or, or_false, not_false_eq_true] at c4
            refine W.seq ?_
            refine W.reg ?_
            refine Wx.rd (v := .string rim) (rd_move rfl) rfl ?_
            refine Wx.rd (v := .int .i64 ((ix (0, 0) l k).1)) (rd_move rfl) rfl ?_
            refine Wx.rd (v := .int .i64 ((ix (0, 0) l k).2)) (rd_move rfl) rfl ?_
            refine Wx.callF (run_callF Tryd.call61 rfl) (F61 (by first | assumption | (simp only [maxLen]; omega) | (simp only [ByteArray.size_extract, ByteArray.size_append, maxLen] at *; omega) | decide) (in_i64 (by omega) (by omega)) (in_i64 (by omega) (by omega)) (by omega) (by omega) (by omega) (by omega) (by omega) (hG.ext hS.bel)) rfl ?_
            rintro r_34 w_35 hx_36 rfl
            have hS := hS.ext hx_36
            refine Wx.rd (v := .bool (!(fitR rim ((ix (0, 0) l k).1) ((ix (0, 0) l k).2)))) (rd_not rfl) rfl ?_
            refine Wx.rd (v := .bool (!(fitR rim ((ix (0, 0) l k).1) ((ix (0, 0) l k).2)))) (rd_assign rfl) rfl ?_
            refine Wx.nil ?_
            refine W.cond rfl (fun c5 => ?_) (fun c5 => ?_)
            · -- yes
              try simp only [Bool.and_eq_true, Bool.or_eq_true, Bool.not_eq_true', Bool.and_eq_false_iff, Bool.or_eq_false_iff, Bool.not_eq_false', decide_eq_true_eq, decide_eq_false_iff_not, not_or, Bool.false_eq_true, Bool.true_eq_false, false_or, or_false, not_false_eq_true] at c5
              refine W.seq ?_
              refine W.reg ?_
              refine Wx.rd (v := .int .i64 13) (rd_assign rfl) rfl ?_
              refine Wx.nil ?_
              have e4_0 : (validE rim l) = (13 : Int) := by exact validT_bad h0 c1 h2 (badX_clash ⟨by omega, by omega⟩ (by omega) (hv1.2 c4.1) (hv2.2 c4.2) c5) (by decide) hr0
              exact W.ret ⟨.int .i64 13, ResIs.one, hS.bel, (by rw [e4_0])⟩
            · -- no
              try simp only [Bool.and_eq_true, Bool.or_eq_true, Bool.not_eq_true', Bool.and_eq_false_iff, Bool.or_eq_false_iff, Bool.not_eq_false', decide_eq_true_eq, decide_eq_false_iff_not, not_or, Bool.false_eq_true, Bool.true_eq_false, false_or, or_false, not_false_eq_true] at c5
              refine W.skip ?_
              refine W.seq ?_
              refine W.seq ?_
              refine W.reg ?_
              refine Wx.rd (v := .int .i64 ((ix (0, 0) l k).1)) (rd_move rfl) rfl ?_
              refine Wx.rd (v := .int .i64 (((ix (0, 0) l k).1) + 1)) (rd_add rfl rfl (in_i64 (by omega) (by omega))) rfl ?_
              refine Wx.rd (v := .int .i64 (((ix (0, 0) l k).1) + 1)) (rd_assign rfl) rfl ?_
              refine Wx.nil ?_
              refine W.block ?_
              refine W.loop [4, 12, 64, 65, 66, 67, 68, 69, 70, 71, 72, 73, 74, 75, 76, 77, 78, 79, 80, 81, 82, 83, 84, 85, 86, 87, 88] (fun (q : Int) => [(12, .int .i64 q)]) (fun (q : Int) w' => St w [] w' [.box g_16 58 [.int .i64 ((ix (0, 0) l k).1), .int .i64 ((ix (0, 0) l k).2)], .box g_4 76 (List.map (Value.int .i64) tb)] ∧ (ix (0, 0) l k).1 < q ∧ q ≤ (ix (0, 0) l k).2 ∧ (∀ r, (ix (0, 0) l k).1 < r → r < q → ¬ badQ tb (ix (0, 0) l k).1 (ix (0, 0) l k).2 r)) (fun (q : Int) => ((ix (0, 0) l k).2 - q).toNat) (((ix (0, 0) l k).1) + 1) ⟨rfl, trivial⟩ ⟨hS, (by first | omega | simp), (by first | omega | simp), (fun r r1 r2 => by omega)⟩ ?_
              rintro q u_38 w_37 ⟨hS, g0, g1, g2⟩
              refine W.seq ?_
              refine W.seq ?_
              refine W.reg ?_
              refine Wx.rd (v := .int .i64 q) (rd_move rfl) rfl ?_
              refine Wx.rd (v := .int .i64 ((ix (0, 0) l k).2)) (rd_move rfl) rfl ?_
              refine Wx.rd (v := .bool (decide (q < ((ix (0, 0) l k).2)))) (rd_lss rfl rfl) rfl ?_
              refine Wx.nil ?_
              refine W.condD rfl (fun c6 => ?_) (fun c6 => ?_)
              · -- yes
                have hbq := h3.bd q (by omega) (by omega)
                refine W.skip ?_
                refine W.seq ?_
                refine W.block ?_
                refine W.seq ?_
                refine W.reg ?_
                refine Wx.rd (v := .int .i64 q) (rd_move rfl) rfl ?_
                refine Wx.rd (v := .pointer (some ⟨g_4, 0 + q.toNat * 1, none⟩)) (rd_indexArr rfl rfl Tryd.underlying76 Tryd.sizeOf3 (by omega) (by omega)) rfl ?_
                refine Wx.rd (v := .int .i64 (ix 0 tb q)) (rd_loadXa (d := 0) (f := (Value.int .i64)) (j := q) hS 1 rfl rfl (by omega) (by omega) (by omega) Tryd.isAgg3) rfl ?_
                refine Wx.rd (v := .bool (decide (0 < (ix 0 tb q)))) (rd_gtr rfl rfl) rfl ?_
                refine Wx.rd (v := .bool (decide (0 < (ix 0 tb q)))) (rd_move rfl) rfl ?_
                refine Wx.cut (X := Unit) 15 [74, 75, 76, 77, 78, 79, 80, 81, 82, 83, 84, 85, 86, 87, 88] (fun _ => [(88, .bool (decide (0 < (ix 0 tb q)) && (decide (((ix 0 tb q) - 1) < ((ix (0, 0) l k).1)) || decide (((ix (0, 0) l k).2) < ((ix 0 tb q) - 1)))))]) (fun _ w' => St w [] w' [.box g_16 58 [.int .i64 ((ix (0, 0) l k).1), .int .i64 ((ix (0, 0) l k).2)], .box g_4 76 (List.map (Value.int .i64) tb)]) ?_ ?_
                · rcases Bool.eq_false_or_eq_true (decide (0 < (ix 0 tb q))) with g_39 | g_39
                  · -- True
                    have gp_40 := of_decide_eq_true g_39
                    refine Wx.gyes rfl rfl (congrArg Value.bool g_39) ?_
                    refine Wx.rd (v := .int .i64 q) (rd_move rfl) rfl ?_
                    refine Wx.gyes rfl rfl (congrArg Value.bool g_39) ?_
                    refine Wx.rd (v := .pointer (some ⟨g_4, 0 + q.toNat * 1, none⟩)) (rd_indexArr rfl rfl Tryd.underlying76 Tryd.sizeOf3 (by omega) (by omega)) rfl ?_
                    refine Wx.gyes rfl rfl (congrArg Value.bool g_39) ?_
                    refine Wx.rd (v := .int .i64 (ix 0 tb q)) (rd_loadXa (d := 0) (f := (Value.int .i64)) (j := q) hS 1 rfl rfl (by omega) (by omega) (by omega) Tryd.isAgg3) rfl ?_
                    refine Wx.gyes rfl rfl (congrArg Value.bool g_39) ?_
                    refine Wx.rd (v := .int .i64 ((ix 0 tb q) - 1)) (rd_sub rfl rfl (in_i64 (by omega) (by omega))) rfl ?_
                    refine Wx.gyes rfl rfl (congrArg Value.bool g_39) ?_
                    refine Wx.rd (v := .int .i64 ((ix (0, 0) l k).1)) (rd_move rfl) rfl ?_
                    refine Wx.gyes rfl rfl (congrArg Value.bool g_39) ?_
                    refine Wx.rd (v := .bool (decide (((ix 0 tb q) - 1) < ((ix (0, 0) l k).1)))) (rd_lss rfl rfl) rfl ?_
                    refine Wx.gyes rfl rfl (congrArg Value.bool g_39) ?_
                    refine Wx.rd (v := .bool (decide (((ix 0 tb q) - 1) < ((ix (0, 0) l k).1)))) (rd_move rfl) rfl ?_
                    refine Wx.cut (X := Unit) 7 [81, 82, 83, 84, 85, 86, 87] (fun _ => [(87, .bool (decide (((ix 0 tb q) - 1) < ((ix (0, 0) l k).1)) || decide (((ix (0, 0) l k).2) < ((ix 0 tb q) - 1))))]) (fun _ w' => St w [] w' [.box g_16 58 [.int .i64 ((ix (0, 0) l k).1), .int .i64 ((ix (0, 0) l k).2)], .box g_4 76 (List.map (Value.int .i64) tb)]) ?_ ?_
                    · rcases Bool.eq_false_or_eq_true (decide (((ix 0 tb q) - 1) < ((ix (0, 0) l k).1))) with g_41 | g_41
                      · -- True
                        have gp_42 := of_decide_eq_true g_41
                        refine Wx.gnoB rfl rfl (congrArg Value.bool g_41) rfl rfl ?_
                        refine Wx.gnoB rfl rfl (congrArg Value.bool g_41) rfl rfl ?_
                        refine Wx.gnoB rfl rfl (congrArg Value.bool g_41) rfl rfl ?_
                        refine Wx.gnoB rfl rfl (congrArg Value.bool g_41) rfl rfl ?_
                        refine Wx.gnoB rfl rfl (congrArg Value.bool g_41) rfl rfl ?_
                        refine Wx.gnoB rfl rfl (congrArg Value.bool g_41) rfl rfl ?_
                        refine Wx.gyes rfl rfl (congrArg Value.bool g_39) ?_
                        refine Wx.rd (v := .bool true) (rd_pickT (congrArg Value.bool g_41) rfl) rfl ?_
                        refine Wx.nil ⟨(), hS, ⟨?_, trivial⟩, Out.look rfl Out.refl⟩
                        show Value.bool true = Value.bool (decide (((ix 0 tb q) - 1) < ((ix (0, 0) l k).1)) || decide (((ix (0, 0) l k).2) < ((ix 0 tb q) - 1)))
                        rw [g_41]; rfl
                      · -- False
                        have gp_43 := of_decide_eq_false g_41
                        refine Wx.gyes rfl rfl (congrArg Value.bool g_41) ?_
                        refine Wx.rd (v := .int .i64 q) (rd_move rfl) rfl ?_
                        refine Wx.gyes rfl rfl (congrArg Value.bool g_41) ?_
                        refine Wx.rd (v := .pointer (some ⟨g_4, 0 + q.toNat * 1, none⟩)) (rd_indexArr rfl rfl Tryd.underlying76 Tryd.sizeOf3 (by omega) (by omega)) rfl ?_
                        refine Wx.gyes rfl rfl (congrArg Value.bool g_41) ?_
                        refine Wx.rd (v := .int .i64 (ix 0 tb q)) (rd_loadXa (d := 0) (f := (Value.int .i64)) (j := q) hS 1 rfl rfl (by omega) (by omega) (by omega) Tryd.isAgg3) rfl ?_
                        refine Wx.gyes rfl rfl (congrArg Value.bool g_41) ?_
                        refine Wx.rd (v := .int .i64 ((ix 0 tb q) - 1)) (rd_sub rfl rfl (in_i64 (by omega) (by omega))) rfl ?_
                        refine Wx.gyes rfl rfl (congrArg Value.bool g_41) ?_
                        refine Wx.rd (v := .int .i64 ((ix (0, 0) l k).2)) (rd_move rfl) rfl ?_
                        refine Wx.gyes rfl rfl (congrArg Value.bool g_41) ?_
                        refine Wx.rd (v := .bool (decide (((ix (0, 0) l k).2) < ((ix 0 tb q) - 1)))) (rd_gtr rfl rfl) rfl ?_
                        refine Wx.gyes rfl rfl (congrArg Value.bool g_39) ?_
                        refine Wx.rd (v := .bool (decide (((ix (0, 0) l k).2) < ((ix 0 tb q) - 1)))) (rd_pickF (congrArg Value.bool g_41) rfl) rfl ?_
                        refine Wx.nil ⟨(), hS, ⟨?_, trivial⟩, Out.look rfl Out.refl⟩
                        show Value.bool (decide (((ix (0, 0) l k).2) < ((ix 0 tb q) - 1))) = Value.bool (decide (((ix 0 tb q) - 1) < ((ix (0, 0) l k).1)) || decide (((ix (0, 0) l k).2) < ((ix 0 tb q) - 1)))
                        rw [g_41]; rfl
                    rintro ⟨⟩ u_45 w_44 hS
                    refine Wx.rd (v := .bool (decide (((ix 0 tb q) - 1) < ((ix (0, 0) l k).1)) || decide (((ix (0, 0) l k).2) < ((ix 0 tb q) - 1)))) (rd_pickT (congrArg Value.bool g_39) rfl) rfl ?_
                    refine Wx.nil ⟨(), hS, ⟨?_, trivial⟩, Out.look rfl (Out.hav rfl (Out.look rfl Out.refl))⟩
                    show Value.bool (decide (((ix 0 tb q) - 1) < ((ix (0, 0) l k).1)) || decide (((ix (0, 0) l k).2) < ((ix 0 tb q) - 1))) = Value.bool (decide (0 < (ix 0 tb q)) && (decide (((ix 0 tb q) - 1) < ((ix (0, 0) l k).1)) || decide (((ix (0, 0) l k).2) < ((ix 0 tb q) - 1))))
                    rw [g_39]; rfl
                  · -- False
                    have gp_46 := of_decide_eq_false g_39
                    refine Wx.gnoB rfl rfl (congrArg Value.bool g_39) rfl rfl ?_
                    refine Wx.gnoB rfl rfl (congrArg Value.bool g_39) rfl rfl ?_
                    refine Wx.gnoB rfl rfl (congrArg Value.bool g_39) rfl rfl ?_
                    refine Wx.gnoB rfl rfl (congrArg Value.bool g_39) rfl rfl ?_
                    refine Wx.gnoB rfl rfl (congrArg Value.bool g_39) rfl rfl ?_
                    refine Wx.gnoB rfl rfl (congrArg Value.bool g_39) rfl rfl ?_
                    refine Wx.gnoB rfl rfl (congrArg Value.bool g_39) rfl rfl ?_
                    refine Wx.gno rfl rfl rfl rfl ?_
                    refine Wx.gno rfl rfl rfl rfl ?_
                    refine Wx.gno rfl rfl rfl rfl ?_
                    refine Wx.gno rfl rfl rfl rfl ?_
                    refine Wx.gno rfl rfl rfl rfl ?_
                    refine Wx.gno rfl rfl rfl rfl ?_
                    refine Wx.gnoB rfl rfl (congrArg Value.bool g_39) rfl rfl ?_
                    refine Wx.rd (v := .bool false) (rd_pickF (congrArg Value.bool g_39) rfl) rfl ?_
                    refine Wx.nil ⟨(), hS, ⟨?_, trivial⟩, Out.look rfl Out.refl⟩
                    show Value.bool false = Value.bool (decide (0 < (ix 0 tb q)) && (decide (((ix 0 tb q) - 1) < ((ix (0, 0) l k).1)) || decide (((ix (0, 0) l k).2) < ((ix 0 tb q) - 1))))
                    rw [g_39]; rfl
                rintro ⟨⟩ u_48 w_47 hS
                refine Wx.nil ?_
                refine W.cond rfl (fun c7 => ?_) (fun c7 => ?_)
                · -- yes
                  try simp only [Bool.and_eq_true, Bool.or_eq_true, Bool.not_eq_true', Bool.and_eq_false_iff, Bool.or_eq_false_iff, Bool.not_eq_false', decide_eq_true_eq, decide_eq_false_iff_not, not_or, Bool.false_eq_true, Bool.true_eq_false, false_or, or_false, not_false_eq_true] at c7
                  refine W.seq ?_
                  refine W.reg ?_
                  refine Wx.rd (v := .int .i64 5) (rd_assign rfl) rfl ?_
                  refine Wx.nil ?_
                  have e5_0 : (validE rim l) = (5 : Int) := by exact validT_bad h0 c1 h2 (badX_shape ⟨by omega, by omega⟩ (by omega) (hv1.2 c4.1) (hv2.2 c4.2) c5 (h3.cross (i := (ix (0, 0) l k).1) (j := (ix (0, 0) l k).2) (by omega) (by omega) c6 (by omega) c7)) (by decide) hr0
                  exact W.ret ⟨.int .i64 5, ResIs.one, hS.bel, (by rw [e5_0])⟩
                · -- no
                  try simp only [Bool.and_eq_true, Bool.or_eq_true, Bool.not_eq_true', Bool.and_eq_false_iff, Bool.or_eq_false_iff, Bool.not_eq_false', decide_eq_true_eq, decide_eq_false_iff_not, not_or, Bool.false_eq_true, Bool.true_eq_false, false_or, or_false, not_false_eq_true] at c7
                  refine W.skip ?_
                  refine W.reg ?_
                  refine Wx.rd (v := .int .i64 q) (rd_move rfl) rfl ?_
                  refine Wx.rd (v := .int .i64 (q + 1)) (rd_add rfl rfl (in_i64 (by omega) (by omega))) rfl ?_
                  refine Wx.rd (v := .int .i64 (q + 1)) (rd_assign rfl) rfl ?_
                  refine Wx.nil ?_
                  refine ⟨q + 1, (by show ((ix (0, 0) l k).2 - (q + 1)).toNat < ((ix (0, 0) l k).2 - q).toNat; omega), ?_, ?_, Out.look rfl (Out.hav rfl (Out.look rfl Out.self))⟩
                  · exact ⟨hS, (by first | omega | assumption), (by first | omega | assumption), (fun r r1 r2 => by by_cases hq : r = q; (subst hq; exact fun hb => by have := hb.1; have := hb.2; omega); exact g2 r r1 (by omega))⟩
                  · exact ⟨rfl, trivial⟩
              · -- no
                have hap := h3.apart (i := (ix (0, 0) l k).1) (j := (ix (0, 0) l k).2) (by omega) (by omega) (by omega) (hv1.2 c4.1) (hv2.2 c4.2) (fun r r1 r2 => g2 r r1 (by omega))
                refine W.exit rfl ?_
                refine W.seq ?_
                refine W.seq ?_
                refine W.reg ?_
                refine Wx.rd (v := .int .i64 ((ix (0, 0) l k).1)) (rd_move rfl) rfl ?_
                refine Wx.rd (v := .int .i64 last) (rd_move rfl) rfl ?_
                refine Wx.rd (v := .bool (decide (((ix (0, 0) l k).1) < last))) (rd_lss rfl rfl) rfl ?_
                refine Wx.nil ?_
                refine W.condD rfl (fun c8 => ?_) (fun c8 => ?_)
                · -- yes
                  refine W.seq ?_
                  refine W.reg ?_
                  refine Wx.rd (v := .int .i64 7) (rd_assign rfl) rfl ?_
                  refine Wx.nil ?_
                  have e6_0 : (validE rim l) = (7 : Int) := by exact validT_bad h0 c1 h2 (badX_late ⟨by omega, by omega⟩ (by omega) (hv1.2 c4.1) (hv2.2 c4.2) c5 hap (by omega)) (by decide) hr0
                  exact W.ret ⟨.int .i64 7, ResIs.one, hS.bel, (by rw [e6_0])⟩
                · -- no
                  refine W.skip ?_
                  refine W.reg ?_
                  refine Wx.rd (v := .int .i64 ((ix (0, 0) l k).1)) (rd_move rfl) rfl ?_
                  refine Wx.rd (v := .int .i64 ((ix (0, 0) l k).2)) (rd_move rfl) rfl ?_
                  refine Wx.rd (v := .int .i64 ((ix (0, 0) l k).2)) (rd_move rfl) rfl ?_
                  refine Wx.rd (v := .int .i64 (((ix (0, 0) l k).2) + 1)) (rd_add rfl rfl (in_i64 (by omega) (by omega))) rfl ?_
                  refine Wx.rd (v := .int .i64 ((ix (0, 0) l k).1)) (rd_move rfl) rfl ?_
                  refine Wx.rd (v := .int .i64 (((ix (0, 0) l k).1) + 1)) (rd_add rfl rfl (in_i64 (by omega) (by omega))) rfl ?_
                  refine Wx.rd (v := .int .i64 ((ix (0, 0) l k).1)) (rd_move rfl) rfl ?_
                  refine Wx.rd (v := .pointer (some ⟨g_4, 0 + ((ix (0, 0) l k).1).toNat * 1, none⟩)) (rd_indexArr rfl rfl Tryd.underlying76 Tryd.sizeOf3 (by omega) (by omega)) rfl ?_
                  refine Wx.storeXa (j := ((ix (0, 0) l k).1)) (f := (Value.int .i64)) (u := (((ix (0, 0) l k).2) + 1)) hS 1 rfl rfl (by omega) rfl rfl rfl Tryd.sizeOf3 (by omega) (by omega) (fun w_49 hz_50 hS => ?_)
                  refine Wx.rd (v := .pointer (some ⟨g_4, 0 + ((ix (0, 0) l k).2).toNat * 1, none⟩)) (rd_indexArr rfl rfl Tryd.underlying76 Tryd.sizeOf3 (by omega) (by omega)) rfl ?_
                  refine Wx.storeXa (j := ((ix (0, 0) l k).2)) (f := (Value.int .i64)) (u := (((ix (0, 0) l k).1) + 1)) hS 1 rfl rfl (by omega) rfl rfl rfl Tryd.sizeOf3 (by omega) (by rw [List.length_set]; omega) (fun w_51 hz_52 hS => ?_)
                  refine Wx.rd (v := .int .i64 ((ix (0, 0) l k).1)) (rd_assign rfl) rfl ?_
                  refine Wx.nil ?_
                  refine W.reg ?_
                  refine Wx.rd (v := .int .i64 (k + 1)) (rd_add rfl rfl (in_i64 (by omega) (by omega))) rfl ?_
                  refine Wx.rd (v := .int .i64 (k + 1)) (rd_move rfl) rfl ?_
                  refine Wx.nil ?_
                  refine ⟨((ix (0, 0) l k).1, k + 1, List.set (List.set tb ((ix (0, 0) l k).1).toNat (((ix (0, 0) l k).2) + 1)) ((ix (0, 0) l k).2).toNat (((ix (0, 0) l k).1) + 1)), (by show (l.length - (k + 1)).toNat < (l.length - k).toNat; omega), ?_, ?_, Out.look rfl (Out.hav rfl (Out.look rfl (Out.hav rfl (Out.look rfl (Out.hav rfl (Out.look rfl Out.self))))))⟩
                  · exact ⟨hS.tl, (by first | omega | assumption), (by first | omega | assumption), (validT_good h0 c1 h2 (badX_good ⟨by omega, by omega⟩ (by omega) (hv1.2 c4.1) (hv2.2 c4.2) c5 hap (by omega))), (by rw [take_ix (d := (0, 0)) h0 c1]; exact h3.push (i := (ix (0, 0) l k).1) (j := (ix (0, 0) l k).2) (by omega) (by omega) (by omega) (hv1.2 c4.1) (hv2.2 c4.2)), ((lastI_next h0 c1).symm)⟩
                  · exact ⟨rfl, rfl, trivial⟩
    · -- no
      refine W.exit rfl ?_
      refine W.seq ?_
      refine W.reg ?_
      refine Wx.rd (v := .int .i64 0) (rd_assign rfl) rfl ?_
      refine Wx.nil ?_
      have e7_0 : (validE rim l) = (0 : Int) := by exact validT_end (by omega) h2 hr0
      exact W.ret ⟨.int .i64 0, ResIs.one, hS.bel, (by rw [e7_0])⟩
end Go.Proofs.YtokdjjebnomciaaDoor

namespace Go.Proofs.YtokdjjebnomciaaDoor
open Go.Wk Go.RowKit Go.Lib
set_option linter.unusedVariables false
set_option linter.unusedSimpArgs false
theorem mixedHe_ : Tryd.prog.follows .mixedOrders = true := by kernel_rfl
theorem elHe_22 : ElemI Tryd.prog 22 58 (.agg #[.int .i64 0, .int .i64 0]) 2 16 := ElemI.of Tryd.underlying22 (by kernel_rfl) (by first | rfl | kernel_rfl) (by decide)
theorem elHe_86 : ElemI Tryd.prog 86 22 ((.slice none 0 0)) 1 24 := ElemI.of Tryd.underlying86 (by kernel_rfl) (by first | rfl | kernel_rfl) (by decide)

theorem F92_rec : ∀ (fuel : Nat) {rim : ByteArray} {bv : Value} {begun : List (Int × Int)} {frm : Int} {least : Int} {O : List (Option Nat)} {w : World} (s_rim : rim.size ≤ maxLen) (h_bv : V (tSl (tP (tI .i64) (tI .i64))) begun bv O w) (i_frm : InK .i64 frm) (i_least : InK .i64 least) (p_12 : (rim.size : Int) ≤ 12) (p_l : Lets rim) (p_f : 0 ≤ frm) (p_f2 : frm ≤ rim.size) (p_b : (begun.length : Int) + rim.size - frm ≤ 100) (hO : ∀ b, some b ∈ O → b < w.heap.size) (hfuel : (rim.size - frm).toNat < fuel), Calls Tryd.prog 92 #[.string rim, bv, .int .i64 frm, .int .i64 least] w (Ret w (fun r w' => ∃ rv, r = rv ∧ FreshO (tSl (tP (tI .i64) (tI .i64))) 22 (PR (fitR rim) rim.size least begun frm) rv O w.heap.size w')) := by
  intro fuel
  induction fuel with
  | zero => intros; omega
  | succ fuel IH =>
  intro rim bv begun frm least O w s_rim h_bv i_frm i_least p_12 p_l p_f p_f2 p_b hO hfuel
  have b_least := bd_i64 i_least
  have b_frm := bd_i64 i_frm
  have a_bv := h_bv
  have l_bv := h_bv.len63
  have hS := St.start w O hO
  refine enterR Tryd.func92 rfl Tryd.ntmps92 Tryd.results92 rfl ?_
  refine W.seq ?_
  refine W.reg ?_
  refine Wx.rd (v := (.slice none 0 0)) (rd_assign rfl) rfl ?_
  refine Wx.nil ?_
  refine W.seq ?_
  refine W.reg ?_
  refine Wx.rd (v := (.slice none 0 0)) (rd_assign rfl) rfl ?_
  refine Wx.nil ?_
  refine W.seq ?_
  refine W.seq ?_
  refine W.reg ?_
  refine Wx.rd (v := bv) (rd_move rfl) rfl ?_
  refine Wx.rd (v := .int .i64 (begun.length : Int)) (rd_lenV rfl (hS.arg a_bv) Tryd.underlying22) rfl ?_
  refine Wx.rd (v := .string rim) (rd_move rfl) rfl ?_
  refine Wx.rd (v := .int .i64 (rim.size : Int)) (rd_lenS rfl Tryd.underlying9) rfl ?_
  refine Wx.rd (v := .int .i64 frm) (rd_move rfl) rfl ?_
  refine Wx.rd (v := .int .i64 ((rim.size : Int) - frm)) (rd_sub rfl rfl (in_i64 (by omega) (by omega))) rfl ?_
  refine Wx.rd (v := .int .i64 (((rim.size : Int) - frm) / 2)) (rd_quo rfl rfl (by omega) (by omega) (in_i64 (by omega) (by omega))) rfl ?_
  refine Wx.rd (v := .int .i64 ((begun.length : Int) + (((rim.size : Int) - frm) / 2))) (rd_add rfl rfl (in_i64 (by omega) (by omega))) rfl ?_
  refine Wx.rd (v := .int .i64 least) (rd_move rfl) rfl ?_
  refine Wx.rd (v := .bool (decide (((begun.length : Int) + (((rim.size : Int) - frm) / 2)) < least))) (rd_lss rfl rfl) rfl ?_
  refine Wx.nil ?_
  refine W.condD rfl (fun c0 => ?_) (fun c0 => ?_)
  · -- yes
    refine W.seq ?_
    refine W.reg ?_
    refine Wx.rd (v := (.slice none 0 0)) (rd_assign rfl) rfl ?_
    refine Wx.nil ?_
    have e0_0 : PR (fitR rim) rim.size least begun frm = [] := by exact PR_cut c0
    exact W.ret ⟨(.slice none 0 0), ResIs.one, hS.bel, ⟨(.slice none 0 0), rfl, (by rw [e0_0]; exact ((hS.addNil (tSl (tP (tI .i64) (tI .i64))) 22).frO 0 rfl))⟩⟩
  · -- no
    refine W.skip ?_
    refine W.seq ?_
    refine W.seq ?_
    refine W.reg ?_
    refine Wx.rd (v := .int .i64 frm) (rd_move rfl) rfl ?_
    refine Wx.rd (v := .int .i64 frm) (rd_assign rfl) rfl ?_
    refine Wx.nil ?_
    refine W.block ?_
    have hS := hS.addNil (tSl (tP (tI .i64) (tI .i64))) 22
    refine W.loop [9, 10, 11, 12, 24, 25, 26, 27, 28, 29, 30, 31, 32, 33, 34, 35, 36, 37, 38, 39, 40, 41, 42, 43, 44, 45, 46, 47, 48, 49, 50, 51, 52, 53, 54, 55, 56, 57, 58, 59, 60, 61, 62, 63, 64, 65, 66, 67, 68, 69, 70, 71, 72, 73, 74, 75] (fun x : Int × Value × (List (List (Int × Int))) => match x with | (i, ov, out) => [(10, .int .i64 i), (9, ov)]) (fun (x : Int × Value × (List (List (Int × Int)))) w' => match x with | (i, ov, out) => St w O w' [.row (tSl (tP (tI .i64) (tI .i64))) 22 ov out] ∧ frm ≤ i ∧ i ≤ rim.size ∧ out ++ (outR (fitR rim) rim.size least begun i ++ tailR least begun) = PR (fitR rim) rim.size least begun frm) (fun x : Int × Value × (List (List (Int × Int))) => match x with | (i, ov, out) => (rim.size - i).toNat) (frm, (.slice none 0 0), []) ⟨rfl, rfl, trivial⟩ ⟨hS, (by first | omega | simp), (by first | omega | simp), (by rw [List.nil_append, PR_eq c0])⟩ ?_
    rintro ⟨i, ov, out⟩ u_2 w_1 ⟨hS, h0, h1, h2⟩
    have hol : (out.length : Int) ≤ 479001600 := by have a := PR_bd (F := fitR rim) (n := rim.size) (least := least) (begun := begun) (frm := frm) p_f p_12; rw [← h2] at a; simp only [List.length_append] at a; omega
    refine W.seq ?_
    refine W.seq ?_
    refine W.reg ?_
    refine Wx.rd (v := .int .i64 i) (rd_move rfl) rfl ?_
    refine Wx.rd (v := .string rim) (rd_move rfl) rfl ?_
    refine Wx.rd (v := .int .i64 (rim.size : Int)) (rd_lenS rfl Tryd.underlying9) rfl ?_
    refine Wx.rd (v := .bool (decide (i < (rim.size : Int)))) (rd_lss rfl rfl) rfl ?_
    refine Wx.nil ?_
    refine W.condD rfl (fun c1 => ?_) (fun c1 => ?_)
    · -- yes
      refine W.skip ?_
      refine W.seq ?_
      refine W.block ?_
      refine W.seq ?_
      refine W.reg ?_
      refine Wx.rd (v := .int .i64 i) (rd_move rfl) rfl ?_
      refine Wx.rd (v := .int .i64 (i + 1)) (rd_add rfl rfl (in_i64 (by omega) (by omega))) rfl ?_
      refine Wx.rd (v := .int .i64 (i + 1)) (rd_assign rfl) rfl ?_
      refine Wx.nil ?_
      refine W.block ?_
      refine W.loop [9, 11, 12, 32, 33, 34, 35, 36, 37, 38, 39, 40, 41, 42, 43, 44, 45, 46, 47, 48, 49, 50, 51, 52, 53, 54, 55, 56, 57, 58, 59, 60, 61, 62, 63, 64, 65, 66, 67, 68, 69, 70, 71, 72, 73, 74, 75] (fun x : Int × Value × (List (List (Int × Int))) => match x with | (j, ov2, out2) => [(11, .int .i64 j), (9, ov2)]) (fun (x : Int × Value × (List (List (Int × Int)))) w' => match x with | (j, ov2, out2) => St w O w' [.row (tSl (tP (tI .i64) (tI .i64))) 22 ov2 out2] ∧ i + 1 ≤ j ∧ j ≤ rim.size ∧ out2 ++ ((if usedB begun i = true then [] else inR (fitR rim) rim.size least begun i j) ++ (outR (fitR rim) rim.size least begun (i + 1) ++ tailR least begun)) = PR (fitR rim) rim.size least begun frm) (fun x : Int × Value × (List (List (Int × Int))) => match x with | (j, ov2, out2) => (rim.size - j).toNat) (i + 1, ov, out) ⟨rfl, rfl, trivial⟩ ⟨hS, (by first | omega | simp), (by first | omega | simp), (by rw [← h2, outR_next c1, List.append_assoc])⟩ ?_
      rintro ⟨j, ov2, out2⟩ u_4 w_3 ⟨hS, g0, g1, g2⟩
      have hol : (out2.length : Int) ≤ 479001600 := by have a := PR_bd (F := fitR rim) (n := rim.size) (least := least) (begun := begun) (frm := frm) p_f p_12; rw [← g2] at a; simp only [List.length_append] at a; omega
      refine W.seq ?_
      refine W.seq ?_
      refine W.reg ?_
      refine Wx.rd (v := .int .i64 j) (rd_move rfl) rfl ?_
      refine Wx.rd (v := .string rim) (rd_move rfl) rfl ?_
      refine Wx.rd (v := .int .i64 (rim.size : Int)) (rd_lenS rfl Tryd.underlying9) rfl ?_
      refine Wx.rd (v := .bool (decide (j < (rim.size : Int)))) (rd_lss rfl rfl) rfl ?_
      refine Wx.rd (v := .bool (decide (j < (rim.size : Int)))) (rd_move rfl) rfl ?_
      refine Wx.cut (X := Unit) 5 [37, 38, 39, 40, 41] (fun _ => [(41, .bool (decide (j < (rim.size : Int)) && !(usedB begun i)))]) (fun _ w' => St w O w' [.row (tSl (tP (tI .i64) (tI .i64))) 22 ov2 out2]) ?_ ?_
      · rcases Bool.eq_false_or_eq_true (decide (j < (rim.size : Int))) with g_5 | g_5
        · -- True
          have gp_6 := of_decide_eq_true g_5
          refine Wx.gyes rfl rfl (congrArg Value.bool g_5) ?_
          refine Wx.rd (v := bv) (rd_move rfl) rfl ?_
          refine Wx.gyes rfl rfl (congrArg Value.bool g_5) ?_
          refine Wx.rd (v := .int .i64 i) (rd_move rfl) rfl ?_
          refine Wx.gyes rfl rfl (congrArg Value.bool g_5) ?_
          refine Wx.callF (run_callF Tryd.call63 rfl) (F63 (hS.arg a_bv) (in_i64 (by omega) (by omega))) rfl ?_
          rintro r_7 w_8 hx_9 rfl
          have hS := hS.ext hx_9
          refine Wx.gyes rfl rfl (congrArg Value.bool g_5) ?_
          refine Wx.rd (v := .bool (!(usedB begun i))) (rd_not rfl) rfl ?_
          refine Wx.rd (v := .bool (!(usedB begun i))) (rd_pickT (congrArg Value.bool g_5) rfl) rfl ?_
          refine Wx.nil ⟨(), hS, ⟨?_, trivial⟩, Out.look rfl Out.refl⟩
          show Value.bool (!(usedB begun i)) = Value.bool (decide (j < (rim.size : Int)) && !(usedB begun i))
          rw [g_5]; rfl
        · -- False
          have gp_10 := of_decide_eq_false g_5
          refine Wx.gnoB rfl rfl (congrArg Value.bool g_5) rfl rfl ?_
          refine Wx.gnoB rfl rfl (congrArg Value.bool g_5) rfl rfl ?_
          refine Wx.gnoB rfl rfl (congrArg Value.bool g_5) rfl rfl ?_
          refine Wx.gnoB rfl rfl (congrArg Value.bool g_5) rfl rfl ?_
          refine Wx.rd (v := .bool false) (rd_pickF (congrArg Value.bool g_5) rfl) rfl ?_
          refine Wx.nil ⟨(), hS, ⟨?_, trivial⟩, Out.look rfl Out.refl⟩
          show Value.bool false = Value.bool (decide (j < (rim.size : Int)) && !(usedB begun i))
          rw [g_5]; rfl
      rintro ⟨⟩ u_12 w_11 hS
      refine Wx.nil ?_
      refine W.cond rfl (fun c2 => ?_) (fun c2 => ?_)
      · -- yes
        try simp only [Bool.and_eq_true, Bool.or_eq_true, Bool.not_eq_true', Bool.and_eq_false_iff, Bool.or_eq_false_iff, Bool.not_eq_false', decide_eq_true_eq, decide_eq_false_iff_not, not_or, Bool.false_eq_true, Bool.true_eq_false, false_or, or_false, not_false_eq_true] at c2
        refine W.skip ?_
        refine W.seq ?_
        refine W.block ?_
        refine W.seq ?_
        refine W.reg ?_
        refine Wx.rd (v := .int .i64 i) (rd_move rfl) rfl ?_
        refine Wx.rd (v := .int .i64 j) (rd_move rfl) rfl ?_
        refine Wx.rd (v := .agg #[.int .i64 i, .int .i64 j]) (rd_build (vs := [(0, .int .i64 i), (1, .int .i64 j)]) rfl (by kernel_rfl)) rfl ?_
        refine Wx.alloc (cs := [.int .i64 0, .int .i64 0]) hS Tryd.zeroValue58 rfl rfl (fun g_13 w_14 hx_16 hb_15 hS => ?_)
        refine Wx.storeX (cs' := [.int .i64 i, .int .i64 j]) (ds := [.int .i64 i, .int .i64 j]) hS 0 rfl rfl rfl rfl Tryd.sizeOf58 (Nat.le_of_ble_eq_true rfl) (one_cons rfl (one_cons rfl one_nil)) rfl (fun w_17 hz_18 hS => ?_)
        refine Wx.nil ?_
        refine W.seq ?_
        refine W.reg ?_
        refine Wx.rd (v := .string rim) (rd_move rfl) rfl ?_
        refine Wx.rd (v := .int .i64 i) (rd_move rfl) rfl ?_
        refine Wx.rd (v := .int .i64 j) (rd_move rfl) rfl ?_
        refine Wx.callF (run_callF Tryd.call64 rfl) (F64 (by first | assumption | (simp only [maxLen]; omega) | (simp only [ByteArray.size_extract, ByteArray.size_append, maxLen] at *; omega) | decide) (in_i64 (by omega) (by omega)) (in_i64 (by omega) (by omega)) (by omega) (by omega) (by omega) (by omega) (by omega)) rfl ?_
        rintro r_19 w_20 hx_21 rfl
        have hS := hS.ext hx_21
        refine Wx.rd (v := .bool (fitR rim i j)) (rd_move rfl) rfl ?_
        refine Wx.cut (X := Unit) 5 [52, 53, 54, 55, 56] (fun _ => [(56, .bool (fitR rim i j && !(usedB begun j)))]) (fun _ w' => St w O w' [.box g_13 58 [.int .i64 i, .int .i64 j], .row (tSl (tP (tI .i64) (tI .i64))) 22 ov2 out2]) ?_ ?_
        · rcases Bool.eq_false_or_eq_true (fitR rim i j) with g_22 | g_22
          · -- True
            have gp_23 := g_22
            try simp only [Bool.and_eq_true, Bool.or_eq_true, Bool.not_eq_true', Bool.and_eq_false_iff, Bool.or_eq_false_iff, Bool.not_eq_false', decide_eq_true_eq, decide_eq_false_iff_not, not_or, Bool.false_eq_true, Bool.true_eq_false, false_or, or_false, not_false_eq_true] at gp_23
            refine Wx.gyes rfl rfl (congrArg Value.bool g_22) ?_
            refine Wx.rd (v := bv) (rd_move rfl) rfl ?_
            refine Wx.gyes rfl rfl (congrArg Value.bool g_22) ?_
            refine Wx.rd (v := .int .i64 j) (rd_move rfl) rfl ?_
            refine Wx.gyes rfl rfl (congrArg Value.bool g_22) ?_
            refine Wx.callF (run_callF Tryd.call63 rfl) (F63 (hS.arg a_bv) (in_i64 (by omega) (by omega))) rfl ?_
            rintro r_24 w_25 hx_26 rfl
            have hS := hS.ext hx_26
            refine Wx.gyes rfl rfl (congrArg Value.bool g_22) ?_
            refine Wx.rd (v := .bool (!(usedB begun j))) (rd_not rfl) rfl ?_
            refine Wx.rd (v := .bool (!(usedB begun j))) (rd_pickT (congrArg Value.bool g_22) rfl) rfl ?_
            refine Wx.nil ⟨(), hS, ⟨?_, trivial⟩, Out.look rfl Out.refl⟩
            show Value.bool (!(usedB begun j)) = Value.bool (fitR rim i j && !(usedB begun j))
            rw [g_22]; rfl
          · -- False
            have gp_27 := g_22
            try simp only [Bool.and_eq_true, Bool.or_eq_true, Bool.not_eq_true', Bool.and_eq_false_iff, Bool.or_eq_false_iff, Bool.not_eq_false', decide_eq_true_eq, decide_eq_false_iff_not, not_or, Bool.false_eq_true, Bool.true_eq_false, false_or, or_false, not_false_eq_true] at gp_27
            refine Wx.gnoB rfl rfl (congrArg Value.bool g_22) rfl rfl ?_
            refine Wx.gnoB rfl rfl (congrArg Value.bool g_22) rfl rfl ?_
            refine Wx.gnoB rfl rfl (congrArg Value.bool g_22) rfl rfl ?_
            refine Wx.gnoB rfl rfl (congrArg Value.bool g_22) rfl rfl ?_
            refine Wx.rd (v := .bool false) (rd_pickF (congrArg Value.bool g_22) rfl) rfl ?_
            refine Wx.nil ⟨(), hS, ⟨?_, trivial⟩, Out.look rfl Out.refl⟩
            show Value.bool false = Value.bool (fitR rim i j && !(usedB begun j))
            rw [g_22]; rfl
        rintro ⟨⟩ u_29 w_28 hS
        refine Wx.rd (v := .bool (fitR rim i j && !(usedB begun j))) (rd_move rfl) rfl ?_
        refine Wx.cut (X := Unit) 5 [58, 59, 60, 61, 62] (fun _ => [(62, .bool ((fitR rim i j && !(usedB begun j)) && !(crossesB begun (i, j))))]) (fun _ w' => St w O w' [.box g_13 58 [.int .i64 i, .int .i64 j], .row (tSl (tP (tI .i64) (tI .i64))) 22 ov2 out2]) ?_ ?_
        · rcases Bool.eq_false_or_eq_true (fitR rim i j && !(usedB begun j)) with g_30 | g_30
          · -- True
            have gp_31 := g_30
            try simp only [Bool.and_eq_true, Bool.or_eq_true, Bool.not_eq_true', Bool.and_eq_false_iff, Bool.or_eq_false_iff, Bool.not_eq_false', decide_eq_true_eq, decide_eq_false_iff_not, not_or, Bool.false_eq_true, Bool.true_eq_false, false_or, or_false, not_false_eq_true] at gp_31
            refine Wx.gyes rfl rfl (congrArg Value.bool g_30) ?_
            refine Wx.rd (v := bv) (rd_move rfl) rfl ?_
            refine Wx.gyes rfl rfl (congrArg Value.bool g_30) ?_
            refine Wx.rd (v := .agg #[.int .i64 i, .int .i64 j]) (rd_loadXs (ds := [.int .i64 i, .int .i64 j]) hS 0 rfl rfl rfl rfl Tryd.isAgg58 Tryd.sizeOf58) rfl ?_
            refine Wx.gyes rfl rfl (congrArg Value.bool g_30) ?_
            refine Wx.callF (run_callF Tryd.call65 rfl) (F65 (hS.arg a_bv) (in_i64 (by omega) (by omega)) (in_i64 (by omega) (by omega))) rfl ?_
            rintro r_32 w_33 hx_34 rfl
            have hS := hS.ext hx_34
            refine Wx.gyes rfl rfl (congrArg Value.bool g_30) ?_
            refine Wx.rd (v := .bool (!(crossesB begun (i, j)))) (rd_not rfl) rfl ?_
            refine Wx.rd (v := .bool (!(crossesB begun (i, j)))) (rd_pickT (congrArg Value.bool g_30) rfl) rfl ?_
            refine Wx.nil ⟨(), hS, ⟨?_, trivial⟩, Out.look rfl Out.refl⟩
            show Value.bool (!(crossesB begun (i, j))) = Value.bool ((fitR rim i j && !(usedB begun j)) && !(crossesB begun (i, j)))
            rw [g_30]; rfl
          · -- False
            have gp_35 := g_30
            try simp only [Bool.and_eq_true, Bool.or_eq_true, Bool.not_eq_true', Bool.and_eq_false_iff, Bool.or_eq_false_iff, Bool.not_eq_false', decide_eq_true_eq, decide_eq_false_iff_not, not_or, Bool.false_eq_true, Bool.true_eq_false, false_or, or_false, not_false_eq_true] at gp_35
            refine Wx.gnoB rfl rfl (congrArg Value.bool g_30) rfl rfl ?_
            refine Wx.gnoB rfl rfl (congrArg Value.bool g_30) rfl rfl ?_
            refine Wx.gnoB rfl rfl (congrArg Value.bool g_30) rfl rfl ?_
            refine Wx.gnoB rfl rfl (congrArg Value.bool g_30) rfl rfl ?_
            refine Wx.rd (v := .bool false) (rd_pickF (congrArg Value.bool g_30) rfl) rfl ?_
            refine Wx.nil ⟨(), hS, ⟨?_, trivial⟩, Out.look rfl Out.refl⟩
            show Value.bool false = Value.bool ((fitR rim i j && !(usedB begun j)) && !(crossesB begun (i, j)))
            rw [g_30]; rfl
        rintro ⟨⟩ u_37 w_36 hS
        refine Wx.nil ?_
        refine W.cond rfl (fun c3 => ?_) (fun c3 => ?_)
        · -- yes
          try simp only [Bool.and_eq_true, Bool.or_eq_true, Bool.not_eq_true', Bool.and_eq_false_iff, Bool.or_eq_false_iff, Bool.not_eq_false', decide_eq_true_eq, decide_eq_false_iff_not, not_or, Bool.false_eq_true, Bool.true_eq_false, false_or, or_false, not_false_eq_true] at c3
          refine W.regP mixedHe_ (fun w_38 hx_39 => ?_)
          have hS := hS.ext hx_39
          refine Wp.rd (v := ov2) 0 rfl (by kernel_rfl) (fun _ => (rd_move rfl)) rfl ?_
          refine Wp.rd (v := .string rim) 1 rfl (by kernel_rfl) (fun _ => (rd_move rfl)) rfl ?_
          refine Wp.rd (v := bv) 3 rfl (by kernel_rfl) (fun _ => (rd_move rfl)) rfl ?_
          refine Wp.rd (v := .int .i64 i) 8 rfl (by kernel_rfl) (fun _ => (rd_move rfl)) rfl ?_
          refine Wp.rd (v := .int .i64 (i + 1)) 9 rfl (by kernel_rfl) (fun _ => (rd_add rfl rfl (in_i64 (by omega) (by omega)))) rfl ?_
          refine Wp.rd (v := .int .i64 least) 10 rfl (by kernel_rfl) (fun _ => (rd_move rfl)) rfl ?_
          refine Wp.br [2, 5] (by kernel_rfl) (by decide) ⟨⟨_, rfl, ?_⟩, ⟨_, rfl, ?_⟩, trivial⟩
          · -- operation 2
            refine Wx.lit (t := (tP (tI .i64) (tI .i64))) (ys := []) (vs := []) elHe_22 hS rfl rfl trivial (by decide) rfl (fun v_40 w_41 hx_42 hS => ?_)
            refine Wx.nil ?_
            refine Wp.br [4, 5] (by kernel_rfl) (by decide) ⟨⟨_, rfl, ?_⟩, ⟨_, rfl, ?_⟩, trivial⟩
            · -- operation 4
              refine Wx.append elHe_22 hS 0 rfl rfl rfl (Src.ofV (hS.arg a_bv)) (by simp only [maxLen]; simp; omega) (by simp; omega) rfl (fun v_43 w_44 hz_45 hS => ?_)
              refine Wx.nil ?_
              refine Wp.br [5] (by kernel_rfl) (by decide) ⟨⟨_, rfl, ?_⟩, trivial⟩
              refine Wx.rd (v := .agg #[.int .i64 i, .int .i64 j]) (rd_loadXs (ds := [.int .i64 i, .int .i64 j]) hS 1 rfl rfl rfl rfl Tryd.isAgg58 Tryd.sizeOf58) rfl ?_
              refine Wx.nil ?_
              refine Wp.br [6] (by kernel_rfl) (by decide) ⟨⟨_, rfl, ?_⟩, trivial⟩
              refine Wx.lit (t := (tP (tI .i64) (tI .i64))) (ys := [(i, j)]) (vs := [.agg #[.int .i64 i, .int .i64 j]]) elHe_22 hS rfl rfl ⟨(V.mk2 (in_i64 (by omega) (by omega)) (in_i64 (by omega) (by omega))), trivial⟩ (by decide) rfl (fun v_46 w_47 hx_48 hS => ?_)
              refine Wx.nil ?_
              refine Wp.br [7] (by kernel_rfl) (by decide) ⟨⟨_, rfl, ?_⟩, trivial⟩
              refine Wx.append elHe_22 hS 1 rfl rfl rfl (Src.ofR hS 0 rfl) (by simp only [maxLen]; simp; omega) (by simp; omega) rfl (fun v_49 w_50 hz_51 hS => ?_)
              refine Wx.nil ?_
              refine Wp.br [11] (by kernel_rfl) (by decide) ⟨⟨_, rfl, ?_⟩, trivial⟩
              have hS := hS.freeze 1 rfl
              refine Wx.callF (run_callF Tryd.call92 rfl) (IH (by first | assumption | (simp only [maxLen]; omega) | (simp only [ByteArray.size_extract, ByteArray.size_append, maxLen] at *; omega) | decide) (hS.v 0 rfl) (in_i64 (by omega) (by omega)) (in_i64 (by omega) (by omega)) (by omega) (by omega) (by omega) (by omega) (by simp only [List.length_append, List.length_cons, List.length_nil]; omega) hS.fb_lt (by omega)) rfl ?_
              rintro r_53 w_54 hx_55 ⟨_, rfl, hv_56⟩
              have hS := hS.pushFrO hx_55 hv_56
              refine Wx.nil ?_
              refine Wp.br [12] (by kernel_rfl) (by decide) ⟨⟨_, rfl, ?_⟩, trivial⟩
              have hpb := PR_bd (F := fitR rim) (n := rim.size) (least := least) (begun := begun ++ [(i, j)]) (frm := i + 1) (by omega) p_12
              refine Wx.append elHe_86 hS 4 rfl rfl rfl (Src.ofR hS 0 rfl) (by simp only [maxLen]; simp; omega) (by simp; omega) rfl (fun v_58 w_59 hz_60 hS => ?_)
              refine Wx.nil ?_
              refine Wp.rd (v := v_58) 13 rfl (by kernel_rfl) (fun _ => (rd_assign rfl)) rfl ?_
              refine Wp.done (by kernel_rfl) ?_
              refine W.reg ?_
              refine Wx.rd (v := .int .i64 j) (rd_move rfl) rfl ?_
              refine Wx.rd (v := .int .i64 (j + 1)) (rd_add rfl rfl (in_i64 (by omega) (by omega))) rfl ?_
              refine Wx.rd (v := .int .i64 (j + 1)) (rd_assign rfl) rfl ?_
              refine Wx.nil ?_
              refine ⟨(j + 1, v_58, out2 ++ (PR (fitR rim) rim.size least ([] ++ begun ++ [(i, j)]) (i + 1))), (by show (rim.size - (j + 1)).toNat < (rim.size - j).toNat; omega), ?_, ?_, Out.look rfl (Out.hav rfl (Out.look rfl (Out.hav rfl (Out.look rfl (Out.hav rfl (Out.look rfl Out.self))))))⟩
              · exact ⟨St.tl (St.tl (St.tl (hS.tl))), (by first | omega | assumption), (by first | omega | assumption), (by first | (rw [← g2, if_neg (by rw [c2.2]; decide), if_neg (by rw [c2.2]; decide), inR_next c2.1, if_pos (goes_yes c3)]; simp) | (rw [← g2, if_neg (by rw [c2.2]; decide), if_neg (by rw [c2.2]; decide), inR_next c2.1, if_neg (goes_no c3)]; simp))⟩
              · exact ⟨rfl, rfl, trivial⟩
            · -- operation 5
              refine Wx.rd (v := .agg #[.int .i64 i, .int .i64 j]) (rd_loadXs (ds := [.int .i64 i, .int .i64 j]) hS 1 rfl rfl rfl rfl Tryd.isAgg58 Tryd.sizeOf58) rfl ?_
              refine Wx.nil ?_
              refine Wp.br [4, 6] (by kernel_rfl) (by decide) ⟨⟨_, rfl, ?_⟩, ⟨_, rfl, ?_⟩, trivial⟩
              · -- operation 4
                refine Wx.append elHe_22 hS 0 rfl rfl rfl (Src.ofV (hS.arg a_bv)) (by simp only [maxLen]; simp; omega) (by simp; omega) rfl (fun v_61 w_62 hz_63 hS => ?_)
                refine Wx.nil ?_
                refine Wp.br [6] (by kernel_rfl) (by decide) ⟨⟨_, rfl, ?_⟩, trivial⟩
                refine Wx.lit (t := (tP (tI .i64) (tI .i64))) (ys := [(i, j)]) (vs := [.agg #[.int .i64 i, .int .i64 j]]) elHe_22 hS rfl rfl ⟨(V.mk2 (in_i64 (by omega) (by omega)) (in_i64 (by omega) (by omega))), trivial⟩ (by decide) rfl (fun v_64 w_65 hx_66 hS => ?_)
                refine Wx.nil ?_
                refine Wp.br [7] (by kernel_rfl) (by decide) ⟨⟨_, rfl, ?_⟩, trivial⟩
                refine Wx.append elHe_22 hS 1 rfl rfl rfl (Src.ofR hS 0 rfl) (by simp only [maxLen]; simp; omega) (by simp; omega) rfl (fun v_67 w_68 hz_69 hS => ?_)
                refine Wx.nil ?_
                refine Wp.br [11] (by kernel_rfl) (by decide) ⟨⟨_, rfl, ?_⟩, trivial⟩
                have hS := hS.freeze 1 rfl
                refine Wx.callF (run_callF Tryd.call92 rfl) (IH (by first | assumption | (simp only [maxLen]; omega) | (simp only [ByteArray.size_extract, ByteArray.size_append, maxLen] at *; omega) | decide) (hS.v 0 rfl) (in_i64 (by omega) (by omega)) (in_i64 (by omega) (by omega)) (by omega) (by omega) (by omega) (by omega) (by simp only [List.length_append, List.length_cons, List.length_nil]; omega) hS.fb_lt (by omega)) rfl ?_
                rintro r_71 w_72 hx_73 ⟨_, rfl, hv_74⟩
                have hS := hS.pushFrO hx_73 hv_74
                refine Wx.nil ?_
                refine Wp.br [12] (by kernel_rfl) (by decide) ⟨⟨_, rfl, ?_⟩, trivial⟩
                have hpb := PR_bd (F := fitR rim) (n := rim.size) (least := least) (begun := begun ++ [(i, j)]) (frm := i + 1) (by omega) p_12
                refine Wx.append elHe_86 hS 4 rfl rfl rfl (Src.ofR hS 0 rfl) (by simp only [maxLen]; simp; omega) (by simp; omega) rfl (fun v_76 w_77 hz_78 hS => ?_)
                refine Wx.nil ?_
                refine Wp.rd (v := v_76) 13 rfl (by kernel_rfl) (fun _ => (rd_assign rfl)) rfl ?_
                refine Wp.done (by kernel_rfl) ?_
                refine W.reg ?_
                refine Wx.rd (v := .int .i64 j) (rd_move rfl) rfl ?_
                refine Wx.rd (v := .int .i64 (j + 1)) (rd_add rfl rfl (in_i64 (by omega) (by omega))) rfl ?_
                refine Wx.rd (v := .int .i64 (j + 1)) (rd_assign rfl) rfl ?_
                refine Wx.nil ?_
                refine ⟨(j + 1, v_76, out2 ++ (PR (fitR rim) rim.size least ([] ++ begun ++ [(i, j)]) (i + 1))), (by show (rim.size - (j + 1)).toNat < (rim.size - j).toNat; omega), ?_, ?_, Out.look rfl (Out.hav rfl (Out.look rfl (Out.hav rfl (Out.look rfl (Out.hav rfl (Out.look rfl Out.self))))))⟩
                · exact ⟨St.tl (St.tl (St.tl (hS.tl))), (by first | omega | assumption), (by first | omega | assumption), (by first | (rw [← g2, if_neg (by rw [c2.2]; decide), if_neg (by rw [c2.2]; decide), inR_next c2.1, if_pos (goes_yes c3)]; simp) | (rw [← g2, if_neg (by rw [c2.2]; decide), if_neg (by rw [c2.2]; decide), inR_next c2.1, if_neg (goes_no c3)]; simp))⟩
                · exact ⟨rfl, rfl, trivial⟩
              · -- operation 6
                refine Wx.lit (t := (tP (tI .i64) (tI .i64))) (ys := [(i, j)]) (vs := [.agg #[.int .i64 i, .int .i64 j]]) elHe_22 hS rfl rfl ⟨(V.mk2 (in_i64 (by omega) (by omega)) (in_i64 (by omega) (by omega))), trivial⟩ (by decide) rfl (fun v_79 w_80 hx_81 hS => ?_)
                refine Wx.nil ?_
                refine Wp.br [4] (by kernel_rfl) (by decide) ⟨⟨_, rfl, ?_⟩, trivial⟩
                refine Wx.append elHe_22 hS 1 rfl rfl rfl (Src.ofV (hS.arg a_bv)) (by simp only [maxLen]; simp; omega) (by simp; omega) rfl (fun v_82 w_83 hz_84 hS => ?_)
                refine Wx.nil ?_
                refine Wp.br [7] (by kernel_rfl) (by decide) ⟨⟨_, rfl, ?_⟩, trivial⟩
                refine Wx.append elHe_22 hS 1 rfl rfl rfl (Src.ofR hS 0 rfl) (by simp only [maxLen]; simp; omega) (by simp; omega) rfl (fun v_85 w_86 hz_87 hS => ?_)
                refine Wx.nil ?_
                refine Wp.br [11] (by kernel_rfl) (by decide) ⟨⟨_, rfl, ?_⟩, trivial⟩
                have hS := hS.freeze 1 rfl
                refine Wx.callF (run_callF Tryd.call92 rfl) (IH (by first | assumption | (simp only [maxLen]; omega) | (simp only [ByteArray.size_extract, ByteArray.size_append, maxLen] at *; omega) | decide) (hS.v 0 rfl) (in_i64 (by omega) (by omega)) (in_i64 (by omega) (by omega)) (by omega) (by omega) (by omega) (by omega) (by simp only [List.length_append, List.length_cons, List.length_nil]; omega) hS.fb_lt (by omega)) rfl ?_
                rintro r_89 w_90 hx_91 ⟨_, rfl, hv_92⟩
                have hS := hS.pushFrO hx_91 hv_92
                refine Wx.nil ?_
                refine Wp.br [12] (by kernel_rfl) (by decide) ⟨⟨_, rfl, ?_⟩, trivial⟩
                have hpb := PR_bd (F := fitR rim) (n := rim.size) (least := least) (begun := begun ++ [(i, j)]) (frm := i + 1) (by omega) p_12
                refine Wx.append elHe_86 hS 4 rfl rfl rfl (Src.ofR hS 0 rfl) (by simp only [maxLen]; simp; omega) (by simp; omega) rfl (fun v_94 w_95 hz_96 hS => ?_)
                refine Wx.nil ?_
                refine Wp.rd (v := v_94) 13 rfl (by kernel_rfl) (fun _ => (rd_assign rfl)) rfl ?_
                refine Wp.done (by kernel_rfl) ?_
                refine W.reg ?_
                refine Wx.rd (v := .int .i64 j) (rd_move rfl) rfl ?_
                refine Wx.rd (v := .int .i64 (j + 1)) (rd_add rfl rfl (in_i64 (by omega) (by omega))) rfl ?_
                refine Wx.rd (v := .int .i64 (j + 1)) (rd_assign rfl) rfl ?_
                refine Wx.nil ?_
                refine ⟨(j + 1, v_94, out2 ++ (PR (fitR rim) rim.size least ([] ++ begun ++ [(i, j)]) (i + 1))), (by show (rim.size - (j + 1)).toNat < (rim.size - j).toNat; omega), ?_, ?_, Out.look rfl (Out.hav rfl (Out.look rfl (Out.hav rfl (Out.look rfl (Out.hav rfl (Out.look rfl Out.self))))))⟩
                · exact ⟨St.tl (St.tl (St.tl (hS.tl))), (by first | omega | assumption), (by first | omega | assumption), (by first | (rw [← g2, if_neg (by rw [c2.2]; decide), if_neg (by rw [c2.2]; decide), inR_next c2.1, if_pos (goes_yes c3)]; simp) | (rw [← g2, if_neg (by rw [c2.2]; decide), if_neg (by rw [c2.2]; decide), inR_next c2.1, if_neg (goes_no c3)]; simp))⟩
                · exact ⟨rfl, rfl, trivial⟩
          · -- operation 5
            refine Wx.rd (v := .agg #[.int .i64 i, .int .i64 j]) (rd_loadXs (ds := [.int .i64 i, .int .i64 j]) hS 0 rfl rfl rfl rfl Tryd.isAgg58 Tryd.sizeOf58) rfl ?_
            refine Wx.nil ?_
            refine Wp.br [2, 6] (by kernel_rfl) (by decide) ⟨⟨_, rfl, ?_⟩, ⟨_, rfl, ?_⟩, trivial⟩
            · -- operation 2
              refine Wx.lit (t := (tP (tI .i64) (tI .i64))) (ys := []) (vs := []) elHe_22 hS rfl rfl trivial (by decide) rfl (fun v_97 w_98 hx_99 hS => ?_)
              refine Wx.nil ?_
              refine Wp.br [4, 6] (by kernel_rfl) (by decide) ⟨⟨_, rfl, ?_⟩, ⟨_, rfl, ?_⟩, trivial⟩
              · -- operation 4
                refine Wx.append elHe_22 hS 0 rfl rfl rfl (Src.ofV (hS.arg a_bv)) (by simp only [maxLen]; simp; omega) (by simp; omega) rfl (fun v_100 w_101 hz_102 hS => ?_)
                refine Wx.nil ?_
                refine Wp.br [6] (by kernel_rfl) (by decide) ⟨⟨_, rfl, ?_⟩, trivial⟩
                refine Wx.lit (t := (tP (tI .i64) (tI .i64))) (ys := [(i, j)]) (vs := [.agg #[.int .i64 i, .int .i64 j]]) elHe_22 hS rfl rfl ⟨(V.mk2 (in_i64 (by omega) (by omega)) (in_i64 (by omega) (by omega))), trivial⟩ (by decide) rfl (fun v_103 w_104 hx_105 hS => ?_)
                refine Wx.nil ?_
                refine Wp.br [7] (by kernel_rfl) (by decide) ⟨⟨_, rfl, ?_⟩, trivial⟩
                refine Wx.append elHe_22 hS 1 rfl rfl rfl (Src.ofR hS 0 rfl) (by simp only [maxLen]; simp; omega) (by simp; omega) rfl (fun v_106 w_107 hz_108 hS => ?_)
                refine Wx.nil ?_
                refine Wp.br [11] (by kernel_rfl) (by decide) ⟨⟨_, rfl, ?_⟩, trivial⟩
                have hS := hS.freeze 1 rfl
                refine Wx.callF (run_callF Tryd.call92 rfl) (IH (by first | assumption | (simp only [maxLen]; omega) | (simp only [ByteArray.size_extract, ByteArray.size_append, maxLen] at *; omega) | decide) (hS.v 0 rfl) (in_i64 (by omega) (by omega)) (in_i64 (by omega) (by omega)) (by omega) (by omega) (by omega) (by omega) (by simp only [List.length_append, List.length_cons, List.length_nil]; omega) hS.fb_lt (by omega)) rfl ?_
                rintro r_110 w_111 hx_112 ⟨_, rfl, hv_113⟩
                have hS := hS.pushFrO hx_112 hv_113
                refine Wx.nil ?_
                refine Wp.br [12] (by kernel_rfl) (by decide) ⟨⟨_, rfl, ?_⟩, trivial⟩
                have hpb := PR_bd (F := fitR rim) (n := rim.size) (least := least) (begun := begun ++ [(i, j)]) (frm := i + 1) (by omega) p_12
                refine Wx.append elHe_86 hS 4 rfl rfl rfl (Src.ofR hS 0 rfl) (by simp only [maxLen]; simp; omega) (by simp; omega) rfl (fun v_115 w_116 hz_117 hS => ?_)
                refine Wx.nil ?_
                refine Wp.rd (v := v_115) 13 rfl (by kernel_rfl) (fun _ => (rd_assign rfl)) rfl ?_
                refine Wp.done (by kernel_rfl) ?_
                refine W.reg ?_
                refine Wx.rd (v := .int .i64 j) (rd_move rfl) rfl ?_
                refine Wx.rd (v := .int .i64 (j + 1)) (rd_add rfl rfl (in_i64 (by omega) (by omega))) rfl ?_
                refine Wx.rd (v := .int .i64 (j + 1)) (rd_assign rfl) rfl ?_
                refine Wx.nil ?_
                refine ⟨(j + 1, v_115, out2 ++ (PR (fitR rim) rim.size least ([] ++ begun ++ [(i, j)]) (i + 1))), (by show (rim.size - (j + 1)).toNat < (rim.size - j).toNat; omega), ?_, ?_, Out.look rfl (Out.hav rfl (Out.look rfl (Out.hav rfl (Out.look rfl (Out.hav rfl (Out.look rfl Out.self))))))⟩
                · exact ⟨St.tl (St.tl (St.tl (hS.tl))), (by first | omega | assumption), (by first | omega | assumption), (by first | (rw [← g2, if_neg (by rw [c2.2]; decide), if_neg (by rw [c2.2]; decide), inR_next c2.1, if_pos (goes_yes c3)]; simp) | (rw [← g2, if_neg (by rw [c2.2]; decide), if_neg (by rw [c2.2]; decide), inR_next c2.1, if_neg (goes_no c3)]; simp))⟩
                · exact ⟨rfl, rfl, trivial⟩
              · -- operation 6
                refine Wx.lit (t := (tP (tI .i64) (tI .i64))) (ys := [(i, j)]) (vs := [.agg #[.int .i64 i, .int .i64 j]]) elHe_22 hS rfl rfl ⟨(V.mk2 (in_i64 (by omega) (by omega)) (in_i64 (by omega) (by omega))), trivial⟩ (by decide) rfl (fun v_118 w_119 hx_120 hS => ?_)
                refine Wx.nil ?_
                refine Wp.br [4] (by kernel_rfl) (by decide) ⟨⟨_, rfl, ?_⟩, trivial⟩
                refine Wx.append elHe_22 hS 1 rfl rfl rfl (Src.ofV (hS.arg a_bv)) (by simp only [maxLen]; simp; omega) (by simp; omega) rfl (fun v_121 w_122 hz_123 hS => ?_)
                refine Wx.nil ?_
                refine Wp.br [7] (by kernel_rfl) (by decide) ⟨⟨_, rfl, ?_⟩, trivial⟩
                refine Wx.append elHe_22 hS 1 rfl rfl rfl (Src.ofR hS 0 rfl) (by simp only [maxLen]; simp; omega) (by simp; omega) rfl (fun v_124 w_125 hz_126 hS => ?_)
                refine Wx.nil ?_
                refine Wp.br [11] (by kernel_rfl) (by decide) ⟨⟨_, rfl, ?_⟩, trivial⟩
                have hS := hS.freeze 1 rfl
                refine Wx.callF (run_callF Tryd.call92 rfl) (IH (by first | assumption | (simp only [maxLen]; omega) | (simp only [ByteArray.size_extract, ByteArray.size_append, maxLen] at *; omega) | decide) (hS.v 0 rfl) (in_i64 (by omega) (by omega)) (in_i64 (by omega) (by omega)) (by omega) (by omega) (by omega) (by omega) (by simp only [List.length_append, List.length_cons, List.length_nil]; omega) hS.fb_lt (by omega)) rfl ?_
                rintro r_128 w_129 hx_130 ⟨_, rfl, hv_131⟩
                have hS := hS.pushFrO hx_130 hv_131
                refine Wx.nil ?_
                refine Wp.br [12] (by kernel_rfl) (by decide) ⟨⟨_, rfl, ?_⟩, trivial⟩
                have hpb := PR_bd (F := fitR rim) (n := rim.size) (least := least) (begun := begun ++ [(i, j)]) (frm := i + 1) (by omega) p_12
                refine Wx.append elHe_86 hS 4 rfl rfl rfl (Src.ofR hS 0 rfl) (by simp only [maxLen]; simp; omega) (by simp; omega) rfl (fun v_133 w_134 hz_135 hS => ?_)
                refine Wx.nil ?_
                refine Wp.rd (v := v_133) 13 rfl (by kernel_rfl) (fun _ => (rd_assign rfl)) rfl ?_
                refine Wp.done (by kernel_rfl) ?_
                refine W.reg ?_
                refine Wx.rd (v := .int .i64 j) (rd_move rfl) rfl ?_
                refine Wx.rd (v := .int .i64 (j + 1)) (rd_add rfl rfl (in_i64 (by omega) (by omega))) rfl ?_
                refine Wx.rd (v := .int .i64 (j + 1)) (rd_assign rfl) rfl ?_
                refine Wx.nil ?_
                refine ⟨(j + 1, v_133, out2 ++ (PR (fitR rim) rim.size least ([] ++ begun ++ [(i, j)]) (i + 1))), (by show (rim.size - (j + 1)).toNat < (rim.size - j).toNat; omega), ?_, ?_, Out.look rfl (Out.hav rfl (Out.look rfl (Out.hav rfl (Out.look rfl (Out.hav rfl (Out.look rfl Out.self))))))⟩
                · exact ⟨St.tl (St.tl (St.tl (hS.tl))), (by first | omega | assumption), (by first | omega | assumption), (by first | (rw [← g2, if_neg (by rw [c2.2]; decide), if_neg (by rw [c2.2]; decide), inR_next c2.1, if_pos (goes_yes c3)]; simp) | (rw [← g2, if_neg (by rw [c2.2]; decide), if_neg (by rw [c2.2]; decide), inR_next c2.1, if_neg (goes_no c3)]; simp))⟩
                · exact ⟨rfl, rfl, trivial⟩
            · -- operation 6
              refine Wx.lit (t := (tP (tI .i64) (tI .i64))) (ys := [(i, j)]) (vs := [.agg #[.int .i64 i, .int .i64 j]]) elHe_22 hS rfl rfl ⟨(V.mk2 (in_i64 (by omega) (by omega)) (in_i64 (by omega) (by omega))), trivial⟩ (by decide) rfl (fun v_136 w_137 hx_138 hS => ?_)
              refine Wx.nil ?_
              refine Wp.br [2] (by kernel_rfl) (by decide) ⟨⟨_, rfl, ?_⟩, trivial⟩
              refine Wx.lit (t := (tP (tI .i64) (tI .i64))) (ys := []) (vs := []) elHe_22 hS rfl rfl trivial (by decide) rfl (fun v_139 w_140 hx_141 hS => ?_)
              refine Wx.nil ?_
              refine Wp.br [4] (by kernel_rfl) (by decide) ⟨⟨_, rfl, ?_⟩, trivial⟩
              refine Wx.append elHe_22 hS 0 rfl rfl rfl (Src.ofV (hS.arg a_bv)) (by simp only [maxLen]; simp; omega) (by simp; omega) rfl (fun v_142 w_143 hz_144 hS => ?_)
              refine Wx.nil ?_
              refine Wp.br [7] (by kernel_rfl) (by decide) ⟨⟨_, rfl, ?_⟩, trivial⟩
              refine Wx.append elHe_22 hS 0 rfl rfl rfl (Src.ofR hS 1 rfl) (by simp only [maxLen]; simp; omega) (by simp; omega) rfl (fun v_145 w_146 hz_147 hS => ?_)
              refine Wx.nil ?_
              refine Wp.br [11] (by kernel_rfl) (by decide) ⟨⟨_, rfl, ?_⟩, trivial⟩
              have hS := hS.freeze 0 rfl
              refine Wx.callF (run_callF Tryd.call92 rfl) (IH (by first | assumption | (simp only [maxLen]; omega) | (simp only [ByteArray.size_extract, ByteArray.size_append, maxLen] at *; omega) | decide) (hS.v 0 rfl) (in_i64 (by omega) (by omega)) (in_i64 (by omega) (by omega)) (by omega) (by omega) (by omega) (by omega) (by simp only [List.length_append, List.length_cons, List.length_nil]; omega) hS.fb_lt (by omega)) rfl ?_
              rintro r_149 w_150 hx_151 ⟨_, rfl, hv_152⟩
              have hS := hS.pushFrO hx_151 hv_152
              refine Wx.nil ?_
              refine Wp.br [12] (by kernel_rfl) (by decide) ⟨⟨_, rfl, ?_⟩, trivial⟩
              have hpb := PR_bd (F := fitR rim) (n := rim.size) (least := least) (begun := begun ++ [(i, j)]) (frm := i + 1) (by omega) p_12
              refine Wx.append elHe_86 hS 4 rfl rfl rfl (Src.ofR hS 0 rfl) (by simp only [maxLen]; simp; omega) (by simp; omega) rfl (fun v_154 w_155 hz_156 hS => ?_)
              refine Wx.nil ?_
              refine Wp.rd (v := v_154) 13 rfl (by kernel_rfl) (fun _ => (rd_assign rfl)) rfl ?_
              refine Wp.done (by kernel_rfl) ?_
              refine W.reg ?_
              refine Wx.rd (v := .int .i64 j) (rd_move rfl) rfl ?_
              refine Wx.rd (v := .int .i64 (j + 1)) (rd_add rfl rfl (in_i64 (by omega) (by omega))) rfl ?_
              refine Wx.rd (v := .int .i64 (j + 1)) (rd_assign rfl) rfl ?_
              refine Wx.nil ?_
              refine ⟨(j + 1, v_154, out2 ++ (PR (fitR rim) rim.size least ([] ++ begun ++ [(i, j)]) (i + 1))), (by show (rim.size - (j + 1)).toNat < (rim.size - j).toNat; omega), ?_, ?_, Out.look rfl (Out.hav rfl (Out.look rfl (Out.hav rfl (Out.look rfl (Out.hav rfl (Out.look rfl Out.self))))))⟩
              · exact ⟨St.tl (St.tl (St.tl (hS.tl))), (by first | omega | assumption), (by first | omega | assumption), (by first | (rw [← g2, if_neg (by rw [c2.2]; decide), if_neg (by rw [c2.2]; decide), inR_next c2.1, if_pos (goes_yes c3)]; simp) | (rw [← g2, if_neg (by rw [c2.2]; decide), if_neg (by rw [c2.2]; decide), inR_next c2.1, if_neg (goes_no c3)]; simp))⟩
              · exact ⟨rfl, rfl, trivial⟩
        · -- no
          try simp only [Bool.and_eq_true, Bool.or_eq_true, Bool.not_eq_true', Bool.and_eq_false_iff, Bool.or_eq_false_iff, Bool.not_eq_false', decide_eq_true_eq, decide_eq_false_iff_not, not_or, Bool.false_eq_true, Bool.true_eq_false, false_or, or_false, not_false_eq_true] at c3
          refine W.skip ?_
          refine W.reg ?_
          refine Wx.rd (v := .int .i64 j) (rd_move rfl) rfl ?_
          refine Wx.rd (v := .int .i64 (j + 1)) (rd_add rfl rfl (in_i64 (by omega) (by omega))) rfl ?_
          refine Wx.rd (v := .int .i64 (j + 1)) (rd_assign rfl) rfl ?_
          refine Wx.nil ?_
          refine ⟨(j + 1, ov2, out2), (by show (rim.size - (j + 1)).toNat < (rim.size - j).toNat; omega), ?_, ?_, Out.look rfl (Out.hav rfl (Out.look rfl (Out.hav rfl (Out.look rfl (Out.hav rfl (Out.look rfl Out.self))))))⟩
          · exact ⟨hS.tl, (by first | omega | assumption), (by first | omega | assumption), (by first | (rw [← g2, if_neg (by rw [c2.2]; decide), if_neg (by rw [c2.2]; decide), inR_next c2.1, if_pos (goes_yes c3)]; simp) | (rw [← g2, if_neg (by rw [c2.2]; decide), if_neg (by rw [c2.2]; decide), inR_next c2.1, if_neg (goes_no c3)]; simp))⟩
          · exact ⟨rfl, rfl, trivial⟩
      · -- no
        try simp only [Bool.and_eq_true, Bool.or_eq_true, Bool.not_eq_true', Bool.and_eq_false_iff, Bool.or_eq_false_iff, Bool.not_eq_false', decide_eq_true_eq, decide_eq_false_iff_not, not_or, Bool.false_eq_true, Bool.true_eq_false, false_or, or_false, not_false_eq_true] at c2
        refine W.exit rfl ?_
        refine W.reg ?_
        refine Wx.rd (v := .int .i64 i) (rd_move rfl) rfl ?_
        refine Wx.rd (v := .int .i64 (i + 1)) (rd_add rfl rfl (in_i64 (by omega) (by omega))) rfl ?_
        refine Wx.rd (v := .int .i64 (i + 1)) (rd_assign rfl) rfl ?_
        refine Wx.nil ?_
        refine ⟨(i + 1, ov2, out2), (by show (rim.size - (i + 1)).toNat < (rim.size - i).toNat; omega), ?_, ?_, Out.look rfl (Out.hav rfl (Out.look rfl (Out.hav rfl (Out.look rfl Out.self))))⟩
        · exact ⟨hS, (by first | omega | assumption), (by first | omega | assumption), (by rw [← g2, inner_done c2, List.nil_append])⟩
        · exact ⟨rfl, rfl, trivial⟩
    · -- no
      refine W.exit rfl ?_
      refine W.seq ?_
      refine W.seq ?_
      refine W.reg ?_
      refine Wx.rd (v := bv) (rd_move rfl) rfl ?_
      refine Wx.rd (v := .int .i64 (begun.length : Int)) (rd_lenV rfl (hS.arg a_bv) Tryd.underlying22) rfl ?_
      refine Wx.rd (v := .int .i64 least) (rd_move rfl) rfl ?_
      refine Wx.rd (v := .bool (decide (least ≤ (begun.length : Int)))) (rd_geq rfl rfl) rfl ?_
      refine Wx.nil ?_
      refine W.condD rfl (fun c4 => ?_) (fun c4 => ?_)
      · -- yes
        refine W.reg ?_
        refine Wx.rd (v := ov) (rd_move rfl) rfl ?_
        refine Wx.rd (v := bv) (rd_move rfl) rfl ?_
        refine Wx.lit (t := (tSl (tP (tI .i64) (tI .i64)))) (ys := [begun]) (vs := [bv]) elHe_86 hS rfl rfl ⟨(hS.arg a_bv), trivial⟩ (by decide) rfl (fun v_157 w_158 hx_159 hS => ?_)
        refine Wx.append elHe_86 hS 1 rfl rfl rfl (Src.ofR hS 0 rfl) (by simp only [maxLen]; simp; omega) (by simp; omega) rfl (fun v_160 w_161 hz_162 hS => ?_)
        refine Wx.rd (v := v_160) (rd_assign rfl) rfl ?_
        refine Wx.nil ?_
        refine W.seq ?_
        refine W.reg ?_
        refine Wx.rd (v := v_160) (rd_move rfl) rfl ?_
        refine Wx.rd (v := v_160) (rd_assign rfl) rfl ?_
        refine Wx.nil ?_
        have e1_0 : PR (fitR rim) rim.size least begun frm = out ++ [begun] := by rw [← h2, outR_end (by omega), tailR, if_pos c4]; rfl
        exact W.ret ⟨v_160, ResIs.one, hS.bel, ⟨v_160, rfl, (by rw [e1_0]; exact (hS.frO 1 rfl))⟩⟩
      · -- no
        refine W.skip ?_
        refine W.seq ?_
        refine W.reg ?_
        refine Wx.rd (v := ov) (rd_move rfl) rfl ?_
        refine Wx.rd (v := ov) (rd_assign rfl) rfl ?_
        refine Wx.nil ?_
        have e2_0 : PR (fitR rim) rim.size least begun frm = out := by rw [← h2, outR_end (by omega), tailR, if_neg c4]; simp
        exact W.ret ⟨ov, ResIs.one, hS.bel, ⟨ov, rfl, (by rw [e2_0]; exact (hS.frO 0 rfl))⟩⟩
theorem F92 {rim : ByteArray} {bv : Value} {begun : List (Int × Int)} {frm : Int} {least : Int} {O : List (Option Nat)} {w : World} (s_rim : rim.size ≤ maxLen) (h_bv : V (tSl (tP (tI .i64) (tI .i64))) begun bv O w) (i_frm : InK .i64 frm) (i_least : InK .i64 least) (p_12 : (rim.size : Int) ≤ 12) (p_l : Lets rim) (p_f : 0 ≤ frm) (p_f2 : frm ≤ rim.size) (p_b : (begun.length : Int) + rim.size - frm ≤ 100) (hO : ∀ b, some b ∈ O → b < w.heap.size) : Calls Tryd.prog 92 #[.string rim, bv, .int .i64 frm, .int .i64 least] w (Ret w (fun r w' => ∃ rv, r = rv ∧ FreshO (tSl (tP (tI .i64) (tI .i64))) 22 (PR (fitR rim) rim.size least begun frm) rv O w.heap.size w')) := F92_rec _ s_rim h_bv i_frm i_least p_12 p_l p_f p_f2 p_b hO (Nat.lt_succ_self _)

theorem F68 {rim : ByteArray} {O : List (Option Nat)} {w : World} (s_rim : rim.size ≤ maxLen) (p_12 : (rim.size : Int) ≤ 12) (p_l : Lets rim) (hO : ∀ b, some b ∈ O → b < w.heap.size) : Calls Tryd.prog 68 #[.string rim] w (Ret w (fun r w' => ∃ gv, r = .tuple #[gv, .int .i64 ((allV rim).1)] ∧ V (tSl (tSl (tP (tI .i64) (tI .i64)))) (greatV rim) gv O w')) := by
  have hmh := most_half rim
  have hS := St.start w O hO
  refine enterR Tryd.func68 rfl Tryd.ntmps68 Tryd.results68 rfl ?_
  refine W.seq ?_
  refine W.reg ?_
  refine Wx.rd (v := (.slice none 0 0)) (rd_assign rfl) rfl ?_
  refine Wx.rd (v := .int .i64 0) (rd_assign rfl) rfl ?_
  refine Wx.nil ?_
  refine W.seq ?_
  refine W.reg ?_
  refine Wx.rd (v := .string rim) (rd_move rfl) rfl ?_
  refine Wx.rd (v := .int .i64 (rim.size : Int)) (rd_lenS rfl Tryd.underlying9) rfl ?_
  refine Wx.rd (v := .int .i64 ((rim.size : Int) / 2)) (rd_quo rfl rfl (by omega) (by omega) (in_i64 (by omega) (by omega))) rfl ?_
  refine Wx.rd (v := .int .i64 ((rim.size : Int) / 2)) (rd_assign rfl) rfl ?_
  refine Wx.nil ?_
  refine W.seq ?_
  refine W.reg ?_
  refine Wx.rd (v := .string rim) (rd_move rfl) rfl ?_
  refine Wx.rd (v := .int .i64 ((rim.size : Int) / 2)) (rd_move rfl) rfl ?_
  refine Wx.callF (run_callF Tryd.call92 rfl) (F92 (by first | assumption | (simp only [maxLen]; omega) | (simp only [ByteArray.size_extract, ByteArray.size_append, maxLen] at *; omega) | decide) (V.nil (t := (tP (tI .i64) (tI .i64)))) (in_i64 (by omega) (by omega)) (in_i64 (by omega) (by omega)) (by omega) (by omega) (by omega) (by omega) (by show (0 : Int) + _ - 0 ≤ 100; omega) hS.fb_lt) rfl ?_
  rintro r_1 w_2 hx_3 ⟨_, rfl, hv_4⟩
  have hS := hS.pushFrO hx_3 hv_4
  refine Wx.rd (v := r_1) (rd_assign rfl) rfl ?_
  refine Wx.nil ?_
  refine W.seq ?_
  refine W.block ?_
  have hS := hS.freeze 0 rfl
  have hv_8 : V (tSl (tSl (tP (tI .i64) (tI .i64)))) (PR (fitR rim) rim.size ((rim.size : Int) / 2) ([] : List (Int × Int)) 0) r_1 _ _ := (hS.v 0 rfl)
  have hS := hS.add (hv_8)
  refine W.loop [4, 5, 12, 13, 14, 15, 16, 17, 18, 19] (fun x : Int × Value × (List (List (Int × Int))) => match x with | (m, lv, l) => [(4, .int .i64 m), (5, lv)]) (fun (x : Int × Value × (List (List (Int × Int)))) w' => match x with | (m, lv, l) => St w O w' [Ob.v (tSl (tSl (tP (tI .i64) (tI .i64)))) l lv, Ob.v (tSl (tSl (tP (tI .i64) (tI .i64)))) (PR (fitR rim) rim.size ((rim.size : Int) / 2) ([] : List (Int × Int)) 0) r_1] ∧ (allV rim).1 ≤ m ∧ m ≤ 6 ∧ l = PR (fitR rim) rim.size m [] 0) (fun x : Int × Value × (List (List (Int × Int))) => match x with | (m, lv, l) => (m + 1).toNat) ((rim.size : Int) / 2, r_1, PR (fitR rim) rim.size ((rim.size : Int) / 2) ([] : List (Int × Int)) 0) ⟨rfl, rfl, trivial⟩ ⟨hS, (by first | omega | simp), (by first | omega | simp), (rfl)⟩ ?_
  rintro ⟨m, lv, l⟩ u_10 w_9 ⟨hS, h0, h1, h2⟩
  refine W.seq ?_
  refine W.seq ?_
  refine W.reg ?_
  refine Wx.rd (v := lv) (rd_move rfl) rfl ?_
  refine Wx.rd (v := .int .i64 (l.length : Int)) (rd_lenV rfl (hS.v 0 rfl) Tryd.underlying86) rfl ?_
  refine Wx.rd (v := .bool (decide ((l.length : Int) = 0))) (rd_eql rfl rfl) rfl ?_
  refine Wx.nil ?_
  refine W.condD rfl (fun c0 => ?_) (fun c0 => ?_)
  · -- yes
    refine W.skip ?_
    refine W.block ?_
    refine W.seq ?_
    refine W.reg ?_
    refine Wx.rd (v := .int .i64 m) (rd_move rfl) rfl ?_
    refine Wx.rd (v := .int .i64 (m - 1)) (rd_sub rfl rfl (in_i64 (by omega) (by omega))) rfl ?_
    refine Wx.rd (v := .int .i64 (m - 1)) (rd_assign rfl) rfl ?_
    refine Wx.nil ?_
    refine W.reg ?_
    refine Wx.rd (v := .string rim) (rd_move rfl) rfl ?_
    refine Wx.rd (v := .int .i64 (m - 1)) (rd_move rfl) rfl ?_
    refine Wx.callF (run_callF Tryd.call92 rfl) (F92 (by first | assumption | (simp only [maxLen]; omega) | (simp only [ByteArray.size_extract, ByteArray.size_append, maxLen] at *; omega) | decide) (V.nil (t := (tP (tI .i64) (tI .i64)))) (in_i64 (by omega) (by omega)) (in_i64 (by omega) (by omega)) (by omega) (by omega) (by omega) (by omega) (by show (0 : Int) + _ - 0 ≤ 100; omega) hS.fb_lt) rfl ?_
    rintro r_11 w_12 hx_13 ⟨_, rfl, hv_14⟩
    have hS := hS.pushFrO hx_13 hv_14
    refine Wx.rd (v := r_11) (rd_assign rfl) rfl ?_
    refine Wx.nil ?_
    have hS := hS.freeze 0 rfl
    have hge := great_empty h0 (by rw [← h2]; exact List.eq_nil_of_length_eq_zero (by omega))
    have hv_17 : V (tSl (tSl (tP (tI .i64) (tI .i64)))) (PR (fitR rim) rim.size (m - 1) ([] : List (Int × Int)) 0) r_11 _ _ := (hS.v 0 rfl)
    refine ⟨(m - 1, r_11, PR (fitR rim) rim.size (m - 1) ([] : List (Int × Int)) 0), (by show ((m - 1) + 1).toNat < (m + 1).toNat; omega), ?_, ?_, Out.look rfl Out.self⟩
    · exact ⟨(St.add (St.tl (St.tl (hS))) (V.tlF (V.tlF (hv_17)))), (by first | omega | assumption), (by first | omega | assumption), (rfl)⟩
    · exact ⟨rfl, rfl, trivial⟩
  · -- no
    refine W.exit rfl ?_
    refine W.seq ?_
    refine W.reg ?_
    refine Wx.rd (v := lv) (rd_move rfl) rfl ?_
    refine Wx.rd (v := .int .i64 m) (rd_move rfl) rfl ?_
    refine Wx.rd (v := lv) (rd_assign rfl) rfl ?_
    refine Wx.rd (v := .int .i64 m) (rd_assign rfl) rfl ?_
    refine Wx.nil ?_
    have e0_0 : greatV rim = l := by rw [h2, great_found h0 (by rw [← h2]; intro e; rw [e] at c0; exact c0 rfl), PR_all (by omega)]; rfl
    have e0_1 : ((allV rim).1) = (m : Int) := by exact (great_found h0 (by rw [← h2]; intro e; rw [e] at c0; exact c0 rfl)).symm
    exact W.ret ⟨.tuple #[lv, .int .i64 m], ResIs.two, hS.bel, ⟨lv, (by rw [e0_1]), (by rw [e0_0]; exact (V.mv (hS.v 0 rfl) (.less (fun _ h => List.mem_append.2 (.inr h)))))⟩⟩

theorem F22 {rim : ByteArray} {O : List (Option Nat)} {w : World} (s_rim : rim.size ≤ maxLen) (hO : ∀ b, some b ∈ O → b < w.heap.size) : Calls Tryd.prog 22 #[.string rim] w (Ret w (fun r _ => r = .tuple #[.int .i64 (mostV rim), .int .i64 (rimE rim)])) := by
  have hS := St.start w O hO
  refine enterR Tryd.func22 rfl Tryd.ntmps22 Tryd.results22 rfl ?_
  refine W.seq ?_
  refine W.reg ?_
  refine Wx.rd (v := .int .i64 0) (rd_assign rfl) rfl ?_
  refine Wx.rd (v := .int .i64 0) (rd_assign rfl) rfl ?_
  refine Wx.nil ?_
  refine W.seq ?_
  refine W.reg ?_
  refine Wx.rd (v := .string rim) (rd_move rfl) rfl ?_
  refine Wx.callF (run_callF Tryd.call18 rfl) (F18 (by first | assumption | (simp only [maxLen]; omega) | (simp only [ByteArray.size_extract, ByteArray.size_append, maxLen] at *; omega) | decide)) rfl ?_
  rintro r_1 w_2 hx_3 rfl
  have hS := hS.ext hx_3
  refine Wx.rd (v := .int .i64 (rimE rim)) (rd_assign rfl) rfl ?_
  refine Wx.nil ?_
  refine W.seq ?_
  refine W.seq ?_
  refine W.reg ?_
  refine Wx.rd (v := .int .i64 (rimE rim)) (rd_move rfl) rfl ?_
  refine Wx.rd (v := .bool (decide ((rimE rim) ≠ 0))) (rd_neq rfl rfl) rfl ?_
  refine Wx.nil ?_
  refine W.condD rfl (fun c0 => ?_) (fun c0 => ?_)
  · -- yes
    refine W.seq ?_
    refine W.reg ?_
    refine Wx.rd (v := .int .i64 (rimE rim)) (rd_move rfl) rfl ?_
    refine Wx.rd (v := .int .i64 0) (rd_assign rfl) rfl ?_
    refine Wx.rd (v := .int .i64 (rimE rim)) (rd_assign rfl) rfl ?_
    refine Wx.nil ?_
    have e0_0 : (mostV rim) = (0 : Int) := by rw [mostV, if_neg c0]
    exact W.ret ⟨.tuple #[.int .i64 0, .int .i64 (rimE rim)], ResIs.two, hS.bel, (by rw [e0_0])⟩
  · -- no
    have hr0 : rimE rim = 0 := by omega
    obtain ⟨hr1, hr2⟩ := rimE_ok hr0
    refine W.skip ?_
    refine W.seq ?_
    refine W.reg ?_
    refine Wx.rd (v := .string rim) (rd_move rfl) rfl ?_
    refine Wx.callF (run_callF Tryd.call68 rfl) (F68 (by first | assumption | (simp only [maxLen]; omega) | (simp only [ByteArray.size_extract, ByteArray.size_append, maxLen] at *; omega) | decide) (by omega) hr2 hS.fb_lt) rfl ?_
    rintro r_4 w_5 hx_6 ⟨v_7, rfl, hv_8⟩
    have ln_10 := hv_8.len63
    have hS := hS.ext hx_6
    have hS := hS.add hv_8
    refine Wx.rd (v := .tuple #[v_7, .int .i64 ((allV rim).1)]) (rd_move rfl) rfl ?_
    refine Wx.rd (v := v_7) (rd_extract rfl rfl) rfl ?_
    refine Wx.rd (v := .int .i64 ((allV rim).1)) (rd_extract rfl rfl) rfl ?_
    refine Wx.rd (v := v_7) (rd_assign rfl) rfl ?_
    refine Wx.rd (v := .int .i64 ((allV rim).1)) (rd_assign rfl) rfl ?_
    refine Wx.nil ?_
    refine W.seq ?_
    refine W.reg ?_
    refine Wx.rd (v := .int .i64 ((allV rim).1)) (rd_move rfl) rfl ?_
    refine Wx.rd (v := .int .i64 ((allV rim).1)) (rd_assign rfl) rfl ?_
    refine Wx.rd (v := .int .i64 0) (rd_assign rfl) rfl ?_
    refine Wx.nil ?_
    have e1_0 : (mostV rim) = ((allV rim).1 : Int) := by rw [mostV, if_pos hr0]
    have e1_1 : (rimE rim) = (0 : Int) := by exact hr0
    exact W.ret ⟨.tuple #[.int .i64 ((allV rim).1), .int .i64 0], ResIs.two, hS.bel, (by rw [e1_0, e1_1])⟩

theorem F24 {rim : ByteArray} {O : List (Option Nat)} {w : World} (s_rim : rim.size ≤ maxLen) (hO : ∀ b, some b ∈ O → b < w.heap.size) : Calls Tryd.prog 24 #[.string rim] w (Ret w (fun r _ => r = .tuple #[.int .i64 (countV rim), .int .i64 (rimE rim)])) := by
  have hS := St.start w O hO
  refine enterR Tryd.func24 rfl Tryd.ntmps24 Tryd.results24 rfl ?_
  refine W.seq ?_
  refine W.reg ?_
  refine Wx.rd (v := .int .i64 0) (rd_assign rfl) rfl ?_
  refine Wx.rd (v := .int .i64 0) (rd_assign rfl) rfl ?_
  refine Wx.nil ?_
  refine W.seq ?_
  refine W.reg ?_
  refine Wx.rd (v := .string rim) (rd_move rfl) rfl ?_
  refine Wx.callF (run_callF Tryd.call18 rfl) (F18 (by first | assumption | (simp only [maxLen]; omega) | (simp only [ByteArray.size_extract, ByteArray.size_append, maxLen] at *; omega) | decide)) rfl ?_
  rintro r_1 w_2 hx_3 rfl
  have hS := hS.ext hx_3
  refine Wx.rd (v := .int .i64 (rimE rim)) (rd_assign rfl) rfl ?_
  refine Wx.nil ?_
  refine W.seq ?_
  refine W.seq ?_
  refine W.reg ?_
  refine Wx.rd (v := .int .i64 (rimE rim)) (rd_move rfl) rfl ?_
  refine Wx.rd (v := .bool (decide ((rimE rim) ≠ 0))) (rd_neq rfl rfl) rfl ?_
  refine Wx.nil ?_
  refine W.condD rfl (fun c0 => ?_) (fun c0 => ?_)
  · -- yes
    refine W.seq ?_
    refine W.reg ?_
    refine Wx.rd (v := .int .i64 (rimE rim)) (rd_move rfl) rfl ?_
    refine Wx.rd (v := .int .i64 0) (rd_assign rfl) rfl ?_
    refine Wx.rd (v := .int .i64 (rimE rim)) (rd_assign rfl) rfl ?_
    refine Wx.nil ?_
    have e0_0 : (countV rim) = (0 : Int) := by rw [countV, if_neg c0]
    exact W.ret ⟨.tuple #[.int .i64 0, .int .i64 (rimE rim)], ResIs.two, hS.bel, (by rw [e0_0])⟩
  · -- no
    have hr0 : rimE rim = 0 := by omega
    obtain ⟨hr1, hr2⟩ := rimE_ok hr0
    refine W.skip ?_
    refine W.seq ?_
    refine W.reg ?_
    refine Wx.rd (v := .string rim) (rd_move rfl) rfl ?_
    refine Wx.callF (run_callF Tryd.call68 rfl) (F68 (by first | assumption | (simp only [maxLen]; omega) | (simp only [ByteArray.size_extract, ByteArray.size_append, maxLen] at *; omega) | decide) (by omega) hr2 hS.fb_lt) rfl ?_
    rintro r_4 w_5 hx_6 ⟨v_7, rfl, hv_8⟩
    have ln_10 := hv_8.len63
    have hS := hS.ext hx_6
    have hS := hS.add hv_8
    refine Wx.rd (v := .tuple #[v_7, .int .i64 ((allV rim).1)]) (rd_move rfl) rfl ?_
    refine Wx.rd (v := v_7) (rd_extract rfl rfl) rfl ?_
    refine Wx.rd (v := .int .i64 ((allV rim).1)) (rd_extract rfl rfl) rfl ?_
    refine Wx.rd (v := v_7) (rd_assign rfl) rfl ?_
    refine Wx.rd (v := .int .i64 ((allV rim).1)) (rd_assign rfl) rfl ?_
    refine Wx.nil ?_
    refine W.seq ?_
    refine W.reg ?_
    refine Wx.rd (v := v_7) (rd_move rfl) rfl ?_
    refine Wx.rd (v := .int .i64 ((greatV rim).length : Int)) (rd_lenV rfl (hS.v 0 rfl) Tryd.underlying86) rfl ?_
    refine Wx.rd (v := .int .i64 ((greatV rim).length : Int)) (rd_assign rfl) rfl ?_
    refine Wx.rd (v := .int .i64 0) (rd_assign rfl) rfl ?_
    refine Wx.nil ?_
    have e1_0 : (countV rim) = (((greatV rim).length : Int) : Int) := by rw [countV, if_pos hr0, great_len]
    have e1_1 : (rimE rim) = (0 : Int) := by exact hr0
    exact W.ret ⟨.tuple #[.int .i64 ((greatV rim).length : Int), .int .i64 0], ResIs.two, hS.bel, (by rw [e1_0, e1_1])⟩

theorem F26 {rim : ByteArray} {O : List (Option Nat)} {w : World} (s_rim : rim.size ≤ maxLen) (hO : ∀ b, some b ∈ O → b < w.heap.size) : Calls Tryd.prog 26 #[.string rim] w (Ret w (fun r w' => ∃ rv, r = .tuple #[rv, .int .i64 (rimE rim)] ∧ V (tSl (tP (tI .i64) (tI .i64))) (firstV rim) rv O w')) := by
  have hS := St.start w O hO
  refine enterR Tryd.func26 rfl Tryd.ntmps26 Tryd.results26 rfl ?_
  refine W.seq ?_
  refine W.reg ?_
  refine Wx.rd (v := (.slice none 0 0)) (rd_assign rfl) rfl ?_
  refine Wx.rd (v := .int .i64 0) (rd_assign rfl) rfl ?_
  refine Wx.nil ?_
  refine W.seq ?_
  refine W.reg ?_
  refine Wx.rd (v := .string rim) (rd_move rfl) rfl ?_
  refine Wx.callF (run_callF Tryd.call18 rfl) (F18 (by first | assumption | (simp only [maxLen]; omega) | (simp only [ByteArray.size_extract, ByteArray.size_append, maxLen] at *; omega) | decide)) rfl ?_
  rintro r_1 w_2 hx_3 rfl
  have hS := hS.ext hx_3
  refine Wx.rd (v := .int .i64 (rimE rim)) (rd_assign rfl) rfl ?_
  refine Wx.nil ?_
  refine W.seq ?_
  refine W.seq ?_
  refine W.reg ?_
  refine Wx.rd (v := .int .i64 (rimE rim)) (rd_move rfl) rfl ?_
  refine Wx.rd (v := .bool (decide ((rimE rim) ≠ 0))) (rd_neq rfl rfl) rfl ?_
  refine Wx.nil ?_
  refine W.condD rfl (fun c0 => ?_) (fun c0 => ?_)
  · -- yes
    refine W.seq ?_
    refine W.reg ?_
    refine Wx.rd (v := .int .i64 (rimE rim)) (rd_move rfl) rfl ?_
    refine Wx.rd (v := (.slice none 0 0)) (rd_assign rfl) rfl ?_
    refine Wx.rd (v := .int .i64 (rimE rim)) (rd_assign rfl) rfl ?_
    refine Wx.nil ?_
    have e0_0 : firstV rim = [] := by rw [firstV, if_neg c0]
    exact W.ret ⟨.tuple #[(.slice none 0 0), .int .i64 (rimE rim)], ResIs.two, hS.bel, ⟨(.slice none 0 0), rfl, (by rw [e0_0]; exact (V.nil (t := (tP (tI .i64) (tI .i64)))))⟩⟩
  · -- no
    have hr0 : rimE rim = 0 := by omega
    obtain ⟨hr1, hr2⟩ := rimE_ok hr0
    refine W.skip ?_
    refine W.seq ?_
    refine W.reg ?_
    refine Wx.rd (v := .string rim) (rd_move rfl) rfl ?_
    refine Wx.callF (run_callF Tryd.call68 rfl) (F68 (by first | assumption | (simp only [maxLen]; omega) | (simp only [ByteArray.size_extract, ByteArray.size_append, maxLen] at *; omega) | decide) (by omega) hr2 hS.fb_lt) rfl ?_
    rintro r_4 w_5 hx_6 ⟨v_7, rfl, hv_8⟩
    have ln_10 := hv_8.len63
    have hS := hS.ext hx_6
    have hS := hS.add hv_8
    refine Wx.rd (v := .tuple #[v_7, .int .i64 ((allV rim).1)]) (rd_move rfl) rfl ?_
    refine Wx.rd (v := v_7) (rd_extract rfl rfl) rfl ?_
    refine Wx.rd (v := .int .i64 ((allV rim).1)) (rd_extract rfl rfl) rfl ?_
    refine Wx.rd (v := v_7) (rd_assign rfl) rfl ?_
    refine Wx.rd (v := .int .i64 ((allV rim).1)) (rd_assign rfl) rfl ?_
    refine Wx.nil ?_
    refine W.seq ?_
    refine W.reg ?_
    have hgh := great_head rim
    have hg0 : 0 < (greatV rim).length := by cases hg : greatV rim with | nil => rw [hg] at hgh; cases hgh | cons a b => exact Nat.succ_pos _
    refine Wx.rd (v := v_7) (rd_move rfl) rfl ?_
    refine Wx.ex (rd_index [] (hS.v 0 rfl) rfl rfl Tryd.underlying86 Tryd.sizeOf22 (by first | omega | (simp only [List.length_set, List.length_append, List.length_cons, List.length_nil, List.length_replicate]; omega)) (by first | omega | (simp only [List.length_set, List.length_append, List.length_cons, List.length_nil, List.length_replicate]; omega))) rfl (fun p_11 hp_12 => ?_)
    refine Wx.ex (rd_load hp_12 rfl Tryd.isAgg22 Tryd.sizeOf22) rfl (fun v_13 hv_14 => ?_)
    have ln_15 := hv_14.len63
    have hS := hS.add hv_14
    refine Wx.rd (v := v_13) (rd_assign rfl) rfl ?_
    refine Wx.rd (v := .int .i64 0) (rd_assign rfl) rfl ?_
    refine Wx.nil ?_
    have e1_0 : firstV rim = ix [] (greatV rim) 0 := by rw [firstV, if_pos hr0]; exact (great_first rim).symm
    have e1_1 : (rimE rim) = (0 : Int) := by exact hr0
    exact W.ret ⟨.tuple #[v_13, .int .i64 0], ResIs.two, hS.bel, ⟨v_13, (by rw [e1_1]), (by rw [e1_0]; exact (V.mv (hS.v 0 rfl) (.less (fun _ h => List.mem_append.2 (.inr h)))))⟩⟩

theorem F72 {lv : Value} {l : List (Int × Int)} {Fr_lv : List (Option Nat)} {a : Int} {b : Int} {w : World} (h_lv : V (tSl (tP (tI .i64) (tI .i64))) l lv Fr_lv w) (i_a : InK .i64 a) (i_b : InK .i64 b) : Calls Tryd.prog 72 #[lv, .agg #[.int .i64 a, .int .i64 b]] w (Ret w (fun r _ => r = .bool (hasB l (a, b)))) := by
  have b_b := bd_i64 i_b
  have b_a := bd_i64 i_a
  have a_lv := h_lv.any
  have l_lv := h_lv.len63
  have hS := St.start0 w
  refine enterR Tryd.func72 rfl Tryd.ntmps72 Tryd.results72 rfl ?_
  refine W.seq ?_
  refine W.reg ?_
  refine Wx.box (cs := [.int .i64 a, .int .i64 b]) hS rfl rfl rfl (fun g_1 w_2 hx_4 hb_3 hS => ?_)
  refine Wx.rd (v := .bool false) (rd_assign rfl) rfl ?_
  refine Wx.nil ?_
  refine W.seq ?_
  refine W.seq ?_
  refine W.reg ?_
  refine Wx.rd (v := .int .i64 0) (rd_assign rfl) rfl ?_
  refine Wx.nil ?_
  refine W.block ?_
  refine W.loop [4, 5, 6, 7, 8, 9, 10, 11, 12, 13, 14, 15, 16, 17] (fun (k : Int) => [(5, .int .i64 k)]) (fun (k : Int) w' => St w [] w' [.box g_1 58 [.int .i64 a, .int .i64 b]] ∧ 0 ≤ k ∧ k ≤ l.length ∧ hasB (l.drop k.toNat) (a, b) = hasB l (a, b)) (fun (k : Int) => (l.length - k).toNat) 0 ⟨rfl, trivial⟩ ⟨hS, (by first | omega | simp), (by first | omega | simp), (by simp)⟩ ?_
  rintro k u_6 w_5 ⟨hS, h0, h1, h2⟩
  refine W.seq ?_
  refine W.seq ?_
  refine W.reg ?_
  refine Wx.rd (v := .int .i64 k) (rd_move rfl) rfl ?_
  refine Wx.rd (v := lv) (rd_move rfl) rfl ?_
  refine Wx.rd (v := .int .i64 (l.length : Int)) (rd_lenV rfl (hS.arg a_lv) Tryd.underlying22) rfl ?_
  refine Wx.rd (v := .bool (decide (k < (l.length : Int)))) (rd_lss rfl rfl) rfl ?_
  refine Wx.nil ?_
  refine W.condD rfl (fun c0 => ?_) (fun c0 => ?_)
  · -- yes
    refine W.skip ?_
    refine W.seq ?_
    refine W.block ?_
    refine W.seq ?_
    refine W.regQ mixedHe_ (by kernel_rfl) ?_
    refine Wx.rd (v := lv) (rd_move rfl) rfl ?_
    refine Wx.rd (v := .int .i64 k) (rd_move rfl) rfl ?_
    refine Wx.ex (rd_index (0, 0) (hS.arg a_lv) rfl rfl Tryd.underlying22 Tryd.sizeOf58 (by first | omega | (simp only [List.length_set, List.length_append, List.length_cons, List.length_nil, List.length_replicate]; omega)) (by first | omega | (simp only [List.length_set, List.length_append, List.length_cons, List.length_nil, List.length_replicate]; omega))) rfl (fun p_7 hp_8 => ?_)
    refine Wx.ex (rd_load hp_8 rfl Tryd.isAgg58 Tryd.sizeOf58) rfl (fun v_9 hv_10 => ?_)
    obtain ⟨rfl, bd_11, bd_12⟩ := hv_10.i2
    have bd_11 := bd_i64 bd_11
    have bd_12 := bd_i64 bd_12
    refine Wx.rd (v := .agg #[.int .i64 a, .int .i64 b]) (rd_loadXs (ds := [.int .i64 a, .int .i64 b]) hS 0 rfl rfl rfl rfl Tryd.isAgg58 Tryd.sizeOf58) rfl ?_
    refine Wx.rd (v := .bool (decide ((ix (0, 0) l k).1 = a) && decide ((ix (0, 0) l k).2 = b))) (rd_eqlA2 rfl rfl Tryd.underlying58 Tryd.underlying3 Tryd.sizeOf3 Tryd.eqGuardType58) rfl ?_
    refine Wx.nilQ (fun w_13 hx_14 => ?_)
    have hS := hS.ext hx_14
    refine W.cond rfl (fun c1 => ?_) (fun c1 => ?_)
    · -- yes
      try simp only [Bool.and_eq_true, Bool.or_eq_true, Bool.not_eq_true', Bool.and_eq_false_iff, Bool.or_eq_false_iff, Bool.not_eq_false', decide_eq_true_eq, decide_eq_false_iff_not, not_or, Bool.false_eq_true, Bool.true_eq_false, false_or, or_false, not_false_eq_true] at c1
      refine W.seq ?_
      refine W.reg ?_
      refine Wx.rd (v := .bool true) (rd_assign rfl) rfl ?_
      refine Wx.nil ?_
      have e0_0 : (hasB l (a, b)) = true := by exact hasB_yes h0 c0 h2 c1
      exact W.ret ⟨.bool true, ResIs.one, hS.bel, (by rw [e0_0])⟩
    · -- no
      try simp only [Bool.and_eq_true, Bool.or_eq_true, Bool.not_eq_true', Bool.and_eq_false_iff, Bool.or_eq_false_iff, Bool.not_eq_false', decide_eq_true_eq, decide_eq_false_iff_not, not_or, Bool.false_eq_true, Bool.true_eq_false, false_or, or_false, not_false_eq_true] at c1
      refine W.skip ?_
      refine W.reg ?_
      refine Wx.rd (v := .int .i64 k) (rd_move rfl) rfl ?_
      refine Wx.rd (v := .int .i64 (k + 1)) (rd_add rfl rfl (in_i64 (by omega) (by omega))) rfl ?_
      refine Wx.rd (v := .int .i64 (k + 1)) (rd_assign rfl) rfl ?_
      refine Wx.nil ?_
      refine ⟨k + 1, (by show (l.length - (k + 1)).toNat < (l.length - k).toNat; omega), ?_, ?_, Out.look rfl Out.self⟩
      · exact ⟨hS, (by first | omega | assumption), (by first | omega | assumption), (hasB_no h0 c0 h2 c1)⟩
      · exact ⟨rfl, trivial⟩
  · -- no
    refine W.exit rfl ?_
    refine W.seq ?_
    refine W.reg ?_
    refine Wx.rd (v := .bool false) (rd_assign rfl) rfl ?_
    refine Wx.nil ?_
    have e1_0 : (hasB l (a, b)) = false := by exact hasB_end (by omega) h2
    exact W.ret ⟨.bool false, ResIs.one, hS.bel, (by rw [e1_0])⟩

theorem F28 {rim : ByteArray} {O : List (Option Nat)} {w : World} (s_rim : rim.size ≤ maxLen) (hO : ∀ b, some b ∈ O → b < w.heap.size) : Calls Tryd.prog 28 #[.string rim] w (Ret w (fun r w' => ∃ rv, r = .tuple #[rv, .int .i64 (rimE rim)] ∧ Fresh (tP (tI .i64) (tI .i64)) 58 (forcedV rim) rv w.heap.size w')) := by
  have hS := St.start w O hO
  refine enterR Tryd.func28 rfl Tryd.ntmps28 Tryd.results28 rfl ?_
  refine W.seq ?_
  refine W.reg ?_
  refine Wx.rd (v := (.slice none 0 0)) (rd_assign rfl) rfl ?_
  refine Wx.rd (v := .int .i64 0) (rd_assign rfl) rfl ?_
  refine Wx.nil ?_
  refine W.seq ?_
  refine W.reg ?_
  refine Wx.rd (v := .string rim) (rd_move rfl) rfl ?_
  refine Wx.callF (run_callF Tryd.call18 rfl) (F18 (by first | assumption | (simp only [maxLen]; omega) | (simp only [ByteArray.size_extract, ByteArray.size_append, maxLen] at *; omega) | decide)) rfl ?_
  rintro r_1 w_2 hx_3 rfl
  have hS := hS.ext hx_3
  refine Wx.rd (v := .int .i64 (rimE rim)) (rd_assign rfl) rfl ?_
  refine Wx.nil ?_
  refine W.seq ?_
  refine W.seq ?_
  refine W.reg ?_
  refine Wx.rd (v := .int .i64 (rimE rim)) (rd_move rfl) rfl ?_
  refine Wx.rd (v := .bool (decide ((rimE rim) ≠ 0))) (rd_neq rfl rfl) rfl ?_
  refine Wx.nil ?_
  refine W.condD rfl (fun c0 => ?_) (fun c0 => ?_)
  · -- yes
    refine W.seq ?_
    refine W.reg ?_
    refine Wx.rd (v := .int .i64 (rimE rim)) (rd_move rfl) rfl ?_
    refine Wx.rd (v := (.slice none 0 0)) (rd_assign rfl) rfl ?_
    refine Wx.rd (v := .int .i64 (rimE rim)) (rd_assign rfl) rfl ?_
    refine Wx.nil ?_
    have e0_0 : forcedV rim = [] := by rw [forcedV, if_neg c0]
    exact W.ret ⟨.tuple #[(.slice none 0 0), .int .i64 (rimE rim)], ResIs.two, hS.bel, ⟨(.slice none 0 0), rfl, (by rw [e0_0]; exact ((hS.addNil (tP (tI .i64) (tI .i64)) 58).fr 0 rfl flat_i2))⟩⟩
  · -- no
    have hr0 : rimE rim = 0 := by omega
    obtain ⟨hr1, hr2⟩ := rimE_ok hr0
    have hgh := great_head rim
    have hg0 : 0 < (greatV rim).length := by cases hg : greatV rim with | nil => rw [hg] at hgh; cases hgh | cons a b => exact Nat.succ_pos _
    have hgf := great_first rim
    have hgl := firstP_len (F := fitR rim) (i := 0) (n := rim.size) (by omega)
    rw [← hgf] at hgl
    refine W.skip ?_
    refine W.seq ?_
    refine W.reg ?_
    refine Wx.rd (v := .string rim) (rd_move rfl) rfl ?_
    refine Wx.callF (run_callF Tryd.call68 rfl) (F68 (by first | assumption | (simp only [maxLen]; omega) | (simp only [ByteArray.size_extract, ByteArray.size_append, maxLen] at *; omega) | decide) (by omega) hr2 hS.fb_lt) rfl ?_
    rintro r_4 w_5 hx_6 ⟨v_7, rfl, hv_8⟩
    have ln_10 := hv_8.len63
    have hS := hS.ext hx_6
    have hS := hS.add hv_8
    refine Wx.rd (v := .tuple #[v_7, .int .i64 ((allV rim).1)]) (rd_move rfl) rfl ?_
    refine Wx.rd (v := v_7) (rd_extract rfl rfl) rfl ?_
    refine Wx.rd (v := .int .i64 ((allV rim).1)) (rd_extract rfl rfl) rfl ?_
    refine Wx.rd (v := v_7) (rd_assign rfl) rfl ?_
    refine Wx.rd (v := .int .i64 ((allV rim).1)) (rd_assign rfl) rfl ?_
    refine Wx.nil ?_
    refine W.seq ?_
    refine W.reg ?_
    refine Wx.rd (v := (.slice none 0 0)) (rd_assign rfl) rfl ?_
    refine Wx.nil ?_
    refine W.seq ?_
    refine W.seq ?_
    refine W.reg ?_
    refine Wx.rd (v := .int .i64 0) (rd_assign rfl) rfl ?_
    refine Wx.nil ?_
    refine W.block ?_
    have hS := hS.addNil (tP (tI .i64) (tI .i64)) 58
    refine W.loop [7, 8, 9, 10, 21, 22, 23, 24, 25, 26, 27, 28, 29, 30, 31, 32, 33, 34, 35, 36, 37, 38, 39, 40, 41, 42, 43, 44, 45, 46, 47, 48, 49, 50, 51, 52, 53, 54, 55, 56, 57, 58] (fun x : Int × Value × (List (Int × Int)) => match x with | (k, ov, out) => [(8, .int .i64 k), (7, ov)]) (fun (x : Int × Value × (List (Int × Int))) w' => match x with | (k, ov, out) => St w O w' [.row (tP (tI .i64) (tI .i64)) 58 ov out, Ob.v (tSl (tSl (tP (tI .i64) (tI .i64)))) (greatV rim) v_7] ∧ 0 ≤ k ∧ k ≤ (ix [] (greatV rim) 0).length ∧ out ++ ((ix [] (greatV rim) 0).drop k.toNat).filter (fun x => (greatV rim).all fun p => hasB p x) = (ix [] (greatV rim) 0).filter (fun x => (greatV rim).all fun p => hasB p x) ∧ (out.length : Int) ≤ k) (fun x : Int × Value × (List (Int × Int)) => match x with | (k, ov, out) => ((ix [] (greatV rim) 0).length - k).toNat) (0, (.slice none 0 0), []) ⟨rfl, rfl, trivial⟩ ⟨hS, (by first | omega | simp), (by first | omega | simp), (by simp), (Int.le_refl 0)⟩ ?_
    rintro ⟨k, ov, out⟩ u_12 w_11 ⟨hS, h0, h1, h2, h3⟩
    refine W.seq ?_
    refine W.seq ?_
    refine W.reg ?_
    refine Wx.rd (v := .int .i64 k) (rd_move rfl) rfl ?_
    refine Wx.rd (v := v_7) (rd_move rfl) rfl ?_
    refine Wx.ex (rd_index [] (hS.v 1 rfl) rfl rfl Tryd.underlying86 Tryd.sizeOf22 (by first | omega | (simp only [List.length_set, List.length_append, List.length_cons, List.length_nil, List.length_replicate]; omega)) (by first | omega | (simp only [List.length_set, List.length_append, List.length_cons, List.length_nil, List.length_replicate]; omega))) rfl (fun p_13 hp_14 => ?_)
    refine Wx.ex (rd_load hp_14 rfl Tryd.isAgg22 Tryd.sizeOf22) rfl (fun v_15 hv_16 => ?_)
    have ln_17 := hv_16.len63
    have hS := hS.add hv_16
    refine Wx.rd (v := .int .i64 ((ix [] (greatV rim) 0).length : Int)) (rd_lenV rfl (hS.v 0 rfl) Tryd.underlying22) rfl ?_
    refine Wx.rd (v := .bool (decide (k < ((ix [] (greatV rim) 0).length : Int)))) (rd_lss rfl rfl) rfl ?_
    refine Wx.nil ?_
    refine W.condD rfl (fun c1 => ?_) (fun c1 => ?_)
    · -- yes
      refine W.skip ?_
      refine W.seq ?_
      refine W.block ?_
      refine W.seq ?_
      refine W.reg ?_
      refine Wx.rd (v := .bool true) (rd_assign rfl) rfl ?_
      refine Wx.nil ?_
      refine W.seq ?_
      refine W.seq ?_
      refine W.reg ?_
      refine Wx.rd (v := .int .i64 0) (rd_assign rfl) rfl ?_
      refine Wx.nil ?_
      refine W.block ?_
      refine W.loop [9, 10, 29, 30, 31, 32, 33, 34, 35, 36, 37, 38, 39, 40, 41, 42, 43, 44, 45, 46, 47, 48] (fun x : Bool × Int => match x with | (al, i) => [(9, .bool al), (10, .int .i64 i)]) (fun (x : Bool × Int) w' => match x with | (al, i) => St w O w' [Ob.v (tSl (tP (tI .i64) (tI .i64))) (ix [] (greatV rim) 0) v_15, .row (tP (tI .i64) (tI .i64)) 58 ov out, Ob.v (tSl (tSl (tP (tI .i64) (tI .i64)))) (greatV rim) v_7] ∧ 0 ≤ i ∧ i ≤ (greatV rim).length ∧ (al && ((greatV rim).drop i.toNat).all (fun p => hasB p (ix (0, 0) (ix [] (greatV rim) 0) k))) = (greatV rim).all (fun p => hasB p (ix (0, 0) (ix [] (greatV rim) 0) k))) (fun x : Bool × Int => match x with | (al, i) => ((greatV rim).length - i).toNat) (true, 0) ⟨rfl, rfl, trivial⟩ ⟨hS, (by first | omega | simp), (by first | omega | simp), (rfl)⟩ ?_
      rintro ⟨al, i⟩ u_20 w_19 ⟨hS, g0, g1, g2⟩
      refine W.seq ?_
      refine W.seq ?_
      refine W.reg ?_
      refine Wx.rd (v := .int .i64 i) (rd_move rfl) rfl ?_
      refine Wx.rd (v := v_7) (rd_move rfl) rfl ?_
      refine Wx.rd (v := .int .i64 ((greatV rim).length : Int)) (rd_lenV rfl (hS.v 2 rfl) Tryd.underlying86) rfl ?_
      refine Wx.rd (v := .bool (decide (i < ((greatV rim).length : Int)))) (rd_lss rfl rfl) rfl ?_
      refine Wx.nil ?_
      refine W.condD rfl (fun c2 => ?_) (fun c2 => ?_)
      · -- yes
        refine W.skip ?_
        refine W.seq ?_
        refine W.block ?_
        refine W.regQ mixedHe_ (by kernel_rfl) ?_
        refine Wx.rd (v := .bool al) (rd_move rfl) rfl ?_
        refine Wx.rd (v := .bool al) (rd_move rfl) rfl ?_
        refine Wx.cutQ (X := Unit) 12 [37, 38, 39, 40, 41, 42, 43, 44, 45, 46, 47, 48] (fun _ => [(48, .bool (al && hasB (ix [] (greatV rim) i) (((ix (0, 0) (ix [] (greatV rim) 0) k).1), ((ix (0, 0) (ix [] (greatV rim) 0) k).2))))]) (fun _ => True) ?_ ?_
        · rcases Bool.eq_false_or_eq_true al with g_21 | g_21
          · -- True
            have gp_22 := g_21
            try simp only [Bool.and_eq_true, Bool.or_eq_true, Bool.not_eq_true', Bool.and_eq_false_iff, Bool.or_eq_false_iff, Bool.not_eq_false', decide_eq_true_eq, decide_eq_false_iff_not, not_or, Bool.false_eq_true, Bool.true_eq_false, false_or, or_false, not_false_eq_true] at gp_22
            refine Wx.gyes rfl rfl (congrArg Value.bool g_21) ?_
            refine Wx.rd (v := v_7) (rd_move rfl) rfl ?_
            refine Wx.gyes rfl rfl (congrArg Value.bool g_21) ?_
            refine Wx.rd (v := .int .i64 i) (rd_move rfl) rfl ?_
            refine Wx.gyes rfl rfl (congrArg Value.bool g_21) ?_
            refine Wx.ex (rd_index [] (hS.v 2 rfl) rfl rfl Tryd.underlying86 Tryd.sizeOf22 (by first | omega | (simp only [List.length_set, List.length_append, List.length_cons, List.length_nil, List.length_replicate]; omega)) (by first | omega | (simp only [List.length_set, List.length_append, List.length_cons, List.length_nil, List.length_replicate]; omega))) rfl (fun p_23 hp_24 => ?_)
            refine Wx.gyes rfl rfl (congrArg Value.bool g_21) ?_
            refine Wx.ex (rd_load hp_24 rfl Tryd.isAgg22 Tryd.sizeOf22) rfl (fun v_25 hv_26 => ?_)
            have ln_27 := hv_26.len63
            have hS := hS.add hv_26
            refine Wx.gyes rfl rfl (congrArg Value.bool g_21) ?_
            refine Wx.rd (v := v_7) (rd_move rfl) rfl ?_
            refine Wx.gyes rfl rfl (congrArg Value.bool g_21) ?_
            refine Wx.ex (rd_index [] (hS.v 3 rfl) rfl rfl Tryd.underlying86 Tryd.sizeOf22 (by first | omega | (simp only [List.length_set, List.length_append, List.length_cons, List.length_nil, List.length_replicate]; omega)) (by first | omega | (simp only [List.length_set, List.length_append, List.length_cons, List.length_nil, List.length_replicate]; omega))) rfl (fun p_29 hp_30 => ?_)
            refine Wx.gyes rfl rfl (congrArg Value.bool g_21) ?_
            refine Wx.ex (rd_load hp_30 rfl Tryd.isAgg22 Tryd.sizeOf22) rfl (fun v_31 hv_32 => ?_)
            have ln_33 := hv_32.len63
            have hS := hS.add hv_32
            refine Wx.gyes rfl rfl (congrArg Value.bool g_21) ?_
            refine Wx.rd (v := .int .i64 k) (rd_move rfl) rfl ?_
            refine Wx.gyes rfl rfl (congrArg Value.bool g_21) ?_
            refine Wx.ex (rd_index (0, 0) (hS.v 0 rfl) rfl rfl Tryd.underlying22 Tryd.sizeOf58 (by first | omega | (simp only [List.length_set, List.length_append, List.length_cons, List.length_nil, List.length_replicate]; omega)) (by first | omega | (simp only [List.length_set, List.length_append, List.length_cons, List.length_nil, List.length_replicate]; omega))) rfl (fun p_35 hp_36 => ?_)
            refine Wx.gyes rfl rfl (congrArg Value.bool g_21) ?_
            refine Wx.ex (rd_load hp_36 rfl Tryd.isAgg58 Tryd.sizeOf58) rfl (fun v_37 hv_38 => ?_)
            obtain ⟨rfl, bd_39, bd_40⟩ := hv_38.i2
            have bd_39 := bd_i64 bd_39
            have bd_40 := bd_i64 bd_40
            refine Wx.gyes rfl rfl (congrArg Value.bool g_21) ?_
            refine Wx.callV (v := .bool (hasB (ix [] (greatV rim) i) (((ix (0, 0) (ix [] (greatV rim) 0) k).1), ((ix (0, 0) (ix [] (greatV rim) 0) k).2)))) (run_callF Tryd.call72 rfl) (fun w_41 hw_42 => (F72 ((hS.v 1 rfl).ext hw_42) (in_i64 (by omega) (by omega)) (in_i64 (by omega) (by omega)))) rfl ?_
            refine Wx.rd (v := .bool (hasB (ix [] (greatV rim) i) (((ix (0, 0) (ix [] (greatV rim) 0) k).1), ((ix (0, 0) (ix [] (greatV rim) 0) k).2)))) (rd_pickT (congrArg Value.bool g_21) rfl) rfl ?_
            refine Wx.nilQ (fun _ _ => ⟨(), trivial, ⟨?_, trivial⟩, Out.look rfl Out.refl⟩)
            show Value.bool (hasB (ix [] (greatV rim) i) (((ix (0, 0) (ix [] (greatV rim) 0) k).1), ((ix (0, 0) (ix [] (greatV rim) 0) k).2))) = Value.bool (al && hasB (ix [] (greatV rim) i) (((ix (0, 0) (ix [] (greatV rim) 0) k).1), ((ix (0, 0) (ix [] (greatV rim) 0) k).2)))
            rw [g_21]; rfl
          · -- False
            have gp_43 := g_21
            try simp only [Bool.and_eq_true, Bool.or_eq_true, Bool.not_eq_true', Bool.and_eq_false_iff, Bool.or_eq_false_iff, Bool.not_eq_false', decide_eq_true_eq, decide_eq_false_iff_not, not_or, Bool.false_eq_true, Bool.true_eq_false, false_or, or_false, not_false_eq_true] at gp_43
            refine Wx.gnoB rfl rfl (congrArg Value.bool g_21) rfl rfl ?_
            refine Wx.gnoB rfl rfl (congrArg Value.bool g_21) rfl rfl ?_
            refine Wx.gnoB rfl rfl (congrArg Value.bool g_21) rfl rfl ?_
            refine Wx.gnoB rfl rfl (congrArg Value.bool g_21) rfl rfl ?_
            refine Wx.gnoB rfl rfl (congrArg Value.bool g_21) rfl rfl ?_
            refine Wx.gnoB rfl rfl (congrArg Value.bool g_21) rfl rfl ?_
            refine Wx.gnoB rfl rfl (congrArg Value.bool g_21) rfl rfl ?_
            refine Wx.gnoB rfl rfl (congrArg Value.bool g_21) rfl rfl ?_
            refine Wx.gnoB rfl rfl (congrArg Value.bool g_21) rfl rfl ?_
            refine Wx.gnoB rfl rfl (congrArg Value.bool g_21) rfl rfl ?_
            refine Wx.gnoB rfl rfl (congrArg Value.bool g_21) rfl rfl ?_
            refine Wx.rd (v := .bool false) (rd_pickF (congrArg Value.bool g_21) rfl) rfl ?_
            refine Wx.nilQ (fun _ _ => ⟨(), trivial, ⟨?_, trivial⟩, Out.look rfl Out.refl⟩)
            show Value.bool false = Value.bool (al && hasB (ix [] (greatV rim) i) (((ix (0, 0) (ix [] (greatV rim) 0) k).1), ((ix (0, 0) (ix [] (greatV rim) 0) k).2)))
            rw [g_21]; rfl
        rintro ⟨⟩ u_45 -
        refine Wx.rd (v := .bool (al && hasB (ix [] (greatV rim) i) (((ix (0, 0) (ix [] (greatV rim) 0) k).1), ((ix (0, 0) (ix [] (greatV rim) 0) k).2)))) (rd_assign rfl) rfl ?_
        refine Wx.nilQ (fun w_46 hx_47 => ?_)
        have hS := hS.ext hx_47
        refine W.reg ?_
        refine Wx.rd (v := .int .i64 i) (rd_move rfl) rfl ?_
        refine Wx.rd (v := .int .i64 (i + 1)) (rd_add rfl rfl (in_i64 (by omega) (by omega))) rfl ?_
        refine Wx.rd (v := .int .i64 (i + 1)) (rd_assign rfl) rfl ?_
        refine Wx.nil ?_
        refine ⟨((al && hasB (ix [] (greatV rim) i) (((ix (0, 0) (ix [] (greatV rim) 0) k).1), ((ix (0, 0) (ix [] (greatV rim) 0) k).2))), i + 1), (by show ((greatV rim).length - (i + 1)).toNat < ((greatV rim).length - i).toNat; omega), ?_, ?_, Out.look rfl (Out.hav rfl (Out.look rfl Out.self))⟩
        · exact ⟨hS, (by first | omega | assumption), (by first | omega | assumption), (all_step (d := []) g0 c2 g2)⟩
        · exact ⟨rfl, rfl, trivial⟩
      · -- no
        refine W.exit rfl ?_
        refine W.seq ?_
        refine W.reg ?_
        refine Wx.rd (v := .bool al) (rd_move rfl) rfl ?_
        refine Wx.nil ?_
        refine W.cond rfl (fun c3 => ?_) (fun c3 => ?_)
        · -- yes
          try simp only [Bool.and_eq_true, Bool.or_eq_true, Bool.not_eq_true', Bool.and_eq_false_iff, Bool.or_eq_false_iff, Bool.not_eq_false', decide_eq_true_eq, decide_eq_false_iff_not, not_or, Bool.false_eq_true, Bool.true_eq_false, false_or, or_false, not_false_eq_true] at c3
          refine W.reg ?_
          refine Wx.rd (v := ov) (rd_move rfl) rfl ?_
          refine Wx.rd (v := v_7) (rd_move rfl) rfl ?_
          refine Wx.ex (rd_index [] (hS.v 2 rfl) rfl rfl Tryd.underlying86 Tryd.sizeOf22 (by first | omega | (simp only [List.length_set, List.length_append, List.length_cons, List.length_nil, List.length_replicate]; omega)) (by first | omega | (simp only [List.length_set, List.length_append, List.length_cons, List.length_nil, List.length_replicate]; omega))) rfl (fun p_48 hp_49 => ?_)
          refine Wx.ex (rd_load hp_49 rfl Tryd.isAgg22 Tryd.sizeOf22) rfl (fun v_50 hv_51 => ?_)
          have ln_52 := hv_51.len63
          have hS := hS.add hv_51
          refine Wx.rd (v := .int .i64 k) (rd_move rfl) rfl ?_
          refine Wx.ex (rd_index (0, 0) (hS.v 0 rfl) rfl rfl Tryd.underlying22 Tryd.sizeOf58 (by first | omega | (simp only [List.length_set, List.length_append, List.length_cons, List.length_nil, List.length_replicate]; omega)) (by first | omega | (simp only [List.length_set, List.length_append, List.length_cons, List.length_nil, List.length_replicate]; omega))) rfl (fun p_54 hp_55 => ?_)
          refine Wx.ex (rd_load hp_55 rfl Tryd.isAgg58 Tryd.sizeOf58) rfl (fun v_56 hv_57 => ?_)
          obtain ⟨rfl, bd_58, bd_59⟩ := hv_57.i2
          have bd_58 := bd_i64 bd_58
          have bd_59 := bd_i64 bd_59
          refine Wx.lit (t := (tP (tI .i64) (tI .i64))) (ys := [((ix (0, 0) (ix [] (greatV rim) 0) k).1, (ix (0, 0) (ix [] (greatV rim) 0) k).2)]) (vs := [.agg #[.int .i64 ((ix (0, 0) (ix [] (greatV rim) 0) k).1), .int .i64 ((ix (0, 0) (ix [] (greatV rim) 0) k).2)]]) elHe_22 hS rfl rfl ⟨(V.mk2 (in_i64 (by omega) (by omega)) (in_i64 (by omega) (by omega))), trivial⟩ (by decide) rfl (fun v_60 w_61 hx_62 hS => ?_)
          refine Wx.append elHe_22 hS 3 rfl rfl rfl (Src.ofR hS 0 rfl) (by simp only [maxLen]; simp; omega) (by simp; omega) rfl (fun v_63 w_64 hz_65 hS => ?_)
          refine Wx.rd (v := v_63) (rd_assign rfl) rfl ?_
          refine Wx.nil ?_
          refine W.reg ?_
          refine Wx.rd (v := .int .i64 k) (rd_move rfl) rfl ?_
          refine Wx.rd (v := .int .i64 (k + 1)) (rd_add rfl rfl (in_i64 (by omega) (by omega))) rfl ?_
          refine Wx.rd (v := .int .i64 (k + 1)) (rd_assign rfl) rfl ?_
          refine Wx.nil ?_
          have hal := all_end (by omega) g2
          refine ⟨(k + 1, v_63, out ++ [((ix (0, 0) (ix [] (greatV rim) 0) k).1, (ix (0, 0) (ix [] (greatV rim) 0) k).2)]), (by show ((ix [] (greatV rim) 0).length - (k + 1)).toNat < ((ix [] (greatV rim) 0).length - k).toNat; omega), ?_, ?_, Out.look rfl (Out.hav rfl (Out.look rfl Out.self))⟩
          · exact ⟨St.tl (St.tl (hS.tl)), (by first | omega | assumption), (by first | omega | assumption), (by first | exact filt_yes (f := (fun x => (greatV rim).all fun p => hasB p x)) (d := (0, 0)) h0 c1 h2 (hal.trans c3) | exact filt_no (f := (fun x => (greatV rim).all fun p => hasB p x)) (d := (0, 0)) h0 c1 h2 (by show ¬ ((greatV rim).all _) = true; rw [hal, c3]; decide)), (by first | omega | (simp only [List.length_append, List.length_cons, List.length_nil]; omega))⟩
          · exact ⟨rfl, rfl, trivial⟩
        · -- no
          try simp only [Bool.and_eq_true, Bool.or_eq_true, Bool.not_eq_true', Bool.and_eq_false_iff, Bool.or_eq_false_iff, Bool.not_eq_false', decide_eq_true_eq, decide_eq_false_iff_not, not_or, Bool.false_eq_true, Bool.true_eq_false, false_or, or_false, not_false_eq_true] at c3
          refine W.skip ?_
          refine W.reg ?_
          refine Wx.rd (v := .int .i64 k) (rd_move rfl) rfl ?_
          refine Wx.rd (v := .int .i64 (k + 1)) (rd_add rfl rfl (in_i64 (by omega) (by omega))) rfl ?_
          refine Wx.rd (v := .int .i64 (k + 1)) (rd_assign rfl) rfl ?_
          refine Wx.nil ?_
          have hal := all_end (by omega) g2
          refine ⟨(k + 1, ov, out), (by show ((ix [] (greatV rim) 0).length - (k + 1)).toNat < ((ix [] (greatV rim) 0).length - k).toNat; omega), ?_, ?_, Out.look rfl (Out.hav rfl (Out.look rfl Out.self))⟩
          · exact ⟨hS.tl, (by first | omega | assumption), (by first | omega | assumption), (by first | exact filt_yes (f := (fun x => (greatV rim).all fun p => hasB p x)) (d := (0, 0)) h0 c1 h2 (hal.trans c3) | exact filt_no (f := (fun x => (greatV rim).all fun p => hasB p x)) (d := (0, 0)) h0 c1 h2 (by show ¬ ((greatV rim).all _) = true; rw [hal, c3]; decide)), (by first | omega | (simp only [List.length_append, List.length_cons, List.length_nil]; omega))⟩
          · exact ⟨rfl, rfl, trivial⟩
    · -- no
      refine W.exit rfl ?_
      refine W.seq ?_
      refine W.reg ?_
      refine Wx.rd (v := ov) (rd_move rfl) rfl ?_
      refine Wx.rd (v := ov) (rd_assign rfl) rfl ?_
      refine Wx.rd (v := .int .i64 0) (rd_assign rfl) rfl ?_
      refine Wx.nil ?_
      have e1_0 : forcedV rim = out := by rw [forcedV, if_pos hr0, forcedR, ← hgf]; exact filt_end (by omega) h2
      have e1_1 : (rimE rim) = (0 : Int) := by exact hr0
      exact W.ret ⟨.tuple #[ov, .int .i64 0], ResIs.two, hS.bel, ⟨ov, (by rw [e1_1]), (by rw [e1_0]; exact (hS.fr 1 rfl flat_i2))⟩⟩
end Go.Proofs.YtokdjjebnomciaaDoor
