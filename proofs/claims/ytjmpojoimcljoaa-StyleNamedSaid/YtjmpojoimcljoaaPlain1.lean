/-
  WHAT IS PROVED HERE: plain laws of layer 3, no program in sight: a set of bits and the list of its numbers; layers reached and chains; three layers apart. Conditions: stand in each statement.
-/
import Derived.Test.YtjmpojoimcljoaaSpec3
import Derived.Laws.BitsAllLaws
namespace Go.Proofs.Ytjmpojoimcljoaa
open Go.Wk

/-! ### bits -/
theorem hasS_nat {s n : Int} (hs : InK .u8 s) (h0 : 0 ≤ n) (h7 : n ≤ 7) : hasS s n = s.toNat.testBit n.toNat := by
  have hb := bd_u8 hs
  obtain ⟨s, rfl⟩ := Int.eq_ofNat_of_zero_le hb.1
  obtain ⟨n, rfl⟩ := Int.eq_ofNat_of_zero_le h0
  have hm : min ((n : Int)).toNat IntKind.u8.bits = n := by
    have : IntKind.u8.bits = 8 := rfl
    rw [this, Nat.min_def]; split <;> omega
  have he : ((s : Int) / 2 ^ n) = ((s / 2 ^ n : Nat) : Int) := by simp
  have hlt : s / 2 ^ n ≤ s := Nat.div_le_self _ _
  rw [hasS, hm, he]
  show _ = Nat.testBit s n
  rw [Nat.testBit_eq_decide_div_mod_eq]
  generalize s / 2 ^ n = u at hlt
  rw [u8_and _ _ (by omega) (by omega) (by omega) (by omega)]
  have : (u : Int).toNat &&& (1 : Int).toNat = u % 2 := by
    show u &&& 1 = _
    exact Nat.and_one_is_mod _
  rw [this]
  exact decide_eq_decide.2 (by omega)
theorem has_or {q f n : Int} (hq : InK .u8 q) (hf : InK .u8 f) (h0 : 0 ≤ n) (h7 : n ≤ 7) : hasS (bits .or .u8 q f) n = (hasS q n || hasS f n) := by
  have h1 := bd_u8 hq
  have h2 := bd_u8 hf
  rw [hasS_nat (bits_in _ _ _ _) h0 h7, hasS_nat hq h0 h7, hasS_nat hf h0 h7, u8_or _ _ (by omega) (by omega) (by omega) (by omega)]
  exact Nat.testBit_or ..
theorem and_ne {f q : Int} (hf : InK .u8 f) (hq : InK .u8 q) : bits .and .u8 f q ≠ 0 ↔ ∃ n, 0 ≤ n ∧ n ≤ 7 ∧ hasS f n = true ∧ hasS q n = true := by
  have h1 := bd_u8 hf
  have h2 := bd_u8 hq
  rw [u8_and _ _ (by omega) (by omega) (by omega) (by omega)]
  constructor
  · intro h
    obtain ⟨i, hi⟩ := Nat.exists_testBit_of_ne_zero (show f.toNat &&& q.toNat ≠ 0 by omega)
    rw [Nat.testBit_and, Bool.and_eq_true] at hi
    have h8 : i < 8 := by
      rcases Nat.lt_or_ge i 8 with h | h
      · exact h
      · have : f.toNat < 2 ^ i := Nat.lt_of_lt_of_le (show f.toNat < 2 ^ 8 by omega) (Nat.pow_le_pow_right (by decide) h)
        rw [Nat.testBit_lt_two_pow this] at hi
        cases hi.1
    exact ⟨i, by omega, by omega, by rw [hasS_nat hf (by omega) (by omega)]; exact hi.1, by rw [hasS_nat hq (by omega) (by omega)]; exact hi.2⟩
  · rintro ⟨n, h0, h7, hn1, hn2⟩ h
    rw [hasS_nat hf h0 h7] at hn1
    rw [hasS_nat hq h0 h7] at hn2
    have h3 : (f.toNat &&& q.toNat).testBit n.toNat = true := by rw [Nat.testBit_and, hn1, hn2]; rfl
    rw [show f.toNat &&& q.toNat = 0 by omega] at h3
    simp at h3
theorem andNot_ne {f q : Int} (hf : InK .u8 f) (hq : InK .u8 q) : bits .andNot .u8 f q ≠ 0 ↔ ∃ n, 0 ≤ n ∧ n ≤ 7 ∧ hasS f n = true ∧ hasS q n = false := by
  have h1 := bd_u8 hf
  have h2 := bd_u8 hq
  have hx : ∀ i, (f.toNat &&& (255 - q.toNat)).testBit i = (f.toNat.testBit i && (decide (i < 8) && !q.toNat.testBit i)) := by
    intro i
    rw [Nat.testBit_and, show 255 - q.toNat = 2 ^ 8 - (q.toNat + 1) by omega, Nat.testBit_two_pow_sub_succ (by omega)]
  rw [u8_andNot _ _ (by omega) (by omega) (by omega) (by omega)]
  constructor
  · intro h
    obtain ⟨i, hi⟩ := Nat.exists_testBit_of_ne_zero (show f.toNat &&& (255 - q.toNat) ≠ 0 by omega)
    rw [hx, Bool.and_eq_true, Bool.and_eq_true, decide_eq_true_eq, Bool.not_eq_true'] at hi
    exact ⟨i, by omega, by omega, by rw [hasS_nat hf (by omega) (by omega)]; exact hi.1, by rw [hasS_nat hq (by omega) (by omega)]; exact hi.2.2⟩
  · rintro ⟨n, h0, h7, hn1, hn2⟩ h
    rw [hasS_nat hf h0 h7] at hn1
    rw [hasS_nat hq h0 h7] at hn2
    have h3 : (f.toNat &&& (255 - q.toNat)).testBit n.toNat = true := by rw [hx, hn1, hn2, decide_eq_true (by omega)]; rfl
    rw [show f.toNat &&& (255 - q.toNat) = 0 by omega] at h3
    simp at h3
theorem one_shl {n : Int} (h0 : 0 ≤ n) (h7 : n ≤ 7) : IntKind.u8.wrap (1 * 2 ^ min n.toNat IntKind.u8.bits) = ((2 ^ n.toNat : Nat) : Int) ∧ 2 ^ n.toNat < 256 := by
  have : n = 0 ∨ n = 1 ∨ n = 2 ∨ n = 3 ∨ n = 4 ∨ n = 5 ∨ n = 6 ∨ n = 7 := by omega
  rcases this with h | h | h | h | h | h | h | h <;> subst h <;> decide +kernel
theorem has_with {s n m : Int} (hs : InK .u8 s) (h0 : 0 ≤ n) (h7 : n ≤ 7) (m0 : 0 ≤ m) (m7 : m ≤ 7) : hasS (withS s n) m = (hasS s m || decide (m = n)) := by
  obtain ⟨e, hlt⟩ := one_shl h0 h7
  have hi : InK .u8 ((2 ^ n.toNat : Nat) : Int) := by generalize 2 ^ n.toNat = u at hlt; exact in_u8 (by omega) (by omega)
  rw [withS, e, has_or hs hi m0 m7, hasS_nat hi m0 m7, Int.toNat_natCast, Nat.testBit_two_pow]
  congr 1
  exact decide_eq_decide.2 (by omega)
theorem has_setF : ∀ (ns : List Int) (s m : Int), InK .u8 s → (∀ x ∈ ns, 0 ≤ x ∧ x ≤ 7) → 0 ≤ m → m ≤ 7 → hasS (setF s ns) m = (hasS s m || decide (m ∈ ns))
  | [], s, m, _, _, _, _ => by simp [setF]
  | n :: ns, s, m, hs, hn, m0, m7 => by
    have h := hn n (List.mem_cons_self ..)
    rw [setF, has_setF ns _ m (withS_in _ _) (fun x hx => hn x (List.mem_cons_of_mem _ hx)) m0 m7, has_with hs h.1 h.2 m0 m7, Bool.or_assoc]
    congr 1
    by_cases e : m = n
    · simp [e]
    · simp [e]
theorem has_zero {m : Int} (m0 : 0 ≤ m) (m7 : m ≤ 7) : hasS 0 m = false := by
  rw [hasS_nat (in_u8 (by omega) (by omega)) m0 m7]; simp
theorem has_form {L : Int} {f : List Int} (h7 : L ≤ 7) (hf : ∀ x ∈ f, 0 ≤ x ∧ x < L) {m : Int} (m0 : 0 ≤ m) (m7 : m ≤ 7) : hasS (setF 0 f) m = decide (m ∈ f) := by
  rw [has_setF f 0 m (in_u8 (by omega) (by omega)) (fun x hx => by have := hf x hx; omega) m0 m7, has_zero m0 m7, Bool.false_or]

/-! ### chains -/
/-- y is reached from a by forms that do not have c. -/
inductive Cn (fs : List (List Int)) (c a : Int) : Int → Prop
  | base : Cn fs c a a
  | step {x y : Int} {f : List Int} : Cn fs c a x → f ∈ fs → x ∈ f → c ∉ f → y ∈ f → Cn fs c a y

theorem hasL_not {l : List Int} {x : Int} : hasL l x = false ↔ x ∉ l := by
  rw [← hasL_mem]; simp
theorem addC_mem : ∀ (xs met : List Int) (y : Int), y ∈ addC met xs ↔ y ∈ met ∨ y ∈ xs
  | [], met, y => by simp [addC]
  | x :: xs, met, y => by
    rw [addC, addC_mem xs]
    split
    · rename_i h
      rw [hasL_mem] at h
      constructor
      · rintro (h1 | h1)
        · exact .inl h1
        · exact .inr (List.mem_cons_of_mem _ h1)
      · rintro (h1 | h1)
        · exact .inl h1
        · rcases List.mem_cons.1 h1 with rfl | h1
          · exact .inl h
          · exact .inr h1
    · simp only [List.mem_append, List.mem_cons, List.not_mem_nil, or_false]
      constructor
      · rintro ((h1 | h1) | h1)
        · exact .inl h1
        · exact .inr (.inl h1)
        · exact .inr (.inr h1)
      · rintro (h1 | h1 | h1)
        · exact .inl (.inl h1)
        · exact .inl (.inr h1)
        · exact .inr h1
theorem addC_pre : ∀ (xs met : List Int), met <+: addC met xs
  | [], met => List.prefix_refl _
  | x :: xs, met => by
    rw [addC]
    split
    · exact addC_pre xs met
    · exact List.IsPrefix.trans (List.prefix_append _ _) (addC_pre xs _)
theorem passC_mem (c x : Int) : ∀ (fs : List (List Int)) (met : List Int) (y : Int), y ∈ passC c x fs met ↔ y ∈ met ∨ ∃ f ∈ fs, x ∈ f ∧ c ∉ f ∧ y ∈ f
  | [], met, y => by simp [passC]
  | f :: fs, met, y => by
    rw [passC, passC_mem c x fs]
    split
    · rename_i h
      rw [hasL_mem, hasL_not] at h
      rw [addC_mem]
      constructor
      · rintro ((h1 | h1) | ⟨g, h1, h2⟩)
        · exact .inl h1
        · exact .inr ⟨f, List.mem_cons_self .., h.1, h.2, h1⟩
        · exact .inr ⟨g, List.mem_cons_of_mem _ h1, h2⟩
      · rintro (h1 | ⟨g, h1, h2⟩)
        · exact .inl (.inl h1)
        · rcases List.mem_cons.1 h1 with rfl | h1
          · exact .inl (.inr h2.2.2)
          · exact .inr ⟨g, h1, h2⟩
    · rename_i h
      rw [hasL_mem, hasL_not] at h
      constructor
      · rintro (h1 | ⟨g, h1, h2⟩)
        · exact .inl h1
        · exact .inr ⟨g, List.mem_cons_of_mem _ h1, h2⟩
      · rintro (h1 | ⟨g, h1, h2⟩)
        · exact .inl h1
        · rcases List.mem_cons.1 h1 with rfl | h1
          · exact absurd ⟨h2.1, h2.2.1⟩ h
          · exact .inr ⟨g, h1, h2⟩
theorem passC_pre (c x : Int) : ∀ (fs : List (List Int)) (met : List Int), met <+: passC c x fs met
  | [], met => List.prefix_refl _
  | f :: fs, met => by
    rw [passC]
    split
    · exact List.IsPrefix.trans (addC_pre _ _) (passC_pre c x fs _)
    · exact passC_pre c x fs met
theorem addC_ok {L : Int} : ∀ (xs met : List Int), (∀ x ∈ xs, 0 ≤ x ∧ x < L) → metOk L met → metOk L (addC met xs)
  | [], met, _, h => h
  | x :: xs, met, hx, h => by
    rw [addC]
    have hxs : ∀ y ∈ xs, 0 ≤ y ∧ y < L := fun y hy => hx y (List.mem_cons_of_mem _ hy)
    have h1 := hx x (List.mem_cons_self ..)
    split
    · exact addC_ok xs met hxs h
    · rename_i hn
      exact addC_ok xs _ hxs (h.add h1.1 h1.2 (by simpa using hn))
theorem passC_ok {L : Int} (c x : Int) : ∀ (fs : List (List Int)) (met : List Int), okF L fs → metOk L met → metOk L (passC c x fs met)
  | [], met, _, h => h
  | f :: fs, met, hf, h => by
    rw [passC]
    have hfs : okF L fs := fun g hg => hf g (List.mem_cons_of_mem _ hg)
    split
    · exact passC_ok c x fs _ hfs (addC_ok f met (hf f (List.mem_cons_self ..)) h)
    · exact passC_ok c x fs met hfs h
theorem ix_pre {l l' : List Int} {i : Int} (h0 : 0 ≤ i) (h : i < l.length) (hp : l <+: l') : ix 0 l' i = ix 0 l i := by
  obtain ⟨t, rfl⟩ := hp
  exact ix_app h0 h
theorem ix_mem {l : List Int} {i : Int} (h0 : 0 ≤ i) (h : i < l.length) : ix 0 l i ∈ l := List.mem_of_getElem? (ix_get (d := 0) h h0)
theorem mem_ix {l : List Int} {x : Int} (h : x ∈ l) : ∃ i : Int, 0 ≤ i ∧ i < l.length ∧ ix 0 l i = x := by
  obtain ⟨i, hi, rfl⟩ := List.getElem_of_mem h
  exact ⟨i, by omega, by omega, by simp [ix, List.getD_eq_getElem?_getD, hi]⟩
theorem chainG_all {fs : List (List Int)} {c a L : Int} (hf : okF L fs) (h7 : L ≤ 7) : ∀ (k : Nat) (i : Int) (met : List Int), 0 ≤ i → 8 ≤ k + i → metOk L met → a ∈ met → (∀ y ∈ met, Cn fs c a y) →
    (∀ j : Int, 0 ≤ j → j < i → j < met.length → ∀ f ∈ fs, ix 0 met j ∈ f → c ∉ f → ∀ y ∈ f, y ∈ met) →
    (∀ y ∈ chainG fs c k i met, Cn fs c a y) ∧ a ∈ chainG fs c k i met ∧ ∀ x ∈ chainG fs c k i met, ∀ f ∈ fs, x ∈ f → c ∉ f → ∀ y ∈ f, y ∈ chainG fs c k i met
  | 0, i, met, h0, hk, hm, ha, hs, hc => by
    have hl := hm.len7 h7
    rw [chainG]
    refine ⟨hs, ha, fun x hx f hf' hxf hcf => ?_⟩
    obtain ⟨j, hj0, hj1, rfl⟩ := mem_ix hx
    exact hc j hj0 (by omega) hj1 f hf' hxf hcf
  | k + 1, i, met, h0, hk, hm, ha, hs, hc => by
    rw [chainG]
    split
    · rename_i hi
      have hp := passC_pre c (ix 0 met i) fs met
      refine chainG_all hf h7 k (i + 1) _ (by omega) (by omega) (passC_ok _ _ _ _ hf hm) (hp.subset ha) (fun y hy => ?_) (fun j hj0 hj1 hj2 f hf' hxf hcf y hy => ?_)
      · rcases (passC_mem _ _ _ _ _).1 hy with h | ⟨f, h1, h2, h3, h4⟩
        · exact hs y h
        · exact .step (hs _ (ix_mem h0 hi)) h1 h2 h3 h4
      · rw [passC_mem]
        by_cases hji : j = i
        · subst hji
          rw [ix_pre h0 hi hp] at hxf
          exact .inr ⟨f, hf', hxf, hcf, hy⟩
        · rw [ix_pre hj0 (by omega) hp] at hxf
          exact .inl (hc j hj0 (by omega) (by omega) f hf' hxf hcf y hy)
    · rename_i hi
      refine ⟨hs, ha, fun x hx f hf' hxf hcf => ?_⟩
      obtain ⟨j, hj0, hj1, rfl⟩ := mem_ix hx
      exact hc j hj0 (by omega) hj1 f hf' hxf hcf
theorem chain_iff {fs : List (List Int)} {c a L y : Int} (hf : okF L fs) (h7 : L ≤ 7) (a0 : 0 ≤ a) (a1 : a < L) : y ∈ chainL fs a c ↔ Cn fs c a y := by
  have h := chainG_all (c := c) (a := a) hf h7 8 0 [a] (by omega) (by omega) ⟨by simp, by simp; omega⟩ (by simp) (by simp; exact .base) (fun j h1 h2 => by omega)
  refine ⟨h.1 y, fun hc => ?_⟩
  induction hc with
  | base => exact h.2.1
  | step _ h2 h3 h4 h5 ih => exact h.2.2 _ ih _ h2 h3 h4 _ h5

/-! ### layers reached, by bits -/
theorem passF_has (c : Int) : ∀ (ss : List Int) (q : Int) (g : Bool), (∀ f ∈ ss, InK .u8 f) → InK .u8 q → ∀ n, 0 ≤ n → n ≤ 7 → hasS q n = true → hasS (passF c ss q g).1 n = true
  | [], q, g, _, _, n, _, _, h => h
  | f :: ss, q, g, hs, hq, n, h0, h7, h => by
    rw [passF]
    have hss : ∀ f ∈ ss, InK .u8 f := fun x hx => hs x (List.mem_cons_of_mem _ hx)
    split
    · exact passF_has c ss _ _ hss (bits_in _ _ _ _) n h0 h7 (by rw [has_or hq (hs f (List.mem_cons_self ..)) h0 h7, h]; rfl)
    · exact passF_has c ss q g hss hq n h0 h7 h
theorem passF_still (c : Int) : ∀ (ss : List Int) (q : Int), (passF c ss q false).2 = false → ∀ f ∈ ss, stepQ c f q = false
  | [], _, _, f, hf => by simp at hf
  | g :: ss, q, h, f, hf => by
    rw [passF] at h
    split at h
    · have : ∀ (ss : List Int) (q : Int), (passF c ss q true).2 = true := by
        intro ss
        induction ss with
        | nil => intro q; rfl
        | cons g ss ih => intro q; rw [passF]; split <;> exact ih _
      rw [this] at h; cases h
    · rename_i hg
      rcases List.mem_cons.1 hf with rfl | hf
      · simpa using hg
      · exact passF_still c ss q h f hf
theorem passF_sound {fs : List (List Int)} {c a L : Int} (hf : okF L fs) (h7 : L ≤ 7) (c0 : 0 ≤ c) (c1 : c < L) : ∀ (gs : List (List Int)) (q : Int) (g : Bool), (∀ x ∈ gs, x ∈ fs) → InK .u8 q → (∀ n, 0 ≤ n → n ≤ 7 → hasS q n = true → Cn fs c a n) →
    ∀ n, 0 ≤ n → n ≤ 7 → hasS (passF c (setsF gs) q g).1 n = true → Cn fs c a n
  | [], q, g, _, _, h => h
  | f :: gs, q, g, hg, hq, h => by
    show ∀ n, 0 ≤ n → n ≤ 7 → hasS (passF c (setF 0 f :: setsF gs) q g).1 n = true → Cn fs c a n
    rw [passF]
    have hgs : ∀ x ∈ gs, x ∈ fs := fun x hx => hg x (List.mem_cons_of_mem _ hx)
    have hff := hg f (List.mem_cons_self ..)
    have hfi : InK .u8 (setF 0 f) := setF_in f 0 (in_u8 (by omega) (by omega))
    split
    · rename_i hst
      simp only [stepQ, Bool.and_eq_true, decide_eq_true_eq, Bool.not_eq_true'] at hst
      obtain ⟨⟨h1, h2⟩, h3⟩ := hst
      rw [and_ne hfi hq] at h1
      obtain ⟨x, x0, x7, hx1, hx2⟩ := h1
      rw [has_form h7 (hf f hff) x0 x7, decide_eq_true_eq] at hx1
      rw [has_form h7 (hf f hff) c0 (by omega), decide_eq_false_iff_not] at h2
      refine passF_sound hf h7 c0 c1 gs _ _ hgs (bits_in _ _ _ _) (fun n n0 n7 hn => ?_)
      rw [has_or hq hfi n0 n7, Bool.or_eq_true] at hn
      rcases hn with hn | hn
      · exact h n n0 n7 hn
      · rw [has_form h7 (hf f hff) n0 n7, decide_eq_true_eq] at hn
        exact .step (h x x0 x7 hx2) hff hx1 h2 hn
    · exact passF_sound hf h7 c0 c1 gs q g hgs hq h
theorem reachQ_all {fs : List (List Int)} {c a L : Int} (hf : okF L fs) (h7 : L ≤ 7) (c0 : 0 ≤ c) (c1 : c < L) : ∀ (k : Nat) (q : Int), (256 - q).toNat ≤ k → InK .u8 q → (∀ n, 0 ≤ n → n ≤ 7 → hasS q n = true → Cn fs c a n) →
    InK .u8 (reachQ (setsF fs) c q) ∧ (∀ n, 0 ≤ n → n ≤ 7 → hasS q n = true → hasS (reachQ (setsF fs) c q) n = true) ∧ (∀ n, 0 ≤ n → n ≤ 7 → hasS (reachQ (setsF fs) c q) n = true → Cn fs c a n) ∧ ∀ f ∈ setsF fs, stepQ c f (reachQ (setsF fs) c q) = false
  | 0, q, hk, hq, _ => by
    have := bd_u8 hq
    omega
  | k + 1, q, hk, hq, h => by
    have hb := bd_u8 hq
    have hg := passF_grow c (setsF fs) q false (setsF_in fs) hq
    rw [reachQ_next (setsF_in fs) hq]
    split
    · rename_i ht
      have hgt : q < (passF c (setsF fs) q false).1 := by
        rcases hg.2 with ⟨h3, _⟩ | ⟨_, h4⟩
        · rw [h3] at ht; cases ht
        · exact h4
      have := reachQ_all hf h7 c0 c1 k _ (by omega) hg.1 (passF_sound hf h7 c0 c1 fs q false (fun _ hx => hx) hq h)
      exact ⟨this.1, fun n n0 n7 hn => this.2.1 n n0 n7 (passF_has c _ q false (setsF_in fs) hq n n0 n7 hn), this.2.2⟩
    · rename_i ht
      exact ⟨hq, fun n _ _ hn => hn, h, passF_still c _ q (by simpa using ht)⟩
theorem reach_iff {fs : List (List Int)} {c a L y : Int} (hf : okF L fs) (h7 : L ≤ 7) (c0 : 0 ≤ c) (c1 : c < L) (a0 : 0 ≤ a) (a1 : a < L) (y0 : 0 ≤ y) (y1 : y < L) : hasS (reachS (setsF fs) a c) y = true ↔ Cn fs c a y := by
  have hz : InK .u8 (0 : Int) := in_u8 (by omega) (by omega)
  have hw : ∀ n, 0 ≤ n → n ≤ 7 → (hasS (withS 0 a) n = true ↔ n = a) := fun n n0 n7 => by
    rw [has_with hz a0 (by omega) n0 n7, has_zero n0 n7, Bool.false_or, decide_eq_true_eq]
  have h := reachQ_all (a := a) hf h7 c0 c1 _ (withS 0 a) (Nat.le_refl _) (withS_in _ _) (fun n n0 n7 hn => by rw [(hw n n0 n7).1 hn]; exact .base)
  refine ⟨h.2.2.1 y y0 (by omega), fun hc => ?_⟩
  have key : ∀ y, Cn fs c a y → 0 ≤ y ∧ y < L ∧ hasS (reachS (setsF fs) a c) y = true := by
    intro y hc
    induction hc with
    | base => exact ⟨a0, a1, h.2.1 a a0 (by omega) ((hw a a0 (by omega)).2 rfl)⟩
    | @step x y f h1 h2 h3 h4 h5 ih =>
      have hy := hf f h2 y h5
      refine ⟨hy.1, hy.2, ?_⟩
      have hfi : InK .u8 (setF 0 f) := setF_in f 0 hz
      have hst := h.2.2.2 (setF 0 f) (List.mem_map.2 ⟨f, h2, rfl⟩)
      have hR : InK .u8 (reachS (setsF fs) a c) := h.1
      have e1 : bits .and .u8 (setF 0 f) (reachS (setsF fs) a c) ≠ 0 := (and_ne hfi hR).2 ⟨x, ih.1, by omega, by rw [has_form h7 (hf f h2) ih.1 (by omega)]; exact decide_eq_true h3, ih.2.2⟩
      have e2 : hasS (setF 0 f) c = false := by rw [has_form h7 (hf f h2) c0 (by omega)]; exact decide_eq_false h4
      have e3 : ¬ bits .andNot .u8 (setF 0 f) (reachS (setsF fs) a c) ≠ 0 := by
        intro e3
        have : stepQ c (setF 0 f) (reachS (setsF fs) a c) = true := by
          simp only [stepQ, Bool.and_eq_true, decide_eq_true_eq, Bool.not_eq_true']
          exact ⟨⟨e1, e2⟩, e3⟩
        rw [show reachQ (setsF fs) c (withS 0 a) = reachS (setsF fs) a c from rfl, this] at hst
        cases hst
      cases hh : hasS (reachS (setsF fs) a c) y with
      | true => rfl
      | false => exact absurd ((andNot_ne hfi hR).2 ⟨y, hy.1, by omega, by rw [has_form h7 (hf f h2) hy.1 (by omega)]; exact decide_eq_true h5, hh⟩) e3
  exact (key y hc).2.2
theorem reach_chain {fs : List (List Int)} {a b c L : Int} (hf : okF L fs) (h7 : L ≤ 7) (a0 : 0 ≤ a) (a1 : a < L) (b0 : 0 ≤ b) (b1 : b < L) (c0 : 0 ≤ c) (c1 : c < L) : hasS (reachS (setsF fs) a c) b = chainB fs a b c := by
  rw [Bool.eq_iff_iff, reach_iff hf h7 c0 c1 a0 a1 b0 b1, chainB, hasL_mem, chain_iff hf h7 a0 a1]
theorem apart_eq {fs : List (List Int)} {a b c L : Int} (hf : okF L fs) (h7 : L ≤ 7) (a0 : 0 ≤ a) (a1 : a < L) (b0 : 0 ≤ b) (b1 : b < L) (c0 : 0 ≤ c) (c1 : c < L) : apartB (setsF fs) a b c = apartR fs a b c := by
  rw [apartB, apartR, reach_chain hf h7 a0 a1 b0 b1 c0 c1, reach_chain hf h7 b0 b1 c0 c1 a0 a1, reach_chain hf h7 c0 c1 a0 a1 b0 b1]

/-! ### three layers -/
theorem tripC_mem {L a b : Int} : ∀ (m : Nat) (t : Int × Int × Int), t ∈ tripC L a b m → t.1 = a ∧ t.2.1 = b ∧ L - m ≤ t.2.2 ∧ t.2.2 < L
  | 0, t, h => by simp [tripC] at h
  | m + 1, t, h => by
    rw [tripC] at h
    rcases List.mem_cons.1 h with rfl | h
    · exact ⟨rfl, rfl, by simp only; omega, by simp only; omega⟩
    · have := tripC_mem m t h
      exact ⟨this.1, this.2.1, by omega, this.2.2.2⟩
theorem tripB_mem {L a : Int} : ∀ (m : Nat) (t : Int × Int × Int), t ∈ tripB L a m → t.1 = a ∧ L - m ≤ t.2.1 ∧ t.2.1 < t.2.2 ∧ t.2.2 < L
  | 0, t, h => by simp [tripB] at h
  | m + 1, t, h => by
    rw [tripB] at h
    rcases List.mem_append.1 h with h | h
    · have := tripC_mem m t h
      exact ⟨this.1, by omega, by omega, this.2.2.2⟩
    · have := tripB_mem m t h
      exact ⟨this.1, by omega, this.2.2⟩
theorem tripA_mem {L : Int} : ∀ (m : Nat) (t : Int × Int × Int), t ∈ tripA L m → L - m ≤ t.1 ∧ t.1 < t.2.1 ∧ t.2.1 < t.2.2 ∧ t.2.2 < L
  | 0, t, h => by simp [tripA] at h
  | m + 1, t, h => by
    rw [tripA] at h
    rcases List.mem_append.1 h with h | h
    · have := tripB_mem m t h
      exact ⟨by omega, by omega, this.2.2⟩
    · have := tripA_mem m t h
      exact ⟨by omega, this.2⟩
theorem find_congr {α : Type} {p q : α → Bool} : ∀ (l : List α), (∀ x ∈ l, p x = q x) → l.find? p = l.find? q
  | [], _ => rfl
  | x :: l, h => by
    rw [List.find?_cons, List.find?_cons, h x (List.mem_cons_self ..), find_congr l (fun y hy => h y (List.mem_cons_of_mem _ hy))]
theorem why_eq {L : Int} {fs : List (List Int)} (h0 : 1 ≤ L) (h7 : L ≤ 7) (hf : okF L fs) : whyF L fs = refWhyF L fs := by
  refine find_congr _ fun t ht => ?_
  have := tripA_mem _ t ht
  exact apart_eq hf h7 (by omega) (by omega) (by omega) (by omega) (by omega) (by omega)
theorem proves_law (L : Int) (fs : List (List Int)) (a b c : Int) : provesE L fs a b c = refProves L fs a b c := by
  unfold provesE refProves
  by_cases hc : checkE L fs = 0
  · have hk := check_ok hc
    have hcn : ¬ (checkE L fs ≠ 0) := by omega
    rw [if_neg hcn, if_neg hcn]
    have hmn : min (min a b) c = if (if b < a then b else a) < c then (if b < a then b else a) else c := by simp only [Int.min_def]; split <;> split <;> split <;> omega
    have hmx : max (max a b) c = if (if a < b then b else a) < c then c else (if a < b then b else a) := by simp only [Int.max_def]; split <;> split <;> split <;> omega
    by_cases hr : (a < 0 ∨ L - 1 < a) ∨ (b < 0 ∨ L - 1 < b) ∨ (c < 0 ∨ L - 1 < c)
    · rw [if_pos hr, if_pos]
      rw [hmn, hmx]
      repeat' split
      all_goals omega
    · rw [if_neg hr, if_neg]
      · by_cases hd : a = b ∨ b = c ∨ a = c
        · rw [if_pos hd, if_pos hd]
        · rw [if_neg hd, if_neg hd, apart_eq hk.2.2.2 hk.2.1 (by omega) (by omega) (by omega) (by omega) (by omega) (by omega)]
      · rw [hmn, hmx]
        repeat' split
        all_goals omega
  · rw [if_pos hc, if_pos hc]
/-- What StyleWhys says, if an order fits just as the counts say. -/
theorem whys_of {L : Int} {fs : List (List Int)} {a b c : Int} (h : checkE L fs = 0 → (0 < countT L (setsF fs) ↔ 0 < (fitL L fs).length)) : whysB L fs a b c = true := by
  have hE : whyE L fs = refWhyE L fs := by
    unfold whyE refWhyE
    by_cases hc : checkE L fs = 0
    · have hk := check_ok hc
      have hcn : ¬ (checkE L fs ≠ 0) := by omega
      rw [if_neg hcn, if_neg hcn, why_eq hk.1 hk.2.1 hk.2.2.2]
      have := h hc
      by_cases hp : 0 < countT L (setsF fs)
      · rw [if_pos hp, if_pos (this.1 hp)]
      · rw [if_neg hp, if_neg (fun h2 => hp (this.2 h2))]
    · rw [if_pos hc, if_pos hc]
  have hT : whyT L fs = refWhyT L fs := by
    unfold whyT refWhyT
    rw [hE]
    by_cases hz : refWhyE L fs = 0
    · rw [if_pos hz, if_pos hz]
      have hc : checkE L fs = 0 := by
        unfold refWhyE at hz
        split at hz
        · exact (by rename_i hn; exact absurd hz hn)
        · omega
      have hk := check_ok hc
      rw [why_eq hk.1 hk.2.1 hk.2.2.2]
    · rw [if_neg hz, if_neg hz]
  simp [whysB, hE, hT, proves_law]
end Go.Proofs.Ytjmpojoimcljoaa
