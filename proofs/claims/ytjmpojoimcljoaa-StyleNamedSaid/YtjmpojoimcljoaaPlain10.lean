/-
  WHAT IS PROVED HERE: what StyleBeside says is so, in plain words: which layers stand next to one another in all orders that fit. Conditions stand in each statement.
-/
import Derived.Test.YtjmpojoimcljoaaPlain9
namespace Go.Proofs.Ytjmpojoimcljoaa
open Go.Wk

/-! ### the table of layers that were apart -/
theorem ix_setB {xs : List Bool} {j q : Int} {x : Bool} (h0 : 0 ≤ j) (h1 : j < xs.length) (q0 : 0 ≤ q) : ix false (xs.set j.toNat x) q = if q = j then x else ix false xs q := by
  rw [ix, ix, List.getD_eq_getElem?_getD, List.getD_eq_getElem?_getD, List.getElem?_set]
  by_cases hq : q = j
  · subst hq
    rw [if_pos rfl, if_pos rfl, if_pos (by omega)]; rfl
  · rw [if_neg hq, if_neg (by omega)]
/-- The places i and k are not next to one another. -/
def offP (i k : Int) : Prop := max (i - k) (k - i) ≠ 1
theorem farB_iff {i a a0 b0 : Int} (ha : 0 ≤ a ∧ a < 5) (ha0 : 0 ≤ a0 ∧ a0 < 5) (hb0 : 0 ≤ b0 ∧ b0 < 5) : ∀ (bs : List Int) (k : Int) (far : List Bool), far.length = 25 → (∀ x ∈ bs, 0 ≤ x ∧ x < 5) →
    (ix false (farB i a k bs far) (a0 * 5 + b0) = true ↔ ix false far (a0 * 5 + b0) = true ∨ (a = a0 ∧ ∃ q : Nat, bs[q]? = some b0 ∧ offP i (k + q)))
  | [], k, far, _, _ => by simp [farB]
  | b :: bs, k, far, hl, hb => by
    have hbb := hb b (List.mem_cons_self ..)
    have hstep : (∃ q : Nat, (b :: bs)[q]? = some b0 ∧ offP i (k + q)) ↔ (b = b0 ∧ offP i k) ∨ ∃ q : Nat, bs[q]? = some b0 ∧ offP i (k + 1 + q) := by
      constructor
      · rintro ⟨q, h1, h2⟩
        cases q with
        | zero => left; simp at h1; exact ⟨h1, by simpa using h2⟩
        | succ q =>
          right
          refine ⟨q, by simpa using h1, ?_⟩
          rw [show k + 1 + (q : Int) = k + ((q + 1 : Nat) : Int) by omega]; exact h2
      · rintro (⟨h1, h2⟩ | ⟨q, h1, h2⟩)
        · exact ⟨0, by simp [h1], by simpa using h2⟩
        · exact ⟨q + 1, by simpa using h1, by rw [show k + ((q + 1 : Nat) : Int) = k + 1 + (q : Int) by omega]; exact h2⟩
    rw [farB, hstep]
    by_cases hc : max (i - k) (k - i) ≠ 1
    · rw [if_pos hc, farB_iff ha ha0 hb0 bs (k + 1) _ (by rw [List.length_set]; exact hl) (fun x hx => hb x (List.mem_cons_of_mem _ hx)), ix_setB (by omega) (by omega) (by omega)]
      by_cases he : a0 * 5 + b0 = a * 5 + b
      · have h1 : a = a0 := by omega
        have h2 : b = b0 := by omega
        rw [if_pos he]
        exact ⟨fun _ => .inr ⟨h1, .inl ⟨h2, hc⟩⟩, fun _ => .inl rfl⟩
      · rw [if_neg he]
        constructor
        · rintro (h | ⟨h1, h2⟩)
          · exact .inl h
          · exact .inr ⟨h1, .inr h2⟩
        · rintro (h | ⟨h1, ⟨h2, _⟩ | h2⟩)
          · exact .inl h
          · exact absurd (by rw [h1, h2]) he
          · exact .inr ⟨h1, h2⟩
    · rw [if_neg hc, farB_iff ha ha0 hb0 bs (k + 1) far hl (fun x hx => hb x (List.mem_cons_of_mem _ hx))]
      constructor
      · rintro (h | ⟨h1, h2⟩)
        · exact .inl h
        · exact .inr ⟨h1, .inr h2⟩
      · rintro (h | ⟨h1, ⟨_, h2⟩ | h2⟩)
        · exact .inl h
        · exact absurd h2 hc
        · exact .inr ⟨h1, h2⟩
theorem farA_iff {l : List Int} {a0 b0 : Int} (ha0 : 0 ≤ a0 ∧ a0 < 5) (hb0 : 0 ≤ b0 ∧ b0 < 5) (hlb : ∀ x ∈ l, 0 ≤ x ∧ x < 5) : ∀ (as : List Int) (i : Int) (far : List Bool), far.length = 25 → (∀ x ∈ as, 0 ≤ x ∧ x < 5) →
    (ix false (farA l i as far) (a0 * 5 + b0) = true ↔ ix false far (a0 * 5 + b0) = true ∨ ∃ p q : Nat, as[p]? = some a0 ∧ l[q]? = some b0 ∧ offP (i + p) q)
  | [], i, far, _, _ => by simp [farA]
  | a :: as, i, far, hl, hb => by
    rw [farA, farA_iff ha0 hb0 hlb as (i + 1) _ (by rw [farB_len]; exact hl) (fun x hx => hb x (List.mem_cons_of_mem _ hx)), farB_iff (hb a (List.mem_cons_self ..)) ha0 hb0 l 0 far hl hlb]
    constructor
    · rintro ((h | ⟨h1, q, h2, h3⟩) | ⟨p, q, h1, h2, h3⟩)
      · exact .inl h
      · exact .inr ⟨0, q, by simp [h1], h2, by simpa using h3⟩
      · exact .inr ⟨p + 1, q, by simpa using h1, h2, by rw [show i + ((p + 1 : Nat) : Int) = i + 1 + (p : Int) by omega]; exact h3⟩
    · rintro (h | ⟨p, q, h1, h2, h3⟩)
      · exact .inl (.inl h)
      · cases p with
        | zero => simp at h1; exact .inl (.inr ⟨h1, q, h2, by simpa using h3⟩)
        | succ p => exact .inr ⟨p, q, by simpa using h1, h2, by rw [show i + 1 + (p : Int) = i + ((p + 1 : Nat) : Int) by omega]; exact h3⟩
/-- Two layers stand in an order, and not next to one another. -/
def apartP (a b : Int) (l : List Int) : Prop := ∃ p q : Nat, l[p]? = some a ∧ l[q]? = some b ∧ offP p q
theorem foldB_far {fs : List (List Int)} {a0 b0 : Int} (ha0 : 0 ≤ a0 ∧ a0 < 5) (hb0 : 0 ≤ b0 ∧ b0 < 5) : ∀ (ls : List (List Int)) (x : Int × List Bool), x.2.length = 25 → (∀ l ∈ ls, ∀ y ∈ l, 0 ≤ y ∧ y < 5) →
    (ix false (ls.foldl (stepB fs) x).2 (a0 * 5 + b0) = true ↔ ix false x.2 (a0 * 5 + b0) = true ∨ ∃ l ∈ ls, fitsW fs l = true ∧ apartP a0 b0 l)
  | [], x, _, _ => by simp
  | l :: ls, x, hl, hb => by
    have hlb := hb l (List.mem_cons_self ..)
    rw [List.foldl_cons]
    by_cases hf : fitsW fs l = true
    · have e : stepB fs x l = (IntKind.i64.wrap (x.1 + 1), farA l 0 l x.2) := by rw [stepB, if_pos hf]
      rw [e, foldB_far ha0 hb0 ls _ (by rw [farA_len]; exact hl) (fun m hm => hb m (List.mem_cons_of_mem _ hm)), farA_iff ha0 hb0 hlb l 0 x.2 hl hlb]
      constructor
      · rintro ((h | ⟨p, q, h1, h2, h3⟩) | ⟨m, hm, h1, h2⟩)
        · exact .inl h
        · exact .inr ⟨l, List.mem_cons_self .., hf, p, q, h1, h2, by simpa using h3⟩
        · exact .inr ⟨m, List.mem_cons_of_mem _ hm, h1, h2⟩
      · rintro (h | ⟨m, hm, h1, h2⟩)
        · exact .inl (.inl h)
        · rcases List.mem_cons.1 hm with rfl | hm
          · obtain ⟨p, q, q1, q2, q3⟩ := h2
            exact .inl (.inr ⟨p, q, q1, q2, by simpa using q3⟩)
          · exact .inr ⟨m, hm, h1, h2⟩
    · have e : stepB fs x l = x := by rw [stepB, if_neg hf]
      rw [e, foldB_far ha0 hb0 ls x hl (fun m hm => hb m (List.mem_cons_of_mem _ hm))]
      constructor
      · rintro (h | ⟨m, hm, h1, h2⟩)
        · exact .inl h
        · exact .inr ⟨m, List.mem_cons_of_mem _ hm, h1, h2⟩
      · rintro (h | ⟨m, hm, h1, h2⟩)
        · exact .inl h
        · rcases List.mem_cons.1 hm with rfl | hm
          · exact absurd h1 hf
          · exact .inr ⟨m, hm, h1, h2⟩
theorem foldB_cnt (fs : List (List Int)) : ∀ (ls : List (List Int)) (x : Int × List Bool), 0 ≤ x.1 → x.1 + ls.length ≤ 1000000 → (ls.foldl (stepB fs) x).1 = x.1 + (ls.filter (fitsW fs)).length
  | [], x, _, _ => by simp
  | l :: ls, x, h0, h => by
    simp only [List.length_cons] at h
    rw [List.foldl_cons, List.filter_cons]
    by_cases hf : fitsW fs l = true
    · have e : stepB fs x l = (x.1 + 1, farA l 0 l x.2) := by rw [stepB, if_pos hf, wrap_one h0 (by omega)]
      rw [e, foldB_cnt fs ls _ (by show 0 ≤ x.1 + 1; omega) (by show x.1 + 1 + _ ≤ _; omega), if_pos hf]
      simp; omega
    · have e : stepB fs x l = x := by rw [stepB, if_neg hf]
      rw [e, foldB_cnt fs ls x h0 (by omega), if_neg hf]

/-! ### next to one another -/
theorem next_pos {a b : Int} : ∀ t : List Int, nextL a b t = true ↔ ∃ i : Nat, (t[i]? = some a ∧ t[i + 1]? = some b) ∨ (t[i]? = some b ∧ t[i + 1]? = some a)
  | [] => by simp [nextL]
  | [x] => by simp [nextL]
  | x :: y :: r => by
    rw [nextL, Bool.or_eq_true, next_pos (y :: r)]
    simp only [Bool.or_eq_true, Bool.and_eq_true, decide_eq_true_eq]
    constructor
    · rintro ((⟨h1, h2⟩ | ⟨h1, h2⟩) | ⟨i, h⟩)
      · exact ⟨0, .inl (by simp [h1, h2])⟩
      · exact ⟨0, .inr (by simp [h1, h2])⟩
      · exact ⟨i + 1, by simpa using h⟩
    · rintro ⟨i, h⟩
      cases i with
      | zero => left; simpa using h
      | succ i => right; exact ⟨i, by simpa using h⟩
theorem pos_uniq {t : List Int} (hn : t.Nodup) {i j : Nat} {x : Int} (h1 : t[i]? = some x) (h2 : t[j]? = some x) : i = j := by
  obtain ⟨i1, i2⟩ := List.getElem?_eq_some_iff.1 h1
  obtain ⟨j1, j2⟩ := List.getElem?_eq_some_iff.1 h2
  exact (List.getElem_inj hn).1 (i2.trans j2.symm)
theorem next_apart {a b : Int} {t : List Int} (hn : t.Nodup) (ha : a ∈ t) (hb : b ∈ t) : nextL a b t = true ↔ ¬ apartP a b t := by
  obtain ⟨p, hp⟩ := List.mem_iff_getElem?.1 ha
  obtain ⟨q, hq⟩ := List.mem_iff_getElem?.1 hb
  rw [next_pos]
  constructor
  · rintro ⟨i, h⟩ ⟨p', q', h1, h2, h3⟩
    rcases h with ⟨g1, g2⟩ | ⟨g1, g2⟩
    · have e1 := pos_uniq hn g1 h1
      have e2 := pos_uniq hn g2 h2
      exact h3 (by omega)
    · have e1 := pos_uniq hn g1 h2
      have e2 := pos_uniq hn g2 h1
      exact h3 (by omega)
  · intro h
    have hk : max ((p : Int) - q) (q - p) = 1 := by
      by_cases hk : max ((p : Int) - q) (q - p) = 1
      · exact hk
      · exact absurd ⟨p, q, hp, hq, hk⟩ h
    have : q = p + 1 ∨ p = q + 1 := by omega
    rcases this with h1 | h1
    · subst h1; exact ⟨p, .inl ⟨hp, hq⟩⟩
    · subst h1; exact ⟨q, .inr ⟨hq, hp⟩⟩

/-! ### what StyleBeside says -/
theorem fits_eq (L : Int) (fs : List (List Int)) : firstL L fs = (refFirst L fs).1 ∧ firstE L fs = (refFirst L fs).2 ∧ countE L fs = refCount L fs ∧ besideL L fs = refBeside L fs := by
  have h := fits_true L fs
  simp only [fitsB, Bool.and_eq_true, decide_eq_true_eq, and_true] at h
  exact ⟨h.1.1.1.1, h.1.1.1.2, h.1.1.2, h.1.2⟩
theorem formsE_snoc {L : Int} {f : List Int} (hf : formE L f = 0) : ∀ fs : List (List Int), formsE L fs = 0 → formsE L (fs ++ [f]) = 0
  | [], _ => by rw [List.nil_append, formsE, if_pos hf]; rfl
  | g :: fs, h => by
    rw [formsE] at h
    rw [List.cons_append, formsE]
    split at h
    · rename_i h1; rw [if_pos h1]; exact formsE_snoc hf fs h
    · rename_i h1; exact absurd h h1
theorem check_snoc {L : Int} {fs : List (List Int)} {f : List Int} (h : checkE L fs = 0) (hf : formE L f = 0) (hl : (fs.length : Int) < 10) : checkE L (fs ++ [f]) = 0 := by
  have hk := check_ok h
  simp only [checkE] at h ⊢
  rw [if_neg (by omega), if_neg (by omega)] at h
  rw [if_neg (by omega), if_neg (by simp; omega)]
  exact formsE_snoc hf fs h
theorem form_two {L a b : Int} (h0 : 0 ≤ a) (h1 : a < b) (h2 : b < L) : formE L [a, b] = 0 := by
  rw [formE, if_neg (by simp), numE, if_neg (by omega), if_neg (by omega), numE, if_neg (by omega), if_neg (by omega)]; rfl
theorem beside_law {L : Int} {fs : List (List Int)} (hc : checkE L fs = 0) (h5 : L ≤ 5) (h8 : (fs.length : Int) ≤ 8) : besideP L fs := by
  have hk := check_ok hc
  have h0 : 0 ≤ L := by omega
  have hne := check_ne hc
  obtain ⟨f1, f2, f3, f4⟩ := fits_eq L fs
  have hW := fitW_eq h0 hk.2.2.2 hne
  have hcnt : (foldB L fs).1 = (fitL L fs).length := by
    have := allG_len' L (by omega) (m := L.toNat) (by omega) []
    rw [foldB, foldB_cnt fs (allL L) (0, List.replicate 25 false) (Int.le_refl _) (by show 0 + _ ≤ _; rw [allL]; omega), ← hW, Int.zero_add]; rfl
  have hlen := fitL_len L fs (by omega)
  have hfar : ∀ a b, 0 ≤ a → a < b → b < L → (ix false (foldB L fs).2 (a * 5 + b) = false ↔ ∀ l ∈ fitL L fs, nextL a b l = true) := by
    intro a b a0 hab hb
    rw [← Bool.not_eq_true, foldB, foldB_far (fs := fs) (by omega) (by omega) (allL L) (0, List.replicate 25 false) (by simp) (fun l hl y hy => by have := ((allL_perm h0 hl).mem y).1 hy; omega)]
    have hrep : ¬ ix false (List.replicate 25 false) (a * 5 + b) = true := by
      rw [ix, List.getD_eq_getElem?_getD, List.getElem?_replicate, if_pos (by omega)]; decide
    constructor
    · intro h l hl
      have hP := fitL_perm h0 hl
      rw [← hW] at hl
      have hl2 := List.mem_filter.1 hl
      rw [next_apart hP.nodup ((hP.mem a).2 (by omega)) ((hP.mem b).2 (by omega))]
      exact fun hap => h (.inr ⟨l, hl2.1, hl2.2, hap⟩)
    · rintro h (h1 | ⟨l, hl, h1, h2⟩)
      · exact hrep h1
      · have hP := allL_perm h0 hl
        have hlf : l ∈ fitL L fs := by rw [← hW]; exact List.mem_filter.2 ⟨hl, h1⟩
        have := h l hlf
        rw [next_apart hP.nodup ((hP.mem a).2 (by omega)) ((hP.mem b).2 (by omega))] at this
        exact this h2
  refine ⟨hc, h5, by omega, fun hz => ?_, fun hnz => ?_⟩
  · have e2 : (refFirst L fs).2 = 12 := by rw [refFirst, if_neg (by omega), if_pos (by omega)]
    exact ⟨by rw [f2, e2], by rw [f4, refBeside, if_neg (by omega)]⟩
  · have e2 : (refFirst L fs).2 = 0 := by rw [refFirst, if_neg (by omega), if_neg (by omega)]
    refine ⟨by rw [f2, e2], ?_, fun a b a0 hab hb => ?_⟩
    · rw [f4, refBeside, if_pos e2]
      refine pairA_cong L.toNat fun a b h1 h2 h3 => ?_
      have := hfar a b (by omega) h2 h3
      rw [Bool.eq_iff_iff, List.all_eq_true, Bool.not_eq_true', this]
    · have hc2 := check_snoc (f := [a, b]) hc (form_two a0 hab hb) (by omega)
      have hce : ∀ gs : List (List Int), checkE L gs = 0 → countE L gs = (fitL L gs).length := fun gs hg => by
        rw [(fits_eq L gs).2.2.1, refCount, if_neg (by omega)]
      have hsub : ∀ l, fitsL (fs ++ [[a, b]]) l = (fitsL fs l && decide (runsL [a, b] l = 1)) := fun l => by simp [fitsL]
      have hfit : fitL L (fs ++ [[a, b]]) = (fitL L fs).filter fun l => decide (runsL [a, b] l = 1) := by
        rw [fitL, fitL, List.filter_filter]
        congr 1
        funext l
        rw [hsub, Bool.and_comm]
      have hle : (fitL L (fs ++ [[a, b]])).length ≤ (fitL L fs).length := by rw [hfit]; exact List.length_filter_le _ _
      refine ⟨hc2, by rw [hce _ hc2, hcnt]; omega, ?_⟩
      rw [hce _ hc2, hcnt, hfar a b a0 hab hb, hfit]
      have hiff : ∀ l ∈ fitL L fs, (decide (runsL [a, b] l = 1) = true ↔ nextL a b l = true) := fun l hl => by
        have hP := fitL_perm h0 hl
        rw [decide_eq_true_eq]
        exact next_iff (by omega) l hP.nodup ((hP.mem a).2 (by omega)) ((hP.mem b).2 (by omega))
      constructor
      · intro h l hl
        have := List.length_filter_eq_length_iff.1 (show (List.filter (fun l => decide (runsL [a, b] l = 1)) (fitL L fs)).length = (fitL L fs).length by omega) l hl
        exact (hiff l hl).1 this
      · intro h
        rw [List.filter_eq_self.2 (fun l hl => (hiff l hl).2 (h l hl))]
theorem beside_made (ly mn : Int) (zs : List Int) : besideP (madeN 5 ly) (madeF 5 8 ly mn zs) := by
  have hN := madeN_bd (a := 5) (ly := ly) (by omega)
  exact beside_law (made_ok (by omega) (by omega) (by omega) (by omega)) (by omega) (made_len (by omega))
end Go.Proofs.Ytjmpojoimcljoaa
