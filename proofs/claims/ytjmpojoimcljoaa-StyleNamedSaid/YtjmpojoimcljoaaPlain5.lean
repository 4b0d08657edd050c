/-
  WHAT IS PROVED HERE: plain laws of layer 3, no program in sight: some order fits just if no three layers are apart (Tucker). Conditions: stand in each statement.
-/
import Derived.Test.YtjmpojoimcljoaaPlain4
import Derived.Test.YtjmpojoimcljoaaTucker
import Derived.Test.YtjmpojoimcljoaaSpec4
namespace Go.Proofs.Ytjmpojoimcljoaa
open Go.Wk

/-! ### chains, as a relation -/
theorem Cn.trans {fs : List (List Int)} {c a b d : Int} (h1 : Cn fs c a b) (h2 : Cn fs c b d) : Cn fs c a d := by
  induction h2 with
  | base => exact h1
  | step _ h2 h3 h4 h5 ih => exact .step ih h2 h3 h4 h5
theorem Cn.symm {fs : List (List Int)} {c a b : Int} (h : Cn fs c a b) : Cn fs c b a := by
  induction h with
  | base => exact .base
  | step _ h2 h3 h4 h5 ih => exact (Cn.step .base h2 h5 h4 h3).trans ih
theorem Cn.via {fs : List (List Int)} {c a b d : Int} (h : Cn fs c a b) : Cn fs d a b ∨ Cn fs c a d := by
  induction h with
  | base => exact .inl .base
  | @step x y f h1 h2 h3 h4 h5 ih =>
    rcases ih with ih | ih
    · by_cases hd : d ∈ f
      · exact .inr (.step h1 h2 h3 h4 hd)
      · exact .inl (.step ih h2 h3 hd h5)
    · exact .inr ih
theorem joCn (fs : List (List Int)) : Jo (fun c a b => Cn fs c a b) :=
  ⟨fun _ _ => .base, fun _ _ _ h => h.symm, fun _ _ _ _ h1 h2 => h1.trans h2, fun _ _ _ _ h => h.via⟩
theorem tripC_all {L a b c : Int} : ∀ m : Nat, L - m ≤ c → c < L → (a, b, c) ∈ tripC L a b m
  | 0, h1, h2 => by omega
  | m + 1, h1, h2 => by
    rw [tripC]
    by_cases e : c = L - (m + 1)
    · rw [e]; exact List.mem_cons_self ..
    · exact List.mem_cons_of_mem _ (tripC_all m (by omega) h2)
theorem tripB_all {L a b c : Int} : ∀ m : Nat, L - m ≤ b → b < c → c < L → (a, b, c) ∈ tripB L a m
  | 0, h1, h2, h3 => by omega
  | m + 1, h1, h2, h3 => by
    rw [tripB]
    by_cases e : b = L - (m + 1)
    · rw [← e]; exact List.mem_append_left _ (tripC_all m (by omega) h3)
    · exact List.mem_append_right _ (tripB_all m (by omega) h2 h3)
theorem tripA_all {L a b c : Int} : ∀ m : Nat, L - m ≤ a → a < b → b < c → c < L → (a, b, c) ∈ tripA L m
  | 0, h1, h2, h3, h4 => by omega
  | m + 1, h1, h2, h3, h4 => by
    rw [tripA]
    by_cases e : a = L - (m + 1)
    · rw [← e]; exact List.mem_append_left _ (tripB_all m (by omega) h3 h4)
    · exact List.mem_append_right _ (tripA_all m (by omega) h2 h3 h4)
theorem apart_Cn {L : Int} {fs : List (List Int)} (h7 : L ≤ 7) (hf : okF L fs) {a b c : Int} (a0 : 0 ≤ a) (a1 : a < L) (b0 : 0 ≤ b) (b1 : b < L) (c0 : 0 ≤ c) (c1 : c < L) :
    apartR fs a b c = true ↔ Cn fs c a b ∧ Cn fs a b c ∧ Cn fs b c a := by
  rw [apartR, Bool.and_eq_true, Bool.and_eq_true, chainB, chainB, chainB, hasL_mem, hasL_mem, hasL_mem, chain_iff hf h7 a0 a1, chain_iff hf h7 b0 b1, chain_iff hf h7 c0 c1]
  exact and_assoc
theorem free_iff {L : Int} {fs : List (List Int)} (h0 : 0 ≤ L) (h7 : L ≤ 7) (hf : okF L fs) : freeR L fs = true ↔ ∀ a b c, 0 ≤ a → a < b → b < c → c < L → ¬ (Cn fs c a b ∧ Cn fs a b c ∧ Cn fs b c a) := by
  rw [freeR, Bool.not_eq_true', List.any_eq_false]
  constructor
  · intro h a b c h1 h2 h3 h4 h5
    exact h _ (tripA_all L.toNat (by omega) h2 h3 h4) (show apartR fs a b c = true from (apart_Cn h7 hf (by omega) (by omega) (by omega) (by omega) (by omega) (by omega)).2 h5)
  · intro h t ht ha
    have hm := tripA_mem _ t ht
    exact h t.1 t.2.1 t.2.2 (by omega) hm.2.1 hm.2.2.1 hm.2.2.2 ((apart_Cn h7 hf (by omega) (by omega) (by omega) (by omega) (by omega) (by omega)).1 ha)

/-! ### an order that fits: no three apart -/
theorem okR_split {f : List Int} {y : Int} {t : List Int} : ∀ (p : List Int) (s : Bool), okR f s (p ++ y :: t) = true → (s = true ∨ p.any (hasL f) = true) → t.any (hasL f) = true → hasL f y = true
  | [], s, h, hs, ht => by
    simp only [List.any_nil, Bool.false_eq_true, or_false] at hs
    rw [List.nil_append, okR, hs, ht, Bool.and_eq_true] at h
    simpa using h.1
  | x :: p, s, h, hs, ht => by
    rw [List.cons_append, okR, Bool.and_eq_true] at h
    refine okR_split p _ h.2 ?_ ht
    rw [List.any_cons, Bool.or_eq_true] at hs
    rw [Bool.or_eq_true]
    rcases hs with h | h | h
    · exact .inl (.inl h)
    · exact .inl (.inr h)
    · exact .inr h
theorem between {f o : List Int} (hok : okR f false o = true) {i j k : Int} (i0 : 0 ≤ i) (hij : i < j) (hjk : j < k) (hk : k < o.length) (h1 : ix 0 o i ∈ f) (h2 : ix 0 o k ∈ f) : ix 0 o j ∈ f := by
  have e : o = o.take j.toNat ++ ix 0 o j :: o.drop (j + 1).toNat := by
    rw [← drop_ix (d := 0) (by omega) (by omega), List.take_append_drop]
  rw [e] at hok
  rw [← hasL_mem]
  refine okR_split _ _ hok (.inr ?_) ?_
  · rw [any_hasL]
    refine ⟨ix 0 o i, List.mem_of_getElem? (i := i.toNat) ?_, h1⟩
    rw [List.getElem?_take, if_pos (by omega)]
    exact ix_get (d := 0) (by omega) i0
  · rw [any_hasL]
    refine ⟨ix 0 o k, List.mem_of_getElem? (i := k.toNat - (j + 1).toNat) ?_, h2⟩
    rw [List.getElem?_drop, show (j + 1).toNat + (k.toNat - (j + 1).toNat) = k.toNat by omega]
    exact ix_get (d := 0) hk (by omega)
theorem sideCn {L : Int} {fs : List (List Int)} (hf : okF L fs) {o : List Int} (hP : Perm L o) (hok : ∀ f ∈ fs, okR f false o = true) {y x z j i : Int} (hj : ix 0 o j = y) (j0 : 0 ≤ j) (j1 : j < o.length) (hi : ix 0 o i = x) (i0 : 0 ≤ i) (i1 : i < o.length) (hxy : i ≠ j) (h : Cn fs y x z) :
    ∀ k : Int, 0 ≤ k → k < o.length → ix 0 o k = z → k ≠ j ∧ (i < j ↔ k < j) := by
  induction h with
  | base =>
    intro k k0 k1 hk
    have : k = i := ix_inj hP.nodup k0 k1 i0 i1 (hk.trans hi.symm)
    subst this
    exact ⟨hxy, Iff.rfl⟩
  | @step u v f h1 h2 h3 h4 h5 ih =>
    intro k k0 k1 hk
    obtain ⟨m, m0, m1, hm⟩ := mem_ix ((hP.mem u).2 (hf f h2 u h3))
    have hmm := ih m m0 m1 hm
    have hkj : k ≠ j := by
      intro e
      subst e
      exact h4 (by rw [← hj, hk]; exact h5)
    refine ⟨hkj, hmm.2.trans ?_⟩
    constructor
    · intro hlt
      by_cases hk2 : k < j
      · exact hk2
      · exfalso
        have := between (hok f h2) m0 hlt (show j < k by omega) k1 (by rw [hm]; exact h3) (by rw [hk]; exact h5)
        rw [hj] at this
        exact h4 this
    · intro hlt
      by_cases hm2 : m < j
      · exact hm2
      · exfalso
        have := between (hok f h2) k0 hlt (show j < m by omega) m1 (by rw [hk]; exact h5) (by rw [hm]; exact h3)
        rw [hj] at this
        exact h4 this
theorem free_of_fits {L : Int} {fs : List (List Int)} (h0 : 0 ≤ L) (h7 : L ≤ 7) (hf : okF L fs) {o : List Int} (hP : Perm L o) (hfit : fitsL fs o = true) : freeR L fs = true := by
  have hok : ∀ f ∈ fs, okR f false o = true := fun f hff => by
    rw [fitsL, List.all_eq_true] at hfit
    have := hfit f hff
    rw [decide_eq_true_eq] at this
    exact ((runs_one f o).1 this).2
  rw [free_iff h0 h7 hf]
  rintro a b c a0 hab hbc hc ⟨h1, h2, h3⟩
  obtain ⟨i, i0, i1, hi⟩ := mem_ix ((hP.mem a).2 (by omega))
  obtain ⟨j, j0, j1, hj⟩ := mem_ix ((hP.mem b).2 (by omega))
  obtain ⟨k, k0, k1, hk⟩ := mem_ix ((hP.mem c).2 (by omega))
  have hij : i ≠ j := fun e => by subst e; omega
  have hjk : j ≠ k := fun e => by subst e; omega
  have hik : i ≠ k := fun e => by subst e; omega
  have s1 := sideCn hf hP hok hk k0 k1 hi i0 i1 hik h1 j j0 j1 hj
  have s2 := sideCn hf hP hok hi i0 i1 hj j0 j1 (fun e => hij e.symm) h2 k k0 k1 hk
  have s3 := sideCn hf hP hok hj j0 j1 hk k0 k1 (fun e => hjk e.symm) h3 i i0 i1 hi
  omega

/-! ### no three apart: an order that fits -/
theorem up_nodup (n : Int) : ∀ k : Nat, (up n k).Nodup
  | 0 => by simp [up]
  | k + 1 => by
    rw [up, List.nodup_cons]
    exact ⟨fun h => by rw [up_mem] at h; omega, up_nodup n k⟩
theorem ext_all (n : Int) : ∀ (m : Nat) (begun t : List Int), t.length = m → t.Nodup → (∀ x ∈ t, 0 ≤ x ∧ x < n ∧ x ∉ begun) → t ∈ ext n m begun
  | 0, begun, t, hl, _, _ => by
    have : t = [] := List.eq_nil_of_length_eq_zero hl
    subst this; simp [ext]
  | m + 1, begun, [], hl, _, _ => by simp at hl
  | m + 1, begun, x :: t, hl, hn, h => by
    have hx := h x (List.mem_cons_self ..)
    have hn' := List.nodup_cons.1 hn
    rw [ext, List.mem_flatMap]
    refine ⟨x, (up_mem _).2 ⟨by omega, hx.2.1⟩, ?_⟩
    rw [if_neg (by rw [hasL_mem]; exact hx.2.2)]
    refine List.mem_map.2 ⟨t, ext_all n m _ t (by simpa using hl) hn'.2 (fun y hy => ?_), rfl⟩
    have hy' := h y (List.mem_cons_of_mem _ hy)
    refine ⟨hy'.1, hy'.2.1, fun hm => ?_⟩
    rcases List.mem_append.1 hm with hm | hm
    · exact hy'.2.2 hm
    · simp only [List.mem_singleton] at hm
      subst hm
      exact hn'.1 hy
theorem perm_len {n : Int} (n0 : 0 ≤ n) {o : List Int} (h : Perm n o) : o.length = n.toNat := by
  have h1 := List.Nodup.length_le_of_subset h.nodup (l₂ := up n n.toNat) (fun x hx => (up_mem _).2 (by have := (h.mem x).1 hx; omega))
  have h2 := List.Nodup.length_le_of_subset (up_nodup n n.toNat) (l₂ := o) (fun x hx => (h.mem x).2 (by rw [up_mem] at hx; omega))
  rw [up_len] at h1 h2
  omega
theorem perm_all {n : Int} (n0 : 0 ≤ n) {o : List Int} (h : Perm n o) : o ∈ allL n := by
  rw [allL, allG_ext, List.mem_map]
  exact ⟨o, ext_all n _ _ o (perm_len n0 h) h.nodup (fun x hx => by have := (h.mem x).1 hx; exact ⟨this.1, this.2, by simp⟩), by simp⟩
theorem okR_ord {fs : List (List Int)} {f : List Int} (hff : f ∈ fs) {Y : List Int} (hY : Ordd (fun c a b => Cn fs c a b) Y) : ∀ (t p : List Int), p ++ t = Y → okR f (p.any (hasL f)) t = true
  | [], _, _ => rfl
  | x :: t, p, e => by
    have ih := okR_ord hff hY t (p ++ [x]) (by simpa using e)
    rw [okR, Bool.and_eq_true]
    constructor
    · rw [Bool.not_eq_true', Bool.and_eq_false_iff, Bool.not_eq_false']
      by_cases hx : hasL f x = true
      · exact .inr hx
      · left
        rw [Bool.and_eq_false_iff]
        by_cases hp : p.any (hasL f) = true
        · right
          cases ht : t.any (hasL f) with
          | false => rfl
          | true =>
            exfalso
            obtain ⟨w, hw, hwf⟩ := any_hasL.1 hp
            obtain ⟨v, hv, hvf⟩ := any_hasL.1 ht
            have hs : [w, x, v].Sublist Y := by
              rw [← e]
              exact (List.singleton_sublist.2 hw).append (List.Sublist.cons_cons x (List.singleton_sublist.2 hv))
            exact hY w x v hs (.step .base hff hwf (fun h => hx ((hasL_mem _ _).2 h)) hvf)
        · left; simpa using hp
    · have : (p ++ [x]).any (hasL f) = (p.any (hasL f) || hasL f x) := by simp
      rw [← this]; exact ih
theorem fits_of_free {L : Int} {fs : List (List Int)} (h0 : 0 ≤ L) (h7 : L ≤ 7) (hf : okF L fs) (hne : ∀ f ∈ fs, f ≠ []) (h : freeR L fs = true) : ∃ o, Perm L o ∧ fitsL fs o = true := by
  rw [free_iff h0 h7 hf] at h
  have hfree : Free (fun c a b => Cn fs c a b) (up L L.toNat) := by
    intro a ha b hb c hc hab hbc hac hT
    rw [up_mem] at ha hb hc
    obtain ⟨t1, t2, t3⟩ := hT
    have o : (a < b ∧ b < c) ∨ (a < c ∧ c < b) ∨ (b < a ∧ a < c) ∨ (b < c ∧ c < a) ∨ (c < a ∧ a < b) ∨ (c < b ∧ b < a) := by omega
    rcases o with o | o | o | o | o | o
    · exact h a b c (by omega) o.1 o.2 (by omega) ⟨t3, t1, t2⟩
    · exact h a c b (by omega) o.1 o.2 (by omega) ⟨t2.symm, t1.symm, t3.symm⟩
    · exact h b a c (by omega) o.1 o.2 (by omega) ⟨t3.symm, t2.symm, t1.symm⟩
    · exact h b c a (by omega) o.1 o.2 (by omega) ⟨t1, t2, t3⟩
    · exact h c a b (by omega) o.1 o.2 (by omega) ⟨t2, t3, t1⟩
    · exact h c b a (by omega) o.1 o.2 (by omega) ⟨t1.symm, t3.symm, t2.symm⟩
  obtain ⟨Y, hY1, hY2⟩ := tucker (joCn fs) (up L L.toNat) (up_nodup _ _) hfree
  have hP : Perm L Y := ⟨hY1.nodup_iff.2 (up_nodup _ _), fun x => by rw [hY1.mem_iff, up_mem]; omega⟩
  refine ⟨Y, hP, ?_⟩
  rw [fitsL, List.all_eq_true]
  intro f hff
  rw [decide_eq_true_eq]
  refine (runs_one f Y).2 ⟨?_, okR_ord hff hY2 Y [] rfl⟩
  rw [any_hasL]
  obtain ⟨y, hy⟩ := List.exists_mem_of_ne_nil f (hne f hff)
  exact ⟨y, (hP.mem y).2 (hf f hff y hy), hy⟩
/-- Some order fits just if no three layers are apart. -/
theorem tucker_count {L : Int} {fs : List (List Int)} (h0 : 0 ≤ L) (h7 : L ≤ 7) (hf : okF L fs) (hne : ∀ f ∈ fs, f ≠ []) : 0 < countT L (setsF fs) ↔ freeR L fs = true := by
  rw [count_eq h0 h7 hf hne]
  constructor
  · intro h
    obtain ⟨o, ho⟩ : ∃ o, o ∈ fitL L fs := by
      cases e : fitL L fs with
      | nil => rw [e] at h; simp at h
      | cons o os => exact ⟨o, List.mem_cons_self ..⟩
    have := List.mem_filter.1 ho
    exact free_of_fits h0 h7 hf (allL_perm h0 this.1) this.2
  · intro h
    obtain ⟨o, h1, h2⟩ := fits_of_free h0 h7 hf hne h
    have : o ∈ fitL L fs := List.mem_filter.2 ⟨perm_all h0 h1, h2⟩
    have := List.length_pos_of_mem this
    omega
end Go.Proofs.Ytjmpojoimcljoaa
