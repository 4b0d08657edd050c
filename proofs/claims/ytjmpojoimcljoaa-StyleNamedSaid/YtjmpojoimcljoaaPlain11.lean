/-
  WHAT IS PROVED HERE: what StyleMore says is so, in plain words: forms of one layer and of all change nothing; without forms all orders fit; with a form less no fewer; an order and its opposite are two. Conditions stand in each statement.
-/
import Derived.Test.YtjmpojoimcljoaaPlain10
namespace Go.Proofs.Ytjmpojoimcljoaa
open Go.Wk

theorem runs_none {f : List Int} : ∀ (t : List Int) (p : Bool), (∀ x ∈ t, hasL f x = false) → runsG f p t = 0
  | [], _, _ => rfl
  | x :: t, p, h => by
    have hx := h x (List.mem_cons_self ..)
    rw [runsG, hx, runs_none t false (fun y hy => h y (List.mem_cons_of_mem _ hy)), if_neg (by simp)]; rfl
theorem runs_on_all {f : List Int} : ∀ (t : List Int), (∀ x ∈ t, hasL f x = true) → runsG f true t = 0
  | [], _ => rfl
  | x :: t, h => by
    have hx := h x (List.mem_cons_self ..)
    rw [runsG, hx, runs_on_all t (fun y hy => h y (List.mem_cons_of_mem _ hy)), if_neg (by simp)]; rfl
theorem runs_all {f t : List Int} (h : ∀ x ∈ t, hasL f x = true) (hne : t ≠ []) : runsL f t = 1 := by
  cases t with
  | nil => exact absurd rfl hne
  | cons x t =>
    have hx := h x (List.mem_cons_self ..)
    rw [runsL, runsG, hx, runs_on_all t (fun y hy => h y (List.mem_cons_of_mem _ hy)), if_pos ⟨rfl, rfl⟩]; rfl
theorem hasL_one (x y : Int) : hasL [x] y = decide (y = x) := by
  rw [Bool.eq_iff_iff, hasL_mem]; simp
theorem runs_single {x : Int} : ∀ (t : List Int), t.Nodup → x ∈ t → runsG [x] false t = 1
  | [], _, h => by simp at h
  | y :: t, hn, h => by
    rw [List.nodup_cons] at hn
    rw [runsG]
    by_cases hy : y = x
    · rw [if_pos ⟨by rw [hasL_one, decide_eq_true hy], rfl⟩, hasL_one, decide_eq_true hy, runs_none t true (fun z hz => by rw [hasL_one]; exact decide_eq_false (fun e => hn.1 (by rw [hy, ← e]; exact hz)))]; rfl
    · have hx : x ∈ t := by
        rcases List.mem_cons.1 h with h | h
        · exact absurd h.symm hy
        · exact h
      have h1 : hasL [x] y = false := by rw [hasL_one]; exact decide_eq_false hy
      rw [h1, runs_single t hn.2 hx, if_neg (by simp)]; rfl
theorem form_one {L x : Int} (h0 : 0 ≤ x) (h : x < L) : formE L [x] = 0 := by
  rw [formE, if_neg (by simp), numE, if_neg (by omega), if_neg (by omega)]; rfl
theorem form_up {L : Int} (h1 : 1 ≤ L) : formE L (up L L.toNat) = 0 := by
  rw [formE, if_neg (by rw [up_len]; omega)]
  have := numE_up (n := L) (fun _ => true) L.toNat (-1) (by omega) (by omega)
  rwa [List.filter_eq_self.2 (fun _ _ => rfl)] at this
theorem count_fit {L : Int} {fs : List (List Int)} (hc : checkE L fs = 0) : countE L fs = (fitL L fs).length := by
  rw [(fits_eq L fs).2.2.1, refCount, if_neg (by omega)]

/-! ### an order and its opposite -/
theorem ext_nodup (n : Int) : ∀ (m : Nat) (begun : List Int), (ext n m begun).Nodup
  | 0, _ => by simp [ext]
  | m + 1, begun => by
    rw [ext, List.Nodup, List.pairwise_flatMap]
    constructor
    · intro x _
      split
      · exact List.Pairwise.nil
      · exact (ext_nodup n m (begun ++ [x])).map _ fun a b h e => h (List.cons_inj_right x |>.1 e)
    · refine (up_nodup n n.toNat).imp fun {x y} hxy a ha b hb hab => ?_
      split at ha
      · simp at ha
      · split at hb
        · simp at hb
        · obtain ⟨a', _, rfl⟩ := List.mem_map.1 ha
          obtain ⟨b', _, rfl⟩ := List.mem_map.1 hb
          injection hab with h1 _
          exact hxy h1
theorem fitL_nodup (L : Int) (fs : List (List Int)) : (fitL L fs).Nodup := by
  refine List.Pairwise.filter _ ?_
  rw [allL, allG_ext]
  exact (ext_nodup L L.toNat []).map _ fun a b h e => h (by simpa using e)
theorem mem_allL {L : Int} (h0 : 0 ≤ L) {o : List Int} (hP : Perm L o) : o ∈ allL L := by
  rw [allL, allG_ext, List.mem_map]
  exact ⟨o, ext_all L _ _ o (perm_len h0 hP) hP.nodup (fun x hx => by have := (hP.mem x).1 hx; exact ⟨this.1, this.2, by simp⟩), by simp⟩
theorem runs_rev {L : Int} {f o : List Int} (h0 : 0 ≤ L) (h7 : L ≤ 7) (hP : Perm L o) : runsL f o.reverse = runsL f o := by
  have hl := perm_len h0 hP
  have hbl : (o.map (hasL f)).length = L.toNat := by rw [List.length_map, hl]
  have ht := (place_table L.toNat (by omega) (o.map (hasL f)) (by rw [← hbl]; exact allB_mem _)).1
  have er : (o.reverse.map (hasL f)) = (o.map (hasL f)).reverse := List.map_reverse ..
  simp only [runsL, runs_BL, er]
  exact ht
theorem fitL_rev {L : Int} {fs : List (List Int)} (h0 : 0 ≤ L) (h7 : L ≤ 7) {o : List Int} (h : o ∈ fitL L fs) : o.reverse ∈ fitL L fs := by
  have hP := fitL_perm h0 h
  refine List.mem_filter.2 ⟨mem_allL h0 hP.rev, ?_⟩
  have hf := (List.mem_filter.1 h).2
  rw [fitsL, List.all_eq_true] at hf ⊢
  intro f hff
  rw [runs_rev h0 h7 hP]
  exact hf f hff
/-- Does an order begin lower than it ends? -/
def lowB (o : List Int) : Bool := decide (ix 0 o 0 < ix 0 o ((o.length : Int) - 1))
theorem lowB_rev {L : Int} (h2 : 2 ≤ L) {o : List Int} (hP : Perm L o) : lowB o.reverse = !lowB o := by
  have hl := perm_len (by omega) hP
  have hne : ix 0 o 0 ≠ ix 0 o ((o.length : Int) - 1) := fun e => by
    have := ix_inj hP.nodup (Int.le_refl 0) (by omega) (by omega) (by omega) e
    omega
  rw [lowB, lowB, List.length_reverse, ix_rev (by omega) (by omega), ix_rev (by omega) (by omega)]
  rw [show (o.length : Int) - 1 - ((o.length : Int) - 1) = 0 by omega, Int.sub_zero]
  by_cases h : ix 0 o 0 < ix 0 o ((o.length : Int) - 1)
  · rw [decide_eq_true h, decide_eq_false (by omega)]; rfl
  · rw [decide_eq_false h, decide_eq_true (by omega)]; rfl
theorem fitL_even {L : Int} {fs : List (List Int)} (h2 : 2 ≤ L) (h7 : L ≤ 7) : (fitL L fs).length % 2 = 0 := by
  have h0 : 0 ≤ L := by omega
  have hnd := fitL_nodup L fs
  have hsame : ((fitL L fs).filter lowB).length = ((fitL L fs).filter fun o => decide ¬ lowB o = true).length := by
    rw [← List.length_map (f := List.reverse)]
    refine List.Perm.length_eq ((List.perm_ext_iff_of_nodup ((hnd.filter _).map _ fun a b h e => h (List.reverse_inj.1 e)) (hnd.filter _)).2 fun o => ?_)
    rw [List.mem_map, List.mem_filter]
    constructor
    · rintro ⟨a, ha, rfl⟩
      obtain ⟨ha1, ha2⟩ := List.mem_filter.1 ha
      refine ⟨fitL_rev h0 h7 ha1, ?_⟩
      rw [lowB_rev h2 (fitL_perm h0 ha1), ha2]; rfl
    · rintro ⟨h1, h3⟩
      refine ⟨o.reverse, List.mem_filter.2 ⟨fitL_rev h0 h7 h1, ?_⟩, List.reverse_reverse o⟩
      rw [lowB_rev h2 (fitL_perm h0 h1)]
      simpa using h3
  have := List.length_eq_countP_add_countP lowB (l := fitL L fs)
  rw [List.countP_eq_length_filter, List.countP_eq_length_filter, ← hsame] at this
  omega

/-! ### what StyleMore says -/
theorem all_table : ∀ n < 7, (allL ((n : Nat) : Int)).length = (facN n).toNat := by decide +kernel
theorem fitL_nil (L : Int) : fitL L [] = allL L := List.filter_eq_self.2 fun _ _ => rfl
theorem more_law {L one : Int} {fs : List (List Int)} (hc : checkE L fs = 0) (h6 : L ≤ 6) (h8 : (fs.length : Int) ≤ 8) : moreP L fs one := by
  have hk := check_ok hc
  have h0 : 0 ≤ L := by omega
  have ho0 : 0 ≤ one % L := Int.emod_nonneg _ (by omega)
  have ho1 : one % L < L := Int.emod_lt_of_pos _ (by omega)
  have hc1 := check_snoc hc (form_one ho0 ho1) (by omega)
  have hc2 := check_snoc hc1 (form_up (by omega)) (by simp; omega)
  rw [List.append_assoc] at hc2
  have hc2' : checkE L (fs ++ [[one % L], up L L.toNat]) = 0 := hc2
  refine ⟨hc, by rw [count_fit hc]; omega, hc2', ?_, fun hz => ?_, fun hnz => ?_⟩
  · rw [count_fit hc2', count_fit hc]
    have : fitL L (fs ++ [[one % L], up L L.toNat]) = fitL L fs := by
      refine List.filter_congr fun o ho => ?_
      have hP := allL_perm h0 ho
      have e1 : runsL [one % L] o = 1 := runs_single o hP.nodup ((hP.mem _).2 ⟨ho0, ho1⟩)
      have e2 : runsL (up L L.toNat) o = 1 := runs_all (fun x hx => (hasL_mem _ _).2 ((up_mem _).2 (by have := (hP.mem x).1 hx; omega))) (fun e => by have := perm_len h0 hP; rw [e] at this; simp at this; omega)
      simp [fitsL, e1, e2]
    rw [this]
  · have hf : fs = [] := List.eq_nil_of_length_eq_zero (by omega)
    subst hf
    rw [count_fit hc, fitL_nil]
    have := all_table L.toNat (by omega)
    rw [Int.toNat_of_nonneg h0] at this
    rw [this]
    have := facN_bd L.toNat (by omega)
    omega
  · have hi0 : 0 ≤ one % (fs.length : Int) := Int.emod_nonneg _ hnz
    have hi1 : one % (fs.length : Int) < (fs.length : Int) := Int.emod_lt_of_pos _ (by omega)
    generalize one % (fs.length : Int) = i at hi0 hi1
    have hs : (fs.take i.toNat ++ fs.drop (i + 1).toNat).Sublist fs := by
      rw [show (i + 1).toNat = i.toNat + 1 by omega, ← List.eraseIdx_eq_take_drop_succ]
      exact List.eraseIdx_sublist fs i.toNat
    have hc3 := check_sub hs hc
    refine ⟨hc3, ?_, ?_⟩
    · rw [count_fit hc, count_fit hc3]
      have := filter_le (fitsL fs) (fitsL (fs.take i.toNat ++ fs.drop (i + 1).toNat)) (allL L) fun o _ ho => by
        rw [fitsL, List.all_eq_true] at ho ⊢
        exact fun f hf => ho f (hs.subset hf)
      rw [fitL, fitL]
      omega
    · by_cases h1 : L = 1
      · exact .inl h1
      · right
        have := fitL_even (fs := fs) (show 2 ≤ L by omega) (by omega)
        rw [count_fit hc]
        omega
theorem more_made (ly mn one : Int) (zs : List Int) : moreP (madeN 6 ly) (madeF 6 8 ly mn zs) one := by
  have hN := madeN_bd (a := 6) (ly := ly) (by omega)
  exact more_law (made_ok (by omega) (by omega) (by omega) (by omega)) (by omega) (made_len (by omega))
end Go.Proofs.Ytjmpojoimcljoaa
