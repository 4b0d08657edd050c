/-
  WHAT IS PROVED HERE: plain laws of layer 3, no program in sight: three layers apart by labels are those of the reference; what StyleTucker says: all orders and all three layers. Conditions: stand in each statement.
-/
import Derived.Test.YtjmpojoimcljoaaPlain7
import Derived.Test.YtjmpojoimcljoaaSpec6
namespace Go.Proofs.Ytjmpojoimcljoaa
open Go.Wk

/-! ### labels -/
theorem ix_map {g : Int → Int} {l : List Int} {u : Int} (h0 : 0 ≤ u) (h : u < l.length) : ix 0 (l.map g) u = g (ix 0 l u) := by
  have hk : u.toNat < l.length := by omega
  simp [ix, List.getD_eq_getElem?_getD, hk]
theorem up_ix {n : Int} : ∀ (k : Nat) (j : Int), 0 ≤ j → j < k → ix 0 (up n k) j = n - k + j
  | 0, j, h0, h => by omega
  | k + 1, j, h0, h => by
    by_cases hj : j = 0
    · subst hj; simp [up, ix]
    · have ih := up_ix (n := n) k (j - 1) (by omega) (by omega)
      have e : ix 0 (up n (k + 1)) j = ix 0 (up n k) (j - 1) := by
        rw [ix, ix, up, show j.toNat = (j - 1).toNat + 1 by omega]; rfl
      rw [e, ih]; omega
theorem labX_fine {R : Int → Int → Prop} (hr : ∀ x, R x x) (hs : ∀ x y, R x y → R y x) (ht : ∀ x y z, R x y → R y z → R x z) {L f0 : Int} (f00 : 0 ≤ f0) (f01 : f0 < L) : ∀ xs lab : List Int, (lab.length : Int) = L →
    (∀ x ∈ xs, (0 ≤ x ∧ x < L) ∧ R x f0) → (∀ u v, 0 ≤ u → u < L → 0 ≤ v → v < L → ix 0 lab u = ix 0 lab v → R u v) →
    (∀ u v, 0 ≤ u → u < L → 0 ≤ v → v < L → ix 0 (labX f0 xs lab) u = ix 0 (labX f0 xs lab) v → R u v) ∧
    (∀ u v, 0 ≤ u → u < L → 0 ≤ v → v < L → ix 0 lab u = ix 0 lab v → ix 0 (labX f0 xs lab) u = ix 0 (labX f0 xs lab) v) ∧
    (∀ x ∈ xs, ix 0 (labX f0 xs lab) x = ix 0 (labX f0 xs lab) f0)
  | [], lab, _, _, h => ⟨h, fun _ _ _ _ _ _ e => e, fun x hx => by simp at hx⟩
  | x :: xs, lab, hl, hx, h => by
    obtain ⟨⟨x0, x1⟩, hxf⟩ := hx x (List.mem_cons_self ..)
    have hat : ∀ u, 0 ≤ u → u < L → ix 0 (relab (ix 0 lab x) (ix 0 lab f0) lab) u = if ix 0 lab u = ix 0 lab x then ix 0 lab f0 else ix 0 lab u := fun u u0 u1 => by
      rw [relab, ix_map u0 (by omega)]
    have ih := labX_fine hr hs ht f00 f01 xs (relab (ix 0 lab x) (ix 0 lab f0) lab) (by rw [relab_len]; exact hl) (fun y hy => hx y (List.mem_cons_of_mem _ hy)) (fun u v u0 u1 v0 v1 e => by
      rw [hat u u0 u1, hat v v0 v1] at e
      by_cases hu : ix 0 lab u = ix 0 lab x
      · have hux := ht _ _ _ (h u x u0 u1 x0 x1 hu) hxf
        by_cases hv : ix 0 lab v = ix 0 lab x
        · exact ht _ _ _ hux (hs _ _ (ht _ _ _ (h v x v0 v1 x0 x1 hv) hxf))
        · rw [if_pos hu, if_neg hv] at e
          exact ht _ _ _ hux (h f0 v f00 f01 v0 v1 e)
      · by_cases hv : ix 0 lab v = ix 0 lab x
        · rw [if_neg hu, if_pos hv] at e
          exact ht _ _ _ (h u f0 u0 u1 f00 f01 e) (hs _ _ (ht _ _ _ (h v x v0 v1 x0 x1 hv) hxf))
        · rw [if_neg hu, if_neg hv] at e
          exact h u v u0 u1 v0 v1 e)
    rw [labX]
    refine ⟨ih.1, fun u v u0 u1 v0 v1 e => ih.2.1 u v u0 u1 v0 v1 (by rw [hat u u0 u1, hat v v0 v1, e]), fun y hy => ?_⟩
    rcases List.mem_cons.1 hy with rfl | hy
    · refine ih.2.1 _ _ x0 x1 f00 f01 ?_
      rw [hat _ x0 x1, hat _ f00 f01, if_pos rfl]
      split <;> rfl
    · exact ih.2.2 y hy
theorem labF_fine {fs : List (List Int)} {L p : Int} (hf : okF L fs) : ∀ (gs : List (List Int)) (lab : List Int), (∀ g ∈ gs, g ∈ fs) → (lab.length : Int) = L → (∀ u v, 0 ≤ u → u < L → 0 ≤ v → v < L → ix 0 lab u = ix 0 lab v → Cn fs p u v) →
    (∀ u v, 0 ≤ u → u < L → 0 ≤ v → v < L → ix 0 (labF p gs lab) u = ix 0 (labF p gs lab) v → Cn fs p u v) ∧
    (∀ u v, 0 ≤ u → u < L → 0 ≤ v → v < L → ix 0 lab u = ix 0 lab v → ix 0 (labF p gs lab) u = ix 0 (labF p gs lab) v) ∧
    (∀ g ∈ gs, p ∉ g → ∀ x ∈ g, ix 0 (labF p gs lab) x = ix 0 (labF p gs lab) (ix 0 g 0))
  | [], lab, _, _, h => ⟨h, fun _ _ _ _ _ _ e => e, fun g hg => by simp at hg⟩
  | g :: gs, lab, hs, hl, h => by
    rw [labF]
    by_cases hp : hasL g p = true
    · rw [if_pos hp]
      have ih := labF_fine hf gs lab (fun x hx => hs x (List.mem_cons_of_mem _ hx)) hl h
      refine ⟨ih.1, ih.2.1, fun x hx hpx => ?_⟩
      rcases List.mem_cons.1 hx with rfl | hx
      · exact absurd ((hasL_mem _ _).1 hp) hpx
      · exact ih.2.2 x hx hpx
    · rw [if_neg hp]
      have hp' : p ∉ g := fun hm => hp ((hasL_mem _ _).2 hm)
      by_cases hg0 : g = []
      · subst hg0
        have ih := labF_fine hf gs lab (fun x hx => hs x (List.mem_cons_of_mem _ hx)) hl h
        refine ⟨ih.1, ih.2.1, fun x hx hpx => ?_⟩
        rcases List.mem_cons.1 hx with rfl | hx
        · intro y hy; simp at hy
        · exact ih.2.2 x hx hpx
      have hlen : (0 : Int) < g.length := by cases g with | nil => exact absurd rfl hg0 | cons a b => simp
      have hg : ix 0 g 0 ∈ g := ix_mem (Int.le_refl _) hlen
      have hgf := hs g (List.mem_cons_self ..)
      have hb := hf g hgf
      have hb0 := hb _ hg
      have hx := labX_fine (R := Cn fs p) (fun _ => .base) (fun _ _ h => h.symm) (fun _ _ _ h1 h2 => h1.trans h2) hb0.1 hb0.2 g lab hl (fun x hx => ⟨hb x hx, .step .base hgf hx hp' hg⟩) h
      have ih := labF_fine hf gs (labX (ix 0 g 0) g lab) (fun x hx => hs x (List.mem_cons_of_mem _ hx)) (by rw [labX_len]; exact hl) hx.1
      refine ⟨ih.1, fun u v u0 u1 v0 v1 e => ih.2.1 u v u0 u1 v0 v1 (hx.2.1 u v u0 u1 v0 v1 e), fun y hy hpy x hxy => ?_⟩
      rcases List.mem_cons.1 hy with rfl | hy
      · have := hb x hxy
        exact ih.2.1 _ _ this.1 this.2 hb0.1 hb0.2 (hx.2.2 x hxy)
      · exact ih.2.2 y hy hpy x hxy
theorem join_iff {fs : List (List Int)} {L p a b : Int} (h0 : 0 ≤ L) (hf : okF L fs) (a0 : 0 ≤ a) (a1 : a < L) (b0 : 0 ≤ b) (b1 : b < L) : joinW L fs p a b = true ↔ Cn fs p a b := by
  have hu : ∀ u, 0 ≤ u → u < L → ix 0 (up L L.toNat) u = u := fun u u0 u1 => by rw [up_ix _ _ u0 (by omega)]; omega
  have h := labF_fine (p := p) hf fs (up L L.toNat) (fun _ h => h) (by rw [up_len]; omega) (fun u v u0 u1 v0 v1 e => by rw [hu u u0 u1, hu v v0 v1] at e; subst e; exact .base)
  rw [joinW, decide_eq_true_eq, labW]
  refine ⟨h.1 a b a0 a1 b0 b1, fun hc => ?_⟩
  have : ∀ {y}, Cn fs p a y → ix 0 (labF p fs (up L L.toNat)) a = ix 0 (labF p fs (up L L.toNat)) y := by
    intro y hc
    induction hc with
    | base => rfl
    | step _ h2 h3 h4 h5 ih => rw [ih, h.2.2 _ h2 h4 _ h3, h.2.2 _ h2 h4 _ h5]
  exact this hc
theorem apartW_eq {fs : List (List Int)} {L a b c : Int} (h0 : 0 ≤ L) (h7 : L ≤ 7) (hf : okF L fs) (a0 : 0 ≤ a) (a1 : a < L) (b0 : 0 ≤ b) (b1 : b < L) (c0 : 0 ≤ c) (c1 : c < L) : apartW L fs a b c = apartR fs a b c := by
  rw [Bool.eq_iff_iff, apart_Cn h7 hf a0 a1 b0 b1 c0 c1]
  have e : apartW L fs a b c = (joinW L fs a b c && (joinW L fs b c a && (joinW L fs c a b && true))) := rfl
  rw [e, Bool.and_true, Bool.and_eq_true, Bool.and_eq_true, join_iff h0 hf b0 b1 c0 c1, join_iff h0 hf c0 c1 a0 a1, join_iff h0 hf a0 a1 b0 b1]
  exact ⟨fun ⟨x, y, z⟩ => ⟨z, x, y⟩, fun ⟨x, y, z⟩ => ⟨y, z, x⟩⟩

/-! ### all three layers -/
theorem filter_up {n : Int} (p : Int → Bool) : ∀ (k : Nat) (m : Nat), m ≤ k → (∀ x, n - k ≤ x → x < n → (p x = true ↔ n - m ≤ x)) → (up n k).filter p = up n m
  | 0, m, h, _ => by rw [show m = 0 by omega]; rfl
  | k + 1, m, h, hp => by
    rw [up, List.filter_cons]
    by_cases hm : m = k + 1
    · subst hm
      rw [if_pos ((hp _ (by omega) (by omega)).2 (by omega)), filter_up p k k (Nat.le_refl _) (fun x h1 h2 => ⟨fun _ => h1, fun _ => (hp x (by omega) h2).2 (by omega)⟩), up]
    · rw [if_neg (fun hh => by have := (hp _ (by omega) (by omega)).1 hh; omega)]
      exact filter_up p k m (by omega) (fun x h1 h2 => hp x (by omega) h2)
theorem tripC_up (L a b : Int) : ∀ m : Nat, tripC L a b m = (up L m).map fun c => (a, b, c)
  | 0 => rfl
  | m + 1 => by rw [tripC, up, List.map_cons, tripC_up L a b m]
theorem find_filter {α : Type} (p q : α → Bool) : ∀ l : List α, l.find? (fun x => p x && q x) = (l.filter p).find? q
  | [] => rfl
  | x :: l => by
    rw [List.find?_cons, List.filter_cons, find_filter p q l]
    cases hp : p x
    · simp
    · rw [Bool.true_and]; simp [List.find?_cons]
theorem prC_asc {L a b : Int} (h0 : 0 ≤ L) (a0 : 0 ≤ a) (b0 : 0 ≤ b) (b1 : b < L) : (prC L a b L.toNat).filter (fun t => decide (t.1 < t.2.1 ∧ t.2.1 < t.2.2)) = if a < b then tripC L a b (L - (b + 1)).toNat else [] := by
  rw [prC, List.filter_map, tripC_up]
  by_cases hab : a < b
  · rw [if_pos hab]
    congr 1
    refine filter_up _ _ _ (by omega) (fun x h1 h2 => ?_)
    simp [hab]; omega
  · rw [if_neg hab, List.map_eq_nil_iff, List.filter_eq_nil_iff]
    intro x _
    simp [hab]
theorem prB_asc {L a : Int} (h0 : 0 ≤ L) (a0 : 0 ≤ a) (a1 : a < L) : ∀ k : Nat, (k : Int) ≤ L → (prB L a k).filter (fun t => decide (t.1 < t.2.1 ∧ t.2.1 < t.2.2)) = tripB L a (min k (L - (a + 1)).toNat)
  | 0, _ => by simp [prB, up, tripB]
  | k + 1, hk => by
    have ih := prB_asc h0 a0 a1 k (by omega)
    have e : prB L a (k + 1) = prC L a (L - (k + 1)) L.toNat ++ prB L a k := rfl
    rw [e, List.filter_append, ih, prC_asc h0 a0 (by omega) (by omega)]
    by_cases h : a < L - (k + 1)
    · rw [if_pos h, show min (k + 1) (L - (a + 1)).toNat = min k (L - (a + 1)).toNat + 1 by omega, tripB]
      have : (((min k (L - (a + 1)).toNat : Nat) : Int)) = k := by omega
      rw [this, show (L - (L - ((k : Int) + 1) + 1)).toNat = min k (L - (a + 1)).toNat by omega]
    · rw [if_neg h, List.nil_append]
      congr 1; omega
theorem prA_asc {L : Int} (h0 : 0 ≤ L) : ∀ k : Nat, (k : Int) ≤ L → (prA L k).filter (fun t => decide (t.1 < t.2.1 ∧ t.2.1 < t.2.2)) = tripA L k
  | 0, _ => by simp [prA, up, tripA]
  | k + 1, hk => by
    have ih := prA_asc h0 k (by omega)
    have e : prA L (k + 1) = prB L (L - (k + 1)) L.toNat ++ prA L k := rfl
    rw [e, List.filter_append, ih, prB_asc h0 (by omega) (by omega) _ (by omega), tripA]
    congr 2; omega
theorem whyW_eq {L : Int} {fs : List (List Int)} (h0 : 0 ≤ L) (h7 : L ≤ 7) (hf : okF L fs) : whyW L fs = match refWhyF L fs with | some t => [t.1, t.2.1, t.2.2] | none => [] := by
  have e : (prA L L.toNat).find? (pickT L fs) = refWhyF L fs := by
    have := find_filter (fun t : Int × Int × Int => decide (t.1 < t.2.1 ∧ t.2.1 < t.2.2)) (fun t => apartW L fs t.1 t.2.1 t.2.2) (prA L L.toNat)
    rw [show pickT L fs = fun t : Int × Int × Int => decide (t.1 < t.2.1 ∧ t.2.1 < t.2.2) && apartW L fs t.1 t.2.1 t.2.2 from rfl, this, prA_asc h0 _ (by omega), refWhyF]
    refine find_congr _ fun t ht => ?_
    have := tripA_mem _ t ht
    rw [apartRT, apartW_eq h0 h7 hf (by omega) (by omega) (by omega) (by omega) (by omega) (by omega)]
  rw [whyW, wy, if_pos rfl, e]
  cases refWhyF L fs <;> rfl
theorem fitW_eq {L : Int} {fs : List (List Int)} (h0 : 0 ≤ L) (hf : okF L fs) (hne : ∀ f ∈ fs, f ≠ []) : fitW L fs = fitL L fs := by
  rw [fitW, fitL]
  exact List.filter_congr fun o ho => fitsW_fits hf hne (allL_perm h0 ho)
/-- What StyleTucker says. -/
theorem tuck_law (L : Int) (fs : List (List Int)) (hc : checkE L fs = 0) : tuckP L fs := by
  have hk := check_ok hc
  have hne := check_ne hc
  have hcn : ¬ (checkE L fs ≠ 0) := by omega
  have h0 : 0 ≤ L := by omega
  have hF := fits_true L fs
  simp only [fitsB, Bool.and_eq_true, decide_eq_true_eq] at hF
  obtain ⟨⟨⟨⟨⟨⟨f1, f2⟩, f3⟩, _⟩, _⟩, _⟩, _⟩ := hF
  have hW := whys_true L fs
  have hfit := fitW_eq h0 hk.2.2.2 hne
  have hwhy := whyW_eq h0 hk.2.1 hk.2.2.2
  have hcnt := count_eq h0 hk.2.1 hk.2.2.2 hne
  have htk := tucker_count h0 hk.2.1 hk.2.2.2 hne
  have hE : whyE L fs = refWhyE L fs ∧ whyT L fs = refWhyT L fs := by
    have := hW 0 0 0
    simp only [whysB, Bool.and_eq_true, decide_eq_true_eq] at this
    obtain ⟨⟨⟨⟨⟨h1, h2⟩, h3⟩, h4⟩, _⟩, _⟩ := this
    exact ⟨h4, by ext <;> assumption⟩
  have hfree : freeR L fs = true ↔ refWhyF L fs = none := by
    rw [freeR, refWhyF, List.find?_eq_none, Bool.not_eq_true', List.any_eq_false]
  refine ⟨hc, fun a b c a0 a1 b0 b1 c0 c1 hd => ?_, ?_, ?_, fun hz => ?_, fun hz => ?_⟩
  · rw [proves_law, refProves, if_neg hcn, if_neg (by omega), if_neg (by omega), apartW_eq h0 hk.2.1 hk.2.2.2 a0 a1 b0 b1 c0 c1]
  · rw [f3, refCount, if_neg hcn, hfit]
  · rw [hfit, hwhy]
    have h1 : (fitL L fs).length = 0 ↔ ¬ freeR L fs = true := by rw [← htk]; omega
    rw [h1, hfree]
    cases refWhyF L fs <;> simp
  · rw [hfit] at hz
    have hnf : refWhyF L fs ≠ none := fun h => by
      have := htk.2 (hfree.2 h)
      omega
    have e1 : refFirst L fs = ([], 12) := by rw [refFirst, if_neg hcn, if_pos hz]
    obtain ⟨t, ht⟩ := Option.ne_none_iff_exists'.1 hnf
    have e2 : refWhyE L fs = 0 := by rw [refWhyE, if_neg hcn, if_neg (by omega), ht]; rfl
    refine ⟨by rw [f2, e1], by rw [f1, e1], by rw [hE.1, e2], ?_⟩
    rw [hE.2, refWhyT, if_pos e2, hwhy, ht]; rfl
  · rw [hfit] at hz ⊢
    have e1 : refFirst L fs = (ix [] (fitL L fs) 0, 0) := by rw [refFirst, if_neg hcn, if_neg hz]
    have e2 : refWhyE L fs = 13 := by rw [refWhyE, if_neg hcn, if_pos (by omega)]
    refine ⟨by rw [f2, e1], ?_, by rw [hE.1, e2], by rw [hE.2, refWhyT, if_neg (by omega)]⟩
    rw [f1, e1]
    cases h : fitL L fs with
    | nil => exact absurd (by rw [h]; rfl) hz
    | cons u us => rfl
theorem tuck_made (ly mn : Int) (zs : List Int) : tuckP (madeN 6 ly) (madeF 6 8 ly mn zs) := tuck_law _ _ (made_ok (by omega) (by omega) (by omega) (by omega))
end Go.Proofs.Ytjmpojoimcljoaa
