/-
  WHAT IS PROVED HERE: plain laws of layer 3, no program in sight: what StyleOrders says: the error of an order, whether it fits, its gaps and its dates. Conditions: none.
-/
import Derived.Test.YtjmpojoimcljoaaPlain3
namespace Go.Proofs.Ytjmpojoimcljoaa
open Go.Wk

/-! ### places -/
def posOK (L : Int) (pre out : List Int) : Prop :=
  ∀ n, 0 ≤ n → n < L → (n ∈ pre → 0 ≤ ix 0 out n ∧ ix 0 out n < pre.length ∧ ix 0 pre (ix 0 out n) = n) ∧ (n ∉ pre → ix 0 out n = -1)
theorem ix_last (l : List Int) (x : Int) : ix 0 (l ++ [x]) l.length = x := by
  simp [ix, List.getD_eq_getElem?_getD]
theorem placesG_ord {L : Int} : ∀ (ns pre out : List Int), (out.length : Int) = L → posOK L pre out →
    (placesG L ns pre.length out).2 = ordG L pre ns ∧ ((placesG L ns pre.length out).2 = 0 → posOK L (pre ++ ns) (placesG L ns pre.length out).1 ∧ ((placesG L ns pre.length out).1.length : Int) = L)
  | [], pre, out, hl, hp => ⟨rfl, fun _ => ⟨by simpa [placesG] using hp, hl⟩⟩
  | n :: ns, pre, out, hl, hp => by
    rw [placesG, ordG]
    by_cases h1 : n < 0 ∨ L ≤ n
    · have h1' : n < 0 ∨ L - 1 < n := by omega
      rw [if_pos h1, if_pos h1']
      exact ⟨rfl, fun h => by cases h⟩
    · have h1' : ¬ (n < 0 ∨ L - 1 < n) := by omega
      rw [if_neg h1, if_neg h1']
      have hn := hp n (by omega) (by omega)
      by_cases hm : n ∈ pre
      · rw [if_pos (hn.1 hm).1, if_pos ((hasL_mem _ _).2 hm)]
        exact ⟨rfl, fun h => by cases h⟩
      · have hv := hn.2 hm
        rw [if_neg (by omega), if_neg (by rw [hasL_mem]; exact hm)]
        have hp' : posOK L (pre ++ [n]) (out.set n.toNat pre.length) := by
          intro m m0 m1
          have hm' := hp m m0 m1
          by_cases e : m = n
          · subst e
            refine ⟨fun _ => ?_, fun h => absurd (by simp) h⟩
            rw [set_ix_self m0 (by omega)]
            exact ⟨by omega, by simp; omega, ix_last _ _⟩
          · rw [set_ix_ne (by omega) m0 (fun h => e h.symm)]
            refine ⟨fun h => ?_, fun h => hm'.2 (fun h2 => h (List.mem_append_left _ h2))⟩
            have h2 : m ∈ pre := by
              rcases List.mem_append.1 h with h | h
              · exact h
              · simp only [List.mem_singleton] at h; exact absurd h e
            have h3 := hm'.1 h2
            refine ⟨h3.1, by simp; omega, ?_⟩
            rw [ix_app h3.1 h3.2.1]; exact h3.2.2
        have ih := placesG_ord ns (pre ++ [n]) (out.set n.toNat pre.length) (by rw [List.length_set]; exact hl) hp'
        have e : (((pre ++ [n]).length : Nat) : Int) = (pre.length : Int) + 1 := by simp
        rw [e] at ih
        rw [show pre ++ n :: ns = (pre ++ [n]) ++ ns by simp]
        exact ih
theorem placesR_ord {L : Int} {order : List Int} (h0 : 0 ≤ L) : (placesR L order).2 = (if (order.length : Int) ≠ L then 5 else ordG L [] order) ∧ ((placesR L order).2 = 0 → posOK L order (placesR L order).1 ∧ ((placesR L order).1.length : Int) = L) := by
  unfold placesR
  by_cases hl : (order.length : Int) ≠ L
  · rw [if_pos hl, if_pos hl]
    exact ⟨rfl, fun h => by cases h⟩
  · rw [if_neg hl, if_neg hl]
    have := placesG_ord (L := L) order [] (List.replicate L.toNat (-1)) (by simp; omega) (fun n n0 n1 => ⟨fun h => by simp at h, fun _ => by
      rw [ix, List.getD_eq_getElem?_getD, List.getElem?_replicate, if_pos (by omega)]; rfl⟩)
    simpa using this
theorem ordG_perm {L : Int} : ∀ (ns pre : List Int), pre.Nodup → (∀ x ∈ pre, 0 ≤ x ∧ x < L) → ordG L pre ns = 0 → (pre ++ ns).Nodup ∧ ∀ x ∈ pre ++ ns, 0 ≤ x ∧ x < L
  | [], pre, h1, h2, _ => by simpa using ⟨h1, h2⟩
  | n :: ns, pre, h1, h2, h => by
    rw [ordG] at h
    split at h
    · cases h
    · rename_i hr
      split at h
      · cases h
      · rename_i hs
        rw [hasL_mem] at hs
        have hok : metOk L (pre ++ [n]) := metOk.add ⟨h1, h2⟩ (by omega) (by omega) (hasL_not.2 hs)
        have := ordG_perm ns (pre ++ [n]) hok.1 hok.2 h
        simpa using this
theorem perm_ord {L : Int} {order : List Int} (hl : (order.length : Int) = L) (h : ordG L [] order = 0) : Perm L order := by
  have := ordG_perm order [] (by simp) (by simp) h
  exact perm_of hl (by simpa using this.1) (by simpa using this.2)

/-! ### a form's places -/
theorem placeS_has {f : Int} : ∀ (ps : List Int) (k a j : Int), InK .u8 a → 0 ≤ j → j ≤ 7 → (∀ p ∈ ps, 0 ≤ p ∧ p ≤ 7) →
    (hasS (placeS f k ps a) j = true ↔ hasS a j = true ∨ ∃ n, k ≤ n ∧ n < k + ps.length ∧ hasS f n = true ∧ ix 0 ps (n - k) = j)
  | [], k, a, j, _, _, _, _ => by
    rw [placeS]
    constructor
    · exact .inl
    · rintro (h | ⟨n, h1, h2, _⟩)
      · exact h
      · simp at h2; omega
  | p :: ps, k, a, j, ha, j0, j7, hp => by
    have hp0 := hp p (List.mem_cons_self ..)
    have hia : InK .u8 (if hasS f k = true then withS a p else a) := by split <;> first | exact withS_in _ _ | exact ha
    rw [placeS, placeS_has ps (k + 1) _ j hia j0 j7 (fun x hx => hp x (List.mem_cons_of_mem _ hx))]
    have hcons : ∀ n, k + 1 ≤ n → ix 0 (p :: ps) (n - k) = ix 0 ps (n - (k + 1)) := by
      intro n hn
      rw [ix, ix, show (n - k).toNat = (n - (k + 1)).toNat + 1 by omega]; rfl
    constructor
    · rintro (h | ⟨n, h1, h2, h3, h4⟩)
      · split at h
        · rename_i hk
          rw [has_with ha hp0.1 hp0.2 j0 j7, Bool.or_eq_true, decide_eq_true_eq] at h
          rcases h with h | h
          · exact .inl h
          · exact .inr ⟨k, by omega, by simp; omega, hk, by rw [show k - k = 0 by omega]; exact h.symm⟩
        · exact .inl h
      · exact .inr ⟨n, by omega, by simp; omega, h3, by rw [hcons n h1]; exact h4⟩
    · rintro (h | ⟨n, h1, h2, h3, h4⟩)
      · left
        split
        · rw [has_with ha hp0.1 hp0.2 j0 j7, h]; rfl
        · exact h
      · by_cases e : n = k
        · subst e
          left
          rw [if_pos h3, has_with ha hp0.1 hp0.2 j0 j7, Bool.or_eq_true, decide_eq_true_eq]
          right
          rw [show n - n = 0 by omega] at h4
          exact h4.symm
        · right
          simp only [List.length_cons] at h2
          exact ⟨n, by omega, by omega, h3, by rw [← hcons n (by omega)]; exact h4⟩
theorem ix_inj {l : List Int} (hn : l.Nodup) {i j : Int} (i0 : 0 ≤ i) (i1 : i < l.length) (j0 : 0 ≤ j) (j1 : j < l.length) (h : ix 0 l i = ix 0 l j) : i = j := by
  have h1 := ix_get (d := (0 : Int)) i1 i0
  have h2 := ix_get (d := (0 : Int)) j1 j0
  rw [h, ← h2] at h1
  have := (List.getElem?_inj (by omega) hn).1 h1
  omega
theorem placeS_form {L : Int} (h7 : L ≤ 7) {f order out : List Int} (hf : ∀ x ∈ f, 0 ≤ x ∧ x < L) (hP : Perm L order) (hl : (order.length : Int) = L) (hp : posOK L order out) (ho : (out.length : Int) = L) {j : Int} (j0 : 0 ≤ j) (j7 : j ≤ 7) :
    hasS (placeS (setF 0 f) 0 out 0) j = (decide (j < L) && hasL f (ix 0 order j)) := by
  have hz : InK .u8 (0 : Int) := in_u8 (by omega) (by omega)
  have hout : ∀ p ∈ out, 0 ≤ p ∧ p ≤ 7 := by
    intro p hp'
    obtain ⟨n, n0, n1, rfl⟩ := mem_ix hp'
    have := (hp n n0 (by omega)).1 ((hP.mem n).2 ⟨n0, by omega⟩)
    omega
  rw [Bool.eq_iff_iff, placeS_has out 0 0 j hz j0 j7 hout, has_zero j0 j7, Bool.and_eq_true, decide_eq_true_eq, hasL_mem]
  constructor
  · rintro (h | ⟨n, h1, h2, h3, h4⟩)
    · cases h
    · rw [has_form h7 hf h1 (by omega), decide_eq_true_eq] at h3
      have := (hp n h1 (by omega)).1 ((hP.mem n).2 ⟨h1, by omega⟩)
      rw [show n - 0 = n by omega] at h4
      rw [h4] at this
      exact ⟨by omega, by rw [this.2.2]; exact h3⟩
  · rintro ⟨h1, h2⟩
    right
    have hr := hf _ h2
    have := (hp _ hr.1 hr.2).1 ((hP.mem _).2 hr)
    refine ⟨ix 0 order j, hr.1, by omega, by rw [has_form h7 hf hr.1 (by omega)]; exact decide_eq_true h2, ?_⟩
    rw [show ix 0 order j - 0 = ix 0 order j by omega]
    exact ix_inj hP.nodup this.1 (by omega) j0 (by omega) this.2.2

/-! ### runs and dates, of Bools -/
def runsBL : Bool → List Bool → Int
  | _, [] => 0
  | p, x :: xs => (if x = true ∧ p = false then 1 else 0) + runsBL x xs
def dateBL : Int → List Bool → Int × Int → Int × Int
  | _, [], x => x
  | k, o :: os, x => dateBL (k + 1) os (if o = true then (min x.1 k, max x.2 k) else x)
theorem runs_BL (f : List Int) : ∀ (o : List Int) (p : Bool), runsG f p o = runsBL p (o.map (hasL f))
  | [], _ => rfl
  | x :: o, p => by rw [runsG, List.map_cons, runsBL, runs_BL f o]
theorem date_BL (f : List Int) : ∀ (o : List Int) (k : Int) (x : Int × Int), dateG f k o x = dateBL k (o.map (hasL f)) x
  | [], _, _ => rfl
  | y :: o, k, x => by rw [dateG, List.map_cons, dateBL, date_BL f o]
def bitsL (L s : Nat) : List Bool := (List.range L).map fun (j : Nat) => hasS (s : Int) (j : Int)
theorem gap_table : ∀ L < 8, ∀ s < 2 ^ L, gapS (s : Nat) = runsBL false (bitsL L s) - 1 := by decide +kernel
theorem date_table : ∀ L < 8, ∀ s < 2 ^ L, s ≠ 0 → (tabAt ntz8tab (s : Nat), tabAt len8tab (s : Nat) - 1) = dateBL 0 (bitsL L s) ((L : Nat), 0) := by decide +kernel
theorem form_facts {L : Int} (h0 : 0 ≤ L) (h7 : L ≤ 7) {f order out : List Int} (hf : ∀ x ∈ f, 0 ≤ x ∧ x < L) (hne : f ≠ []) (hP : Perm L order) (hl : (order.length : Int) = L) (hp : posOK L order out) (ho : (out.length : Int) = L) :
    gapS (placeS (setF 0 f) 0 out 0) = runsL f order - 1 ∧ (tabAt ntz8tab (placeS (setF 0 f) 0 out 0), tabAt len8tab (placeS (setF 0 f) 0 out 0) - 1) = dateG f 0 order (L, 0) := by
  have hz : InK .u8 (0 : Int) := in_u8 (by omega) (by omega)
  have hi : InK .u8 (placeS (setF 0 f) 0 out 0) := placeS_in _ _ _ _ hz
  have hb := bd_u8 hi
  have hh : ∀ j, 0 ≤ j → j ≤ 7 → hasS (placeS (setF 0 f) 0 out 0) j = (decide (j < L) && hasL f (ix 0 order j)) := fun j j0 j7 => placeS_form h7 hf hP hl hp ho j0 j7
  obtain ⟨s, hs⟩ := Int.eq_ofNat_of_zero_le hb.1
  rw [hs] at hh hi hb ⊢
  have hlt : s < 2 ^ L.toNat := by
    refine Nat.lt_pow_two_of_testBit s fun i hi' => ?_
    by_cases h8 : i ≤ 7
    · have := hh i (by omega) (by omega)
      rw [hasS_nat hi (by omega) (by omega), decide_eq_false (by omega), Bool.false_and] at this
      exact this
    · exact Nat.testBit_lt_two_pow (Nat.lt_of_lt_of_le (show s < 2 ^ 8 by omega) (Nat.pow_le_pow_right (by decide) (by omega)))
  have hbl : order.map (hasL f) = bitsL L.toNat s := by
    refine List.ext_getElem (by simp [bitsL]; omega) fun i h1 h2 => ?_
    have hi1 : i < order.length := by simpa using h1
    simp only [bitsL, List.getElem_map, List.getElem_range]
    rw [hh i (by omega) (by omega), decide_eq_true (by omega), Bool.true_and]
    congr 1
    simp [ix, List.getD_eq_getElem?_getD, hi1]
  have hLL : ((L.toNat : Nat) : Int) = L := by omega
  constructor
  · rw [runsL, runs_BL, hbl]
    exact gap_table L.toNat (by omega) s hlt
  · rw [date_BL, hbl]
    have hs0 : s ≠ 0 := by
      intro e
      subst e
      obtain ⟨y, hy⟩ := List.exists_mem_of_ne_nil f hne
      have hyr := hf y hy
      obtain ⟨j, j0, j1, hj⟩ := mem_ix ((hP.mem y).2 hyr)
      have := hh j j0 (by omega)
      rw [hj, (hasL_mem _ _).2 hy, decide_eq_true (by omega)] at this
      rw [show ((0 : Nat) : Int) = 0 from rfl, has_zero j0 (by omega)] at this
      cases this
    have := date_table L.toNat (by omega) s hlt hs0
    rw [hLL] at this
    exact this
theorem runs_pos {L : Int} {f order : List Int} (hf : ∀ x ∈ f, 0 ≤ x ∧ x < L) (hne : f ≠ []) (hP : Perm L order) : 1 ≤ runsL f order := by
  have hb := runsG_bd f order false
  have hz : runsG f false order ≠ 0 := by
    intro h
    rw [runs_zero, List.any_eq_false] at h
    obtain ⟨y, hy⟩ := List.exists_mem_of_ne_nil f hne
    exact h y ((hP.mem y).2 (hf y hy)) ((hasL_mem _ _).2 hy)
  rw [runsL]; omega
theorem gaps_zero {L : Int} {order : List Int} (hP : Perm L order) : ∀ fs : List (List Int), okF L fs → (∀ f ∈ fs, f ≠ []) → 0 ≤ gapsG order fs ∧ (gapsG order fs = 0 ↔ fitsL fs order = true)
  | [], _, _ => by simp [gapsG, fitsL]
  | f :: fs, hf, hne => by
    have h1 := runs_pos (hf f (List.mem_cons_self ..)) (hne f (List.mem_cons_self ..)) hP
    have ih := gaps_zero hP fs (fun g hg => hf g (List.mem_cons_of_mem _ hg)) (fun g hg => hne g (List.mem_cons_of_mem _ hg))
    rw [gapsG]
    refine ⟨by omega, ?_⟩
    rw [show fitsL (f :: fs) order = (decide (runsL f order = 1) && fitsL fs order) from rfl, Bool.and_eq_true, decide_eq_true_eq, ← ih.2]
    omega
theorem sum_gaps {L : Int} (h0 : 0 ≤ L) (h7 : L ≤ 7) {order out : List Int} (hP : Perm L order) (hl : (order.length : Int) = L) (hp : posOK L order out) (ho : (out.length : Int) = L) : ∀ fs : List (List Int), okF L fs → (∀ f ∈ fs, f ≠ []) →
    sumG ((setsF fs).map fun f => placeS f 0 out 0) = gapsG order fs ∧ ((setsF fs).map fun f => placeS f 0 out 0).map (fun s => (tabAt ntz8tab s, tabAt len8tab s - 1)) = fs.map fun f => dateG f 0 order (L, 0)
  | [], _, _ => ⟨rfl, rfl⟩
  | f :: fs, hf, hne => by
    have ih := sum_gaps h0 h7 hP hl hp ho fs (fun g hg => hf g (List.mem_cons_of_mem _ hg)) (fun g hg => hne g (List.mem_cons_of_mem _ hg))
    have hff := form_facts h0 h7 (hf f (List.mem_cons_self ..)) (hne f (List.mem_cons_self ..)) hP hl hp ho
    constructor
    · show gapS _ + sumG _ = _
      rw [gapsG, ← ih.1, hff.1]; rfl
    · rw [List.map_cons, ← ih.2, ← hff.2]; rfl

/-! ### what StyleOrders says -/
theorem orders_true (L : Int) (fs : List (List Int)) (order : List Int) : ordersB L fs order = true := by
  have hE : shownE L fs order = orderedE L fs order := by
    unfold shownE orderedE
    by_cases hc : checkE L fs = 0
    · have hk := check_ok hc
      have hcn : ¬ (checkE L fs ≠ 0) := by omega
      rw [if_neg hcn, if_neg hcn]
      exact (placesR_ord (by omega)).1
    · rw [if_pos hc, if_pos hc]
  by_cases hz : orderedE L fs order = 0
  · obtain ⟨hc, hl, ho⟩ := orderedE_ok hz
    have hk := check_ok hc
    have hne := check_ne hc
    have hP := perm_ord hl ho
    have hpl := placesR_ord (L := L) (order := order) (by omega)
    have hp0 : (placesR L order).2 = 0 := by rw [hpl.1, if_neg (by omega)]; exact ho
    have hpo := hpl.2 hp0
    have hs := sum_gaps (by omega) hk.2.1 hP hl hpo.1 hpo.2 fs hk.2.2.2 hne
    have hsl : shownL L fs order = (setsF fs).map fun f => placeS f 0 (placesR L order).1 0 := by rw [shownL, if_pos (by rw [hE]; exact hz)]
    have hG : gapsE L fs order = refGaps L fs order := by rw [gapsE, refGaps, if_pos hz, hsl]; exact hs.1
    have hD : datesL L fs order = refDates L fs order := by rw [datesL, refDates, if_pos hz, hsl]; exact hs.2
    have hW : (decide (shownE L fs order = 0) && decide (gapsE L fs order = 0)) = refWhole L fs order := by
      rw [refWhole, hE, hG, refGaps, if_pos hz]
      congr 1
      have := (gaps_zero hP fs hk.2.2.2 hne).2
      rw [Bool.eq_iff_iff, decide_eq_true_eq, this]
    rw [ordersB, hW, hG, hD, hE]
    simp
  · have hsl : shownL L fs order = [] := by rw [shownL, if_neg (by rw [hE]; exact hz)]
    have hG : gapsE L fs order = refGaps L fs order := by rw [gapsE, refGaps, if_neg hz, hsl]; rfl
    have hD : datesL L fs order = refDates L fs order := by rw [datesL, refDates, if_neg hz, hsl]; rfl
    have hW : (decide (shownE L fs order = 0) && decide (gapsE L fs order = 0)) = refWhole L fs order := by
      rw [refWhole, hE, decide_eq_false hz]; rfl
    rw [ordersB, hW, hG, hD, hE]
    simp
end Go.Proofs.Ytjmpojoimcljoaa
