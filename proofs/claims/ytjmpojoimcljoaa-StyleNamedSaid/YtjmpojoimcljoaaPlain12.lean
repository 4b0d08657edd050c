/-
  WHAT IS PROVED HERE: what StyleNamed says is so, in plain words: short lists are sorted; layers with other numbers. Conditions stand in each statement.
-/
import Derived.Test.YtjmpojoimcljoaaPlain11
namespace Go.Proofs.Ytjmpojoimcljoaa
open Go.Wk

/-! ### short lists, sorted -/
theorem ix_nat {z : List Int} {q : Nat} (h : q < z.length) : ix 0 z (q : Int) = z[q] := by
  rw [ix, List.getD_eq_getElem?_getD, Int.toNat_natCast, List.getElem?_eq_getElem h]; rfl
theorem ix_setN {z : List Int} {j q : Nat} {x : Int} (h : j < z.length) : ix 0 (z.set j x) (q : Int) = if q = j then x else ix 0 z q := by
  have := ix_set (xs := z) (j := (j : Int)) (q := (q : Int)) (x := x) (by omega) (by omega) (by omega)
  rw [Int.toNat_natCast] at this
  rw [this]
  by_cases hq : q = j
  · rw [if_pos hq, if_pos (by omega)]
  · rw [if_neg hq, if_neg (by omega)]
theorem sinkD_perm : ∀ (j : Nat) (z : List Int), j < z.length → (sinkD z j).Perm z
  | 0, z, _ => List.Perm.refl _
  | j + 1, z, h => by
    rw [sinkD]
    split
    · refine (sinkD_perm j _ (by simp only [List.length_set]; omega)).trans ?_
      rw [ix_nat (by omega), ix_nat h]
      exact List.set_set_perm h (by omega)
    · exact List.Perm.refl _
/-- All but the element at j are sorted as far as i, and it is not higher than those behind it. -/
def nearS (z : List Int) (i j : Nat) : Prop := (∀ p q : Nat, p < q → q ≤ i → p ≠ j → q ≠ j → ix 0 z p ≤ ix 0 z q) ∧ ∀ q : Nat, j < q → q ≤ i → ix 0 z j ≤ ix 0 z q
theorem sinkD_sorts : ∀ (j : Nat) (z : List Int) (i : Nat), j ≤ i → i < z.length → nearS z i j → (∀ p q : Nat, p < q → q ≤ i → ix 0 (sinkD z j) p ≤ ix 0 (sinkD z j) q) ∧ ∀ q : Nat, i < q → ix 0 (sinkD z j) q = ix 0 z q
  | 0, z, i, _, hi, ⟨h1, h2⟩ => by
    refine ⟨fun p q hpq hq => ?_, fun _ _ => rfl⟩
    rw [sinkD]
    by_cases hp : p = 0
    · subst hp; exact h2 q hpq hq
    · exact h1 p q hpq hq hp (by omega)
  | j + 1, z, i, hj, hi, ⟨h1, h2⟩ => by
    rw [sinkD]
    split
    · rename_i hlt
      have hl : (z.set (j + 1) (ix 0 z (j : Nat))).length = z.length := List.length_set
      have e : ∀ q : Nat, ix 0 ((z.set (j + 1) (ix 0 z (j : Nat))).set j (ix 0 z ((j + 1 : Nat) : Int))) (q : Int) = if q = j then ix 0 z ((j + 1 : Nat) : Int) else if q = j + 1 then ix 0 z (j : Nat) else ix 0 z q := fun q => by
        rw [ix_setN (by rw [hl]; omega), ix_setN (by omega)]
      have ih := sinkD_sorts j ((z.set (j + 1) (ix 0 z (j : Nat))).set j (ix 0 z ((j + 1 : Nat) : Int))) i (by omega) (by simp only [List.length_set]; omega) ⟨fun p q hpq hq hp hq2 => by
          rw [e, e, if_neg hp, if_neg hq2]
          by_cases c1 : p = j + 1
          · rw [if_pos c1, if_neg (by omega)]; exact h1 j q (by omega) hq (by omega) (by omega)
          · rw [if_neg c1]
            by_cases c2 : q = j + 1
            · rw [if_pos c2]; exact h1 p j (by omega) (by omega) (by omega) (by omega)
            · rw [if_neg c2]; exact h1 p q hpq hq c1 c2, fun q hq1 hq2 => by
          rw [e, e, if_pos rfl, if_neg (by omega)]
          by_cases c2 : q = j + 1
          · rw [if_pos c2]; omega
          · rw [if_neg c2]; exact h2 q (by omega) hq2⟩
      refine ⟨ih.1, fun q hq => ?_⟩
      rw [ih.2 q hq, e, if_neg (by omega), if_neg (by omega)]
    · rename_i hlt
      refine ⟨fun p q hpq hq => ?_, fun _ _ => rfl⟩
      by_cases c1 : p = j + 1
      · subst c1; exact h2 q hpq hq
      · by_cases c2 : q = j + 1
        · subst c2
          by_cases c3 : p = j
          · subst c3; omega
          · have := h1 p j (by omega) (by omega) c1 (by omega)
            omega
        · exact h1 p q hpq hq c1 c2
theorem sortG_spec : ∀ (m : Nat) (z : List Int) (i : Nat), i + m ≤ max z.length 1 → 1 ≤ i → (∀ p q : Nat, p < q → q < i → ix 0 z p ≤ ix 0 z q) → (sortG z i m).Perm z ∧ ∀ p q : Nat, p < q → q < i + m → ix 0 (sortG z i m) p ≤ ix 0 (sortG z i m) q
  | 0, z, i, _, _, hs => ⟨List.Perm.refl _, hs⟩
  | m + 1, z, i, hl, h1, hs => by
    have hi : i < z.length := by omega
    have hp := sinkD_perm i z hi
    have hk := sinkD_sorts i z i (Nat.le_refl _) hi ⟨fun p q hpq hq _ hq2 => hs p q hpq (by omega), fun q h2 h3 => by omega⟩
    have ih := sortG_spec m (sinkD z i) (i + 1) (by rw [hp.length_eq]; omega) (by omega) (fun p q hpq hq => hk.1 p q hpq (by omega))
    rw [sortG]
    refine ⟨ih.1.trans hp, fun p q hpq hq => ih.2 p q hpq (by omega)⟩
theorem sortW_perm (ys : List Int) : (sortW ys).Perm ys := (sortG_spec (ys.length - 1) ys 1 (by omega) (by omega) (fun p q _ hq => by omega)).1
theorem sortW_sorted (ys : List Int) : (sortW ys).Pairwise (· ≤ ·) := by
  have h := (sortG_spec (ys.length - 1) ys 1 (by omega) (by omega) (fun p q _ hq => by omega)).2
  have hl := (sortW_perm ys).length_eq
  rw [List.pairwise_iff_getElem]
  intro i j hi hj hij
  have := h i j hij (by omega)
  rw [show sortG ys 1 (ys.length - 1) = sortW ys from rfl, ix_nat hi, ix_nat hj] at this
  exact this

/-! ### layers with other numbers -/
theorem numE_of {L : Int} : ∀ (ns : List Int) (last : Int), ns.Pairwise (· < ·) → (∀ x ∈ ns, 0 ≤ x ∧ x < L) → (∀ x ∈ ns, last < x) → numE L last ns = 0
  | [], _, _, _, _ => rfl
  | n :: ns, last, hp, hr, hl => by
    have h1 := hr n (List.mem_cons_self ..)
    have h2 := hl n (List.mem_cons_self ..)
    rw [List.pairwise_cons] at hp
    rw [numE, if_neg (by omega), if_neg (by omega)]
    exact numE_of ns n hp.2 (fun x hx => hr x (List.mem_cons_of_mem _ hx)) hp.1
theorem formsE_of {L : Int} : ∀ {fs : List (List Int)}, (∀ f ∈ fs, formE L f = 0) → formsE L fs = 0
  | [], _ => rfl
  | f :: fs, h => by
    rw [formsE, if_pos (h f (List.mem_cons_self ..))]
    exact formsE_of fun g hg => h g (List.mem_cons_of_mem _ hg)
theorem nodup_lists {L : Int} {f : List Int} (h0 : 0 ≤ L) (hn : f.Nodup) (hr : ∀ x ∈ f, 0 ≤ x ∧ x < L) : (f.length : Int) ≤ L := by
  have := List.Nodup.length_le_of_subset hn (l₂ := up L L.toNat) fun x hx => (up_mem _).2 (by have := hr x hx; omega)
  rw [up_len] at this
  omega
section
variable {L : Int} {to : List Int} (h0 : 0 ≤ L) (hT : Perm L to)
include h0 hT
theorem to_len : (to.length : Int) = L := by have := perm_len h0 hT; omega
theorem to_in {x : Int} (hx : 0 ≤ x ∧ x < L) : 0 ≤ ix 0 to x ∧ ix 0 to x < L := (hT.mem _).1 (ix_mem hx.1 (by rw [to_len h0 hT]; exact hx.2))
theorem to_inj {x y : Int} (hx : 0 ≤ x ∧ x < L) (hy : 0 ≤ y ∧ y < L) (h : ix 0 to x = ix 0 to y) : x = y := by
  have := to_len h0 hT
  exact ix_inj hT.nodup hx.1 (by omega) hy.1 (by omega) h
theorem to_onto {y : Int} (hy : 0 ≤ y ∧ y < L) : ∃ x, (0 ≤ x ∧ x < L) ∧ ix 0 to x = y := by
  obtain ⟨i, i0, i1, hi⟩ := mem_ix ((hT.mem y).2 hy)
  exact ⟨i, ⟨i0, by rw [← to_len h0 hT]; exact i1⟩, hi⟩
omit h0 hT in
theorem renF_mem {f : List Int} {y : Int} : y ∈ renF to f ↔ ∃ x ∈ f, ix 0 to x = y := by
  rw [renF, (sortW_perm _).mem_iff, List.mem_map]
theorem renF_has {f : List Int} (hf : ∀ x ∈ f, 0 ≤ x ∧ x < L) {x : Int} (hx : 0 ≤ x ∧ x < L) : hasL (renF to f) (ix 0 to x) = hasL f x := by
  rw [Bool.eq_iff_iff, hasL_mem, hasL_mem, renF_mem]
  constructor
  · rintro ⟨z, hz, he⟩
    rw [← to_inj h0 hT (hf z hz) hx he]; exact hz
  · exact fun h => ⟨x, h, rfl⟩
theorem map_nodup {l : List Int} (hr : ∀ x ∈ l, 0 ≤ x ∧ x < L) (hn : l.Nodup) : (l.map fun x => ix 0 to x).Nodup := by
  rw [List.Nodup, List.pairwise_map]
  exact hn.imp_of_mem fun ha hb hab he => hab (to_inj h0 hT (hr _ ha) (hr _ hb) he)
theorem renF_ok {f : List Int} (hf : ∀ x ∈ f, 0 ≤ x ∧ x < L) (hne : f ≠ []) (hn : f.Nodup) : formE L (renF to f) = 0 := by
  have hl : (renF to f).length = f.length := by rw [renF, (sortW_perm _).length_eq, List.length_map]
  have hpos := List.length_pos_iff.2 hne
  have hnd : (renF to f).Nodup := (sortW_perm _).nodup_iff.2 (map_nodup h0 hT hf hn)
  have hr : ∀ x ∈ renF to f, 0 ≤ x ∧ x < L := fun x hx => by
    obtain ⟨y, hy, rfl⟩ := renF_mem.1 hx
    exact to_in h0 hT (hf y hy)
  rw [formE, if_neg (by omega)]
  refine numE_of _ _ ?_ hr (fun x hx => by have := hr x hx; omega)
  exact List.Pairwise.imp₂ (fun _ _ h1 h2 => by omega) (sortW_sorted _) hnd
theorem perm_map {l : List Int} (hP : Perm L l) : Perm L (l.map fun x => ix 0 to x) := by
  have hl := perm_len h0 hP
  refine perm_of (by rw [List.length_map, hl]; omega) (map_nodup h0 hT (fun x hx => (hP.mem x).1 hx) hP.nodup) fun y hy => ?_
  obtain ⟨x, hx, rfl⟩ := List.mem_map.1 hy
  exact to_in h0 hT ((hP.mem x).1 hx)
theorem perm_unmap {o : List Int} (hP : Perm L o) : ∃ l, Perm L l ∧ (l.map fun x => ix 0 to x) = o := by
  have gen : ∀ ys : List Int, (∀ y ∈ ys, 0 ≤ y ∧ y < L) → ∃ l : List Int, (∀ x ∈ l, 0 ≤ x ∧ x < L) ∧ (l.map fun x => ix 0 to x) = ys := by
    intro ys
    induction ys with
    | nil => exact fun _ => ⟨[], by simp, rfl⟩
    | cons y ys ih =>
      intro h
      obtain ⟨l, h1, h2⟩ := ih fun z hz => h z (List.mem_cons_of_mem _ hz)
      obtain ⟨x, hx, he⟩ := to_onto h0 hT (h y (List.mem_cons_self ..))
      refine ⟨x :: l, fun z hz => ?_, by rw [List.map_cons, he, h2]⟩
      rcases List.mem_cons.1 hz with rfl | hz
      · exact hx
      · exact h1 z hz
  obtain ⟨l, h1, h2⟩ := gen o fun y hy => (hP.mem y).1 hy
  have hl := perm_len h0 hP
  refine ⟨l, perm_of (by rw [← List.length_map (f := fun x => ix 0 to x), h2, hl]; omega) ?_ h1, h2⟩
  have hn := hP.nodup
  rw [← h2, List.Nodup, List.pairwise_map] at hn
  exact hn.imp fun hab he => hab (by rw [he])
theorem runs_map {f l : List Int} (hf : ∀ x ∈ f, 0 ≤ x ∧ x < L) (hl : ∀ x ∈ l, 0 ≤ x ∧ x < L) : runsL (renF to f) (l.map fun x => ix 0 to x) = runsL f l := by
  rw [runsL, runsL, runs_BL, runs_BL, List.map_map]
  congr 1
  exact List.map_congr_left fun x hx => renF_has h0 hT hf (hl x hx)
theorem fits_map {fs : List (List Int)} {l : List Int} (hf : okF L fs) (hl : ∀ x ∈ l, 0 ≤ x ∧ x < L) : fitsL (fs.map (renF to)) (l.map fun x => ix 0 to x) = fitsL fs l := by
  rw [Bool.eq_iff_iff, fitsL, fitsL, List.all_eq_true, List.all_eq_true]
  simp only [List.mem_map, forall_exists_index, and_imp, forall_apply_eq_imp_iff₂]
  constructor
  · intro h f hff
    have := h f hff
    rwa [runs_map h0 hT (hf f hff) hl] at this
  · intro h f hff
    rw [runs_map h0 hT (hf f hff) hl]
    exact h f hff
theorem fitL_map {fs : List (List Int)} (hf : okF L fs) : (fitL L (fs.map (renF to))).length = (fitL L fs).length := by
  rw [← List.length_map (f := fun l : List Int => l.map fun x => ix 0 to x) (as := fitL L fs)]
  refine List.Perm.length_eq ((List.perm_ext_iff_of_nodup (fitL_nodup L _) ?_).2 fun o => ?_)
  · rw [List.Nodup, List.pairwise_map]
    refine (fitL_nodup L fs).imp_of_mem fun {a b} ha hb hab he => hab ?_
    have hPa := fitL_perm h0 ha
    have hPb := fitL_perm h0 hb
    have hla := perm_len h0 hPa
    have hlb := perm_len h0 hPb
    refine ext_ix (by omega) fun q q0 q1 => ?_
    have e : ix 0 (a.map fun x => ix 0 to x) q = ix 0 (b.map fun x => ix 0 to x) q := by rw [he]
    rw [ix_mapd (d := 0) q0 q1, ix_mapd (d := 0) q0 (by omega)] at e
    exact to_inj h0 hT ((hPa.mem _).1 (ix_mem q0 q1)) ((hPb.mem _).1 (ix_mem q0 (by omega))) e
  · rw [List.mem_map]
    constructor
    · intro ho
      obtain ⟨l, hP, rfl⟩ := perm_unmap h0 hT (fitL_perm h0 ho)
      have hfo := (List.mem_filter.1 ho).2
      rw [fits_map h0 hT hf (fun x hx => (hP.mem x).1 hx)] at hfo
      exact ⟨l, List.mem_filter.2 ⟨mem_allL h0 hP, hfo⟩, rfl⟩
    · rintro ⟨l, hl, rfl⟩
      have hP := fitL_perm h0 hl
      refine List.mem_filter.2 ⟨mem_allL h0 (perm_map h0 hT hP), ?_⟩
      rw [fits_map h0 hT hf (fun x hx => (hP.mem x).1 hx)]
      exact (List.mem_filter.1 hl).2
omit hT in
theorem free_fit {fs : List (List Int)} (h7 : L ≤ 7) (hf : okF L fs) (hne : ∀ f ∈ fs, f ≠ []) : freeR L fs = true ↔ 0 < (fitL L fs).length := by
  rw [← any_free h0 h7 hf hne, List.any_eq_true, List.length_pos_iff_exists_mem]
  constructor
  · rintro ⟨o, h1, h2⟩
    refine ⟨o, List.mem_filter.2 ⟨h1, ?_⟩⟩
    rwa [← fitsW_fits hf hne (allL_perm h0 h1)]
  · rintro ⟨o, ho⟩
    obtain ⟨h1, h2⟩ := List.mem_filter.1 ho
    refine ⟨o, h1, ?_⟩
    rwa [fitsW_fits hf hne (allL_perm h0 h1)]
end
theorem named_law {L : Int} {fs : List (List Int)} {to : List Int} (hc : checkE L fs = 0) (hT : Perm L to) : namedP L fs to := by
  have hk := check_ok hc
  have h0 : 0 ≤ L := by omega
  have hne := check_ne hc
  have hn := check_nodup hc
  have hf := hk.2.2.2
  have hcg : checkE L (fs.map (renF to)) = 0 := by
    rw [checkE, if_neg (by omega), if_neg (by rw [List.length_map]; omega)]
    refine formsE_of fun g hg => ?_
    obtain ⟨f, hff, rfl⟩ := List.mem_map.1 hg
    exact renF_ok h0 hT (hf f hff) (hne f hff) (hn f hff)
  have hkg := check_ok hcg
  have hneg := check_ne hcg
  have hlen := fitL_map h0 hT hf
  have hcc : countE L (fs.map (renF to)) = countE L fs := by rw [count_fit hcg, count_fit hc, hlen]
  have hsubf : ∀ gs : List (List Int), gs.Sublist fs → (freeR L (gs.map (renF to)) = true ↔ freeR L gs = true) := fun gs hs => by
    have hfg : okF L gs := fun f hff => hf f (hs.subset hff)
    rw [free_fit h0 hk.2.1 hfg (fun f hff => hne f (hs.subset hff)), free_fit h0 hk.2.1 (fun f hff => hkg.2.2.2 f ((hs.map _).subset hff)) (fun f hff => hneg f ((hs.map _).subset hff)), fitL_map h0 hT hfg]
  obtain ⟨⟨gs, q1, q2, q3⟩, q4⟩ := fewest_most hc
  obtain ⟨⟨gs', r1, r2, r3⟩, r4⟩ := fewest_most hcg
  have hfl : (fewestL L (fs.map (renF to))).length = (fewestL L fs).length := by
    have h1 := r4 _ (q1.map (renF to)) ((hsubf gs q1).2 q3)
    obtain ⟨gs2, s1, rfl⟩ := List.sublist_map_iff.1 r1
    have h2 := q4 _ s1 ((hsubf gs2 s1).1 r3)
    simp only [List.length_map] at h1 r2
    omega
  have hf0 : (fewestL L fs).length = 0 ↔ 0 < countE L fs := by
    rw [count_fit hc]
    constructor
    · intro hz
      have : gs = fs := q1.eq_of_length (by omega)
      rw [this] at q3
      have := (free_fit h0 hk.2.1 hf hne).1 q3
      omega
    · intro hp
      have := q4 fs (List.Sublist.refl _) ((free_fit h0 hk.2.1 hf hne).2 (by omega))
      omega
  obtain ⟨f1, f2, f3, f4⟩ := fits_eq L fs
  have hE : ∀ gs : List (List Int), checkE L gs = 0 → firstE L gs = if (fitL L gs).length = 0 then 12 else 0 := fun gs hg => by
    rw [(fits_eq L gs).2.1, refFirst, if_neg (by omega)]
    split <;> rfl
  refine ⟨hc, to_len h0 hT, fun f hff => ?_, hcg, hcc, hfl, hf0, by rw [hE _ hcg, hE _ hc, hlen], ?_, fun hz => ?_⟩
  · have := nodup_lists h0 (hn f hff) (hf f hff); omega
  · rw [hE _ hc, count_fit hc]
    split
    · rename_i h; rw [h]; simp
    · rename_i h; simp; omega
  · have hpos : (fitL L fs).length ≠ 0 := fun e => by rw [hE _ hc, if_pos e] at hz; cases hz
    have hfirst : firstL L fs = ix [] (fitL L fs) 0 := by rw [f1, refFirst, if_neg (by omega), if_neg hpos]
    have hm : firstL L fs ∈ fitL L fs := by rw [hfirst]; exact List.mem_of_getElem? (ix_get (d := []) (by omega) (Int.le_refl 0))
    generalize firstL L fs = l at hm
    have hP := fitL_perm h0 hm
    have hfit := (List.mem_filter.1 hm).2
    have hl := perm_len h0 hP
    have key : ∀ (gs : List (List Int)) (o : List Int), checkE L gs = 0 → Perm L o → fitsL gs o = true → shownE L gs o = 0 ∧ gapsE L gs o = 0 := fun gs o hg hPo hfo => by
      have he := perm_ordered hg hPo
      obtain ⟨s1, g1, _⟩ := orders_eq L gs o
      refine ⟨by rw [s1, he], ?_⟩
      rw [g1, refGaps, if_pos he]
      exact (gaps_zero hPo gs (check_ok hg).2.2.2 (check_ne hg)).2.2 hfo
    have k1 := key fs l hc hP hfit
    have k2 := key (fs.map (renF to)) (l.map fun x => ix 0 to x) hcg (perm_map h0 hT hP) (by rw [fits_map h0 hT hf (fun x hx => (hP.mem x).1 hx)]; exact hfit)
    exact ⟨by omega, fun x hx => (hP.mem x).1 hx, k1.1, k1.2, k2.1, k2.2⟩
theorem named_made (ly mn : Int) (zs ys : List Int) (hy : 7 ≤ ys.length) : namedP (madeN 6 ly) (madeF 6 8 ly mn zs) (ordW (madeN 6 ly) ys) := by
  have hN := madeN_bd (a := 6) (ly := ly) (by omega)
  exact named_law (made_ok (by omega) (by omega) (by omega) (by omega)) (Perm.of_up (by omega) (ordW_up (by omega) (by omega)))
end Go.Proofs.Ytjmpojoimcljoaa
