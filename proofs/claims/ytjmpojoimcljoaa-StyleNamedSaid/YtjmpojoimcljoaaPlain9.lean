/-
  WHAT IS PROVED HERE: what StyleGaps says is so, in plain words: orders by numbers are orders; gaps, dates and whole forms of an order, and of it turned round. Conditions stand in each statement.
-/
import Derived.Test.YtjmpojoimcljoaaPlain8
import Derived.Test.YtjmpojoimcljoaaSpec7
namespace Go.Proofs.Ytjmpojoimcljoaa
open Go.Wk

/-! ### orders by numbers are orders -/
theorem ordB_perm : ∀ (bs l : List Int), l.length = bs.length → (ordB l bs).Perm l
  | [], l, h => by
    have : l = [] := List.eq_nil_of_length_eq_zero h
    subst this; exact List.Perm.refl _
  | b :: bs, l, h => by
    have hl : 0 < l.length := by rw [h]; simp
    have h0 : 0 ≤ b % (l.length : Int) := Int.emod_nonneg _ (by omega)
    have h1 : b % (l.length : Int) < l.length := Int.emod_lt_of_pos _ (by omega)
    rw [ordB]
    generalize b % (l.length : Int) = k at h0 h1
    have hk : k.toNat < l.length := by omega
    have e : ix 0 l k = l[k.toNat] := by simp [ix, List.getD_eq_getElem?_getD, hk]
    have ih := ordB_perm bs (l.take k.toNat ++ l.drop (k.toNat + 1)) (by simp only [List.length_append, List.length_take, List.length_drop, List.length_cons] at h ⊢; omega)
    refine (ih.cons _).trans ?_
    rw [e]
    refine List.perm_middle.symm.trans ?_
    rw [← List.drop_eq_getElem_cons hk, List.take_append_drop]
theorem Perm.of_up {n : Int} (h0 : 0 ≤ n) {o : List Int} (h : o.Perm (up n n.toNat)) : Perm n o := by
  refine ⟨h.nodup_iff.2 (up_nodup n n.toNat), fun x => ?_⟩
  rw [h.mem_iff, up_mem]
  omega
theorem ordW_up {n : Int} {zs : List Int} (_ : 0 ≤ n) (hz : n ≤ zs.length) : (ordW n zs).Perm (up n n.toNat) :=
  ordB_perm _ _ (by rw [up_len, List.length_take]; omega)
theorem perm_up {n : Int} (h0 : 0 ≤ n) {o : List Int} (h : Perm n o) : o.Perm (up n n.toNat) :=
  (List.perm_ext_iff_of_nodup h.nodup (up_nodup n n.toNat)).2 fun x => by rw [h.mem, up_mem]; omega
theorem ordG_zero {L : Int} : ∀ (xs seen : List Int), (seen ++ xs).Nodup → (∀ x ∈ xs, 0 ≤ x ∧ x < L) → ordG L seen xs = 0
  | [], _, _, _ => rfl
  | x :: xs, seen, hn, hb => by
    have hx := hb x (List.mem_cons_self ..)
    rw [ordG, if_neg (by omega), if_neg, ordG_zero xs (seen ++ [x]) (by rw [List.append_assoc]; exact hn) (fun y hy => hb y (List.mem_cons_of_mem _ hy))]
    rw [hasL_mem]
    intro hm
    rw [List.nodup_append] at hn
    exact hn.2.2 x hm x (List.mem_cons_self ..) rfl
theorem perm_ordered {L : Int} {fs : List (List Int)} {o : List Int} (hc : checkE L fs = 0) (hP : Perm L o) : orderedE L fs o = 0 := by
  have hk := check_ok hc
  have hl := (perm_up (by omega) hP).length_eq
  rw [up_len] at hl
  rw [orderedE, if_neg (by omega), if_neg (by omega)]
  exact ordG_zero o [] (by simpa using hP.nodup) fun x hx => (hP.mem x).1 hx
theorem Perm.rev {n : Int} {o : List Int} (h : Perm n o) : Perm n o.reverse :=
  ⟨(List.reverse_perm o).nodup_iff.2 h.nodup, fun x => by rw [List.mem_reverse]; exact h.mem x⟩
theorem numE_asc {L : Int} : ∀ (ns : List Int) (last : Int), numE L last ns = 0 → ns.Pairwise (· < ·) ∧ ∀ x ∈ ns, last < x
  | [], _, _ => ⟨List.Pairwise.nil, by simp⟩
  | n :: ns, last, h => by
    rw [numE] at h
    split at h
    · cases h
    · split at h
      · cases h
      · have ih := numE_asc ns n h
        refine ⟨List.Pairwise.cons ih.2 ih.1, fun x hx => ?_⟩
        rcases List.mem_cons.1 hx with rfl | hx
        · omega
        · have := ih.2 x hx; omega
theorem form_nodup {L : Int} {f : List Int} (h : formE L f = 0) : f.Nodup := by
  rw [formE] at h
  split at h
  · cases h
  · exact (numE_asc f (-1) h).1.imp fun hab => by omega
theorem forms_each {L : Int} : ∀ {fs : List (List Int)}, formsE L fs = 0 → ∀ f ∈ fs, formE L f = 0
  | [], _, f, hf => by simp at hf
  | g :: fs, h, f, hf => by
    rw [formsE] at h
    split at h
    · rename_i h1
      rcases List.mem_cons.1 hf with rfl | hf
      · exact h1
      · exact forms_each h f hf
    · rename_i h1; exact absurd h h1
theorem check_nodup {L : Int} {fs : List (List Int)} (h : checkE L fs = 0) : ∀ f ∈ fs, f.Nodup := by
  simp only [checkE] at h
  split at h
  · cases h
  · split at h
    · cases h
    · exact fun f hf => form_nodup (forms_each h f hf)

/-! ### which places a form has -/
def allB : Nat → List (List Bool)
  | 0 => [[]]
  | n + 1 => (allB n).flatMap fun l => [true :: l, false :: l]
theorem allB_mem : ∀ l : List Bool, l ∈ allB l.length
  | [] => by simp [allB]
  | b :: l => by
    rw [List.length_cons, allB, List.mem_flatMap]
    refine ⟨l, allB_mem l, ?_⟩
    cases b <;> simp
def datePB : Int → List Bool → Int × Int → Int × Int
  | _, [], x => x
  | k, o :: os, x => datePB (k + 1) os (if o = true then (min x.1 k, k) else x)
theorem date_PB (f : List Int) : ∀ (o : List Int) (k : Int) (x : Int × Int), dateP f k o x = datePB k (o.map (hasL f)) x
  | [], _, _ => rfl
  | y :: o, k, x => by rw [dateP, List.map_cons, datePB, date_PB f o]
theorem place_table : ∀ L < 8, ∀ bl ∈ allB L, runsBL false bl.reverse = runsBL false bl ∧ (bl.any (fun b => b) = true →
    (dateBL 0 bl.reverse ((L : Nat), 0) = (((L : Nat) : Int) - 1 - (dateBL 0 bl ((L : Nat), 0)).2, ((L : Nat) : Int) - 1 - (dateBL 0 bl ((L : Nat), 0)).1) ∧ datePB 0 bl ((L : Nat), -1) = dateBL 0 bl ((L : Nat), 0) ∧
    (runsBL false bl = 1 ↔ ((bl.countP fun b => b : Nat) : Int) = (dateBL 0 bl ((L : Nat), 0)).2 - (dateBL 0 bl ((L : Nat), 0)).1 + 1)) ∧
    (0 ≤ (dateBL 0 bl ((L : Nat), 0)).1 ∧ (dateBL 0 bl ((L : Nat), 0)).1 ≤ 7 ∧ 0 ≤ (dateBL 0 bl ((L : Nat), 0)).2 ∧ (dateBL 0 bl ((L : Nat), 0)).2 ≤ 7)) := by decide +kernel
theorem form_places {L : Int} {f o : List Int} (h0 : 0 ≤ L) (h7 : L ≤ 7) (hP : Perm L o) (hf : ∀ x ∈ f, 0 ≤ x ∧ x < L) (hne : f ≠ []) (hn : f.Nodup) :
    runsL f o.reverse = runsL f o ∧ dateG f 0 o.reverse (L, 0) = (L - 1 - (dateG f 0 o (L, 0)).2, L - 1 - (dateG f 0 o (L, 0)).1) ∧ dateP f 0 o (L, -1) = dateG f 0 o (L, 0) ∧
    (runsL f o = 1 ↔ (f.length : Int) = (dateG f 0 o (L, 0)).2 - (dateG f 0 o (L, 0)).1 + 1) ∧ (0 ≤ (dateG f 0 o (L, 0)).1 ∧ (dateG f 0 o (L, 0)).1 ≤ 7 ∧ 0 ≤ (dateG f 0 o (L, 0)).2 ∧ (dateG f 0 o (L, 0)).2 ≤ 7) := by
  have hl := (perm_up h0 hP).length_eq
  rw [up_len] at hl
  have hbl : (o.map (hasL f)).length = L.toNat := by rw [List.length_map, hl]
  have ht := place_table L.toNat (by omega) (o.map (hasL f)) (by rw [← hbl]; exact allB_mem _)
  have hLL : ((L.toNat : Nat) : Int) = L := Int.toNat_of_nonneg h0
  rw [hLL] at ht
  have hany : (o.map (hasL f)).any (fun b => b) = true := by
    obtain ⟨y, hy⟩ := List.exists_mem_of_ne_nil f hne
    rw [List.any_map, List.any_eq_true]
    exact ⟨y, (hP.mem y).2 (hf y hy), (hasL_mem _ _).2 hy⟩
  have hcnt : (o.map (hasL f)).countP (fun b => b) = f.length := by
    rw [List.countP_map, List.countP_eq_length_filter]
    refine List.Perm.length_eq ((List.perm_ext_iff_of_nodup (hP.nodup.filter _) hn).2 fun x => ?_)
    rw [List.mem_filter]
    show x ∈ o ∧ hasL f x = true ↔ _
    rw [hasL_mem, hP.mem]
    exact ⟨fun h => h.2, fun h => ⟨hf x h, h⟩⟩
  obtain ⟨t1, t2⟩ := ht
  obtain ⟨⟨t3, t4, t5⟩, t6⟩ := t2 hany
  rw [hcnt] at t5
  have er : (o.reverse.map (hasL f)) = (o.map (hasL f)).reverse := List.map_reverse ..
  simp only [runsL, runs_BL, date_BL, date_PB, er]
  exact ⟨t1, t3, t4, t5, t6⟩

/-! ### what StyleGaps says -/
theorem gaps_rev {L : Int} {o : List Int} (h0 : 0 ≤ L) (h7 : L ≤ 7) (hP : Perm L o) : ∀ fs : List (List Int), okF L fs → (∀ f ∈ fs, f ≠ []) → (∀ f ∈ fs, f.Nodup) → gapsG o.reverse fs = gapsG o fs ∧ gapsG o fs = (fs.map fun f => gapsW f o).sum
  | [], _, _, _ => ⟨rfl, rfl⟩
  | f :: fs, hf, hne, hn => by
    have ih := gaps_rev h0 h7 hP fs (fun g hg => hf g (List.mem_cons_of_mem _ hg)) (fun g hg => hne g (List.mem_cons_of_mem _ hg)) (fun g hg => hn g (List.mem_cons_of_mem _ hg))
    have hp := form_places h0 h7 hP (hf f (List.mem_cons_self ..)) (hne f (List.mem_cons_self ..)) (hn f (List.mem_cons_self ..))
    rw [gapsG, gapsG, hp.1, ih.1, List.map_cons, List.sum_cons, ← ih.2, gapsW_perm (hf f (List.mem_cons_self ..)) (hne f (List.mem_cons_self ..)) hP]
    exact ⟨rfl, rfl⟩
theorem orders_eq (L : Int) (fs : List (List Int)) (o : List Int) : shownE L fs o = orderedE L fs o ∧ gapsE L fs o = refGaps L fs o ∧ datesL L fs o = refDates L fs o := by
  have h := orders_true L fs o
  simp only [ordersB, Bool.and_eq_true, decide_eq_true_eq, and_true] at h
  exact ⟨h.1.1.1.1.2, h.1.1.1.2, h.1.2⟩
theorem ix_mapd {α β : Type} {d : α} {e : β} {g : α → β} {l : List α} {u : Int} (h0 : 0 ≤ u) (h : u < l.length) : ix e (l.map g) u = g (ix d l u) := by
  have hu : u.toNat < l.length := by omega
  simp [ix, List.getD_eq_getElem?_getD, hu]
theorem gaps_law {L : Int} {fs : List (List Int)} {o : List Int} (hc : checkE L fs = 0) (hP : Perm L o) : gapsP L fs o := by
  have hk := check_ok hc
  have h0 : 0 ≤ L := by omega
  have hne := check_ne hc
  have hn := check_nodup hc
  have e1 := perm_ordered hc hP
  have e2 := perm_ordered hc hP.rev
  obtain ⟨s1, g1, d1⟩ := orders_eq L fs o
  obtain ⟨s2, g2, d2⟩ := orders_eq L fs o.reverse
  have hl := (perm_up h0 hP).length_eq
  rw [up_len] at hl
  have hg := gaps_rev h0 hk.2.1 hP fs hk.2.2.2 hne hn
  refine ⟨hc, by omega, by rw [s1, e1], by rw [s2, e2], by rw [g1, refGaps, if_pos e1, hg.2], by rw [g1, g2, refGaps, refGaps, if_pos e1, if_pos e2, hg.1], by rw [d1, refDates, if_pos e1, List.length_map], by rw [d2, refDates, if_pos e2, List.length_map], fun k k0 k1 => ?_⟩
  have hm : ix [] fs k ∈ fs := List.mem_of_getElem? (ix_get (d := []) k1 k0)
  have hp := form_places h0 hk.2.1 hP (hk.2.2.2 _ hm) (hne _ hm) (hn _ hm)
  have hr := runsG_bd (ix [] fs k) o false
  have hr1 := runs_pos (hk.2.2.2 _ hm) (hne _ hm) hP
  have i1 : ix (0, 0) (datesL L fs o) k = dateG (ix [] fs k) 0 o (L, 0) := by rw [d1, refDates, if_pos e1, ix_mapd (d := []) k0 k1]
  have i2 : ix (0, 0) (datesL L fs o.reverse) k = dateG (ix [] fs k) 0 o.reverse (L, 0) := by rw [d2, refDates, if_pos e2, ix_mapd (d := []) k0 k1]
  have hw := gapsW_perm (hk.2.2.2 _ hm) (hne _ hm) hP
  rw [i1, i2, hp.2.2.1, hw]
  refine ⟨⟨by omega, by rw [runsL]; omega⟩, rfl, ?_, hp.2.2.2.2, hp.2.1⟩
  rw [← hp.2.2.2.1]
  omega
theorem gaps_made (ly mn : Int) (zs ys : List Int) (hy : 7 ≤ ys.length) : gapsP (madeN 7 ly) (madeF 7 10 ly mn zs) (ordW (madeN 7 ly) ys) := by
  have hN := madeN_bd (a := 7) (ly := ly) (by omega)
  exact gaps_law (made_ok (by omega) (by omega) (by omega) (by omega)) (Perm.of_up (by omega) (ordW_up (by omega) (by omega)))
end Go.Proofs.Ytjmpojoimcljoaa
