/-
  WHAT IS PROVED HERE: plain laws of layer 3, no program in sight: what StyleFits says: the first order that fits, how many do, and layers always next to one another. Conditions: none.
-/
import Derived.Test.YtjmpojoimcljoaaPlain2
namespace Go.Proofs.Ytjmpojoimcljoaa
open Go.Wk

/-! ### the first order -/
theorem pickF_up (L : Int) (ss : List Int) (q : Int) : ∀ k : Nat, pickF L ss q k = (up L k).find? fun n => mayB ss q n && decide (0 < ix 0 (endT L ss) (withS q n))
  | 0 => rfl
  | k + 1 => by
    rw [pickF, up, List.find?_cons, pickF_up L ss q k]
    by_cases h : mayB ss q (L - (k + 1)) = true ∧ 0 < ix 0 (endT L ss) (withS q (L - (k + 1)))
    · rw [if_pos h, h.1, decide_eq_true h.2]; rfl
    · rw [if_neg h]
      have : (mayB ss q (L - (k + 1)) && decide (0 < ix 0 (endT L ss) (withS q (L - (k + 1))))) = false := by
        rw [Bool.and_eq_false_iff, decide_eq_false_iff_not]
        by_cases hm : mayB ss q (L - (k + 1)) = true
        · exact .inr (fun h2 => h ⟨hm, h2⟩)
        · exact .inl (by simpa using hm)
      rw [this]
theorem head_flatMap {g : Int → List (List Int)} {p : Int → Bool} : ∀ l : List Int, (∀ x ∈ l, p x = true ↔ g x ≠ []) → (l.flatMap g).head? = (l.find? p).bind fun n => (g n).head?
  | [], _ => rfl
  | x :: l, h => by
    have ih := head_flatMap l (fun y hy => h y (List.mem_cons_of_mem _ hy))
    have hx := h x (List.mem_cons_self ..)
    rw [List.flatMap_cons, List.find?_cons]
    cases hp : p x with
    | true =>
      have := hx.1 hp
      cases e : g x with
      | nil => exact absurd e this
      | cons u us => simp [e]
    | false =>
      have : g x = [] := by
        by_cases e : g x = []
        · exact e
        · rw [hx.2 e] at hp; cases hp
      rw [this, List.nil_append, ih]
theorem firstG_head {L : Int} {ss : List Int} (h1 : 1 ≤ L) (h7 : L ≤ 7) : ∀ (m : Nat) (q : Int) (out : List Int), 0 ≤ q → q < powI L → popN q.toNat + m = L.toNat → waysL L.toNat ss m q ≠ [] →
    ∃ w, (waysL L.toNat ss m q).head? = some w ∧ firstG L ss m q out = out ++ w
  | 0, q, out, _, _, _, _ => ⟨[], rfl, by simp [firstG]⟩
  | m + 1, q, out, q0, q1, hp, hne => by
    have hpw := powI_bd h1 h7
    have hLL : ((L.toNat : Nat) : Int) = L := by omega
    have hP : ∀ x ∈ up L L.toNat, (mayB ss q x && decide (0 < ix 0 (endT L ss) (withS q x))) = true ↔ (if mayB ss q x = true then (waysL L.toNat ss m (orI q x)).map (x :: ·) else []) ≠ [] := by
      intro x hx
      rw [up_mem] at hx
      by_cases hm : mayB ss q x = true
      · have hw := withS_lt h1 h7 q0 q1 (show 0 ≤ x by omega) hx.2
        have hfa := orI_facts q0 (by omega) (show 0 ≤ x by omega) (by omega) (mayB_not hm)
        have e : ix 0 (endT L ss) (withS q x) = ways L.toNat ss m (orI q x) := by
          have hlt : orI q x < powI L := by rw [← hw.2.2]; exact hw.1
          rw [hw.2.2, endT, fillE_ix (by omega) (by rw [powI] at hlt; exact hlt), if_pos (by omega), endE, hfa.2.2]
          congr 1
          omega
        rw [if_pos hm, hm, Bool.true_and, decide_eq_true_eq, e, ← waysL_len]
        cases waysL L.toNat ss m (orI q x) <;> simp
      · rw [if_neg hm]
        simp [hm]
    rw [waysL, hLL] at hne ⊢
    rw [head_flatMap _ hP]
    rw [firstG, pickF_up]
    cases hf : (up L L.toNat).find? (fun x => mayB ss q x && decide (0 < ix 0 (endT L ss) (withS q x))) with
    | none =>
      exfalso
      apply hne
      rw [List.flatMap_eq_nil_iff]
      intro x hx
      have h2 := List.find?_eq_none.1 hf x hx
      by_cases e : (if mayB ss q x = true then (waysL L.toNat ss m (orI q x)).map (x :: ·) else []) = []
      · exact e
      · exact absurd ((hP x hx).2 e) h2
    | some x =>
      have hx := List.mem_of_find?_eq_some hf
      have hpx := List.find?_some hf
      have hgx := (hP x hx).1 hpx
      have hxr := (up_mem _).1 hx
      simp only [Bool.and_eq_true] at hpx
      rw [if_pos hpx.1] at hgx
      have hw := withS_lt h1 h7 q0 q1 (show 0 ≤ x by omega) hxr.2
      have hfa := orI_facts q0 (by omega) (show 0 ≤ x by omega) (by omega) (mayB_not hpx.1)
      have hne' : waysL L.toNat ss m (orI q x) ≠ [] := fun e => hgx (by rw [e]; rfl)
      obtain ⟨w, hw1, hw2⟩ := firstG_head h1 h7 m (orI q x) (out ++ [x]) (by omega) (by rw [← hw.2.2]; exact hw.1) (by rw [hfa.2.2]; omega) hne'
      refine ⟨x :: w, ?_, ?_⟩
      · simp only [Option.bind_some]
        rw [if_pos hpx.1, List.head?_map, hw1]; rfl
      · show firstG L ss m (withS q x) (out ++ [x]) = _
        rw [hw.2.2, hw2]; simp

/-! ### two layers next to one another -/
theorem has2 (a b x : Int) : hasL [a, b] x = decide (x = a ∨ x = b) := by
  rw [Bool.eq_iff_iff, hasL_mem, decide_eq_true_eq]; simp
theorem next_mem (a b : Int) : ∀ t : List Int, nextL a b t = true → a ∈ t ∧ b ∈ t
  | [], h => by simp [nextL] at h
  | [x], h => by simp [nextL] at h
  | x :: y :: r, h => by
    rw [nextL, Bool.or_eq_true] at h
    rcases h with h | h
    · simp only [Bool.or_eq_true, Bool.and_eq_true, decide_eq_true_eq] at h
      rcases h with ⟨h1, h2⟩ | ⟨h1, h2⟩ <;> subst h1 <;> subst h2 <;> simp
    · have := next_mem a b (y :: r) h
      exact ⟨List.mem_cons_of_mem _ this.1, List.mem_cons_of_mem _ this.2⟩
theorem next_off {a b x : Int} {t : List Int} (ha : x ≠ a) (hb : x ≠ b) : nextL a b (x :: t) = nextL a b t := by
  cases t with
  | nil => rfl
  | cons y r => rw [nextL, decide_eq_false ha, decide_eq_false hb]; simp
theorem runs_two {f t : List Int} {p : Bool} (h : t.any (hasL f) = false) : runsG f p t = 0 := by
  cases p with
  | false => exact (runs_zero f t).2 h
  | true => exact (runs_on f t).2 (okR_none f t true h)
theorem next_step {a b c d : Int} (hcd : c ≠ d) (hf : ∀ x, hasL [a, b] x = decide (x = c ∨ x = d)) (hn : ∀ x y r, nextL a b (x :: y :: r) = (((decide (x = c) && decide (y = d)) || (decide (x = d) && decide (y = c))) || nextL a b (y :: r)))
    (hm : ∀ t, nextL a b t = true → c ∈ t) {t : List Int} (hc : c ∉ t) (hd : d ∈ t) (hnd : t.Nodup) : runsG [a, b] false (c :: t) = 1 ↔ nextL a b (c :: t) = true := by
  cases t with
  | nil => simp at hd
  | cons y r =>
    have hyc : y ≠ c := fun e => hc (by simp [e])
    have hcr : c ∉ r := fun h => hc (List.mem_cons_of_mem _ h)
    rw [hn, runsG, if_pos ⟨by rw [hf]; simp, rfl⟩, runsG, if_neg (by rw [hf c]; simp)]
    by_cases hy : y = d
    · subst hy
      have hdr : y ∉ r := (List.nodup_cons.1 hnd).1
      have hz : r.any (hasL [a, b]) = false := by
        rw [List.any_eq_false]
        intro z hz
        rw [hf]
        simp only [decide_eq_true_eq]
        rintro (rfl | rfl)
        · exact hcr hz
        · exact hdr hz
      rw [runs_two hz]
      simp
    · have hdr : d ∈ r := by
        rcases List.mem_cons.1 hd with h | h
        · exact absurd h.symm hy
        · exact h
      have hh : hasL [a, b] y = false := by rw [hf]; simp [hyc, hy]
      have hb := runsG_bd [a, b] r false
      have hz : runsG [a, b] false r ≠ 0 := by
        intro h0
        rw [runs_zero, List.any_eq_false] at h0
        have := h0 d hdr
        rw [hf] at this
        simp at this
      have hnx : nextL a b (y :: r) = false := by
        cases e : nextL a b (y :: r) with
        | false => rfl
        | true => exact absurd (hm _ e) hc
      rw [hh, hnx]
      simp only [hy, hcd, hyc, decide_false, Bool.and_false, Bool.or_false, Bool.false_eq_true, iff_false]
      omega
theorem next_iff {a b : Int} (hab : a ≠ b) : ∀ t : List Int, t.Nodup → a ∈ t → b ∈ t → (runsG [a, b] false t = 1 ↔ nextL a b t = true)
  | [], _, h, _ => by simp at h
  | x :: t, hn, ha, hb => by
    have hnt := List.nodup_cons.1 hn
    by_cases hxa : x = a
    · subst hxa
      exact next_step hab (has2 x b) (fun _ _ _ => rfl) (fun t h => (next_mem _ _ t h).1) hnt.1 ((List.mem_cons.1 hb).resolve_left (fun e => hab e.symm)) hnt.2
    · by_cases hxb : x = b
      · subst hxb
        refine next_step (fun e => hab e.symm) (fun z => by rw [has2]; exact decide_eq_decide.2 Or.comm) (fun z y r => ?_) (fun t h => (next_mem _ _ t h).2) hnt.1 ((List.mem_cons.1 ha).resolve_left hab) hnt.2
        rw [nextL]
        cases decide (z = a) <;> cases decide (y = x) <;> cases decide (z = x) <;> cases decide (y = a) <;> rfl
      · have h1 := (List.mem_cons.1 ha).resolve_left (fun e => hxa e.symm)
        have h2 := (List.mem_cons.1 hb).resolve_left (fun e => hxb e.symm)
        have hh : hasL [a, b] x = false := by rw [has2]; simp [hxa, hxb]
        rw [next_off hxa hxb, runsG, if_neg (by rw [hh]; simp), hh, Int.zero_add]
        exact next_iff hab t hnt.2 h1 h2
theorem pairB_cong {L a : Int} {f g : Int → Int → Bool} : ∀ m : Nat, (∀ b, L - m ≤ b → b < L → f a b = g a b) → pairB L a f m = pairB L a g m
  | 0, _ => rfl
  | m + 1, h => by rw [pairB, pairB, h (L - (m + 1)) (by omega) (by omega), pairB_cong m (fun b h1 h2 => h b (by omega) h2)]
theorem pairA_cong {L : Int} {f g : Int → Int → Bool} : ∀ m : Nat, (∀ a b, L - m ≤ a → a < b → b < L → f a b = g a b) → pairA L f m = pairA L g m
  | 0, _ => rfl
  | m + 1, h => by rw [pairA, pairA, pairB_cong m (fun b h1 h2 => h _ b (by omega) (by omega) h2), pairA_cong m (fun a b h1 h2 h3 => h a b (by omega) h2 h3)]
theorem fitL_perm {L : Int} {fs : List (List Int)} (h0 : 0 ≤ L) {o : List Int} (h : o ∈ fitL L fs) : Perm L o := allL_perm h0 (List.mem_filter.1 h).1
theorem beside_eq {L : Int} {fs : List (List Int)} (h0 : 0 ≤ L) (h7 : L ≤ 7) (hf : okF L fs) (hne : ∀ f ∈ fs, f ≠ []) {a b : Int} (a0 : 0 ≤ a) (hab : a < b) (hb : b < L) : besideB L (setsF fs) a b = (fitL L fs).all (nextL a b) := by
  have hs : setsF fs ++ [withS (withS 0 a) b] = setsF (fs ++ [[a, b]]) := by simp [setsF, setF]
  have hf' : okF L (fs ++ [[a, b]]) := by
    intro f hff
    rcases List.mem_append.1 hff with h | h
    · exact hf f h
    · simp only [List.mem_singleton] at h
      subst h
      intro x hx
      simp only [List.mem_cons, List.not_mem_nil, or_false] at hx
      rcases hx with rfl | rfl <;> omega
  have hne' : ∀ f ∈ fs ++ [[a, b]], f ≠ [] := by
    intro f hff
    rcases List.mem_append.1 hff with h | h
    · exact hne f h
    · simp only [List.mem_singleton] at h
      subst h; simp
  have hfl : fitL L (fs ++ [[a, b]]) = (fitL L fs).filter fun o => decide (runsL [a, b] o = 1) := by
    rw [fitL, fitL, List.filter_filter]
    refine List.filter_congr fun o _ => ?_
    simp only [fitsL, List.all_append, List.all_cons, List.all_nil, Bool.and_true]
    exact Bool.and_comm _ _
  rw [besideB, hs, count_eq h0 h7 hf' hne', count_eq h0 h7 hf hne, hfl, Bool.eq_iff_iff, decide_eq_true_eq, List.all_eq_true]
  have : (((fitL L fs).filter fun o => decide (runsL [a, b] o = 1)).length : Int) = (fitL L fs).length ↔ ((fitL L fs).filter fun o => decide (runsL [a, b] o = 1)).length = (fitL L fs).length := by omega
  rw [this, List.length_filter_eq_length_iff]
  refine forall_congr' fun o => forall_congr' fun ho => ?_
  have hP := fitL_perm h0 ho
  rw [decide_eq_true_eq]
  exact next_iff (by omega) o hP.nodup ((hP.mem a).2 (by omega)) ((hP.mem b).2 (by omega))

/-! ### what StyleFits says -/
theorem fits_true (L : Int) (fs : List (List Int)) : fitsB L fs = true := by
  by_cases hc : checkE L fs = 0
  · have hk := check_ok hc
    have hne := check_ne hc
    have hcn : ¬ (checkE L fs ≠ 0) := by omega
    have hcount := count_eq (by omega) hk.2.1 hk.2.2.2 hne
    have hE : firstE L fs = (refFirst L fs).2 := by
      rw [firstE, refFirst, if_neg hcn, if_neg hcn, hcount]
      by_cases hz : (fitL L fs).length = 0
      · rw [if_pos (by omega), if_pos hz]
      · rw [if_neg (by omega), if_neg hz]
    have hC : countE L fs = refCount L fs := by rw [countE, refCount, if_neg hcn, if_neg hcn, hcount]
    have hL : firstL L fs = (refFirst L fs).1 := by
      rw [firstL, hE]
      rw [refFirst, if_neg hcn]
      by_cases hz : (fitL L fs).length = 0
      · rw [if_pos hz, if_neg (by simp)]
      · rw [if_neg hz, if_pos rfl]
        have hw := fitL_ways (by omega) hk.2.1 hk.2.2.2 hne
        have hpw := powI_bd hk.1 hk.2.1
        obtain ⟨w, h1, h2⟩ := firstG_head (ss := setsF fs) hk.1 hk.2.1 L.toNat 0 [] (Int.le_refl _) (by omega) (by simp [popN]) (by rw [← hw]; intro e; rw [e] at hz; simp at hz)
        rw [h2, List.nil_append, hw]
        cases hq : waysL L.toNat (setsF fs) L.toNat 0 with
        | nil => rw [hq] at h1; cases h1
        | cons u us => rw [hq] at h1; simp at h1; simp [ix, h1]
    have hB : besideL L fs = refBeside L fs := by
      rw [besideL, refBeside, hE]
      congr 1
      exact pairA_cong _ (fun a b h1 h2 h3 => beside_eq (by omega) hk.2.1 hk.2.2.2 hne (by omega) h2 h3)
    simp [fitsB, hE, hC, hL, hB]
  · have hE : firstE L fs = checkE L fs := by rw [firstE, if_pos hc]
    have hR : refFirst L fs = ([], checkE L fs) := by rw [refFirst, if_pos hc]
    have hC : countE L fs = refCount L fs := by rw [countE, refCount, if_pos hc, if_pos hc]
    have hL : firstL L fs = [] := by rw [firstL, hE, if_neg hc]
    have hB : besideL L fs = refBeside L fs := by rw [besideL, refBeside, hE, hR, if_neg hc, if_neg hc]
    simp [fitsB, hE, hC, hL, hB, hR]
end Go.Proofs.Ytjmpojoimcljoaa
