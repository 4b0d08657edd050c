/-
  WHAT IS PROVED HERE: plain laws of layer 3, no program in sight: finds made by numbers are right; what StyleLeft says: the fewest forms to leave out, of all choices; with a form less. Conditions: stand in each statement.
-/
import Derived.Test.YtjmpojoimcljoaaPlain6
import Derived.Test.YtjmpojoimcljoaaSpec5
namespace Go.Proofs.Ytjmpojoimcljoaa
open Go.Wk

/-! ### finds made by numbers -/
theorem numE_up {n : Int} (p : Int → Bool) : ∀ (k : Nat) (last : Int), last < n - k → 0 ≤ n - k → numE n last ((up n k).filter p) = 0
  | 0, _, _, _ => rfl
  | k + 1, last, h1, h2 => by
    rw [up, List.filter_cons]
    split
    · rw [numE, if_neg (by omega), if_neg (by omega)]
      exact numE_up p k _ (by omega) (by omega)
    · exact numE_up p k last (by omega) (by omega)
theorem formZ_ok {n x : Int} (h1 : 1 ≤ n) : formE n (formZ n x) = 0 := by
  rw [formZ]
  split
  · rw [formE, if_neg (by simp), numE, if_neg (by omega), if_neg (by omega)]; rfl
  · rename_i h
    rw [formE, if_neg (by intro e; exact h (List.eq_nil_of_length_eq_zero (by omega))), ofBits]
    exact numE_up _ _ _ (by omega) (by omega)
theorem formsE_map {n : Int} (h1 : 1 ≤ n) : ∀ zs : List Int, formsE n (zs.map (formZ n)) = 0
  | [] => rfl
  | z :: zs => by rw [List.map_cons, formsE, if_pos (formZ_ok h1)]; exact formsE_map h1 zs
theorem made_ok {a b ly mn : Int} {zs : List Int} (h1 : 1 ≤ a) (h7 : a ≤ 7) (b0 : 0 ≤ b) (b10 : b ≤ 10) : checkE (madeN a ly) (madeF a b ly mn zs) = 0 := by
  have hN := madeN_bd (a := a) (ly := ly) h1
  have hm := Int.emod_lt_of_pos mn (show 0 < b + 1 by omega)
  have hm0 := Int.emod_nonneg mn (show b + 1 ≠ 0 by omega)
  have hl : ((madeF a b ly mn zs).length : Int) ≤ 10 := by rw [madeF, List.length_map, List.length_take]; omega
  simp only [checkE]
  rw [if_neg (by omega), if_neg (by omega), madeF]
  exact formsE_map hN.1 _
theorem made_len {a b ly mn : Int} {zs : List Int} (b0 : 0 ≤ b) : ((madeF a b ly mn zs).length : Int) ≤ b := by
  have hm := Int.emod_lt_of_pos mn (show 0 < b + 1 by omega)
  have hm0 := Int.emod_nonneg mn (show b + 1 ≠ 0 by omega)
  rw [madeF, List.length_map, List.length_take]; omega

/-! ### gaps -/
theorem gapG_runs (f : List Int) : ∀ (xs : List Int) (i fi la n : Int), 0 ≤ i → -1 ≤ fi → (fi < 0 → la = -1) → (0 ≤ fi → 0 ≤ la ∧ la + 1 ≤ i) →
    gapG f i fi la n xs = n + (if fi < 0 then (if xs.any (hasL f) = true then runsG f false xs - 1 else 0) else runsG f (decide (la + 1 = i)) xs)
  | [], i, fi, la, n, h0, h1, h2, h3 => by
    rw [gapG]; simp [runsG]
  | x :: xs, i, fi, la, n, h0, h1, h2, h3 => by
    rw [gapG, List.any_cons]
    by_cases hx : hasL f x = true
    · rw [if_pos hx]
      by_cases hf : fi < 0
      · rw [if_pos hf, if_pos hf, if_neg (show ¬ (0 ≤ fi ∧ la + 1 < i) by omega), gapG_runs f xs (i + 1) i i n (by omega) (by omega) (by omega) (by omega), if_neg (by omega)]
        rw [hx, Bool.true_or, if_pos rfl, runsG, if_pos ⟨hx, rfl⟩, hx, decide_eq_true rfl]
        omega
      · have h4 := h3 (by omega)
        rw [if_neg hf, if_neg hf, gapG_runs f xs (i + 1) fi i _ (by omega) (by omega) (by omega) (by omega), if_neg hf, runsG, hx, decide_eq_true rfl]
        by_cases hl : la + 1 < i
        · rw [if_pos ⟨by omega, hl⟩, if_pos ⟨rfl, decide_eq_false (by omega)⟩]; omega
        · rw [if_neg (fun h => hl h.2), if_neg (by rw [decide_eq_true (show la + 1 = i by omega)]; simp)]; omega
    · have hx' : hasL f x = false := by simpa using hx
      rw [if_neg hx]
      by_cases hf : fi < 0
      · have e : runsG f false (x :: xs) = runsG f false xs := by rw [runsG, if_neg (by rw [hx']; simp), hx', Int.zero_add]
        rw [gapG_runs f xs (i + 1) fi la n (by omega) h1 h2 (by omega), if_pos hf, if_pos hf, hx', Bool.false_or, e]
      · have h4 := h3 (by omega)
        rw [gapG_runs f xs (i + 1) fi la n (by omega) h1 h2 (by omega), if_neg hf, if_neg hf, runsG, if_neg (by rw [hx']; simp), hx', decide_eq_false (by omega)]
        omega
theorem gapsW_runs (f order : List Int) : gapsW f order = if order.any (hasL f) = true then runsL f order - 1 else 0 := by
  rw [gapsW, gapG_runs f order 0 (-1) (-1) 0 (by omega) (by omega) (by omega) (by omega), if_pos (by omega), runsL]
  omega
theorem gapsW_perm {L : Int} {f order : List Int} (hf : ∀ x ∈ f, 0 ≤ x ∧ x < L) (hne : f ≠ []) (hP : Perm L order) : gapsW f order = runsL f order - 1 := by
  rw [gapsW_runs, if_pos]
  rw [any_hasL]
  obtain ⟨y, hy⟩ := List.exists_mem_of_ne_nil f hne
  exact ⟨y, (hP.mem y).2 (hf y hy), hy⟩
theorem fitsW_fits {L : Int} {fs : List (List Int)} (hf : okF L fs) (hne : ∀ f ∈ fs, f ≠ []) {order : List Int} (hP : Perm L order) : fitsW fs order = fitsL fs order := by
  rw [Bool.eq_iff_iff, fitsW, fitsL, List.all_eq_true, List.all_eq_true]
  refine forall_congr' fun f => forall_congr' fun hff => ?_
  rw [decide_eq_true_eq, decide_eq_true_eq, gapsW_perm (hf f hff) (hne f hff) hP]
  have := runs_pos (hf f hff) (hne f hff) hP
  omega

/-! ### choices by bits -/
theorem and_one_i64 {u : Nat} (hu : u < 1024) : bits .and .i64 (u : Int) 1 = ((u % 2 : Nat) : Int) := by
  have : ∀ u < 1024, bits .and .i64 (u : Nat) 1 = ((u % 2 : Nat) : Int) := by decide +kernel
  exact this u hu
theorem bitI_nat {o : Nat} {i : Int} (h : o < 1024) (i0 : 0 ≤ i) (i1 : i ≤ 60) : bits .and .i64 ((o : Int) / 2 ^ min i.toNat IntKind.i64.bits) 1 = if o.testBit i.toNat = true then 1 else 0 := by
  obtain ⟨i, rfl⟩ := Int.eq_ofNat_of_zero_le i0
  have hm : min ((i : Int)).toNat IntKind.i64.bits = i := by
    have : IntKind.i64.bits = 64 := rfl
    rw [this, Nat.min_def]; split <;> omega
  have he : ((o : Int) / 2 ^ i) = ((o / 2 ^ i : Nat) : Int) := by simp
  have hlt : o / 2 ^ i ≤ o := Nat.div_le_self _ _
  rw [hm, he, Int.toNat_natCast, Nat.testBit_eq_decide_div_mod_eq]
  generalize o / 2 ^ i = u at hlt
  rw [and_one_i64 (by omega)]
  by_cases hu : u % 2 = 1
  · rw [decide_eq_true hu, if_pos rfl]; omega
  · rw [decide_eq_false hu, if_neg (by decide)]; omega
theorem bitI_bitO {o : Nat} {i : Int} (h : o < 1024) (i0 : 0 ≤ i) (i1 : i ≤ 60) : bitI o i = bitO o i := by
  rw [bitI, bitI_nat h i0 i1, bitO_nat h i0 i1]
  cases o.testBit i.toNat <;> simp
theorem pickI_up (o : Int) : ∀ (ss : List Int) (i : Int), pickI o i ss = (up (i + ss.length) ss.length).filter (bitO o)
  | [], i => rfl
  | s :: ss, i => by
    rw [pickI, List.length_cons, up, List.filter_cons, pickI_up o ss (i + 1)]
    have e1 : i + ((ss.length + 1 : Nat) : Int) - ((ss.length : Int) + 1) = i := by omega
    have e2 : i + ((ss.length + 1 : Nat) : Int) = i + 1 + ss.length := by omega
    rw [e1, e2]
theorem pickW_I {o : Nat} (h : o < 1024) {n : Nat} (hn : n ≤ 10) {ss : List Int} (hs : ss.length = n) : pickW o n = pickI o 0 ss := by
  rw [pickW, pickI_up, hs, Int.zero_add, Int.toNat_natCast]
  refine List.filter_congr fun x hx => ?_
  rw [up_mem] at hx
  exact bitI_bitO h (by omega) (by omega)
theorem restW_without {o : Nat} (h : o < 1024) (l : List Int) : ∀ (fs : List (List Int)) (i : Int), 0 ≤ i → i + fs.length ≤ 60 → (∀ x, i ≤ x → x < i + fs.length → (x ∈ l ↔ bitO o x = true)) → restW o i fs = withoutG l i fs
  | [], _, _, _, _ => rfl
  | f :: fs, i, i0, i1, hm => by
    simp only [List.length_cons] at i1 hm
    have ih := restW_without h l fs (i + 1) (by omega) (by omega) (fun x h1 h2 => hm x (by omega) (by omega))
    have hi := hm i (Int.le_refl _) (by omega)
    rw [restW, withoutG, ih, bitI_nat h i0 (by omega)]
    rw [bitO_nat h i0 (by omega)] at hi
    by_cases hb : o.testBit i.toNat = true
    · rw [if_pos hb, if_neg (by omega), if_pos ((hasL_mem _ _).2 (hi.2 hb))]
    · rw [if_neg hb, if_pos rfl, if_neg (by rw [hasL_mem, hi]; exact hb)]
theorem restW_eq {o : Nat} (h : o < 1024) {fs : List (List Int)} (h10 : fs.length ≤ 10) : restW o 0 fs = withoutG (pickI o 0 (setsF fs)) 0 fs :=
  restW_without h _ fs 0 (by omega) (by omega) (fun x h1 h2 => by
    rw [pickI_mem, setsF_len]
    exact ⟨fun h => h.2.2, fun h => ⟨h1, h2, h⟩⟩)
theorem any_free {L : Int} {fs : List (List Int)} (h0 : 0 ≤ L) (h7 : L ≤ 7) (hf : okF L fs) (hne : ∀ f ∈ fs, f ≠ []) : (allL L).any (fitsW fs) = freeR L fs := by
  rw [Bool.eq_iff_iff, List.any_eq_true]
  constructor
  · rintro ⟨o, h1, h2⟩
    have hP := allL_perm h0 h1
    rw [fitsW_fits hf hne hP] at h2
    exact free_of_fits h0 h7 hf hP h2
  · intro h
    obtain ⟨o, hP, h2⟩ := fits_of_free h0 h7 hf hne h
    exact ⟨o, perm_all h0 hP, by rw [fitsW_fits hf hne hP]; exact h2⟩

/-! ### the least choice -/
/-- l is the least choice of those below n. -/
def Least (L : Int) (fs : List (List Int)) (n : Nat) (l : List Int) : Prop :=
  ∃ o : Nat, o < n ∧ isFree L fs (pickI o 0 (setsF fs)) = true ∧ l = pickI o 0 (setsF fs) ∧
    ∀ p : Nat, p < n → isFree L fs (pickI p 0 (setsF fs)) = true → l.length < (pickI p 0 (setsF fs)).length ∨ (l.length = (pickI p 0 (setsF fs)).length ∧ cmpL l (pickI p 0 (setsF fs)) ≤ 0)
theorem Least.uniq {L : Int} {fs : List (List Int)} {n : Nat} {l m : List Int} (h1 : Least L fs n l) (h2 : Least L fs n m) : l = m := by
  obtain ⟨o, ho, hof, rfl, hmin⟩ := h1
  obtain ⟨p, hp, hpf, rfl, hmin'⟩ := h2
  have a1 := hmin p hp hpf
  have a2 := hmin' o ho hof
  have a3 := cmpL_anti (pickI o 0 (setsF fs)) (pickI p 0 (setsF fs))
  exact cmpL_zero _ _ (by omega)
theorem least_fewest {L : Int} {fs : List (List Int)} (hc : checkE L fs = 0) : Least L fs (2 ^ fs.length) (fewestL L fs) := by
  have hk := check_ok hc
  have hne := check_ne hc
  rw [fewestL, if_pos hc]
  rcases best_all (by omega) hk.2.1 (by omega) hk.2.2.2 hne (2 ^ fs.length) (Nat.le_refl _) with ⟨hno, _⟩ | ⟨o, ho, hof, hx, hmin⟩
  · exfalso
    obtain ⟨r, r1, r2, r3, r4, r5⟩ := (leftG_spec L fs fs.length [] 0 (by omega)).1 (leftG_all L fs fs.length [] 0 (by omega) (by omega) (fun j h1 h2 => by omega))
    obtain ⟨q, q1, q2⟩ := asc_pick (by omega) (setsF_len fs) r1
    have := hno q q1
    rw [q2] at this
    rw [List.nil_append] at r3
    rw [r3] at this; cases this
  · rw [hx]; exact ⟨o, ho, hof, rfl, hmin⟩
def BestW (L : Int) (fs : List (List Int)) (n : Nat) (x : List Int × Bool) : Prop :=
  ((∀ o : Nat, o < n → isFree L fs (pickI o 0 (setsF fs)) = false) ∧ x.2 = false) ∨ (x.2 = true ∧ Least L fs n x.1)
theorem bestW_step {L : Int} {fs : List (List Int)} (h0 : 0 ≤ L) (h7 : L ≤ 7) (h10 : fs.length ≤ 10) (hf : okF L fs) (hne : ∀ f ∈ fs, f ≠ []) {n : Nat} (hn : n < 2 ^ fs.length) {x : List Int × Bool} (h : BestW L fs n x) : BestW L fs (n + 1) (stepW L fs x n) := by
  have hlt := pow1024 h10
  have hpk : pickW n fs.length = pickI n 0 (setsF fs) := pickW_I (by omega) h10 (setsF_len fs)
  have hfe : (allL L).any (fitsW (restW n 0 fs)) = isFree L fs (pickI n 0 (setsF fs)) := by
    rw [restW_eq (by omega) h10, any_free h0 h7 (withoutG_ok hf _ _) (fun f hff => hne f (withoutG_mem _ _ _ _ hff)), isFree]
  rw [stepW, hpk, hfe]
  have below : ∀ {P : Nat → Prop}, (∀ o : Nat, o < n → P o) → P n → ∀ o : Nat, o < n + 1 → P o := fun {P} h1 h2 o ho => by
    by_cases e : o = n
    · subst e; exact h2
    · exact h1 o (by omega)
  rcases h with ⟨hno, hx⟩ | ⟨hx, o, ho, hof, hl, hmin⟩
  · rw [if_neg (by rw [hx]; simp)]
    by_cases hfr : isFree L fs (pickI n 0 (setsF fs)) = true
    · rw [if_pos hfr]
      right
      refine ⟨rfl, n, by omega, hfr, rfl, below (P := fun p => isFree L fs (pickI p 0 (setsF fs)) = true → _) (fun p hp hpf => ?_) (fun _ => .inr ⟨rfl, by rw [cmpL_self]; exact Int.le_refl _⟩)⟩
      rw [hno p hp] at hpf; cases hpf
    · rw [if_neg hfr]
      exact .inl ⟨below hno (by simpa using hfr), hx⟩
  · by_cases hskip : x.2 = true ∧ (x.1.length < (pickI n 0 (setsF fs)).length ∨ ((pickI n 0 (setsF fs)).length = x.1.length ∧ 0 < cmpL (pickI n 0 (setsF fs)) x.1))
    · rw [if_pos hskip]
      right
      refine ⟨hx, o, by omega, hof, hl, below (P := fun p => isFree L fs (pickI p 0 (setsF fs)) = true → _) hmin (fun _ => ?_)⟩
      have a3 := cmpL_anti (pickI n 0 (setsF fs)) x.1
      rcases hskip.2 with h1 | h1
      · exact .inl h1
      · exact .inr ⟨h1.1.symm, by omega⟩
    · rw [if_neg hskip]
      by_cases hfr : isFree L fs (pickI n 0 (setsF fs)) = true
      · rw [if_pos hfr]
        right
        have hns : ¬ (x.1.length < (pickI n 0 (setsF fs)).length ∨ ((pickI n 0 (setsF fs)).length = x.1.length ∧ 0 < cmpL (pickI n 0 (setsF fs)) x.1)) := fun h => hskip ⟨hx, h⟩
        refine ⟨rfl, n, by omega, hfr, rfl, below (P := fun p => isFree L fs (pickI p 0 (setsF fs)) = true → _) (fun p hp hpf => ?_) (fun _ => .inr ⟨rfl, by rw [cmpL_self]; exact Int.le_refl _⟩)⟩
        show (pickI n 0 (setsF fs)).length < (pickI p 0 (setsF fs)).length ∨ ((pickI n 0 (setsF fs)).length = (pickI p 0 (setsF fs)).length ∧ cmpL (pickI n 0 (setsF fs)) (pickI p 0 (setsF fs)) ≤ 0)
        rcases hmin p hp hpf with h1 | ⟨h1, h2⟩
        · exact .inl (by omega)
        · by_cases hlt2 : (pickI n 0 (setsF fs)).length < (pickI p 0 (setsF fs)).length
          · exact .inl hlt2
          · exact .inr ⟨by omega, cmpL_trans _ x.1 _ (by omega) h2⟩
      · rw [if_neg hfr]
        right
        exact ⟨hx, o, by omega, hof, hl, below (P := fun p => isFree L fs (pickI p 0 (setsF fs)) = true → _) hmin (fun hc => absurd hc hfr)⟩
theorem bestW_all {L : Int} {fs : List (List Int)} (h0 : 0 ≤ L) (h7 : L ≤ 7) (h10 : fs.length ≤ 10) (hf : okF L fs) (hne : ∀ f ∈ fs, f ≠ []) : ∀ n : Nat, n ≤ 2 ^ fs.length → BestW L fs n (bestW L fs n)
  | 0, _ => .inl ⟨fun o h => by omega, rfl⟩
  | n + 1, h => by
    rw [bestW_next]
    exact bestW_step h0 h7 h10 hf hne (by omega) (bestW_all h0 h7 h10 hf hne n (by omega))
theorem fewest_best {L : Int} {fs : List (List Int)} (hc : checkE L fs = 0) : fewestL L fs = (bestW L fs (2 ^ fs.length)).1 := by
  have hk := check_ok hc
  have hl := least_fewest hc
  rcases bestW_all (by omega) hk.2.1 (by omega) hk.2.2.2 (check_ne hc) (2 ^ fs.length) (Nat.le_refl _) with ⟨hno, _⟩ | ⟨_, hm⟩
  · obtain ⟨o, ho, hof, _⟩ := hl
    rw [hno o ho] at hof; cases hof
  · exact hl.uniq hm

/-! ### with a form less -/
theorem without_sub (l : List Int) : ∀ (fs : List (List Int)) (i : Int), (withoutG l i fs).Sublist fs
  | [], _ => List.Sublist.refl _
  | f :: fs, i => by
    rw [withoutG]
    split
    · exact (without_sub l fs _).cons f
    · exact (without_sub l fs _).cons_cons f
theorem withoutG_cong : ∀ (fs : List (List Int)) (i : Int) (l m : List Int), (∀ y, i ≤ y → (y ∈ l ↔ y ∈ m)) → withoutG l i fs = withoutG m i fs
  | [], _, _, _, _ => rfl
  | f :: fs, i, l, m, h => by
    have e : hasL l i = hasL m i := by rw [Bool.eq_iff_iff, hasL_mem, hasL_mem]; exact h i (Int.le_refl _)
    rw [withoutG, withoutG, e, withoutG_cong fs (i + 1) l m (fun y hy => h y (by omega))]
theorem asc_len {k : Int} : ∀ (fs : List (List Int)) (l : List Int) (i : Int), Asc k i l → i + fs.length = k → (withoutG l i fs).length + l.length = fs.length ∧ (∀ x ∈ l, i ≤ x)
  | [], [], i, _, _ => by simp [withoutG]
  | [], x :: l, i, h, hk => by
    have h1 := h.1
    have h2 := h.2.1
    simp at hk; omega
  | f :: fs, [], i, _, hk => by
    have ih := asc_len (k := k) fs [] (i + 1) trivial (by simp at hk; omega)
    rw [withoutG, if_neg (by simp [hasL])]
    simpa using ih.1
  | f :: fs, x :: l, i, h, hk => by
    simp only [List.length_cons] at hk
    by_cases hx : x = i
    · subst hx
      have ih := asc_len fs l (x + 1) h.2.2 (by omega)
      have e : withoutG (x :: l) (x + 1) fs = withoutG l (x + 1) fs := withoutG_cong fs (x + 1) _ _ (fun y hy => by
        rw [List.mem_cons]; exact ⟨fun h => h.resolve_left (by omega), .inr⟩)
      rw [withoutG, if_pos ((hasL_mem _ _).2 (List.mem_cons_self ..)), e]
      refine ⟨by simp; omega, fun y hy => ?_⟩
      rcases List.mem_cons.1 hy with rfl | hy
      · exact Int.le_refl _
      · have := ih.2 y hy; omega
    · have h' : Asc k (i + 1) (x :: l) := ⟨by have := h.1; omega, h.2.1, h.2.2⟩
      have ih := asc_len fs (x :: l) (i + 1) h' (by omega)
      have hni : i ∉ x :: l := fun hm => by have := ih.2 i hm; omega
      rw [withoutG, if_neg (by rw [hasL_mem]; exact hni)]
      refine ⟨by simp at ih ⊢; omega, fun y hy => by have := ih.2 y hy; omega⟩
theorem asc_ge {k : Int} : ∀ (l : List Int) (i : Int), Asc k i l → ∀ x ∈ l, i ≤ x
  | [], _, _, x, hx => by simp at hx
  | y :: l, i, h, x, hx => by
    rcases List.mem_cons.1 hx with rfl | hx
    · exact h.1
    · have := asc_ge l _ h.2.2 x hx
      have := h.1
      omega
theorem sub_asc {gs fs : List (List Int)} (h : gs.Sublist fs) : ∀ i : Int, ∃ l, Asc (i + fs.length) i l ∧ withoutG l i fs = gs := by
  induction h with
  | slnil => intro i; exact ⟨[], trivial, rfl⟩
  | @cons gs fs f _ ih =>
    intro i
    obtain ⟨l, h1, h2⟩ := ih (i + 1)
    rw [show i + 1 + (fs.length : Int) = i + ((f :: fs).length : Nat) by simp; omega] at h1
    refine ⟨i :: l, ⟨Int.le_refl _, by simp; omega, h1⟩, ?_⟩
    rw [withoutG, if_pos ((hasL_mem _ _).2 (List.mem_cons_self ..)), ← h2]
    exact withoutG_cong fs (i + 1) _ _ (fun y hy => by rw [List.mem_cons]; exact ⟨fun h => h.resolve_left (by omega), .inr⟩)
  | @cons_cons gs fs f _ ih =>
    intro i
    obtain ⟨l, h1, h2⟩ := ih (i + 1)
    rw [show i + 1 + (fs.length : Int) = i + ((f :: fs).length : Nat) by simp; omega] at h1
    have hge := fun x (hx : x ∈ l) => asc_ge l (i + 1) h1 x hx
    refine ⟨l, h1.le (by omega), ?_⟩
    rw [withoutG, if_neg (by rw [hasL_mem]; intro hm; have := hge i hm; omega), h2]
theorem fewest_most {L : Int} {fs : List (List Int)} (hc : checkE L fs = 0) : (∃ gs : List (List Int), gs.Sublist fs ∧ gs.length + (fewestL L fs).length = fs.length ∧ freeR L gs = true) ∧ ∀ gs : List (List Int), gs.Sublist fs → freeR L gs = true → (fewestL L fs).length + gs.length ≤ fs.length := by
  have hk := check_ok hc
  obtain ⟨o, ho, hof, hl, hmin⟩ := least_fewest hc
  have ha : Asc fs.length 0 (pickI o 0 (setsF fs)) := pickI_asc _ 0 (by rw [setsF_len]; omega)
  constructor
  · refine ⟨withoutG (fewestL L fs) 0 fs, without_sub _ _ _, ?_, by rw [hl]; exact hof⟩
    rw [hl]
    exact (asc_len fs _ 0 ha (by omega)).1
  · intro gs hs hfr
    obtain ⟨l, l1, l2⟩ := sub_asc hs 0
    rw [Int.zero_add] at l1
    obtain ⟨q, q1, q2⟩ := asc_pick (by omega) (setsF_len fs) l1
    have hm := hmin q q1 (by rw [q2, isFree, l2]; exact hfr)
    rw [q2] at hm
    have := (asc_len fs l 0 l1 (by omega)).1
    rw [l2] at this
    omega
theorem free_mono {L : Int} {fs gs : List (List Int)} (h0 : 0 ≤ L) (h7 : L ≤ 7) (hf : okF L fs) (hne : ∀ f ∈ fs, f ≠ []) (hs : ∀ g ∈ gs, g ∈ fs) (h : freeR L fs = true) : freeR L gs = true := by
  obtain ⟨o, hP, h2⟩ := fits_of_free h0 h7 hf hne h
  refine free_of_fits h0 h7 (fun g hg => hf g (hs g hg)) hP ?_
  rw [fitsL, List.all_eq_true] at h2 ⊢
  exact fun g hg => h2 g (hs g hg)
theorem sub_erase {gs fs : List (List Int)} (h : gs.Sublist fs) : ∀ i : Nat, ∃ hs : List (List Int), hs.Sublist gs ∧ hs.Sublist (fs.eraseIdx i) ∧ gs.length ≤ hs.length + 1 := by
  induction h with
  | slnil => intro i; exact ⟨[], List.Sublist.refl _, by simp, by simp⟩
  | @cons gs fs f h ih =>
    intro i
    cases i with
    | zero => exact ⟨gs, List.Sublist.refl _, by simpa using h, by omega⟩
    | succ i =>
      obtain ⟨hs, h1, h2, h3⟩ := ih i
      exact ⟨hs, h1, by rw [List.eraseIdx_cons_succ]; exact h2.cons f, h3⟩
  | @cons_cons gs fs f h ih =>
    intro i
    cases i with
    | zero => exact ⟨gs, List.sublist_cons_self _ _, by simpa using h, by simp⟩
    | succ i =>
      obtain ⟨hs, h1, h2, h3⟩ := ih i
      exact ⟨f :: hs, h1.cons_cons f, by rw [List.eraseIdx_cons_succ]; exact h2.cons_cons f, by simp; omega⟩
theorem formsE_sub {L : Int} {gs fs : List (List Int)} (h : gs.Sublist fs) : formsE L fs = 0 → formsE L gs = 0 := by
  induction h with
  | slnil => exact id
  | cons f _ ih =>
    intro h
    rw [formsE] at h
    split at h
    · exact ih h
    · rename_i hn; exact absurd h hn
  | cons_cons f _ ih =>
    intro h
    rw [formsE] at h ⊢
    split at h
    · rename_i hn; rw [if_pos hn]; exact ih h
    · rename_i hn; exact absurd h hn
theorem check_sub {L : Int} {gs fs : List (List Int)} (hs : gs.Sublist fs) (h : checkE L fs = 0) : checkE L gs = 0 := by
  have hk := check_ok h
  have hl := hs.length_le
  simp only [checkE] at h ⊢
  rw [if_neg (by omega), if_neg (by omega)] at h
  rw [if_neg (by omega), if_neg (by omega)]
  exact formsE_sub hs h
theorem without_off {x : Int} : ∀ (fs : List (List Int)) (j : Int), x < j → withoutG [x] j fs = fs
  | [], _, _ => rfl
  | f :: fs, j, h => by rw [withoutG, if_neg (by rw [hasL_mem]; simp; omega), without_off fs (j + 1) (by omega)]
theorem without_one : ∀ (fs : List (List Int)) (i : Nat) (j : Int), i < fs.length → withoutG [j + i] j fs = fs.eraseIdx i
  | [], i, j, h => by simp at h
  | f :: fs, 0, j, _ => by
    rw [withoutG, if_pos (by rw [hasL_mem]; simp), List.eraseIdx_cons_zero]
    exact without_off fs (j + 1) (by omega)
  | f :: fs, i + 1, j, h => by
    have ih := without_one fs i (j + 1) (by simpa using h)
    rw [withoutG, if_neg (by rw [hasL_mem]; simp; omega), List.eraseIdx_cons_succ, ← ih]
    congr 2
    congr 1
    omega
theorem rest_one {fs : List (List Int)} (h10 : fs.length ≤ 10) {i : Nat} (hi : i < fs.length) : restW ((2 ^ i : Nat) : Int) 0 fs = fs.eraseIdx i := by
  have hp : 2 ^ i < 2 ^ 10 := Nat.pow_lt_pow_right (by decide) (by omega)
  rw [restW_without (o := 2 ^ i) (by omega) [(0 : Int) + i] fs 0 (by omega) (by omega) (fun x h1 h2 => by
    rw [bitO_nat (by omega) h1 (by omega), Nat.testBit_two_pow]
    simp; omega)]
  exact without_one fs i 0 hi
/-- What StyleLeft says. -/
theorem left_law (L : Int) (fs : List (List Int)) (hc : checkE L fs = 0) : leftP L fs := by
  have hk := check_ok hc
  refine ⟨hc, fewest_best hc, fun i hi => ?_⟩
  have h10 : fs.length ≤ 10 := by omega
  rw [rest_one h10 hi]
  have hs : (fs.eraseIdx i).Sublist fs := List.eraseIdx_sublist _ _
  have hc' := check_sub hs hc
  have hl : (fs.eraseIdx i).length + 1 = fs.length := by rw [List.length_eraseIdx_of_lt hi]; omega
  obtain ⟨⟨gs, g1, g2, g3⟩, g4⟩ := fewest_most hc
  obtain ⟨⟨gs', g1', g2', g3'⟩, g4'⟩ := fewest_most hc'
  refine ⟨hc', ?_, ?_⟩
  · obtain ⟨hs2, e1, e2, e3⟩ := sub_erase g1 i
    have hfr : freeR L hs2 = true := free_mono (by omega) hk.2.1 (fun g hg => hk.2.2.2 g (g1.subset hg)) (fun g hg => check_ne hc g (g1.subset hg)) (fun g hg => e1.subset hg) g3
    have := g4' hs2 e2 hfr
    omega
  · have := g4 gs' (g1'.trans hs) g3'
    omega
theorem left_made (ly mn : Int) (zs : List Int) : leftP (madeN 5 ly) (madeF 5 6 ly mn zs) := left_law _ _ (made_ok (by omega) (by omega) (by omega) (by omega))
end Go.Proofs.Ytjmpojoimcljoaa
