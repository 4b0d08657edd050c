/-
  WHAT IS PROVED HERE: plain laws of layer 3, no program in sight: the orders that fit are counted, and the first is made, by sets of layers that are placed; layers always next to one another. Conditions: stand in each statement.
-/
import Derived.Test.YtjmpojoimcljoaaPlain1
import Derived.Test.YtjmpojoimcljoaaSpec4
namespace Go.Proofs.Ytjmpojoimcljoaa
open Go.Wk

/-! ### sums -/
def sumL (f : Int → Int) : List Int → Int
  | [] => 0
  | x :: xs => f x + sumL f xs
theorem sumL_app (f : Int → Int) : ∀ xs ys, sumL f (xs ++ ys) = sumL f xs + sumL f ys
  | [], ys => by simp [sumL]
  | x :: xs, ys => by simp only [List.cons_append, sumL, sumL_app f xs ys]; omega
theorem sumL_congr {f g : Int → Int} : ∀ xs, (∀ x ∈ xs, f x = g x) → sumL f xs = sumL g xs
  | [], _ => rfl
  | x :: xs, h => by rw [sumL, sumL, h x (List.mem_cons_self ..), sumL_congr xs (fun y hy => h y (List.mem_cons_of_mem _ hy))]
theorem sumW_up (f : Int → Int) : ∀ k : Nat, sumW k f = sumL f (up k k)
  | 0 => rfl
  | k + 1 => by
    have : up ((k + 1 : Nat) : Int) (k + 1) = up k k ++ [(k : Int)] := up_snoc k k
    rw [this, sumL_app, sumW, sumW_up f k]
    simp [sumL]
theorem flatMap_cong {α β : Type} {f g : α → List β} : ∀ l : List α, (∀ x ∈ l, f x = g x) → l.flatMap f = l.flatMap g
  | [], _ => rfl
  | x :: l, h => by rw [List.flatMap_cons, List.flatMap_cons, h x (List.mem_cons_self ..), flatMap_cong l (fun y hy => h y (List.mem_cons_of_mem _ hy))]
theorem flatMap_len (g : Int → List (List Int)) : ∀ l : List Int, ((l.flatMap g).length : Int) = sumL (fun n => (g n).length) l
  | [] => rfl
  | x :: l => by rw [List.flatMap_cons, List.length_append, sumL, ← flatMap_len g l]; omega

/-! ### the ways, as lists -/
def waysL (L : Nat) (ss : List Int) : Nat → Int → List (List Int)
  | 0, _ => [[]]
  | m + 1, q => (up L L).flatMap fun n => if mayB ss q n = true then (waysL L ss m (orI q n)).map (n :: ·) else []
theorem waysL_len (L : Nat) (ss : List Int) : ∀ (m : Nat) (q : Int), ((waysL L ss m q).length : Int) = ways L ss m q
  | 0, _ => rfl
  | m + 1, q => by
    rw [waysL, ways, flatMap_len, sumW_up]
    refine sumL_congr _ fun n _ => ?_
    split
    · rw [List.length_map]; exact waysL_len L ss m _
    · rfl
def ext (n : Int) : Nat → List Int → List (List Int)
  | 0, _ => [[]]
  | m + 1, begun => (up n n.toNat).flatMap fun x => if hasL begun x = true then [] else (ext n m (begun ++ [x])).map (x :: ·)
theorem allX_up (n : Int) (g : List Int → List (List Int)) (begun : List Int) : ∀ k : Nat, allX n g begun k = (up n k).flatMap fun x => if hasL begun x = true then [] else g (begun ++ [x])
  | 0 => rfl
  | k + 1 => by rw [allX, up, List.flatMap_cons, allX_up n g begun k]
theorem allG_ext (n : Int) : ∀ (m : Nat) (begun : List Int), allG n m begun = (ext n m begun).map (begun ++ ·)
  | 0, begun => by simp [allG, ext]
  | m + 1, begun => by
    rw [allG, ext, allX_up, List.map_flatMap]
    refine flatMap_cong _ fun x _ => ?_
    split
    · rfl
    · rw [allG_ext n m, List.map_map]
      refine List.map_congr_left fun t _ => ?_
      simp
def okP (ss : List Int) : Int → List Int → Bool
  | _, [] => true
  | q, n :: ns => mayB ss q n && okP ss (orI q n) ns
theorem mayB_false {ss : List Int} {q n : Int} (h : hasS q n = true) : mayB ss q n = false := by simp [mayB, h]
theorem or_has {q x y : Int} (h0 : 0 ≤ q) (h1 : q < 128) (x0 : 0 ≤ x) (x7 : x < 7) (y0 : 0 ≤ y) (y7 : y < 7) : hasS (orI q x) y = (hasS q y || decide (y = x)) := by
  have e := with_or q.toNat (by omega) x.toNat (by omega)
  rw [show ((q.toNat : Nat) : Int) = q by omega, show ((x.toNat : Nat) : Int) = x by omega] at e
  rw [← e]
  exact has_with (in_u8 (by omega) (by omega)) x0 (by omega) y0 (by omega)
theorem hasL_snoc (l : List Int) (x y : Int) : hasL (l ++ [x]) y = (hasL l y || decide (y = x)) := by
  rw [Bool.eq_iff_iff, hasL_mem, Bool.or_eq_true, hasL_mem]
  simp
theorem ext_filter {n : Int} {ss : List Int} (n0 : 0 ≤ n) (n7 : n ≤ 7) : ∀ (m : Nat) (begun : List Int) (q : Int), 0 ≤ q → q < 128 → (∀ x, 0 ≤ x → x < n → hasS q x = hasL begun x) → (ext n m begun).filter (okP ss q) = waysL n.toNat ss m q
  | 0, begun, q, _, _, _ => by simp [ext, waysL, okP]
  | m + 1, begun, q, h0, h1, h => by
    rw [ext, waysL, List.filter_flatMap, show ((n.toNat : Nat) : Int) = n by omega]
    refine flatMap_cong _ fun x hx => ?_
    rw [up_mem] at hx
    have hhx := h x (by omega) hx.2
    by_cases hb : hasL begun x = true
    · rw [if_pos hb, if_neg (by rw [mayB_false (hhx.trans hb)]; decide)]; rfl
    · rw [if_neg hb, List.filter_map]
      have hx0 : hasS q x = false := by rw [hhx]; simpa using hb
      have hf := orI_facts h0 h1 (show 0 ≤ x by omega) (by omega) hx0
      have ih := ext_filter (ss := ss) n0 n7 m (begun ++ [x]) (orI q x) (by omega) hf.2.1 (fun y y0 y1 => by
        rw [or_has h0 h1 (by omega) (by omega) y0 (by omega), hasL_snoc, h y y0 y1])
      by_cases hm : mayB ss q x = true
      · rw [if_pos hm, ← ih]
        congr 1
        refine List.filter_congr fun t _ => ?_
        show okP ss q (x :: t) = _
        rw [okP, hm, Bool.true_and]
      · rw [if_neg hm]
        have : List.filter (okP ss q ∘ fun t => x :: t) (ext n m (begun ++ [x])) = [] := by
          rw [List.filter_eq_nil_iff]
          intro t _
          show ¬ okP ss q (x :: t) = true
          rw [okP]
          simp [hm]
        rw [this]; rfl

/-! ### one form in an order -/
def okR (f : List Int) : Bool → List Int → Bool
  | _, [] => true
  | s, x :: t => !((s && t.any (hasL f)) && !hasL f x) && okR f (s || hasL f x) t
theorem okR_none (f : List Int) : ∀ (t : List Int) (s : Bool), t.any (hasL f) = false → okR f s t = true
  | [], _, _ => rfl
  | x :: t, s, h => by
    simp only [List.any_cons, Bool.or_eq_false_iff] at h
    rw [okR, h.2, okR_none f t _ h.2]
    simp
theorem runs_zero (f : List Int) : ∀ t : List Int, runsG f false t = 0 ↔ t.any (hasL f) = false
  | [] => by simp [runsG]
  | x :: t => by
    have hb := runsG_bd f t true
    rw [runsG, List.any_cons]
    by_cases h : hasL f x = true
    · rw [if_pos ⟨h, rfl⟩, h]
      simp only [Bool.true_or, Bool.true_eq_false, iff_false]
      omega
    · have h' : hasL f x = false := by simpa using h
      rw [if_neg (fun hh => h hh.1), h', Bool.false_or, Int.zero_add]
      exact runs_zero f t
theorem runs_on (f : List Int) : ∀ t : List Int, runsG f true t = 0 ↔ okR f true t = true
  | [] => by simp [runsG, okR]
  | x :: t => by
    rw [runsG, okR, if_neg (fun hh => by cases hh.2), Int.zero_add]
    by_cases h : hasL f x = true
    · rw [h, runs_on f t]; simp
    · have h' : hasL f x = false := by simpa using h
      rw [h', runs_zero f t]
      constructor
      · intro ht
        rw [ht, okR_none f t _ ht]; rfl
      · intro ht
        simp at ht
        simpa using ht.1
theorem runs_one (f : List Int) : ∀ t : List Int, runsG f false t = 1 ↔ t.any (hasL f) = true ∧ okR f false t = true
  | [] => by simp [runsG]
  | x :: t => by
    rw [runsG, okR, List.any_cons]
    by_cases h : hasL f x = true
    · rw [if_pos ⟨h, rfl⟩, h]
      simp only [Bool.true_or, Bool.false_or, Bool.false_and, Bool.not_false, Bool.true_and, true_and, Bool.not_true, Bool.and_false]
      rw [← runs_on f t]
      omega
    · have h' : hasL f x = false := by simpa using h
      rw [if_neg (fun hh => h hh.1), h', Int.zero_add, runs_one f t]
      simp
/-- An order of the layers. -/
structure Perm (n : Int) (o : List Int) : Prop where
  nodup : o.Nodup
  mem : ∀ x, x ∈ o ↔ 0 ≤ x ∧ x < n
theorem ext_mem (n : Int) (n0 : 0 ≤ n) : ∀ (m : Nat) (begun t : List Int), t ∈ ext n m begun → t.length = m ∧ t.Nodup ∧ ∀ x ∈ t, 0 ≤ x ∧ x < n ∧ x ∉ begun
  | 0, begun, t, h => by
    simp only [ext, List.mem_singleton] at h
    subst h; simp
  | m + 1, begun, t, h => by
    rw [ext, List.mem_flatMap] at h
    obtain ⟨x, hx, h⟩ := h
    rw [up_mem] at hx
    split at h
    · simp at h
    · rename_i hb
      rw [hasL_mem] at hb
      obtain ⟨u, hu, rfl⟩ := List.mem_map.1 h
      have := ext_mem n n0 m _ u hu
      refine ⟨by simp [this.1], List.nodup_cons.2 ⟨fun hxu => (this.2.2 x hxu).2.2 (by simp), this.2.1⟩, fun y hy => ?_⟩
      rcases List.mem_cons.1 hy with rfl | hy
      · exact ⟨by omega, hx.2, hb⟩
      · have h3 := this.2.2 y hy
        exact ⟨h3.1, h3.2.1, fun hyb => h3.2.2 (List.mem_append_left _ hyb)⟩
theorem perm_of {n : Int} {o : List Int} (hl : (o.length : Int) = n) (hn : o.Nodup) (hm : ∀ x ∈ o, 0 ≤ x ∧ x < n) : Perm n o := by
  refine ⟨hn, fun x => ⟨hm x, fun hx => ?_⟩⟩
  by_cases hxo : x ∈ o
  · exact hxo
  · exfalso
    have hs : (x :: o) ⊆ up n n.toNat := by
      intro y hy
      rw [up_mem]
      rcases List.mem_cons.1 hy with rfl | hy
      · omega
      · have := hm y hy; omega
    have := List.Nodup.length_le_of_subset (List.nodup_cons.2 ⟨hxo, hn⟩) hs
    rw [up_len, List.length_cons] at this
    omega
theorem allL_perm {n : Int} (n0 : 0 ≤ n) {o : List Int} (h : o ∈ allL n) : Perm n o := by
  rw [allL, allG_ext, List.mem_map] at h
  obtain ⟨t, ht, rfl⟩ := h
  have := ext_mem n n0 _ _ t ht
  exact perm_of (by rw [List.nil_append, this.1]; omega) (by simpa using this.2.1) (fun x hx => by have := this.2.2 x (by simpa using hx); exact ⟨this.1, this.2.1⟩)
theorem any_hasL {f t : List Int} : t.any (hasL f) = true ↔ ∃ y ∈ t, y ∈ f := by
  rw [List.any_eq_true]
  constructor
  · rintro ⟨y, h1, h2⟩; exact ⟨y, h1, (hasL_mem _ _).1 h2⟩
  · rintro ⟨y, h1, h2⟩; exact ⟨y, h1, (hasL_mem _ _).2 h2⟩
theorem bad_iff {L : Int} {fs : List (List Int)} (h7 : L ≤ 7) (hf : okF L fs) {f p t : List Int} {q x : Int} (hff : f ∈ fs) (hP : Perm L (p ++ x :: t)) (q0 : 0 ≤ q) (q1 : q < 128) (hq : ∀ y, 0 ≤ y → y < L → hasS q y = hasL p y) :
    badS q x (setF 0 f) = ((p.any (hasL f) && t.any (hasL f)) && !hasL f x) := by
  have hfi : InK .u8 (setF 0 f) := setF_in f 0 (in_u8 (by omega) (by omega))
  have hqi : InK .u8 q := in_u8 q0 (by omega)
  have hx := (hP.mem x).1 (by simp)
  have hhf : ∀ y, 0 ≤ y → y ≤ 7 → (hasS (setF 0 f) y = true ↔ y ∈ f) := fun y y0 y7 => by rw [has_form h7 (hf f hff) y0 y7, decide_eq_true_eq]
  have e1 : bits .and .u8 (setF 0 f) q ≠ 0 ↔ p.any (hasL f) = true := by
    rw [and_ne hfi hqi, any_hasL]
    constructor
    · rintro ⟨y, y0, y7, h1, h2⟩
      have hyf := (hhf y y0 y7).1 h1
      have := hf f hff y hyf
      exact ⟨y, by rw [← hasL_mem, ← hq y y0 this.2]; exact h2, hyf⟩
    · rintro ⟨y, h1, h2⟩
      have := hf f hff y h2
      exact ⟨y, this.1, by omega, (hhf y this.1 (by omega)).2 h2, by rw [hq y this.1 this.2, hasL_mem]; exact h1⟩
  have e3 : hasS (setF 0 f) x = hasL f x := by
    rw [Bool.eq_iff_iff, hhf x hx.1 (by omega), hasL_mem]
  rw [badS, e3]
  cases hxf : hasL f x with
  | true => simp
  | false =>
    have hxn : x ∉ f := hasL_not.1 hxf
    have e2 : bits .andNot .u8 (setF 0 f) q ≠ 0 ↔ t.any (hasL f) = true := by
      rw [andNot_ne hfi hqi, any_hasL]
      constructor
      · rintro ⟨y, y0, y7, h1, h2⟩
        have hyf := (hhf y y0 y7).1 h1
        have hyr := hf f hff y hyf
        have hyp : y ∉ p := by rw [hq y y0 hyr.2] at h2; exact hasL_not.1 h2
        have := (hP.mem y).2 hyr
        rcases List.mem_append.1 this with h | h
        · exact absurd h hyp
        · rcases List.mem_cons.1 h with rfl | h
          · exact absurd hyf hxn
          · exact ⟨y, h, hyf⟩
      · rintro ⟨y, h1, h2⟩
        have hyr := hf f hff y h2
        refine ⟨y, hyr.1, by omega, (hhf y hyr.1 (by omega)).2 h2, ?_⟩
        rw [hq y hyr.1 hyr.2, hasL_not]
        intro hyp
        have hd := (List.nodup_append.1 hP.nodup).2.2 y hyp y (List.mem_cons_of_mem _ h1)
        exact hd rfl
    congr 1
    rw [Bool.eq_iff_iff, Bool.and_eq_true, Bool.and_eq_true, decide_eq_true_eq, decide_eq_true_eq, e1, e2]
theorem okP_iff {L : Int} {fs : List (List Int)} (h7 : L ≤ 7) (hf : okF L fs) : ∀ (t p : List Int) (q : Int), Perm L (p ++ t) → 0 ≤ q → q < 128 → (∀ y, 0 ≤ y → y < L → hasS q y = hasL p y) →
    (okP (setsF fs) q t = true ↔ ∀ f ∈ fs, okR f (p.any (hasL f)) t = true)
  | [], p, q, _, _, _, _ => by simp [okP, okR]
  | x :: t, p, q, hP, q0, q1, hq => by
    have hx := (hP.mem x).1 (by simp)
    have hxp : x ∉ p := fun h => (List.nodup_append.1 hP.nodup).2.2 x h x (List.mem_cons_self ..) rfl
    have hqx : hasS q x = false := by rw [hq x hx.1 hx.2]; exact hasL_not.2 hxp
    have hfa := orI_facts q0 q1 hx.1 (by omega) hqx
    have ih := okP_iff h7 hf t (p ++ [x]) (orI q x) (by rw [List.append_assoc]; exact hP) (by omega) hfa.2.1 (fun y y0 y1 => by rw [or_has q0 q1 hx.1 (by omega) y0 (by omega), hasL_snoc, hq y y0 y1])
    have hm : mayB (setsF fs) q x = true ↔ ∀ f ∈ fs, ((p.any (hasL f) && t.any (hasL f)) && !hasL f x) = false := by
      rw [mayB, hqx]
      simp only [Bool.not_false, Bool.true_and, Bool.not_eq_true']
      rw [List.any_eq_false]
      constructor
      · intro h f hff
        have := h (setF 0 f) (List.mem_map.2 ⟨f, hff, rfl⟩)
        rw [bad_iff h7 hf hff hP q0 q1 hq] at this
        simpa using this
      · intro h g hg
        obtain ⟨f, hff, rfl⟩ := List.mem_map.1 hg
        rw [bad_iff h7 hf hff hP q0 q1 hq, h f hff]
        decide
    rw [okP, Bool.and_eq_true, hm, ih]
    constructor
    · rintro ⟨h1, h2⟩ f hff
      have h3 := h2 f hff
      rw [okR, h1 f hff]
      simpa using h3
    · intro h
      refine ⟨fun f hff => ?_, fun f hff => ?_⟩
      · have := h f hff
        rw [okR, Bool.and_eq_true, Bool.not_eq_true'] at this
        exact this.1
      · have := h f hff
        rw [okR, Bool.and_eq_true] at this
        simpa using this.2
theorem fits_okP {L : Int} {fs : List (List Int)} (h7 : L ≤ 7) (hf : okF L fs) (hne : ∀ f ∈ fs, f ≠ []) {o : List Int} (hP : Perm L o) : fitsL fs o = okP (setsF fs) 0 o := by
  rw [Bool.eq_iff_iff, okP_iff h7 hf o [] 0 hP (by omega) (by omega) (fun y y0 y1 => by rw [has_zero y0 (by omega)]; rfl), fitsL, List.all_eq_true]
  refine forall_congr' fun f => forall_congr' fun hff => ?_
  rw [decide_eq_true_eq]
  show runsG f false o = 1 ↔ okR f false o = true
  rw [runs_one]
  have : o.any (hasL f) = true := by
    rw [any_hasL]
    obtain ⟨y, hy⟩ := List.exists_mem_of_ne_nil f (hne f hff)
    exact ⟨y, (hP.mem y).2 (hf f hff y hy), hy⟩
  simp [this]
/-- The orders that fit are the ways. -/
theorem fitL_ways {L : Int} {fs : List (List Int)} (h0 : 0 ≤ L) (h7 : L ≤ 7) (hf : okF L fs) (hne : ∀ f ∈ fs, f ≠ []) : fitL L fs = waysL L.toNat (setsF fs) L.toNat 0 := by
  rw [fitL, ← ext_filter (ss := setsF fs) h0 h7 L.toNat [] 0 (by omega) (by omega) (fun y y0 y1 => by rw [has_zero y0 (by omega)]; rfl)]
  have : allL L = ext L L.toNat [] := by rw [allL, allG_ext]; simp
  rw [this]
  refine List.filter_congr fun o ho => ?_
  exact fits_okP h7 hf hne (allL_perm h0 (by rw [this]; exact ho))
theorem count_eq {L : Int} {fs : List (List Int)} (h0 : 0 ≤ L) (h7 : L ≤ 7) (hf : okF L fs) (hne : ∀ f ∈ fs, f ≠ []) : countT L (setsF fs) = (fitL L fs).length := by
  rw [fitL_ways h0 h7 hf hne, waysL_len]; rfl
theorem formsE_ne (L : Int) : ∀ fs : List (List Int), formsE L fs = 0 → ∀ f ∈ fs, f ≠ []
  | [], _, f, hf => by simp at hf
  | g :: fs, h, f, hf => by
    rw [formsE] at h
    split at h
    · rename_i h1
      rcases List.mem_cons.1 hf with rfl | hf
      · intro e
        subst e
        simp [formE] at h1
      · exact formsE_ne L fs h f hf
    · rename_i h1; exact absurd h h1
theorem check_ne {L : Int} {fs : List (List Int)} (h : checkE L fs = 0) : ∀ f ∈ fs, f ≠ [] := by
  simp only [checkE] at h
  split at h
  · cases h
  · split at h
    · cases h
    · exact formsE_ne L fs h
theorem whys_true (L : Int) (fs : List (List Int)) (a b c : Int) : whysB L fs a b c = true :=
  whys_of fun h => by
    have hk := check_ok h
    rw [count_eq (by omega) hk.2.1 hk.2.2.2 (check_ne h)]
    omega
end Go.Proofs.Ytjmpojoimcljoaa
