/-
  WHAT IS PROVED HERE: plain laws of layer 3, no program in sight: what StyleLeaves says: the fewest forms to leave out. Conditions: none.
-/
import Derived.Test.YtjmpojoimcljoaaPlain5
namespace Go.Proofs.Ytjmpojoimcljoaa
open Go.Wk

/-! ### ascending lists, in their order -/
def Asc (k : Int) : Int → List Int → Prop
  | _, [] => True
  | i, x :: xs => i ≤ x ∧ x < k ∧ Asc k (x + 1) xs
theorem Asc.le {k : Int} : ∀ {xs : List Int} {i j : Int}, Asc k j xs → i ≤ j → Asc k i xs
  | [], _, _, _, _ => trivial
  | x :: xs, i, j, h, hij => ⟨by have := h.1; omega, h.2.1, h.2.2⟩
theorem cmpL_range : ∀ x y : List Int, cmpL x y = -1 ∨ cmpL x y = 0 ∨ cmpL x y = 1
  | [], [] => by simp [cmpL]
  | [], _ :: _ => by simp [cmpL]
  | _ :: _, [] => by simp [cmpL]
  | x :: xs, y :: ys => by
    rw [cmpL]
    split
    · exact .inl rfl
    · split
      · exact .inr (.inr rfl)
      · exact cmpL_range xs ys
theorem cmpL_anti : ∀ x y : List Int, cmpL y x = - cmpL x y
  | [], [] => by simp [cmpL]
  | [], _ :: _ => by simp [cmpL]
  | _ :: _, [] => by simp [cmpL]
  | x :: xs, y :: ys => by
    rw [cmpL, cmpL]
    by_cases h1 : x < y
    · rw [if_pos h1, if_neg (by omega), if_pos h1]; rfl
    · by_cases h2 : y < x
      · rw [if_pos h2, if_neg h1, if_pos h2]
      · rw [if_neg h2, if_neg h1, if_neg h1, if_neg h2]
        exact cmpL_anti xs ys
theorem cmpL_zero : ∀ x y : List Int, cmpL x y = 0 → x = y
  | [], [], _ => rfl
  | [], _ :: _, h => by simp [cmpL] at h
  | _ :: _, [], h => by simp [cmpL] at h
  | x :: xs, y :: ys, h => by
    rw [cmpL] at h
    split at h
    · cases h
    · split at h
      · cases h
      · rename_i h1 h2
        rw [cmpL_zero xs ys h, show x = y by omega]
theorem cmpL_trans : ∀ x y z : List Int, cmpL x y ≤ 0 → cmpL y z ≤ 0 → cmpL x z ≤ 0
  | [], _, [], _, _ => by simp [cmpL]
  | [], _, _ :: _, _, _ => by simp [cmpL]
  | _ :: _, [], _, h, _ => by simp [cmpL] at h
  | _ :: _, _ :: _, [], _, h => by simp [cmpL] at h
  | x :: xs, y :: ys, z :: zs, h1, h2 => by
    rw [cmpL] at h1 h2 ⊢
    by_cases a1 : x < y
    · by_cases b1 : y < z
      · rw [if_pos (by omega)]; omega
      · by_cases b2 : z < y
        · rw [if_neg b1, if_pos b2] at h2; omega
        · rw [if_pos (by omega)]; omega
    · by_cases a2 : y < x
      · rw [if_neg a1, if_pos a2] at h1; omega
      · rw [if_neg a1, if_neg a2] at h1
        by_cases b1 : y < z
        · rw [if_pos (by omega)]; omega
        · by_cases b2 : z < y
          · rw [if_neg b1, if_pos b2] at h2; omega
          · rw [if_neg b1, if_neg b2] at h2
            rw [if_neg (by omega), if_neg (by omega)]
            exact cmpL_trans xs ys zs h1 h2
theorem cmpL_self : ∀ x : List Int, cmpL x x = 0
  | [] => rfl
  | x :: xs => by rw [cmpL, if_neg (by omega), if_neg (by omega)]; exact cmpL_self xs

/-! ### the reference: the first list -/
theorem leftX_spec {g : List Int → Int → List Int × Bool} {n : Int} {out : List Int} : ∀ k : Nat,
    ((leftX g n out k).2 = true → ∃ i, n - k ≤ i ∧ i < n ∧ (g (out ++ [i]) (i + 1)).2 = true ∧ (leftX g n out k).1 = (g (out ++ [i]) (i + 1)).1 ∧ ∀ j, n - k ≤ j → j < i → (g (out ++ [j]) (j + 1)).2 = false) ∧
    ((leftX g n out k).2 = false → ∀ j, n - k ≤ j → j < n → (g (out ++ [j]) (j + 1)).2 = false)
  | 0 => ⟨fun h => (by cases h), fun _ j h1 h2 => by omega⟩
  | k + 1 => by
    have ih := leftX_spec (g := g) (n := n) (out := out) k
    rw [leftX]
    by_cases hg : (g (out ++ [n - (k + 1)]) (n - (k + 1) + 1)).2 = true
    · rw [if_pos hg]
      exact ⟨fun _ => ⟨n - (k + 1), by omega, by omega, hg, rfl, fun j h1 h2 => by omega⟩, fun h => by cases h⟩
    · rw [if_neg hg]
      have hgf : (g (out ++ [n - (k + 1)]) (n - (k + 1) + 1)).2 = false := by simpa using hg
      constructor
      · intro h
        obtain ⟨i, h1, h2, h3, h4, h5⟩ := ih.1 h
        refine ⟨i, by omega, h2, h3, h4, fun j h6 h7 => ?_⟩
        by_cases e : j = n - (k + 1)
        · rw [e]; exact hgf
        · exact h5 j (by omega) h7
      · intro h j h6 h7
        by_cases e : j = n - (k + 1)
        · rw [e]; exact hgf
        · exact ih.2 h j (by omega) h7
theorem leftG_spec (L : Int) (fs : List (List Int)) : ∀ (m : Nat) (out : List Int) (i0 : Int), 0 ≤ i0 →
    ((leftG L fs m out i0).2 = true → ∃ l, Asc fs.length i0 l ∧ l.length = m ∧ isFree L fs (out ++ l) = true ∧ (leftG L fs m out i0).1 = out ++ l ∧ ∀ l', Asc fs.length i0 l' → l'.length = m → isFree L fs (out ++ l') = true → cmpL l l' ≤ 0) ∧
    ((leftG L fs m out i0).2 = false → ∀ l', Asc fs.length i0 l' → l'.length = m → isFree L fs (out ++ l') = false)
  | 0, out, i0, h0 => by
    rw [leftG]
    constructor
    · intro h
      refine ⟨[], trivial, rfl, by simpa using h, by simp, fun l' _ hl _ => ?_⟩
      rw [List.eq_nil_of_length_eq_zero hl]; simp [cmpL]
    · intro h l' _ hl
      rw [List.eq_nil_of_length_eq_zero hl]; simpa using h
  | m + 1, out, i0, h0 => by
    rw [leftG]
    have hX := leftX_spec (g := leftG L fs m) (n := fs.length) (out := out) ((fs.length : Int) - i0).toNat
    constructor
    · intro h
      obtain ⟨i, h1, h2, h3, h4, h5⟩ := hX.1 h
      have hi : i0 ≤ i := by omega
      obtain ⟨l, l1, l2, l3, l4, l5⟩ := (leftG_spec L fs m (out ++ [i]) (i + 1) (by omega)).1 h3
      refine ⟨i :: l, ⟨hi, h2, l1⟩, by simp [l2], by simpa using l3, by rw [h4, l4]; simp, fun l' a1 a2 a3 => ?_⟩
      cases l' with
      | nil => simp at a2
      | cons x xs =>
        have a2' : xs.length = m := by simpa using a2
        by_cases hx : x < i
        · have hf := h5 x (by have := a1.1; omega) hx
          have := (leftG_spec L fs m (out ++ [x]) (x + 1) (by have := a1.1; omega)).2 hf xs a1.2.2 a2'
          rw [List.append_assoc] at this
          rw [show out ++ x :: xs = out ++ ([x] ++ xs) from rfl, this] at a3
          cases a3
        · rw [cmpL]
          by_cases hx2 : i < x
          · rw [if_pos hx2]; omega
          · have e : x = i := by omega
            subst e
            rw [if_neg hx2, if_neg hx]
            exact l5 xs a1.2.2 a2' (by rw [List.append_assoc]; exact a3)
    · intro h l' a1 a2
      cases l' with
      | nil => simp at a2
      | cons x xs =>
        have hf := hX.2 h x (by have := a1.1; have := a1.2.1; omega) a1.2.1
        have := (leftG_spec L fs m (out ++ [x]) (x + 1) (by have := a1.1; omega)).2 hf xs a1.2.2 (by simpa using a2)
        rw [List.append_assoc] at this
        exact this
theorem leastG_spec (L : Int) (fs : List (List Int)) : ∀ (k n : Nat), n + k = fs.length → (∀ m, m < n → (leftG L fs m [] 0).2 = false) →
    ∃ m, m ≤ fs.length ∧ (leftG L fs m [] 0).2 = true ∧ (leastG L fs k n).1 = (leftG L fs m [] 0).1 ∧ ∀ m', m' < m → (leftG L fs m' [] 0).2 = false
  | 0, n, h, hn => ⟨n, by omega, leftG_all L fs n [] 0 (by omega) (by omega) (fun j h1 h2 => by omega), rfl, hn⟩
  | k + 1, n, h, hn => by
    rw [leastG]
    by_cases hg : (leftG L fs n [] 0).2 = true
    · rw [if_pos hg]; exact ⟨n, by omega, hg, rfl, hn⟩
    · rw [if_neg hg]
      refine leastG_spec L fs k (n + 1) (by omega) (fun m hm => ?_)
      by_cases e : m = n
      · subst e; simpa using hg
      · exact hn m (by omega)

/-! ### the package: choices as numbers -/
theorem bitO_nat {o : Nat} {i : Int} (h : o < 1024) (i0 : 0 ≤ i) (i1 : i ≤ 60) : bitO o i = o.testBit i.toNat := by
  obtain ⟨i, rfl⟩ := Int.eq_ofNat_of_zero_le i0
  have hm : min ((i : Int)).toNat IntKind.u64.bits = i := by
    have : IntKind.u64.bits = 64 := rfl
    rw [this, Nat.min_def]; split <;> omega
  have he : ((o : Int) / 2 ^ i) = ((o / 2 ^ i : Nat) : Int) := by simp
  have hlt : o / 2 ^ i ≤ o := Nat.div_le_self _ _
  rw [bitO, hm, he, Int.toNat_natCast, Nat.testBit_eq_decide_div_mod_eq]
  generalize o / 2 ^ i = u at hlt
  rw [u64_and _ _ (by omega) (by omega) (by omega) (by omega)]
  have : (u : Int).toNat &&& (1 : Int).toNat = u % 2 := by
    show u &&& 1 = _
    exact Nat.and_one_is_mod _
  rw [this]
  exact decide_eq_decide.2 (by omega)
theorem pickI_mem {o : Int} : ∀ (ss : List Int) (i x : Int), x ∈ pickI o i ss ↔ i ≤ x ∧ x < i + ss.length ∧ bitO o x = true
  | [], i, x => by simp [pickI]; omega
  | s :: ss, i, x => by
    rw [pickI, List.length_cons]
    have ih := pickI_mem (o := o) ss (i + 1) x
    split
    · rename_i hb
      rw [List.mem_cons, ih]
      constructor
      · rintro (rfl | h)
        · exact ⟨by omega, by omega, hb⟩
        · exact ⟨by omega, by omega, h.2.2⟩
      · rintro ⟨h1, h2, h3⟩
        by_cases e : x = i
        · exact .inl e
        · exact .inr ⟨by omega, by omega, h3⟩
    · rename_i hb
      rw [ih]
      constructor
      · rintro ⟨h1, h2, h3⟩; exact ⟨by omega, by omega, h3⟩
      · rintro ⟨h1, h2, h3⟩
        have : x ≠ i := fun e => by subst e; exact hb h3
        exact ⟨by omega, by omega, h3⟩
theorem pickI_asc {o k : Int} : ∀ (ss : List Int) (i : Int), i + ss.length ≤ k → Asc k i (pickI o i ss)
  | [], _, _ => trivial
  | s :: ss, i, h => by
    simp only [List.length_cons] at h
    have ih := pickI_asc (o := o) (k := k) ss (i + 1) (by omega)
    rw [pickI]
    split
    · exact ⟨Int.le_refl _, by omega, ih⟩
    · exact ih.le (by omega)
theorem asc_ext {k : Int} : ∀ (xs ys : List Int) (i : Int), Asc k i xs → Asc k i ys → (∀ x, x ∈ xs ↔ x ∈ ys) → xs = ys
  | [], [], _, _, _, _ => rfl
  | [], y :: ys, _, _, _, h => absurd ((h y).2 (List.mem_cons_self ..)) (by simp)
  | x :: xs, [], _, _, _, h => absurd ((h x).1 (List.mem_cons_self ..)) (by simp)
  | x :: xs, y :: ys, i, h1, h2, h => by
    have low : ∀ (zs : List Int) (j z : Int), Asc k j zs → z ∈ zs → j ≤ z := by
      intro zs
      induction zs with
      | nil => intro j z _ hz; simp at hz
      | cons w ws ih =>
        intro j z ha hz
        rcases List.mem_cons.1 hz with rfl | hz
        · exact ha.1
        · have := ih _ _ ha.2.2 hz
          have := ha.1
          omega
    have e : x = y := by
      rcases List.mem_cons.1 ((h x).1 (List.mem_cons_self ..)) with e | hx
      · exact e
      · rcases List.mem_cons.1 ((h y).2 (List.mem_cons_self ..)) with e | hy
        · exact e.symm
        · have := low _ _ _ h2.2.2 hx
          have := low _ _ _ h1.2.2 hy
          omega
    subst e
    congr 1
    refine asc_ext xs ys (x + 1) h1.2.2 h2.2.2 fun z => ?_
    constructor
    · intro hz
      have := low _ _ _ h1.2.2 hz
      rcases List.mem_cons.1 ((h z).1 (List.mem_cons_of_mem _ hz)) with e | hz'
      · omega
      · exact hz'
    · intro hz
      have := low _ _ _ h2.2.2 hz
      rcases List.mem_cons.1 ((h z).2 (List.mem_cons_of_mem _ hz)) with e | hz'
      · omega
      · exact hz'
theorem bits_of : ∀ (n : Nat) (b : Nat → Bool), ∃ o, o < 2 ^ n ∧ ∀ i, i < n → o.testBit i = b i
  | 0, _ => ⟨0, by simp, fun i h => by omega⟩
  | n + 1, b => by
    obtain ⟨o, h1, h2⟩ := bits_of n (fun i => b (i + 1))
    refine ⟨2 * o + (b 0).toNat, ?_, fun i hi => ?_⟩
    · rw [Nat.pow_succ]
      cases b 0 <;> simp <;> omega
    · cases i with
      | zero =>
        rw [Nat.testBit_zero]
        cases b 0 <;> simp <;> omega
      | succ i =>
        rw [Nat.testBit_succ, show (2 * o + (b 0).toNat) / 2 = o by cases b 0 <;> simp <;> omega]
        exact h2 i (by omega)
theorem asc_pick {k : Nat} (hk : k ≤ 10) {ss : List Int} (hs : ss.length = k) {l : List Int} (h : Asc k 0 l) : ∃ o : Nat, o < 2 ^ k ∧ pickI o 0 ss = l := by
  obtain ⟨o, h1, h2⟩ := bits_of k (fun i => decide ((i : Int) ∈ l))
  have hlt := pow1024 hk
  refine ⟨o, h1, ?_⟩
  have hup : ∀ (zs : List Int) (j z : Int), Asc k j zs → z ∈ zs → j ≤ z ∧ z < k := by
    intro zs
    induction zs with
    | nil => intro j z _ hz; simp at hz
    | cons w ws ih =>
      intro j z ha hz
      rcases List.mem_cons.1 hz with rfl | hz
      · exact ⟨ha.1, ha.2.1⟩
      · have := ih _ _ ha.2.2 hz
        have := ha.1
        omega
  refine asc_ext (k := k) _ _ 0 (pickI_asc ss 0 (by omega)) h fun x => ?_
  rw [pickI_mem]
  constructor
  · rintro ⟨x0, x1, x2⟩
    rw [bitO_nat (by omega) x0 (by omega), h2 _ (by omega), decide_eq_true_eq] at x2
    rwa [show ((x.toNat : Nat) : Int) = x by omega] at x2
  · intro hx
    have hr := hup _ _ _ h hx
    refine ⟨hr.1, by omega, ?_⟩
    rw [bitO_nat (by omega) hr.1 (by omega), h2 _ (by omega), decide_eq_true_eq, show ((x.toNat : Nat) : Int) = x by omega]
    exact hx
theorem oc_table : ∀ k < 11, ∀ o < 2 ^ k, oc64 (o : Nat) = ((List.range k).filter fun i => o.testBit i).length := by decide +kernel
theorem pickI_len {o : Nat} (ho : o < 1024) : ∀ (ss : List Int) (i : Nat), i + ss.length ≤ 60 → (pickI o i ss).length = ((List.range' i ss.length).filter fun j => o.testBit j).length
  | [], _, _ => rfl
  | s :: ss, i, h => by
    simp only [List.length_cons] at h ⊢
    rw [pickI, List.range'_succ, List.filter_cons, bitO_nat ho (by omega) (by omega), Int.toNat_natCast]
    have ih := pickI_len ho ss (i + 1) (by omega)
    rw [show (i : Int) + 1 = ((i + 1 : Nat) : Int) by omega]
    split
    · rw [List.length_cons, List.length_cons, ih]
    · exact ih
theorem oc_len {k o : Nat} (hk : k ≤ 10) (h : o < 2 ^ k) {ss : List Int} (hs : ss.length = k) : oc64 o = (pickI o 0 ss).length := by
  have hlt := pow1024 hk
  have e := pickI_len (o := o) (by omega) ss 0 (by omega)
  rw [show ((0 : Nat) : Int) = 0 from rfl, hs] at e
  rw [oc_table k (by omega) o h, e, List.range_eq_range']
theorem rest_without {o : Int} (l : List Int) : ∀ (fs : List (List Int)) (i : Int), (∀ x, i ≤ x → x < i + fs.length → (x ∈ l ↔ bitO o x = true)) → restI o i (setsF fs) = setsF (withoutG l i fs)
  | [], _, _ => rfl
  | f :: fs, i, h => by
    have ih := rest_without (o := o) l fs (i + 1) (fun x h1 h2 => h x (by omega) (by simp; omega))
    have hi := h i (Int.le_refl _) (by simp; omega)
    show restI o i (setF 0 f :: setsF fs) = _
    rw [restI, withoutG, ih]
    by_cases hb : bitO o i = true
    · rw [if_pos hb, if_pos ((hasL_mem _ _).2 (hi.2 hb))]
    · rw [if_neg hb, if_neg (by rw [hasL_mem, hi]; exact hb)]; rfl
theorem feasible {L : Int} {fs : List (List Int)} (h0 : 0 ≤ L) (h7 : L ≤ 7) (hf : okF L fs) (hne : ∀ f ∈ fs, f ≠ []) (o : Int) : 0 < countT L (restI o 0 (setsF fs)) ↔ isFree L fs (pickI o 0 (setsF fs)) = true := by
  rw [rest_without (pickI o 0 (setsF fs)) fs 0 (fun x h1 h2 => by
    rw [pickI_mem, setsF_len]
    exact ⟨fun h => h.2.2, fun h => ⟨h1, h2, h⟩⟩), tucker_count h0 h7 (withoutG_ok hf _ _) (fun f hff => hne f (withoutG_mem _ _ _ _ hff)), isFree]

/-! ### the package: the best choice -/
def Best (L : Int) (fs : List (List Int)) (n : Nat) (x : List Int × Int) : Prop :=
  ((∀ o : Nat, o < n → isFree L fs (pickI o 0 (setsF fs)) = false) ∧ x = ([], (fs.length : Int) + 1)) ∨
  (∃ o : Nat, o < n ∧ isFree L fs (pickI o 0 (setsF fs)) = true ∧ x = (pickI o 0 (setsF fs), ((pickI o 0 (setsF fs)).length : Int)) ∧
    ∀ p : Nat, p < n → isFree L fs (pickI p 0 (setsF fs)) = true → (pickI o 0 (setsF fs)).length < (pickI p 0 (setsF fs)).length ∨ ((pickI o 0 (setsF fs)).length = (pickI p 0 (setsF fs)).length ∧ cmpL (pickI o 0 (setsF fs)) (pickI p 0 (setsF fs)) ≤ 0))
theorem pickI_le (o : Int) : ∀ (ss : List Int) (i : Int), (pickI o i ss).length ≤ ss.length
  | [], _ => Nat.le_refl _
  | s :: ss, i => by
    have := pickI_le o ss (i + 1)
    rw [pickI]
    split <;> simp <;> omega
theorem best_step {L : Int} {fs : List (List Int)} (h0 : 0 ≤ L) (h7 : L ≤ 7) (h10 : fs.length ≤ 10) (hf : okF L fs) (hne : ∀ f ∈ fs, f ≠ []) {n : Nat} (hn : n < 2 ^ fs.length) {x : List Int × Int} (h : Best L fs n x) : Best L fs (n + 1) (fewStep L (setsF fs) x n) := by
  have hoc := oc_len h10 hn (setsF_len fs)
  have hfe := feasible h0 h7 hf hne (n : Int)
  have hle := pickI_le (n : Int) (setsF fs) 0
  rw [setsF_len] at hle
  rw [fewStep, hoc]
  have below : ∀ {P : Nat → Prop}, (∀ o : Nat, o < n → P o) → P n → ∀ o : Nat, o < n + 1 → P o := fun {P} h1 h2 o ho => by
    by_cases e : o = n
    · subst e; exact h2
    · exact h1 o (by omega)
  rcases h with ⟨hno, hx⟩ | ⟨o, ho, hof, hx, hmin⟩
  · rw [if_neg (by rw [hx]; simp only; omega)]
    by_cases hfr : isFree L fs (pickI n 0 (setsF fs)) = true
    · rw [if_pos ⟨.inl (by rw [hx]; simp only; omega), hfe.2 hfr⟩]
      right
      refine ⟨n, by omega, hfr, rfl, below (P := fun p => isFree L fs (pickI p 0 (setsF fs)) = true → _) (fun p hp hpf => ?_) (fun _ => .inr ⟨rfl, by rw [cmpL_self]; exact Int.le_refl _⟩)⟩
      rw [hno p hp] at hpf; cases hpf
    · rw [if_neg (fun hc => hfr (hfe.1 hc.2))]
      exact .inl ⟨below hno (by simpa using hfr), hx⟩
  · by_cases hskip : x.2 < ((pickI n 0 (setsF fs)).length : Int) ∨ x.2 = 0
    · rw [if_pos hskip]
      right
      refine ⟨o, by omega, hof, hx, below (P := fun p => isFree L fs (pickI p 0 (setsF fs)) = true → _) hmin (fun _ => ?_)⟩
      rw [hx] at hskip
      simp only at hskip
      by_cases hlt : (pickI o 0 (setsF fs)).length < (pickI n 0 (setsF fs)).length
      · exact .inl hlt
      · right
        have h1 : pickI o 0 (setsF fs) = [] := List.eq_nil_of_length_eq_zero (by omega)
        have h2 : (pickI n 0 (setsF fs)).length = 0 := by rw [h1] at hlt; simp at hlt; simp [hlt]
        have h3 : pickI n 0 (setsF fs) = [] := List.eq_nil_of_length_eq_zero h2
        rw [h1, h3]
        exact ⟨rfl, Int.le_refl _⟩
    · rw [if_neg hskip]
      rw [hx] at hskip
      simp only at hskip
      by_cases hfr : isFree L fs (pickI n 0 (setsF fs)) = true
      · by_cases hb : ((pickI n 0 (setsF fs)).length : Int) < x.2 ∨ cmpL (pickI n 0 (setsF fs)) x.1 < 0
        · rw [if_pos ⟨hb, hfe.2 hfr⟩]
          right
          rw [hx] at hb
          simp only at hb
          refine ⟨n, by omega, hfr, rfl, below (P := fun p => isFree L fs (pickI p 0 (setsF fs)) = true → _) (fun p hp hpf => ?_) (fun _ => .inr ⟨rfl, by rw [cmpL_self]; exact Int.le_refl _⟩)⟩
          rcases hmin p hp hpf with h1 | ⟨h1, h2⟩
          · exact .inl (by omega)
          · rcases hb with hb | hb
            · exact .inl (by omega)
            · by_cases hlt : (pickI n 0 (setsF fs)).length < (pickI p 0 (setsF fs)).length
              · exact .inl hlt
              · exact .inr ⟨by omega, cmpL_trans _ _ _ (by omega) h2⟩
        · rw [if_neg (fun hc => hb hc.1)]
          right
          rw [hx] at hb
          simp only at hb
          refine ⟨o, by omega, hof, hx, below (P := fun p => isFree L fs (pickI p 0 (setsF fs)) = true → _) hmin (fun _ => .inr ⟨by omega, ?_⟩)⟩
          rw [cmpL_anti]
          omega
      · rw [if_neg (fun hc => hfr (hfe.1 hc.2))]
        right
        exact ⟨o, by omega, hof, hx, below (P := fun p => isFree L fs (pickI p 0 (setsF fs)) = true → _) hmin (fun hc => absurd hc hfr)⟩
theorem best_all {L : Int} {fs : List (List Int)} (h0 : 0 ≤ L) (h7 : L ≤ 7) (h10 : fs.length ≤ 10) (hf : okF L fs) (hne : ∀ f ∈ fs, f ≠ []) : ∀ n : Nat, n ≤ 2 ^ fs.length → Best L fs n (fewTo L (setsF fs) n)
  | 0, _ => .inl ⟨fun o h => by omega, by simp [fewTo, setsF_len]⟩
  | n + 1, h => by
    rw [fewTo_next]
    exact best_step h0 h7 h10 hf hne (by omega) (best_all h0 h7 h10 hf hne n (by omega))
theorem leaves_true (L : Int) (fs : List (List Int)) : leavesB L fs = true := by
  have hF : fewestL L fs = refFewest L fs := by
    by_cases hc : checkE L fs = 0
    · have hk := check_ok hc
      have hne := check_ne hc
      have h10 : fs.length ≤ 10 := by omega
      rw [fewestL, if_pos hc, refFewest, if_neg (by omega)]
      obtain ⟨m, m1, m2, m3, m4⟩ := leastG_spec L fs fs.length 0 (by omega) (fun m h => by omega)
      rw [m3]
      obtain ⟨r, r1, r2, r3, r4, r5⟩ := (leftG_spec L fs m [] 0 (by omega)).1 m2
      rw [r4, List.nil_append]
      rw [List.nil_append] at r3
      obtain ⟨q, q1, q2⟩ := asc_pick h10 (setsF_len fs) r1
      rcases best_all (by omega) hk.2.1 h10 hk.2.2.2 hne (2 ^ fs.length) (Nat.le_refl _) with ⟨hno, _⟩ | ⟨o, ho, hof, hx, hmin⟩
      · have := hno q q1
        rw [q2, r3] at this; cases this
      · rw [hx]
        show pickI o 0 (setsF fs) = r
        have ha : Asc fs.length 0 (pickI o 0 (setsF fs)) := pickI_asc _ 0 (by rw [setsF_len]; omega)
        have hm := hmin q q1 (by rw [q2]; exact r3)
        rw [q2] at hm
        have hlen : ¬ (pickI o 0 (setsF fs)).length < m := by
          intro hlt
          have := (leftG_spec L fs _ [] 0 (by omega)).2 (m4 _ hlt) _ ha rfl
          rw [List.nil_append, hof] at this; cases this
        have hle : (pickI o 0 (setsF fs)).length = m := by omega
        have h1 := r5 _ ha hle (by rw [List.nil_append]; exact hof)
        have h2 : cmpL (pickI o 0 (setsF fs)) r ≤ 0 := by
          rcases hm with hm | hm
          · omega
          · exact hm.2
        have h3 := cmpL_anti (pickI o 0 (setsF fs)) r
        exact cmpL_zero _ _ (by omega)
    · rw [fewestL, if_neg hc, refFewest, if_pos hc]
  simp [leavesB, hF]
end Go.Proofs.Ytjmpojoimcljoaa
