/-
  WHAT IS SAID HERE: plain laws of lists that the walks of StyleTucker and of the statements behind it ask for. Conditions stand in each statement.
-/
import Derived.Test.YtjmpojoimcljoaaSpec6
namespace Go.Proofs.Ytjmpojoimcljoaa
open Go.Wk

theorem up_start0 {n : Nat} {L : Int} (h : L = n) : List.replicate n (0 : Int) = up 0 (Int.toNat 0) ++ List.replicate (L - 0).toNat 0 := by
  rw [show (L - 0).toNat = n by omega]; rfl
theorem ix_mem {xs : List Int} {j : Int} (h0 : 0 ≤ j) (h : j < xs.length) : ix 0 xs j ∈ xs := List.mem_of_getElem? (ix_get h h0)
theorem relab_done {a b y : Int} {l : List Int} (h : (l.length : Int) ≤ y) : (relab a b l).take y.toNat ++ l.drop y.toNat = relab a b l := by
  rw [List.take_of_length_le (by rw [relab_len]; omega), List.drop_of_length_le (by omega), List.append_nil]
theorem up_bd {L x : Int} (h : x ∈ up L L.toNat) : 0 ≤ x ∧ x < L := by
  have := (up_mem _).1 h; omega
/-- The three layers that are found are layers. -/
theorem wy_bd {L : Int} {fs : List (List Int)} {P : Int → Prop} {rest : List (Int × Int × Int)} (h : ∀ t ∈ rest, P t.1 ∧ P t.2.1 ∧ P t.2.2) : ∀ z ∈ wy L fs [] rest, P z := by
  intro z hz
  rw [wy, if_pos rfl] at hz
  cases hf : rest.find? (pickT L fs) with
  | none => rw [hf] at hz; simp at hz
  | some t =>
    rw [hf] at hz
    have ht := h t (List.mem_of_find?_eq_some hf)
    simp only [List.mem_cons, List.not_mem_nil, or_false] at hz
    rcases hz with rfl | rfl | rfl
    · exact ht.1
    · exact ht.2.1
    · exact ht.2.2
theorem whyT_bd {L : Int} {fs : List (List Int)} (h : [(whyT L fs).1, (whyT L fs).2.1, (whyT L fs).2.2] = whyW L fs) :
    (0 ≤ (whyT L fs).1 ∧ (whyT L fs).1 < L) ∧ (0 ≤ (whyT L fs).2.1 ∧ (whyT L fs).2.1 < L) ∧ (0 ≤ (whyT L fs).2.2 ∧ (whyT L fs).2.2 < L) := by
  have hb := wy_bd (L := L) (fs := fs) (P := fun z => 0 ≤ z ∧ z < L) (rest := prA L L.toNat) (fun t ht => by
    simp only [prA, prB, prC, List.mem_flatMap, List.mem_map] at ht
    obtain ⟨a, ha, b, hb, c, hc, rfl⟩ := ht
    exact ⟨up_bd ha, up_bd hb, up_bd hc⟩)
  rw [← whyW, ← h] at hb
  exact ⟨hb _ (by simp), hb _ (by simp), hb _ (by simp)⟩
/-! ### orders by numbers -/
theorem up_snoc' {x : Int} (h0 : 0 ≤ x) : up (x + 1) (x + 1).toNat = up x x.toNat ++ [x] := by
  rw [show (x + 1).toNat = x.toNat + 1 by omega]; exact up_snoc x x.toNat
theorem u8_of {xs : List Int} {j : Int} (h : ∀ x ∈ xs, InK .u8 x) (h0 : 0 ≤ j) (h1 : j < xs.length) : 0 ≤ ix 0 xs j ∧ ix 0 xs j ≤ 255 := bd_u8 (h _ (ix_mem h0 h1))
/-- What is left gives the one that the next number says. -/
def ordB : List Int → List Int → List Int
  | _, [] => []
  | l, b :: bs => ix 0 l (b % (l.length : Int)) :: ordB (l.take (b % (l.length : Int)).toNat ++ l.drop ((b % (l.length : Int)).toNat + 1)) bs
def ordW (n : Int) (zs : List Int) : List Int := ordB (up n n.toNat) (zs.take n.toNat)
theorem by_next {zs : List Int} {n i : Int} (h0 : 0 ≤ i) (h : i < n) (hn : n ≤ zs.length) : (zs.take n.toNat).drop i.toNat = ix 0 zs i :: (zs.take n.toNat).drop (i + 1).toNat := by
  have hl : (zs.take n.toNat).length = n.toNat := by rw [List.length_take]; omega
  rw [drop_ix (d := 0) h0 (by omega)]
  congr 1
  simp only [ix, List.getD_eq_getElem?_getD, List.getElem?_take]
  rw [if_pos (by omega)]
theorem by_end {zs : List Int} {n : Int} (hn : n ≤ zs.length) : (zs.take n.toNat).drop n.toNat = [] := by
  rw [List.drop_eq_nil_of_le]; rw [List.length_take]; omega
/-! ### turned round -/
/-- A list whose first and last i elements are turned round. -/
def revS (ys : List Int) (i : Int) : List Int := (List.range ys.length).map fun (q : Nat) => if (q : Int) < i ∨ (ys.length : Int) - 1 - i < q then ix 0 ys ((ys.length : Int) - 1 - q) else ix 0 ys q
theorem revS_len (ys : List Int) (i : Int) : (revS ys i).length = ys.length := by simp [revS]
theorem revS_ix {ys : List Int} {i q : Int} (h0 : 0 ≤ q) (h : q < ys.length) : ix 0 (revS ys i) q = if q < i ∨ (ys.length : Int) - 1 - i < q then ix 0 ys ((ys.length : Int) - 1 - q) else ix 0 ys q := by
  have e : ((q.toNat : Nat) : Int) = q := Int.toNat_of_nonneg h0
  rw [ix, List.getD_eq_getElem?_getD, revS, List.getElem?_map, List.getElem?_range (by omega)]
  simp only [Option.map_some, Option.getD_some, e]
theorem ext_ix {xs ys : List Int} (hl : xs.length = ys.length) (h : ∀ q : Int, 0 ≤ q → q < xs.length → ix 0 xs q = ix 0 ys q) : xs = ys := by
  refine List.ext_getElem hl fun i h1 h2 => ?_
  have := h i (by omega) (by omega)
  rwa [ix, ix, List.getD_eq_getElem?_getD, List.getD_eq_getElem?_getD, Int.toNat_natCast, List.getElem?_eq_getElem h1, List.getElem?_eq_getElem h2] at this
theorem ix_set {xs : List Int} {j q : Int} {x : Int} (h0 : 0 ≤ j) (h1 : j < xs.length) (q0 : 0 ≤ q) : ix 0 (xs.set j.toNat x) q = if q = j then x else ix 0 xs q := by
  rw [ix, ix, List.getD_eq_getElem?_getD, List.getD_eq_getElem?_getD, List.getElem?_set]
  by_cases hq : q = j
  · subst hq
    rw [if_pos rfl, if_pos rfl, if_pos (by omega)]; rfl
  · rw [if_neg hq, if_neg (by omega)]
theorem revS_start (ys : List Int) : revS ys 0 = ys := by
  refine ext_ix (revS_len ys 0) fun q h0 h1 => ?_
  rw [revS_len] at h1
  rw [revS_ix h0 h1, if_neg (by omega)]
theorem revS_step {ys : List Int} {i j : Int} (h0 : 0 ≤ i) (h : i < j) (hj : j = (ys.length : Int) - 1 - i) :
    ((revS ys i).set i.toNat (ix 0 (revS ys i) j)).set j.toNat (ix 0 (revS ys i) i) = revS ys (i + 1) := by
  have hl := revS_len ys i
  refine ext_ix (by simp [revS_len]) fun q q0 q1 => ?_
  simp only [List.length_set, hl] at q1
  have e1 : ix 0 (revS ys i) j = ix 0 ys j := by rw [revS_ix (by omega) (by omega), if_neg (by omega)]
  have e2 : ix 0 (revS ys i) i = ix 0 ys i := by rw [revS_ix (by omega) (by omega), if_neg (by omega)]
  rw [ix_set (by omega) (by simp only [List.length_set, hl]; omega) q0, ix_set h0 (by omega) q0, e1, e2, revS_ix (i := i) q0 q1, revS_ix (i := i + 1) q0 q1]
  by_cases h1 : q = j
  · rw [if_pos h1, if_pos (by omega)]; congr 1; omega
  · rw [if_neg h1]
    by_cases h2 : q = i
    · rw [if_pos h2, if_pos (by omega)]; congr 1; omega
    · rw [if_neg h2]
      by_cases h3 : q < i ∨ (ys.length : Int) - 1 - i < q
      · rw [if_pos h3, if_pos (by omega)]
      · rw [if_neg h3, if_neg (by omega)]
theorem ix_rev {ys : List Int} {q : Int} (h0 : 0 ≤ q) (h : q < ys.length) : ix 0 ys.reverse q = ix 0 ys ((ys.length : Int) - 1 - q) := by
  rw [ix, ix, List.getD_eq_getElem?_getD, List.getD_eq_getElem?_getD, List.getElem?_reverse (by omega)]
  congr 2; omega
theorem revS_end {ys : List Int} {i : Int} (h : (ys.length : Int) - 1 - i ≤ i) : revS ys i = ys.reverse := by
  refine ext_ix (by simp [revS_len]) fun q h0 h1 => ?_
  rw [revS_len] at h1
  rw [revS_ix h0 h1, ix_rev h0 h1]
  by_cases h3 : q < i ∨ (ys.length : Int) - 1 - i < q
  · rw [if_pos h3]
  · rw [if_neg h3]; congr 1; omega
/-! ### what StyleGaps says -/
/-- The first and the last place of a form in an order: place, what is left of the order, what is known. -/
def dateP (f : List Int) : Int → List Int → Int × Int → Int × Int
  | _, [], x => x
  | k, o :: os, x => dateP f (k + 1) os (if hasL f o = true then (min x.1 k, k) else x)
def gapsP (N : Int) (F : List (List Int)) (l : List Int) : Prop :=
  checkE N F = 0 ∧ (l.length : Int) = N ∧ shownE N F l = 0 ∧ shownE N F l.reverse = 0 ∧ gapsE N F l = (F.map fun f => gapsW f l).sum ∧ gapsE N F l.reverse = gapsE N F l ∧ (datesL N F l).length = F.length ∧ (datesL N F l.reverse).length = F.length ∧
  ∀ k : Int, 0 ≤ k → k < F.length → (0 ≤ gapsW (ix [] F k) l ∧ gapsW (ix [] F k) l ≤ 7) ∧ ix (0, 0) (datesL N F l) k = dateP (ix [] F k) 0 l (N, -1) ∧
    (gapsW (ix [] F k) l = 0 ↔ ((ix [] F k).length : Int) = (dateP (ix [] F k) 0 l (N, -1)).2 - (dateP (ix [] F k) 0 l (N, -1)).1 + 1) ∧
    (0 ≤ (ix (0, 0) (datesL N F l) k).1 ∧ (ix (0, 0) (datesL N F l) k).1 ≤ 7 ∧ 0 ≤ (ix (0, 0) (datesL N F l) k).2 ∧ (ix (0, 0) (datesL N F l) k).2 ≤ 7) ∧
    ix (0, 0) (datesL N F l.reverse) k = (N - 1 - (ix (0, 0) (datesL N F l) k).2, N - 1 - (ix (0, 0) (datesL N F l) k).1)
/-! ### a function that is called with each order, whose numbers are known -/
/-- The call of a function value that turns what holds of some orders into what holds of one order more, of numbers below n. -/
def EachIn (P : Go.Program) (fe : Go.FuncId) (fs cs : List Go.Value) (n : Int) (Tl : List (List Int) → List Ob → Prop) : Prop :=
  ∀ (ls : List (List Int)) (l : List Int) (lv : Go.Value) (pre ob : List Ob) (w0 w : Go.World) (O : List (Option Nat)), (l.length : Int) ≤ n → (∀ x ∈ l, 0 ≤ x ∧ x < n) → Tl ls ob → St w0 O w (pre ++ ob) → V (tSl (tI .i64)) l lv (fb (pre ++ ob) O) w →
    Go.Calls P fe (fs ++ [lv] ++ cs).toArray w (Bk fun r w' => r = .tuple #[] ∧ ∃ ob', Tl (ls ++ [l]) ob' ∧ St w0 O w' (pre ++ ob'))
theorem eachIn_pre {P : Go.Program} {fe : Go.FuncId} {fs cs : List Go.Value} {n : Int} {Tl : List (List Int) → List Ob → Prop} (h : EachIn P fe fs cs n Tl) (A : List Ob) : EachIn P fe fs cs n (fun ls ob => ∃ ob', ob = A ++ ob' ∧ Tl ls ob') := by
  rintro ls l lv pre ob w0 w O hl hb ⟨ob', rfl, hT⟩ hS hv
  rw [← List.append_assoc] at hS hv
  refine (h ls l lv (pre ++ A) ob' w0 w O hl hb hT hS hv).mono ?_
  rintro e w' ⟨r, he, hr, ob2, hT2, hS2⟩
  exact ⟨r, he, hr, A ++ ob2, ⟨ob2, rfl, hT2⟩, by rw [← List.append_assoc]; exact hS2⟩
theorem EachOK.toIn {P : Go.Program} {fe : Go.FuncId} {fs cs : List Go.Value} {Tl : List (List Int) → List Ob → Prop} (h : EachOK P fe fs cs Tl) (n : Int) : EachIn P fe fs cs n Tl :=
  fun ls l lv pre ob w0 w O _ _ hT hS hv => h ls l lv pre ob w0 w O hT hS hv
theorem snoc_in {l : List Int} {n x : Int} (h : ∀ y ∈ l, 0 ≤ y ∧ y < n) (h0 : 0 ≤ x) (h1 : x < n) : ∀ y ∈ l ++ [x], 0 ≤ y ∧ y < n := by
  intro y hy
  rcases List.mem_append.1 hy with hy | hy
  · exact h y hy
  · rw [List.mem_singleton] at hy; subst hy; exact ⟨h0, h1⟩
/-! ### what StyleBeside keeps of the orders -/
def farB (i a : Int) : Int → List Int → List Bool → List Bool
  | _, [], far => far
  | k, b :: bs, far => farB i a (k + 1) bs (if max (i - k) (k - i) ≠ 1 then far.set (a * 5 + b).toNat true else far)
def farA (l : List Int) : Int → List Int → List Bool → List Bool
  | _, [], far => far
  | i, a :: as, far => farA l (i + 1) as (farB i a 0 l far)
theorem farB_len (i a : Int) : ∀ (bs : List Int) (k : Int) (far : List Bool), (farB i a k bs far).length = far.length
  | [], _, _ => rfl
  | b :: bs, k, far => by
    rw [farB, farB_len i a bs]
    split
    · rw [List.length_set]
    · rfl
theorem farA_len (l : List Int) : ∀ (as : List Int) (i : Int) (far : List Bool), (farA l i as far).length = far.length
  | [], _, _ => rfl
  | a :: as, i, far => by rw [farA, farA_len l as, farB_len]
def stepB (fs : List (List Int)) (x : Int × List Bool) (l : List Int) : Int × List Bool := if fitsW fs l = true then (IntKind.i64.wrap (x.1 + 1), farA l 0 l x.2) else x
theorem stepB_len {fs : List (List Int)} : ∀ (ls : List (List Int)) (x : Int × List Bool), x.2.length = 25 → (ls.foldl (stepB fs) x).2.length = 25
  | [], _, h => h
  | l :: ls, x, h => by
    refine stepB_len ls _ ?_
    rw [stepB]
    split
    · rw [farA_len]; exact h
    · exact h
theorem stepB_in {fs : List (List Int)} : ∀ (ls : List (List Int)) (x : Int × List Bool), InK .i64 x.1 → InK .i64 (ls.foldl (stepB fs) x).1
  | [], _, h => h
  | l :: ls, x, h => by
    refine stepB_in ls _ ?_
    rw [stepB]
    split
    · exact wrap_inK .i64 _
    · exact h
def foldB (L : Int) (fs : List (List Int)) : Int × List Bool := (allL L).foldl (stepB fs) (0, List.replicate 25 false)
theorem bes_false {g k c : Int} {far : Bool} (h1 : g = 0) (h2 : k ≤ c) (h3 : k = c ↔ far = false) : ((decide (g ≠ 0) || !(decide (k = c) == !far)) || decide (c < k)) = false := by
  cases far
  · have := h3.2 rfl
    simp [h1, this]
  · have : ¬ k = c := fun h => by have := h3.1 h; cases this
    simp [h1, this]; omega
/-- What StyleBeside says of finds. -/
def besideP (L : Int) (fs : List (List Int)) : Prop :=
  checkE L fs = 0 ∧ L ≤ 5 ∧ (0 ≤ (foldB L fs).1 ∧ (foldB L fs).1 ≤ 1000000) ∧ ((foldB L fs).1 = 0 → firstE L fs = 12 ∧ besideL L fs = []) ∧
  ((foldB L fs).1 ≠ 0 → firstE L fs = 0 ∧ besideL L fs = pairA L (fun a b => !ix false (foldB L fs).2 (a * 5 + b)) L.toNat ∧
    ∀ a b, 0 ≤ a → a < b → b < L → checkE L (fs ++ [[a, b]]) = 0 ∧ countE L (fs ++ [[a, b]]) ≤ (foldB L fs).1 ∧ (countE L (fs ++ [[a, b]]) = (foldB L fs).1 ↔ ix false (foldB L fs).2 (a * 5 + b) = false))
/-! ### what StyleMore says -/
def facN : Nat → Int
  | 0 => 1
  | n + 1 => facN n * ((n : Int) + 1)
theorem facN_bd : ∀ n < 8, 1 ≤ facN n ∧ facN n ≤ 5040 := by decide
theorem facN_next {y : Int} (h0 : 0 ≤ y) : facN (y + 1).toNat = facN y.toNat * (y + 1) := by
  rw [show (y + 1).toNat = y.toNat + 1 by omega, facN, Int.toNat_of_nonneg h0]
def moreP (L : Int) (fs : List (List Int)) (one : Int) : Prop :=
  checkE L fs = 0 ∧ 0 ≤ countE L fs ∧ checkE L (fs ++ [[one % L], up L L.toNat]) = 0 ∧ countE L (fs ++ [[one % L], up L L.toNat]) = countE L fs ∧ ((fs.length : Int) = 0 → countE L fs = facN L.toNat) ∧
  ((fs.length : Int) ≠ 0 → checkE L (fs.take (one % (fs.length : Int)).toNat ++ fs.drop (one % (fs.length : Int) + 1).toNat) = 0 ∧ countE L fs ≤ countE L (fs.take (one % (fs.length : Int)).toNat ++ fs.drop (one % (fs.length : Int) + 1).toNat) ∧ (L = 1 ∨ countE L fs % 2 = 0))
/-! ### short lists, sorted -/
/-- The element at j is moved down as far as it is lower. -/
def sinkD : List Int → Nat → List Int
  | z, 0 => z
  | z, j + 1 => if ix 0 z ((j + 1 : Nat) : Int) < ix 0 z (j : Nat) then sinkD ((z.set (j + 1) (ix 0 z (j : Nat))).set j (ix 0 z ((j + 1 : Nat) : Int))) j else z
def sortG : List Int → Nat → Nat → List Int
  | z, _, 0 => z
  | z, i, m + 1 => sortG (sinkD z i) (i + 1) m
def sortW (ys : List Int) : List Int := sortG ys 1 (ys.length - 1)
theorem sink_step {z : List Int} {j : Int} (h0 : 0 < j) (h : ix 0 z j < ix 0 z (j - 1)) : sinkD ((z.set j.toNat (ix 0 z (j - 1))).set (j - 1).toNat (ix 0 z j)) (j - 1).toNat = sinkD z j.toNat := by
  obtain ⟨q, rfl⟩ : ∃ q : Nat, j = ((q + 1 : Nat) : Int) := ⟨(j - 1).toNat, by omega⟩
  have e : ((q + 1 : Nat) : Int) - 1 = (q : Int) := by omega
  rw [e] at h ⊢
  simp only [Int.toNat_natCast]
  rw [sinkD, if_pos h]
theorem sink_stop {z : List Int} {j : Int} (h0 : 0 ≤ j) (h : ¬ (0 < j ∧ ix 0 z j < ix 0 z (j - 1))) : sinkD z j.toNat = z := by
  by_cases hj : j = 0
  · subst hj; rfl
  · obtain ⟨q, rfl⟩ : ∃ q : Nat, j = ((q + 1 : Nat) : Int) := ⟨(j - 1).toNat, by omega⟩
    have e : ((q + 1 : Nat) : Int) - 1 = (q : Int) := by omega
    rw [e] at h
    simp only [Int.toNat_natCast]
    rw [sinkD, if_neg (fun hh => h ⟨by omega, hh⟩)]
theorem sort_next {z z2 : List Int} {n i : Int} (h : i < n) (hz : z2 = sinkD z i.toNat) (h0 : 0 ≤ i) : sortG z2 (i + 1).toNat (n - (i + 1)).toNat = sortG z i.toNat (n - i).toNat := by
  rw [show (n - i).toNat = (n - (i + 1)).toNat + 1 by omega, sortG, hz, show (i + 1).toNat = i.toNat + 1 by omega]
/-! ### what StyleNamed says -/
def renF (to : List Int) (f : List Int) : List Int := sortW (f.map fun x => ix 0 to x)
def namedP (L : Int) (fs : List (List Int)) (to : List Int) : Prop :=
  checkE L fs = 0 ∧ (to.length : Int) = L ∧ (∀ f ∈ fs, (f.length : Int) ≤ 7) ∧ checkE L (fs.map (renF to)) = 0 ∧ countE L (fs.map (renF to)) = countE L fs ∧ (fewestL L (fs.map (renF to))).length = (fewestL L fs).length ∧
  ((fewestL L fs).length = 0 ↔ 0 < countE L fs) ∧ firstE L (fs.map (renF to)) = firstE L fs ∧ (0 < countE L fs ↔ firstE L fs = 0) ∧
  (firstE L fs = 0 → ((firstL L fs).length : Int) = L ∧ (∀ x ∈ firstL L fs, 0 ≤ x ∧ x < L) ∧ shownE L fs (firstL L fs) = 0 ∧ gapsE L fs (firstL L fs) = 0 ∧
    shownE L (fs.map (renF to)) ((firstL L fs).map fun x => ix 0 to x) = 0 ∧ gapsE L (fs.map (renF to)) ((firstL L fs).map fun x => ix 0 to x) = 0)
end Go.Proofs.Ytjmpojoimcljoaa
