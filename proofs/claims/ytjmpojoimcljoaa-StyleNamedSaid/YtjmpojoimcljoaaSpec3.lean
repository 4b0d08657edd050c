/-
  WHAT IS SAID HERE: plain functions: what the functions of layer 3's reference compute.
-/
import Derived.Test.YtjmpojoimcljoaaSpec2
namespace Go.Proofs.Ytjmpojoimcljoaa
open Go.Wk

theorem hasL_mem : ∀ (l : List Int) (x : Int), hasL l x = true ↔ x ∈ l
  | [], x => by simp [hasL]
  | y :: l, x => by
    rw [hasL]
    split
    · rename_i h; simp [h]
    · rename_i h
      rw [hasL_mem l x, List.mem_cons]
      exact ⟨.inr, fun h' => h'.resolve_left (fun e => h e.symm)⟩

/-! ### runs, and orders that fit -/
def runsG (form : List Int) : Bool → List Int → Int
  | _, [] => 0
  | p, x :: xs => (if hasL form x = true ∧ p = false then 1 else 0) + runsG form (hasL form x) xs
def runsL (form order : List Int) : Int := runsG form false order
theorem runsG_bd (form : List Int) : ∀ (xs : List Int) (p : Bool), 0 ≤ runsG form p xs ∧ runsG form p xs ≤ xs.length
  | [], _ => by simp [runsG]
  | x :: xs, p => by
    have := runsG_bd form xs (hasL form x)
    rw [runsG, List.length_cons]
    split <;> omega
def fitsL (fs : List (List Int)) (order : List Int) : Bool := fs.all fun f => decide (runsL f order = 1)

/-! ### all orders -/
def allX (n : Int) (g : List Int → List (List Int)) (begun : List Int) : Nat → List (List Int)
  | 0 => []
  | k + 1 => (if hasL begun (n - (k + 1)) = true then [] else g (begun ++ [n - (k + 1)])) ++ allX n g begun k
def allG (n : Int) : Nat → List Int → List (List Int)
  | 0, begun => [begun]
  | m + 1, begun => allX n (allG n m) begun n.toNat
theorem allX_len (n : Int) (g : List Int → List (List Int)) (begun : List Int) (B : Nat) (h : ∀ l, (g l).length ≤ B) : ∀ k, (allX n g begun k).length ≤ k * B
  | 0 => by simp [allX]
  | k + 1 => by
    have := allX_len n g begun B h k
    have h2 := h (begun ++ [n - (k + 1)])
    rw [allX, List.length_append, Nat.add_mul, Nat.one_mul]
    split <;> simp <;> omega
theorem allG_len (n : Int) (h7 : n ≤ 7) : ∀ (m : Nat) (begun : List Int), (allG n m begun).length ≤ 7 ^ m
  | 0, _ => by simp [allG]
  | m + 1, begun => by
    have := allX_len n (allG n m) begun (7 ^ m) (allG_len n h7 m) n.toNat
    rw [allG, Nat.pow_succ, Nat.mul_comm]
    exact Nat.le_trans this (Nat.mul_le_mul_right _ (by omega))
theorem pow7n : ∀ m ≤ 7, 7 ^ m ≤ 823543 := by decide
theorem allG_len' (n : Int) (h7 : n ≤ 7) {m : Nat} (hm : m ≤ 7) (begun : List Int) : (allG n m begun).length ≤ 823543 := Nat.le_trans (allG_len n h7 m begun) (pow7n m hm)
def allL (n : Int) : List (List Int) := allG n n.toNat []
def fitL (n : Int) (fs : List (List Int)) : List (List Int) := (allL n).filter (fitsL fs)
theorem fitL_len (n : Int) (fs : List (List Int)) (h7 : n ≤ 7) : (fitL n fs).length ≤ 823543 := Nat.le_trans (List.length_filter_le _ _) (allG_len' n h7 (by omega) [])
def refFirst (L : Int) (fs : List (List Int)) : List Int × Int := if checkE L fs ≠ 0 then ([], checkE L fs) else if (fitL L fs).length = 0 then ([], 12) else (ix [] (fitL L fs) 0, 0)
def refCount (L : Int) (fs : List (List Int)) : Int := if checkE L fs ≠ 0 then 0 else (fitL L fs).length
def nextL (a b : Int) : List Int → Bool
  | x :: y :: r => ((decide (x = a) && decide (y = b)) || (decide (x = b) && decide (y = a))) || nextL a b (y :: r)
  | _ => false
def refBeside (L : Int) (fs : List (List Int)) : List (Int × Int) := if (refFirst L fs).2 = 0 then pairA L (fun a b => (fitL L fs).all (nextL a b)) L.toNat else []

/-! ### chains -/
def addC : List Int → List Int → List Int
  | met, [] => met
  | met, x :: xs => addC (if hasL met x = true then met else met ++ [x]) xs
def passC (c x : Int) : List (List Int) → List Int → List Int
  | [], met => met
  | f :: fs, met => passC c x fs (if hasL f x = true ∧ hasL f c = false then addC met f else met)
def chainG (fs : List (List Int)) (c : Int) : Nat → Int → List Int → List Int
  | 0, _, met => met
  | k + 1, i, met => if i < met.length then chainG fs c k (i + 1) (passC c (ix 0 met i) fs met) else met
def metOk (L : Int) (met : List Int) : Prop := met.Nodup ∧ ∀ x ∈ met, 0 ≤ x ∧ x < L
theorem metOk.len {L : Int} {met : List Int} (h : metOk L met) : (met.length : Int) ≤ L ∨ met = [] := by
  by_cases he : met = []
  · exact .inr he
  left
  have hs : met ⊆ (List.range L.toNat).map fun (i : Nat) => (i : Int) := by
    intro x hx
    have := h.2 x hx
    exact List.mem_map.2 ⟨x.toNat, List.mem_range.2 (by omega), by omega⟩
  have h1 := List.Nodup.length_le_of_subset h.1 hs
  obtain ⟨x, hx⟩ := List.exists_mem_of_ne_nil _ he
  have := h.2 x hx
  simp at h1
  omega
theorem metOk.add {L x : Int} {met : List Int} (h : metOk L met) (h0 : 0 ≤ x) (h1 : x < L) (hx : hasL met x = false) : metOk L (met ++ [x]) := by
  refine ⟨List.nodup_append.2 ⟨h.1, by simp, fun a ha b hb => ?_⟩, fun y hy => ?_⟩
  · intro e
    subst e
    simp only [List.mem_singleton] at hb
    subst hb
    rw [(hasL_mem met a).2 ha] at hx
    cases hx
  · rcases List.mem_append.1 hy with hy | hy
    · exact h.2 y hy
    · simp only [List.mem_singleton] at hy; subst hy; exact ⟨h0, h1⟩
theorem metOk.len7 {L : Int} {met : List Int} (h : metOk L met) (h7 : L ≤ 7) : (met.length : Int) ≤ 7 := by
  rcases h.len with h | h
  · omega
  · subst h; simp
theorem ix_app {met zs : List Int} {i : Int} (h0 : 0 ≤ i) (h : i < met.length) : ix 0 (met ++ zs) i = ix 0 met i := by
  rw [ix, ix, List.getD_eq_getElem?_getD, List.getD_eq_getElem?_getD, List.getElem?_append_left (by omega)]
theorem chainG_end {fs : List (List Int)} {c : Int} : ∀ {k : Nat} {i : Int} {met : List Int}, (met.length : Int) ≤ i → chainG fs c k i met = met
  | 0, _, _, _ => rfl
  | k + 1, i, met, h => by rw [chainG, if_neg (by omega)]
def chainL (fs : List (List Int)) (a c : Int) : List Int := chainG fs c 8 0 [a]
def chainB (fs : List (List Int)) (a b c : Int) : Bool := hasL (chainL fs a c) b
def apartR (fs : List (List Int)) (a b c : Int) : Bool := (chainB fs a b c && chainB fs b c a) && chainB fs c a b
def apartRT (fs : List (List Int)) (t : Int × Int × Int) : Bool := apartR fs t.1 t.2.1 t.2.2
def okF (L : Int) (fs : List (List Int)) : Prop := ∀ f ∈ fs, ∀ x ∈ f, 0 ≤ x ∧ x < L
def refWhyF (L : Int) (fs : List (List Int)) : Option (Int × Int × Int) := (tripA L L.toNat).find? (apartRT fs)
def refWhyE (L : Int) (fs : List (List Int)) : Int := if checkE L fs ≠ 0 then checkE L fs else if 0 < (fitL L fs).length then 13 else if (refWhyF L fs).isSome = true then 0 else 14
def refWhyT (L : Int) (fs : List (List Int)) : Int × Int × Int := if refWhyE L fs = 0 then (refWhyF L fs).getD (0, 0, 0) else (0, 0, 0)
def refProves (L : Int) (fs : List (List Int)) (a b c : Int) : Int :=
  if checkE L fs ≠ 0 then checkE L fs else if (a < 0 ∨ L - 1 < a) ∨ (b < 0 ∨ L - 1 < b) ∨ (c < 0 ∨ L - 1 < c) then 2 else if a = b ∨ b = c ∨ a = c then 6 else if apartR fs a b c = true then 0 else 14
theorem proves_eq {L a b c e d q : Int} {fs : List (List Int)} (j1 : e = if checkE L fs = 0 ∧ (((a < 0 ∨ L - 1 < a) ∨ (b < 0 ∨ L - 1 < b)) ∨ (c < 0 ∨ L - 1 < c)) then 2 else checkE L fs) (j2 : d = if e = 0 ∧ ((a = b ∨ b = c) ∨ a = c) then 6 else e)
    (j3 : q = if d = 0 ∧ apartR fs a b c = false then 14 else d) : q = refProves L fs a b c := by
  unfold refProves
  by_cases h1 : checkE L fs = 0
  · rw [if_neg (by omega)]
    by_cases h2 : (((a < 0 ∨ L - 1 < a) ∨ (b < 0 ∨ L - 1 < b)) ∨ (c < 0 ∨ L - 1 < c))
    · rw [if_pos ⟨h1, h2⟩] at j1
      subst j1
      rw [if_neg (by omega)] at j2
      subst j2
      rw [if_neg (by omega)] at j3
      rw [if_pos (by omega), j3]
    · rw [if_neg (fun h => h2 h.2), h1] at j1
      subst j1
      rw [if_neg (by omega)]
      by_cases h3 : ((a = b ∨ b = c) ∨ a = c)
      · rw [if_pos ⟨rfl, h3⟩] at j2
        subst j2
        rw [if_neg (by omega)] at j3
        rw [if_pos (by omega), j3]
      · rw [if_neg (fun h => h3 h.2)] at j2
        subst j2
        rw [if_neg (by omega), j3]
        cases apartR fs a b c <;> simp
  · rw [if_pos h1]
    rw [if_neg (fun h => h1 h.1)] at j1
    subst j1
    rw [if_neg (fun h => h1 h.1)] at j2
    subst j2
    rw [if_neg (fun h => h1 h.1)] at j3
    exact j3
theorem numE_ok (L : Int) : ∀ (ns : List Int) (last : Int), numE L last ns = 0 → ∀ x ∈ ns, 0 ≤ x ∧ x < L
  | [], _, _, _, h => by simp at h
  | n :: ns, last, h, x, hx => by
    rw [numE] at h
    split at h
    · cases h
    · split at h
      · cases h
      · rcases List.mem_cons.1 hx with rfl | hx
        · omega
        · exact numE_ok L ns n h x hx
theorem formsE_ok (L : Int) : ∀ fs : List (List Int), formsE L fs = 0 → okF L fs
  | [], _ => fun f hf => by simp at hf
  | f :: fs, h => by
    rw [formsE] at h
    split at h
    · rename_i h1
      intro g hg
      rcases List.mem_cons.1 hg with rfl | hg
      · rw [formE] at h1
        split at h1
        · cases h1
        · exact numE_ok L g (-1) h1
      · exact formsE_ok L fs h g hg
    · rename_i h1; exact absurd h h1
theorem check_ok {L : Int} {fs : List (List Int)} (h : checkE L fs = 0) : 1 ≤ L ∧ L ≤ 7 ∧ (fs.length : Int) ≤ 10 ∧ okF L fs := by
  have ho := openL_ok h
  refine ⟨ho.2.2.1, ho.2.2.2.1, ho.2.2.2.2, formsE_ok L fs ?_⟩
  simp only [checkE] at h
  split at h
  · cases h
  · split at h
    · cases h
    · exact h

/-! ### an order's error, gaps and dates -/
def ordG (L : Int) : List Int → List Int → Int
  | _, [] => 0
  | seen, x :: xs => if x < 0 ∨ L - 1 < x then 2 else if hasL seen x = true then 6 else ordG L (seen ++ [x]) xs
def orderedE (L : Int) (fs : List (List Int)) (order : List Int) : Int := if checkE L fs ≠ 0 then checkE L fs else if (order.length : Int) ≠ L then 5 else ordG L [] order
theorem orderedE_ok {L : Int} {fs : List (List Int)} {order : List Int} (h : orderedE L fs order = 0) : checkE L fs = 0 ∧ (order.length : Int) = L ∧ ordG L [] order = 0 := by
  unfold orderedE at h
  split at h
  · exact (by rename_i h1; exact absurd h h1)
  · split at h
    · cases h
    · exact ⟨by omega, by omega, h⟩
def refWhole (L : Int) (fs : List (List Int)) (order : List Int) : Bool := decide (orderedE L fs order = 0) && fitsL fs order
def gapsG (order : List Int) : List (List Int) → Int
  | [] => 0
  | f :: fs => (runsL f order - 1) + gapsG order fs
theorem gapsG_snoc (order : List Int) : ∀ (fs : List (List Int)) (f : List Int), gapsG order (fs ++ [f]) = gapsG order fs + (runsL f order - 1)
  | [], f => by simp [gapsG]
  | g :: fs, f => by simp [gapsG, gapsG_snoc order fs f]; omega
def refGaps (L : Int) (fs : List (List Int)) (order : List Int) : Int := if orderedE L fs order = 0 then gapsG order fs else 0
def dateG (form : List Int) : Int → List Int → Int × Int → Int × Int
  | _, [], x => x
  | k, o :: os, x => dateG form (k + 1) os (if hasL form o = true then (min x.1 k, max x.2 k) else x)
def refDates (L : Int) (fs : List (List Int)) (order : List Int) : List (Int × Int) := if orderedE L fs order = 0 then fs.map fun f => dateG f 0 order (L, 0) else []

/-! ### what the statements say -/
def ordersB (L : Int) (fs : List (List Int)) (order : List Int) : Bool :=
  ((((((((decide (shownE L fs order = 0) && decide (gapsE L fs order = 0)) == refWhole L fs order) && decide (shownE L fs order = orderedE L fs order)) && decide (gapsE L fs order = refGaps L fs order)) && decide (shownE L fs order = orderedE L fs order))
    && decide (datesL L fs order = refDates L fs order)) && decide (shownE L fs order = orderedE L fs order)) && decide (checkE L fs = checkE L fs)) && true
def fitsB (L : Int) (fs : List (List Int)) : Bool :=
  (((((decide (firstL L fs = (refFirst L fs).1) && decide (firstE L fs = (refFirst L fs).2)) && decide (countE L fs = refCount L fs)) && decide (checkE L fs = checkE L fs)) && decide (besideL L fs = refBeside L fs)) && decide (firstE L fs = (refFirst L fs).2)) && true
def whysB (L : Int) (fs : List (List Int)) (a b c : Int) : Bool :=
  ((((decide ((whyT L fs).1 = (refWhyT L fs).1) && decide ((whyT L fs).2.1 = (refWhyT L fs).2.1)) && decide ((whyT L fs).2.2 = (refWhyT L fs).2.2)) && decide (whyE L fs = refWhyE L fs)) && decide (provesE L fs a b c = refProves L fs a b c)) && true
end Go.Proofs.Ytjmpojoimcljoaa
