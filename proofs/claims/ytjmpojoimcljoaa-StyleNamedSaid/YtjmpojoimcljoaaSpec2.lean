/-
  WHAT IS SAID HERE: plain functions: the first order, pairs of layers, layers reached, three layers apart, the fewest forms to leave out, of layer 3's package.
-/
import Derived.Test.YtjmpojoimcljoaaSpec
import Derived.Laws.BitsAllLaws
namespace Go.Proofs.Ytjmpojoimcljoaa
open Go.Wk

/-! ### the first order -/
theorem with_or : ∀ p < 128, ∀ n < 7, withS (p : Nat) (n : Nat) = orI (p : Nat) (n : Nat) := by decide +kernel
theorem withS_lt {L p n : Int} (hL0 : 1 ≤ L) (hL : L ≤ 7) (h0 : 0 ≤ p) (h1 : p < powI L) (h2 : 0 ≤ n) (h3 : n < L) : withS p n < powI L ∧ 0 ≤ withS p n ∧ withS p n = orI p n := by
  have h7 := powI_bd hL0 hL
  have h := orI_lt hL0 hL h0 h1 h2 h3
  have hi := bd_u8 (withS_in p n)
  obtain ⟨p, rfl⟩ := Int.eq_ofNat_of_zero_le h0
  obtain ⟨n, rfl⟩ := Int.eq_ofNat_of_zero_le h2
  have e := with_or p (by omega) n (by omega)
  exact ⟨by rw [e]; exact h, hi.1, e⟩
def pickF (L : Int) (ss : List Int) (q : Int) : Nat → Option Int
  | 0 => none
  | m + 1 => if mayB ss q (L - (m + 1)) = true ∧ 0 < ix 0 (endT L ss) (withS q (L - (m + 1))) then some (L - (m + 1)) else pickF L ss q m
def firstG (L : Int) (ss : List Int) : Nat → Int → List Int → List Int
  | 0, _, out => out
  | m + 1, q, out => match pickF L ss q L.toNat with
    | some n => firstG L ss m (withS q n) (out ++ [n])
    | none => firstG L ss m q out
def firstE (L : Int) (fs : List (List Int)) : Int := if checkE L fs ≠ 0 then checkE L fs else if countT L (setsF fs) = 0 then 12 else 0
def firstL (L : Int) (fs : List (List Int)) : List Int := if firstE L fs = 0 then firstG L (setsF fs) L.toNat 0 [] else []
def countE (L : Int) (fs : List (List Int)) : Int := if checkE L fs ≠ 0 then 0 else countT L (setsF fs)
theorem endT_len (L : Int) (ss : List Int) : ((endT L ss).length : Int) = powI L := by rw [endT, fillE_len, powI_nat]
theorem endT0 {L : Int} (ss : List Int) (h0 : 1 ≤ L) (h7 : L ≤ 7) : ix 0 (endT L ss) 0 = countT L ss := by
  have := powI_bd h0 h7
  rw [endT, fillE_ix (by omega) (by have := powI_nat L; rw [powI] at this; rw [powI] at *; omega), if_pos (by omega), countT]

/-! ### pairs -/
def pairB (L a : Int) (is : Int → Int → Bool) : Nat → List (Int × Int)
  | 0 => []
  | m + 1 => if is a (L - (m + 1)) = true then (a, L - (m + 1)) :: pairB L a is m else pairB L a is m
def pairA (L : Int) (is : Int → Int → Bool) : Nat → List (Int × Int)
  | 0 => []
  | m + 1 => pairB L (L - (m + 1)) is m ++ pairA L is m
def besideB (L : Int) (ss : List Int) (a b : Int) : Bool := decide (countT L (ss ++ [withS (withS 0 a) b]) = countT L ss)
def besideL (L : Int) (fs : List (List Int)) : List (Int × Int) := if firstE L fs = 0 then pairA L (besideB L (setsF fs)) L.toNat else []
theorem pairB_len (L a : Int) (is : Int → Int → Bool) : ∀ m, (pairB L a is m).length ≤ m
  | 0 => Nat.le_refl _
  | m + 1 => by
    have := pairB_len L a is m
    rw [pairB]; split <;> simp <;> omega
theorem countT_bd {L : Int} (ss : List Int) (h7 : L ≤ 7) : 0 ≤ countT L ss ∧ countT L ss ≤ 823543 := endE_bd (by omega) 0

/-! ### layers reached -/
def stepQ (c f q : Int) : Bool := (decide (bits .and .u8 f q ≠ 0) && !hasS f c) && decide (bits .andNot .u8 f q ≠ 0)
def passF (c : Int) : List Int → Int → Bool → Int × Bool
  | [], q, g => (q, g)
  | f :: fs, q, g => if stepQ c f q = true then passF c fs (bits .or .u8 q f) true else passF c fs q g
def reachG (c : Int) (ss : List Int) : Nat → Int → Int
  | 0, q => q
  | m + 1, q => if (passF c ss q false).2 = true then reachG c ss m (passF c ss q false).1 else q
def reachQ (ss : List Int) (c q : Int) : Int := reachG c ss (256 - q).toNat q
def reachS (ss : List Int) (a c : Int) : Int := reachQ ss c (withS 0 a)
theorem or_grow : ∀ f < 256, ∀ q < 256, bits .andNot .u8 (f : Nat) (q : Nat) ≠ 0 → ((q : Nat) : Int) < bits .or .u8 (q : Nat) (f : Nat) := by
  intro f hf q hq h
  rw [u8_or _ _ (by omega) (by omega) (by omega) (by omega)]
  rw [u8_andNot _ _ (by omega) (by omega) (by omega) (by omega)] at h
  simp only [Int.toNat_natCast] at h ⊢
  have hle : q ≤ q ||| f := Nat.left_le_or
  obtain ⟨i, hi⟩ := Nat.exists_testBit_of_ne_zero (show f &&& (255 - q) ≠ 0 by omega)
  rw [Nat.testBit_and, show 255 - q = 2 ^ 8 - (q + 1) by omega, Nat.testBit_two_pow_sub_succ (by omega), Bool.and_eq_true, Bool.and_eq_true, Bool.not_eq_true'] at hi
  have hne : q ||| f ≠ q := by
    intro e
    have := congrArg (fun x => Nat.testBit x i) e
    simp only [Nat.testBit_or, hi.1, hi.2.2, Bool.or_true] at this
    cases this
  omega
theorem passF_grow (c : Int) : ∀ (ss : List Int) (q : Int) (g : Bool), (∀ f ∈ ss, InK .u8 f) → InK .u8 q → InK .u8 (passF c ss q g).1 ∧ ((passF c ss q g).2 = g ∧ (passF c ss q g).1 = q ∨ (passF c ss q g).2 = true ∧ q < (passF c ss q g).1)
  | [], q, g, _, hq => ⟨hq, .inl ⟨rfl, rfl⟩⟩
  | f :: ss, q, g, hf, hq => by
    rw [passF]
    have hs : ∀ f ∈ ss, InK .u8 f := fun x hx => hf x (List.mem_cons_of_mem _ hx)
    split
    · rename_i h
      have h1 := bd_u8 (hf f (List.mem_cons_self ..))
      have h2 := bd_u8 hq
      have hg : q < bits .or .u8 q f := by
        simp only [stepQ, Bool.and_eq_true, decide_eq_true_eq] at h
        have := or_grow f.toNat (by omega) q.toNat (by omega)
        rw [show ((f.toNat : Nat) : Int) = f by omega, show ((q.toNat : Nat) : Int) = q by omega] at this
        exact this h.2
      have := passF_grow c ss (bits .or .u8 q f) true hs (bits_in _ _ _ _)
      refine ⟨this.1, .inr ?_⟩
      rcases this.2 with ⟨h3, h4⟩ | ⟨h3, h4⟩
      · exact ⟨h3, by rw [h4]; exact hg⟩
      · exact ⟨h3, by omega⟩
    · exact passF_grow c ss q g hs hq
theorem reachG_fuel (c : Int) (ss : List Int) (hs : ∀ f ∈ ss, InK .u8 f) : ∀ (m k : Nat) (q : Int), InK .u8 q → (256 - q).toNat ≤ m → m ≤ k → reachG c ss k q = reachG c ss m q
  | 0, _, q, hq, h, _ => by
    have := bd_u8 hq
    omega
  | m + 1, 0, q, _, _, h => by omega
  | m + 1, k + 1, q, hq, h, h' => by
    have hp := passF_grow c ss q false hs hq
    rw [reachG, reachG]
    by_cases hg : (passF c ss q false).2 = true
    · rw [if_pos hg, if_pos hg]
      have : q < (passF c ss q false).1 := by
        rcases hp.2 with ⟨h3, _⟩ | ⟨_, h4⟩
        · rw [h3] at hg; cases hg
        · exact h4
      exact reachG_fuel c ss hs m k _ hp.1 (by omega) (by omega)
    · rw [if_neg hg, if_neg hg]
theorem reachQ_next {c : Int} {ss : List Int} {q : Int} (hs : ∀ f ∈ ss, InK .u8 f) (hq : InK .u8 q) : reachQ ss c q = if (passF c ss q false).2 = true then reachQ ss c (passF c ss q false).1 else q := by
  have hb := bd_u8 hq
  have hp := passF_grow c ss q false hs hq
  obtain ⟨m, hm⟩ : ∃ m, (256 - q).toNat = m + 1 := ⟨(256 - q).toNat - 1, by omega⟩
  rw [reachQ, hm, reachG]
  split
  · rename_i hg
    have : q < (passF c ss q false).1 := by
      rcases hp.2 with ⟨h3, _⟩ | ⟨_, h4⟩
      · rw [h3] at hg; cases hg
      · exact h4
    rw [reachQ]
    exact reachG_fuel c ss hs _ m _ hp.1 (Nat.le_refl _) (by omega)
  · rfl
theorem passF_mono (c : Int) : ∀ (ss : List Int) (q : Int) (g : Bool), (∀ f ∈ ss, InK .u8 f) → InK .u8 q → q ≤ (passF c ss q g).1 := fun ss q g hs hq => by
  have := (passF_grow c ss q g hs hq).2
  omega
theorem reachG_in (c : Int) (ss : List Int) (hs : ∀ f ∈ ss, InK .u8 f) : ∀ (m : Nat) (q : Int), InK .u8 q → InK .u8 (reachG c ss m q)
  | 0, _, h => h
  | m + 1, q, h => by
    rw [reachG]
    split
    · exact reachG_in c ss hs m _ (passF_grow c ss q false hs h).1
    · exact h
theorem reachS_in (ss : List Int) (a c : Int) (hs : ∀ f ∈ ss, InK .u8 f) : InK .u8 (reachS ss a c) := reachG_in c ss hs _ _ (withS_in _ _)
def apartB (ss : List Int) (a b c : Int) : Bool := (hasS (reachS ss a c) b && hasS (reachS ss b a) c) && hasS (reachS ss c b) a

/-! ### three layers -/
def tripC (L a b : Int) : Nat → List (Int × Int × Int)
  | 0 => []
  | m + 1 => (a, b, L - (m + 1)) :: tripC L a b m
def tripB (L a : Int) : Nat → List (Int × Int × Int)
  | 0 => []
  | m + 1 => tripC L a (L - (m + 1)) m ++ tripB L a m
def tripA (L : Int) : Nat → List (Int × Int × Int)
  | 0 => []
  | m + 1 => tripB L (L - (m + 1)) m ++ tripA L m
def apartT (ss : List Int) (t : Int × Int × Int) : Bool := apartB ss t.1 t.2.1 t.2.2
def whyF (L : Int) (fs : List (List Int)) : Option (Int × Int × Int) := (tripA L L.toNat).find? (apartT (setsF fs))
def whyE (L : Int) (fs : List (List Int)) : Int := if checkE L fs ≠ 0 then checkE L fs else if 0 < countT L (setsF fs) then 13 else if (whyF L fs).isSome = true then 0 else 14
def whyT (L : Int) (fs : List (List Int)) : Int × Int × Int := if whyE L fs = 0 then (whyF L fs).getD (0, 0, 0) else (0, 0, 0)
def provesE (L : Int) (fs : List (List Int)) (a b c : Int) : Int :=
  if checkE L fs ≠ 0 then checkE L fs else if min (min a b) c < 0 ∨ L ≤ max (max a b) c then 2 else if a = b ∨ b = c ∨ a = c then 6 else if apartB (setsF fs) a b c = true then 0 else 14
theorem setsF_in (fs : List (List Int)) : ∀ f ∈ setsF fs, InK .u8 f := by
  intro f hf
  simp only [setsF, List.mem_map] at hf
  obtain ⟨ns, _, rfl⟩ := hf
  exact setF_in ns 0 ⟨by decide, by decide⟩

/-! ### the fewest forms -/
def cmpL : List Int → List Int → Int
  | [], [] => 0
  | [], _ :: _ => -1
  | _ :: _, [] => 1
  | x :: xs, y :: ys => if x < y then -1 else if y < x then 1 else cmpL xs ys
def bitO (o i : Int) : Bool := decide (bits .and .u64 (o / 2 ^ min i.toNat IntKind.u64.bits) 1 = 1)
def pickI (o : Int) : Int → List Int → List Int
  | _, [] => []
  | i, _ :: fs => if bitO o i = true then i :: pickI o (i + 1) fs else pickI o (i + 1) fs
def restI (o : Int) : Int → List Int → List Int
  | _, [] => []
  | i, f :: fs => if bitO o i = true then restI o (i + 1) fs else f :: restI o (i + 1) fs
def oc1 (x : Int) : Int := IntKind.u64.wrap (bits .and .u64 (x / 2 ^ min (1 : Int).toNat IntKind.u64.bits) 6148914691236517205 + bits .and .u64 x 6148914691236517205)
def oc2 (x : Int) : Int := IntKind.u64.wrap (bits .and .u64 (x / 2 ^ min (2 : Int).toNat IntKind.u64.bits) 3689348814741910323 + bits .and .u64 x 3689348814741910323)
def oc3 (x : Int) : Int := bits .and .u64 (IntKind.u64.wrap (x / 2 ^ min (4 : Int).toNat IntKind.u64.bits + x)) 1085102592571150095
def ocS (k x : Int) : Int := IntKind.u64.wrap (x + x / 2 ^ min k.toNat IntKind.u64.bits)
def ocU (x : Int) : Int := ocS 32 (ocS 16 (ocS 8 (oc3 (oc2 (oc1 x)))))
def oc64 (x : Int) : Int := bits .and .i64 (IntKind.i64.wrap (ocU x)) 127
def fewStep (L : Int) (ss : List Int) (x : List Int × Int) (o : Nat) : List Int × Int :=
  if x.2 < oc64 o ∨ x.2 = 0 then x else if ((pickI o 0 ss).length < x.2 ∨ cmpL (pickI o 0 ss) x.1 < 0) ∧ 0 < countT L (restI o 0 ss) then (pickI o 0 ss, ((pickI o 0 ss).length : Int)) else x
def fewTo (L : Int) (ss : List Int) (n : Nat) : List Int × Int := (List.range n).foldl (fewStep L ss) ([], ss.length + 1)
def fewestL (L : Int) (fs : List (List Int)) : List Int := if checkE L fs = 0 then (fewTo L (setsF fs) (2 ^ fs.length)).1 else []
theorem fewTo_next (L : Int) (ss : List Int) (n : Nat) : fewTo L ss (n + 1) = fewStep L ss (fewTo L ss n) n := by
  rw [fewTo, List.range_succ, List.foldl_append]; rfl
theorem shl_u64 {n : Nat} (h : n ≤ 10) : IntKind.u64.wrap (1 * 2 ^ min (n : Int).toNat IntKind.u64.bits) = ((2 ^ n : Nat) : Int) := by
  have : n = 0 ∨ n = 1 ∨ n = 2 ∨ n = 3 ∨ n = 4 ∨ n = 5 ∨ n = 6 ∨ n = 7 ∨ n = 8 ∨ n = 9 ∨ n = 10 := by omega
  rcases this with h | h | h | h | h | h | h | h | h | h | h <;> subst h <;> decide +kernel
theorem pow1024 {n : Nat} (h : n ≤ 10) : 1 ≤ 2 ^ n ∧ 2 ^ n ≤ 1024 := ⟨Nat.one_le_two_pow, Nat.pow_le_pow_right (n := 2) (i := n) (j := 10) (by decide) h⟩
end Go.Proofs.Ytjmpojoimcljoaa
