/-
  WHAT IS SAID HERE: plain functions: what the functions of layer 3 compute, of the package and of the reference.
-/
import Derived.Test.YtjmpojoimcljoaaWk3
namespace Go.Proofs.Ytjmpojoimcljoaa
open Go.Wk

/-! ### both -/
def hasL : List Int → Int → Bool
  | [], _ => false
  | x :: xs, n => if x = n then true else hasL xs n

/-- The error of a form's numbers, behind a last one. -/
def numE (L : Int) : Int → List Int → Int
  | _, [] => 0
  | last, n :: ns => if n < 0 ∨ L ≤ n then 2 else if n ≤ last then 7 else numE L n ns
def formE (L : Int) (f : List Int) : Int := if f.length = 0 then 4 else numE L (-1) f
def formsE (L : Int) : List (List Int) → Int
  | [] => 0
  | f :: fs => if formE L f = 0 then formsE L fs else formE L f
def checkE (L : Int) (fs : List (List Int)) : Int := if L < 1 ∨ 7 < L then 1 else if 10 < (fs.length : Int) then 3 else formsE L fs

/-! ### the package -/
def withS (s n : Int) : Int := bits .or .u8 s (IntKind.u8.wrap (1 * 2 ^ min n.toNat IntKind.u8.bits))
def hasS (s n : Int) : Bool := decide (bits .and .u8 (s / 2 ^ min n.toNat IntKind.u8.bits) 1 = 1)
def setF : Int → List Int → Int
  | s, [] => s
  | s, n :: ns => setF (withS s n) ns
def setsF (fs : List (List Int)) : List Int := fs.map (setF 0)
def openL (L : Int) (fs : List (List Int)) : Int := if checkE L fs = 0 then L else 0
def openS (L : Int) (fs : List (List Int)) : List Int := if checkE L fs = 0 then setsF fs else []

def pop8tab : ByteArray := { data := #[0, 1, 1, 2, 1, 2, 2, 3, 1, 2, 2, 3, 2, 3, 3, 4, 1, 2, 2, 3, 2, 3, 3, 4, 2, 3, 3, 4, 3, 4, 4, 5, 1, 2, 2, 3, 2, 3, 3, 4, 2, 3, 3, 4, 3, 4, 4, 5, 2, 3, 3, 4, 3, 4, 4, 5, 3, 4, 4, 5, 4, 5, 5, 6, 1, 2, 2, 3, 2, 3, 3, 4, 2, 3, 3, 4, 3, 4, 4, 5, 2, 3, 3, 4, 3, 4, 4, 5, 3, 4, 4, 5, 4, 5, 5, 6, 2, 3, 3, 4, 3, 4, 4, 5, 3, 4, 4, 5, 4, 5, 5, 6, 3, 4, 4, 5, 4, 5, 5, 6, 4, 5, 5, 6, 5, 6, 6, 7, 1, 2, 2, 3, 2, 3, 3, 4, 2, 3, 3, 4, 3, 4, 4, 5, 2, 3, 3, 4, 3, 4, 4, 5, 3, 4, 4, 5, 4, 5, 5, 6, 2, 3, 3, 4, 3, 4, 4, 5, 3, 4, 4, 5, 4, 5, 5, 6, 3, 4, 4, 5, 4, 5, 5, 6, 4, 5, 5, 6, 5, 6, 6, 7, 2, 3, 3, 4, 3, 4, 4, 5, 3, 4, 4, 5, 4, 5, 5, 6, 3, 4, 4, 5, 4, 5, 5, 6, 4, 5, 5, 6, 5, 6, 6, 7, 3, 4, 4, 5, 4, 5, 5, 6, 4, 5, 5, 6, 5, 6, 6, 7, 4, 5, 5, 6, 5, 6, 6, 7, 5, 6, 6, 7, 6, 7, 7, 8] }
def ntz8tab : ByteArray := { data := #[8, 0, 1, 0, 2, 0, 1, 0, 3, 0, 1, 0, 2, 0, 1, 0, 4, 0, 1, 0, 2, 0, 1, 0, 3, 0, 1, 0, 2, 0, 1, 0, 5, 0, 1, 0, 2, 0, 1, 0, 3, 0, 1, 0, 2, 0, 1, 0, 4, 0, 1, 0, 2, 0, 1, 0, 3, 0, 1, 0, 2, 0, 1, 0, 6, 0, 1, 0, 2, 0, 1, 0, 3, 0, 1, 0, 2, 0, 1, 0, 4, 0, 1, 0, 2, 0, 1, 0, 3, 0, 1, 0, 2, 0, 1, 0, 5, 0, 1, 0, 2, 0, 1, 0, 3, 0, 1, 0, 2, 0, 1, 0, 4, 0, 1, 0, 2, 0, 1, 0, 3, 0, 1, 0, 2, 0, 1, 0, 7, 0, 1, 0, 2, 0, 1, 0, 3, 0, 1, 0, 2, 0, 1, 0, 4, 0, 1, 0, 2, 0, 1, 0, 3, 0, 1, 0, 2, 0, 1, 0, 5, 0, 1, 0, 2, 0, 1, 0, 3, 0, 1, 0, 2, 0, 1, 0, 4, 0, 1, 0, 2, 0, 1, 0, 3, 0, 1, 0, 2, 0, 1, 0, 6, 0, 1, 0, 2, 0, 1, 0, 3, 0, 1, 0, 2, 0, 1, 0, 4, 0, 1, 0, 2, 0, 1, 0, 3, 0, 1, 0, 2, 0, 1, 0, 5, 0, 1, 0, 2, 0, 1, 0, 3, 0, 1, 0, 2, 0, 1, 0, 4, 0, 1, 0, 2, 0, 1, 0, 3, 0, 1, 0, 2, 0, 1, 0] }
def len8tab : ByteArray := { data := #[0, 1, 2, 2, 3, 3, 3, 3, 4, 4, 4, 4, 4, 4, 4, 4, 5, 5, 5, 5, 5, 5, 5, 5, 5, 5, 5, 5, 5, 5, 5, 5, 6, 6, 6, 6, 6, 6, 6, 6, 6, 6, 6, 6, 6, 6, 6, 6, 6, 6, 6, 6, 6, 6, 6, 6, 6, 6, 6, 6, 6, 6, 6, 6, 7, 7, 7, 7, 7, 7, 7, 7, 7, 7, 7, 7, 7, 7, 7, 7, 7, 7, 7, 7, 7, 7, 7, 7, 7, 7, 7, 7, 7, 7, 7, 7, 7, 7, 7, 7, 7, 7, 7, 7, 7, 7, 7, 7, 7, 7, 7, 7, 7, 7, 7, 7, 7, 7, 7, 7, 7, 7, 7, 7, 7, 7, 7, 7, 8, 8, 8, 8, 8, 8, 8, 8, 8, 8, 8, 8, 8, 8, 8, 8, 8, 8, 8, 8, 8, 8, 8, 8, 8, 8, 8, 8, 8, 8, 8, 8, 8, 8, 8, 8, 8, 8, 8, 8, 8, 8, 8, 8, 8, 8, 8, 8, 8, 8, 8, 8, 8, 8, 8, 8, 8, 8, 8, 8, 8, 8, 8, 8, 8, 8, 8, 8, 8, 8, 8, 8, 8, 8, 8, 8, 8, 8, 8, 8, 8, 8, 8, 8, 8, 8, 8, 8, 8, 8, 8, 8, 8, 8, 8, 8, 8, 8, 8, 8, 8, 8, 8, 8, 8, 8, 8, 8, 8, 8, 8, 8, 8, 8, 8, 8, 8, 8, 8, 8, 8, 8, 8, 8, 8, 8, 8, 8] }
def gapS (s : Int) : Int := tabAt pop8tab (bits .andNot .u8 s (IntKind.u8.wrap (s * 2 ^ min (1 : Int).toNat IntKind.u8.bits))) - 1

theorem setF_snoc : ∀ (ns : List Int) (s n : Int), setF s (ns ++ [n]) = withS (setF s ns) n
  | [], _, _ => rfl
  | m :: ns, s, n => by simp [setF, setF_snoc ns]

theorem withS_in (s n : Int) : InK .u8 (withS s n) := wrap_inK _ _
theorem setF_in : ∀ (ns : List Int) (s : Int), InK .u8 s → InK .u8 (setF s ns)
  | [], _, h => h
  | _ :: ns, _, _ => setF_in ns _ (withS_in _ _)

/-! ### the statements' own -/
def largeB (fs : List (List Int)) : Bool := if 30 < (fs.length : Int) then true else fs.any fun f => decide (30 < (f.length : Int))

/-! ### the package: which layer may follow, and in how many ways -/
def badS (p n f : Int) : Bool := (decide (bits .and .u8 f p ≠ 0) && decide (bits .andNot .u8 f p ≠ 0)) && !hasS f n
def idxL (P : Int → Bool) : Int → List Int → Int
  | _, [] => -1
  | i, f :: fs => if P f = true then i else idxL P (i + 1) fs
theorem idxL_any (P : Int → Bool) : ∀ (fs : List Int) (i : Int), 0 ≤ i → decide (0 ≤ idxL P i fs) = fs.any P
  | [], _, _ => by simp [idxL]
  | f :: fs, i, hi => by
    rw [idxL]
    split
    · rename_i h; simp [h, hi]
    · rename_i h; rw [idxL_any P fs (i + 1) (by omega)]; simp [h]
def mayB (fs : List Int) (p n : Int) : Bool := !hasS p n && !fs.any (badS p n)
def orI (p n : Int) : Int := bits .or .i64 p (IntKind.i64.wrap (1 * 2 ^ min n.toNat IntKind.i64.bits))
def powI (L : Int) : Int := 2 ^ L.toNat
def popN (q : Nat) : Nat := q % 2 + q / 2 % 2 + q / 4 % 2 + q / 8 % 2 + q / 16 % 2 + q / 32 % 2 + q / 64 % 2
def sumW : Nat → (Int → Int) → Int
  | 0, _ => 0
  | k + 1, f => sumW k f + f k
def ways (L : Nat) (fs : List Int) : Nat → Int → Int
  | 0, _ => 1
  | m + 1, q => sumW L fun n => if mayB fs q n = true then ways L fs m (orI q n) else 0
def endE (L : Nat) (fs : List Int) (q : Int) : Int := ways L fs (L - popN q.toNat) q
def sumE (L : Nat) (fs : List Int) (p : Int) (k : Nat) : Int := sumW k fun n => if mayB fs p n = true then endE L fs (orI p n) else 0
def fillE (L : Nat) (fs : List Int) (p : Int) : List Int := (List.range (2 ^ L)).map fun (q : Nat) => if p < (q : Int) then endE L fs q else 0
def endT (L : Int) (fs : List Int) : List Int := fillE L.toNat fs (-1)
def countT (L : Int) (fs : List Int) : Int := endE L.toNat fs 0

theorem powI_bd {L : Int} (h0 : 1 ≤ L) (h1 : L ≤ 7) : 2 ≤ powI L ∧ powI L ≤ 128 := by
  have : L = 1 ∨ L = 2 ∨ L = 3 ∨ L = 4 ∨ L = 5 ∨ L = 6 ∨ L = 7 := by omega
  rcases this with h | h | h | h | h | h | h <;> subst h <;> exact ⟨by decide, by decide⟩
theorem shl_powI {L : Int} (h0 : 0 ≤ L) (h1 : L ≤ 10) : IntKind.i64.wrap (1 * 2 ^ min L.toNat IntKind.i64.bits) = powI L := by
  have : L = 0 ∨ L = 1 ∨ L = 2 ∨ L = 3 ∨ L = 4 ∨ L = 5 ∨ L = 6 ∨ L = 7 ∨ L = 8 ∨ L = 9 ∨ L = 10 := by omega
  rcases this with h | h | h | h | h | h | h | h | h | h | h <;> subst h <;> decide +kernel
theorem powI_nat (L : Int) : powI L = ((2 ^ L.toNat : Nat) : Int) := by simp [powI]
theorem fillE_len (L : Nat) (fs : List Int) (p : Int) : (fillE L fs p).length = 2 ^ L := by simp [fillE]
theorem fillE_ix {L : Nat} {fs : List Int} {p q : Int} (h0 : 0 ≤ q) (h1 : q < 2 ^ L) : ix 0 (fillE L fs p) q = if p < q then endE L fs q else 0 := by
  have hq : q.toNat < 2 ^ L := by
    have : ((2 ^ L : Nat) : Int) = (2 : Int) ^ L := by simp
    omega
  have e : ((q.toNat : Nat) : Int) = q := by omega
  simp [ix, fillE, List.getD_eq_getElem?_getD, hq, e]

theorem or_facts : ∀ p < 128, ∀ n < 7, hasS (p : Nat) (n : Nat) = false → (p : Int) < orI (p : Nat) (n : Nat) ∧ orI (p : Nat) (n : Nat) < 128 ∧ popN (orI (p : Nat) (n : Nat)).toNat = popN p + 1 := by decide +kernel
theorem or_lt : ∀ L < 8, ∀ p < 2 ^ L, ∀ n < L, orI (p : Nat) (n : Nat) < ((2 ^ L : Nat) : Int) := by decide +kernel
theorem pop_lt : ∀ L < 8, ∀ p < 2 ^ L, p + 1 < 2 ^ L → popN p < L := by decide +kernel
theorem pop_full : ∀ L < 8, popN (2 ^ L - 1) = L := by decide +kernel

theorem mayB_not {fs : List Int} {p n : Int} (h : mayB fs p n = true) : hasS p n = false := by
  simp only [mayB, Bool.and_eq_true, Bool.not_eq_true'] at h
  exact h.1
theorem orI_facts {p n : Int} (h0 : 0 ≤ p) (h1 : p < 128) (h2 : 0 ≤ n) (h3 : n < 7) (h : hasS p n = false) : p < orI p n ∧ orI p n < 128 ∧ popN (orI p n).toNat = popN p.toNat + 1 := by
  obtain ⟨p, rfl⟩ := Int.eq_ofNat_of_zero_le h0
  obtain ⟨n, rfl⟩ := Int.eq_ofNat_of_zero_le h2
  exact or_facts p (by omega) n (by omega) h
theorem orI_lt {L p n : Int} (hL0 : 1 ≤ L) (hL : L ≤ 7) (h0 : 0 ≤ p) (h1 : p < powI L) (h2 : 0 ≤ n) (h3 : n < L) : orI p n < powI L := by
  obtain ⟨p, rfl⟩ := Int.eq_ofNat_of_zero_le h0
  obtain ⟨n, rfl⟩ := Int.eq_ofNat_of_zero_le h2
  rw [powI_nat] at h1 ⊢
  exact or_lt L.toNat (by omega) p (by omega) n (by omega)

theorem sumW_congr {f g : Int → Int} : ∀ (k : Nat), (∀ n : Nat, n < k → f n = g n) → sumW k f = sumW k g
  | 0, _ => rfl
  | k + 1, h => by rw [sumW, sumW, sumW_congr k (fun n hn => h n (by omega)), h k (by omega)]
theorem sumW_bd {f : Int → Int} {B : Int} : ∀ (k : Nat), (∀ n : Nat, n < k → 0 ≤ f n ∧ f n ≤ B) → 0 ≤ sumW k f ∧ sumW k f ≤ k * B
  | 0, _ => by simp [sumW]
  | k + 1, h => by
    have h1 := sumW_bd k (fun n hn => h n (by omega))
    have h2 := h k (by omega)
    rw [sumW]
    have : ((k + 1 : Nat) : Int) * B = k * B + B := by rw [Int.natCast_add, Int.add_mul]; simp
    omega
theorem ways_bd {L : Nat} {fs : List Int} (hL : L ≤ 7) : ∀ (m : Nat) (q : Int), 0 ≤ ways L fs m q ∧ ways L fs m q ≤ 7 ^ m
  | 0, _ => by simp [ways]
  | m + 1, q => by
    have h7 : (0 : Int) ≤ 7 ^ m := Int.pow_nonneg (by decide)
    have := sumW_bd (f := fun n => if mayB fs q n = true then ways L fs m (orI q n) else 0) (B := 7 ^ m) L (fun n _ => by
      have := ways_bd (fs := fs) hL m (orI q n)
      split <;> omega)
    rw [ways]
    refine ⟨this.1, Int.le_trans this.2 ?_⟩
    rw [Int.pow_succ, Int.mul_comm]
    exact Int.mul_le_mul_of_nonneg_left (by omega) h7
theorem pow7 : ∀ m ≤ 7, (7 : Int) ^ m ≤ 823543 := by decide +kernel
theorem endE_bd {L : Nat} {fs : List Int} (hL : L ≤ 7) (q : Int) : 0 ≤ endE L fs q ∧ endE L fs q ≤ 823543 := by
  have := ways_bd (fs := fs) hL (L - popN q.toNat) q
  have h7 := pow7 (L - popN q.toNat) (by omega)
  exact ⟨this.1, Int.le_trans this.2 h7⟩
theorem sumE_bd {L : Nat} {fs : List Int} (hL : L ≤ 7) (p : Int) {k : Nat} (hk : k ≤ 7) : 0 ≤ sumE L fs p k ∧ sumE L fs p k ≤ 5764801 := by
  have := sumW_bd (f := fun n => if mayB fs p n = true then endE L fs (orI p n) else 0) (B := 823543) k (fun n _ => by
    have := endE_bd (fs := fs) hL (orI p n)
    split <;> omega)
  unfold sumE
  omega
theorem endE_full {L : Nat} {fs : List Int} (hL : L ≤ 7) : endE L fs ((2 ^ L : Nat) - 1) = 1 := by
  have h2 : 1 ≤ 2 ^ L := Nat.one_le_two_pow
  rw [endE, show ((((2 ^ L : Nat) : Int) - 1)).toNat = 2 ^ L - 1 by omega, pop_full L (by omega), Nat.sub_self, ways]
theorem endE_step {L : Nat} {fs : List Int} (hL : L ≤ 7) {p : Int} (h0 : 0 ≤ p) (h1 : p + 1 < (2 ^ L : Nat)) : endE L fs p = sumE L fs p L := by
  have h2 : 2 ^ L ≤ 128 := Nat.pow_le_pow_right (n := 2) (i := L) (j := 7) (by decide) hL
  have hp := pop_lt L (by omega) p.toNat (by omega) (by omega)
  obtain ⟨m, hm⟩ : ∃ m, L - popN p.toNat = m + 1 := ⟨L - popN p.toNat - 1, by omega⟩
  rw [endE, hm, ways, sumE]
  refine sumW_congr L fun n hn => ?_
  split
  · rename_i hmay
    have hf := orI_facts h0 (by omega) (Int.natCast_nonneg n) (by omega) (mayB_not hmay)
    rw [endE, hf.2.2, show L - (popN p.toNat + 1) = m by omega]
  · rfl

theorem set_ix_self {xs : List Int} {p s : Int} (h0 : 0 ≤ p) (h1 : p < xs.length) : ix 0 (xs.set p.toNat s) p = s := by
  simp [ix, List.getD_eq_getElem?_getD, (by omega : p.toNat < xs.length)]
theorem set_ix_ne {xs : List Int} {p q s : Int} (h0 : 0 ≤ p) (h1 : 0 ≤ q) (h : p ≠ q) : ix 0 (xs.set p.toNat s) q = ix 0 xs q := by
  rw [ix, ix, List.getD_eq_getElem?_getD, List.getD_eq_getElem?_getD, List.getElem?_set_ne (by omega)]

theorem fill_start {L : Nat} {fs : List Int} (hL : L ≤ 7) {m : Int} (h : m = (2 ^ L : Nat) - 1) : (List.replicate (2 ^ L) 0).set m.toNat 1 = fillE L fs (m - 1) := by
  have h2 : 1 ≤ 2 ^ L := Nat.one_le_two_pow
  refine List.ext_getElem (by simp [fillE]) fun i h1 _ => ?_
  have hi : i < 2 ^ L := by simpa using h1
  rw [List.getElem_set]
  simp only [fillE, List.getElem_map, List.getElem_range, List.getElem_replicate]
  by_cases hm : m.toNat = i
  · have : (i : Int) = (2 ^ L : Nat) - 1 := by omega
    rw [if_pos hm, if_pos (by omega), this, endE_full hL]
  · rw [if_neg hm, if_neg (by omega)]
theorem fill_next {L : Nat} {fs : List Int} (hL : L ≤ 7) {p : Int} (h0 : 0 ≤ p) (h1 : p + 1 < (2 ^ L : Nat)) : (fillE L fs p).set p.toNat (sumE L fs p L) = fillE L fs (p - 1) := by
  refine List.ext_getElem (by simp [fillE]) fun i h2 _ => ?_
  have hi : i < 2 ^ L := by simpa [fillE] using h2
  rw [List.getElem_set]
  simp only [fillE, List.getElem_map, List.getElem_range]
  by_cases hm : p.toNat = i
  · have : (i : Int) = p := by omega
    rw [if_pos hm, if_pos (by omega), this, endE_step hL h0 h1]
  · rw [if_neg hm]
    by_cases hlt : p < (i : Int)
    · rw [if_pos hlt, if_pos (by omega)]
    · rw [if_neg hlt, if_neg (by omega)]
theorem fill_set0 {L : Nat} {fs : List Int} {p : Int} (h0 : 0 ≤ p) : (fillE L fs p).set p.toNat (sumE L fs p 0) = fillE L fs p := by
  refine List.ext_getElem (by simp [fillE]) fun i h2 _ => ?_
  rw [List.getElem_set]
  simp only [fillE, List.getElem_map, List.getElem_range]
  by_cases hm : p.toNat = i
  · have : (i : Int) = p := by omega
    rw [if_pos hm, if_neg (by omega)]; rfl
  · rw [if_neg hm]
theorem sumE_succ {L : Nat} {fs : List Int} {p k : Int} (hk : 0 ≤ k) : sumE L fs p (k + 1).toNat = sumE L fs p k.toNat + (if mayB fs p k = true then endE L fs (orI p k) else 0) := by
  have e : (k + 1).toNat = k.toNat + 1 := by omega
  have e2 : ((k.toNat : Nat) : Int) = k := by omega
  rw [e, sumE, sumW, e2]; rfl

theorem and_mask {y : Int} (h0 : 1 ≤ y) (h1 : y ≤ 7) : bits .and .u64 y 4294967295 = y ∧ y / 2 ^ min (32 : Int).toNat IntKind.u64.bits = 0 := by
  have : y = 1 ∨ y = 2 ∨ y = 3 ∨ y = 4 ∨ y = 5 ∨ y = 6 ∨ y = 7 := by omega
  rcases this with h | h | h | h | h | h | h <;> subst h <;> decide +kernel

/-! ### the package: places -/
def placesG (L : Int) : List Int → Int → List Int → List Int × Int
  | [], _, out => (out, 0)
  | n :: ns, i, out => if n < 0 ∨ L ≤ n then ([], 2) else if 0 ≤ ix 0 out n then ([], 6) else placesG L ns (i + 1) (out.set n.toNat i)
def placesR (L : Int) (order : List Int) : List Int × Int := if (order.length : Int) ≠ L then ([], 5) else placesG L order 0 (List.replicate L.toNat (-1))
def placeS (f : Int) : Int → List Int → Int → Int
  | _, [], a => a
  | n, p :: ps, a => placeS f (n + 1) ps (if hasS f n = true then withS a p else a)
def shownE (L : Int) (fs : List (List Int)) (order : List Int) : Int := if checkE L fs ≠ 0 then checkE L fs else (placesR L order).2
def shownL (L : Int) (fs : List (List Int)) (order : List Int) : List Int := if shownE L fs order = 0 then (setsF fs).map fun f => placeS f 0 (placesR L order).1 0 else []
def sumG : List Int → Int
  | [] => 0
  | s :: ss => gapS s + sumG ss
def gapsE (L : Int) (fs : List (List Int)) (order : List Int) : Int := sumG (shownL L fs order)
def datesL (L : Int) (fs : List (List Int)) (order : List Int) : List (Int × Int) := (shownL L fs order).map fun s => (tabAt ntz8tab s, tabAt len8tab s - 1)

def negs (l : List Int) : Nat := l.countP fun x => decide (x < 0)
theorem negs_set : ∀ (l : List Int) (n : Nat) (i : Int), n < l.length → l.getD n 0 < 0 → 0 ≤ i → negs (l.set n i) + 1 = negs l
  | [], _, _, h, _, _ => by simp at h
  | x :: l, 0, i, _, h, hi => by
    have hx : x < 0 := by simpa using h
    have hi' : ¬ i < 0 := by omega
    simp [negs, hx, hi']
  | x :: l, n + 1, i, h, hn, hi => by
    have := negs_set l n i (by simpa using h) (by simpa using hn) hi
    simp only [negs, List.set_cons_succ, List.countP_cons] at this ⊢
    omega
theorem placesG_ok (L : Int) : ∀ (ns : List Int) (i : Int) (out : List Int), 0 ≤ i → (out.length : Int) = L → negs out = ns.length → (placesG L ns i out).2 = 0 → negs (placesG L ns i out).1 = 0 ∧ ((placesG L ns i out).1.length : Int) = L
  | [], _, out, _, hl, h, _ => ⟨h, hl⟩
  | n :: ns, i, out, hi, hl, h, he => by
    rw [placesG] at he ⊢
    split at he
    · cases he
    · rename_i h1
      rw [if_neg h1]
      split at he
      · cases he
      · rename_i h2
        rw [if_neg h2]
        have h3 := negs_set out n.toNat i (by omega) (by simpa [ix] using h2) hi
        exact placesG_ok L ns (i + 1) _ (by omega) (by simpa using hl) (by simp only [List.length_cons] at h; omega) he
theorem negs_rep : ∀ m : Nat, negs (List.replicate m (-1)) = m
  | 0 => rfl
  | m + 1 => by
    have := negs_rep m
    simp only [negs, List.replicate_succ, List.countP_cons] at this ⊢
    simp [this]
theorem placesR_ok {L : Int} {order : List Int} (hL : 0 ≤ L) (h : (placesR L order).2 = 0) : (∀ p ∈ (placesR L order).1, 0 ≤ p) ∧ ((placesR L order).1.length : Int) = L := by
  unfold placesR at h ⊢
  split at h
  · cases h
  · rename_i hl
    rw [if_neg hl]
    have hl' : (order.length : Int) = L := by omega
    have := placesG_ok L order 0 (List.replicate L.toNat (-1)) (Int.le_refl _) (by simp; omega) (by rw [negs_rep]; omega) h
    refine ⟨fun p hp => ?_, this.2⟩
    have h0 := List.countP_eq_zero.1 this.1 p hp
    simpa using h0
theorem ix_all {l : List Int} (h : ∀ p ∈ l, 0 ≤ p) (k : Int) : 0 ≤ ix 0 l k := by
  rw [ix, List.getD_eq_getElem?_getD]
  cases e : l[k.toNat]? with
  | none => exact Int.le_refl _
  | some x => exact h x (List.mem_of_getElem? e)
theorem placeS_in (f : Int) : ∀ (ps : List Int) (n a : Int), InK .u8 a → InK .u8 (placeS f n ps a)
  | [], _, _, h => h
  | p :: ps, n, a, h => by
    rw [placeS]
    exact placeS_in f ps _ _ (by split <;> first | exact withS_in _ _ | exact h)
theorem openL_ok {L : Int} {fs : List (List Int)} (h : checkE L fs = 0) : openL L fs = L ∧ openS L fs = setsF fs ∧ 1 ≤ L ∧ L ≤ 7 ∧ (fs.length : Int) ≤ 10 := by
  refine ⟨by simp [openL, h], by simp [openS, h], ?_⟩
  simp only [checkE] at h
  split at h
  · cases h
  · split at h
    · cases h
    · omega
theorem setsF_len (fs : List (List Int)) : (setsF fs).length = fs.length := by simp [setsF]
theorem shownL_len {L : Int} {fs : List (List Int)} {order : List Int} : ((shownL L fs order).length : Int) ≤ 10 := by
  unfold shownL
  split
  · rename_i h
    unfold shownE at h
    split at h
    · exact (by rename_i h'; exact absurd h h')
    · rename_i h'
      have := (openL_ok (by simpa using h')).2.2.2.2
      rw [List.length_map, setsF_len]
      omega
  · simp
theorem gapS_bd (s : Int) : -1 ≤ gapS s ∧ gapS s ≤ 254 := by
  have := tabAt_bd pop8tab (bits .andNot .u8 s (IntKind.u8.wrap (s * 2 ^ min (1 : Int).toNat IntKind.u8.bits)))
  unfold gapS
  omega
theorem sumG_snoc : ∀ (l : List Int) (s : Int), sumG (l ++ [s]) = sumG l + gapS s
  | [], s => by simp [sumG]
  | x :: l, s => by simp [sumG, sumG_snoc l s]; omega

theorem rep_first {a : Int} {n : Nat} (h : 1 ≤ n) : List.take (List.replicate n (0 : Int)).length [a] ++ List.drop (min [a].length (List.replicate n (0 : Int)).length) (List.replicate n 0) = List.replicate 1 a ++ List.replicate (n - 1) 0 := by
  obtain ⟨m, rfl⟩ : ∃ m, n = m + 1 := ⟨n - 1, by omega⟩
  simp [List.replicate_succ]
theorem rep_next {a b n : Int} (h1 : 1 ≤ b) (h2 : b < n) :
    List.take (b.toNat * 1) (List.replicate b.toNat a ++ List.replicate (n.toNat - b.toNat) 0) ++
      List.take ((List.replicate b.toNat a ++ List.replicate (n.toNat - b.toNat) 0).length - b.toNat) (List.take b.toNat (List.replicate b.toNat a ++ List.replicate (n.toNat - b.toNat) 0)) ++
      List.drop (b.toNat * 1 + min (List.take b.toNat (List.replicate b.toNat a ++ List.replicate (n.toNat - b.toNat) 0)).length ((List.replicate b.toNat a ++ List.replicate (n.toNat - b.toNat) 0).length - b.toNat)) (List.replicate b.toNat a ++ List.replicate (n.toNat - b.toNat) 0) =
    List.replicate (min (b + b) n).toNat a ++ List.replicate (n.toNat - (min (b + b) n).toNat) 0 := by
  have e1 : List.take b.toNat (List.replicate b.toNat a ++ List.replicate (n.toNat - b.toNat) 0) = List.replicate b.toNat a := by
    rw [List.take_append_of_le_length (by simp)]; simp
  have e2 : (List.replicate b.toNat a ++ List.replicate (n.toNat - b.toNat) (0 : Int)).length = n.toNat := by simp; omega
  rw [Nat.mul_one, e1, e2, List.take_replicate, List.length_replicate, List.replicate_append_replicate]
  rw [List.drop_append, List.drop_eq_nil_of_le (by simp), List.nil_append, List.drop_replicate, List.length_replicate]
  congr 2 <;> omega
end Go.Proofs.Ytjmpojoimcljoaa
