/-
  WHAT IS PROVED HERE, TEXT BY TEXT (several texts of one prover, joined to one file; the conditions stand in each statement):
  * WHAT IS SAID HERE: plain functions: what the functions of layer 3 compute, of the package and of the reference.
  * WHAT IS SAID HERE: plain functions: the first order, pairs of layers, layers reached, three layers apart, the fewest forms to leave out, of layer 3's package.
  * WHAT IS SAID HERE: plain functions: what the functions of layer 3's reference compute.
  * WHAT IS SAID HERE: plain functions: forms left out, of layer 3's reference.
  * WHAT IS SAID HERE: plain functions: finds and orders made by numbers, of the statements that stand without the reference.
  * WHAT IS SAID HERE: plain functions: three layers apart, by labels, and what StyleTucker says of finds.
  * WHAT IS SAID HERE: plain laws of lists that the walks of StyleTucker and of the statements behind it ask for. Conditions stand in each statement.
  * WHAT IS PROVED HERE: what functions hand back, each out of its own code; the conditions stand in each statement.
  * WHAT IS PROVED HERE: what functions hand back, each out of its own code; the conditions stand in each statement.
  * WHAT IS PROVED HERE: what functions hand back, each out of its own code; the conditions stand in each statement.
  * WHAT IS PROVED HERE: what functions hand back, each out of its own code; the conditions stand in each statement.
  * WHAT IS SAID HERE: plain functions: plans of a rim, how many joins a greatest one has, how many greatest ones there are, the first of them. No program in sight.
  * WHAT IS PROVED HERE: plain laws of plans: which lists of joins they are, in which order they stand, how many joins a greatest one has, how many there are, which is the first. No program in sight. Conditions stand in each statement.
  * WHAT IS PROVED HERE: plain laws of plans: a list of joins is among all plans just if its joins fit, ascend, and do not cross; the plans stand in one order. No program in sight. Conditions stand in each statement.
  * WHAT IS SAID HERE: plain functions: the reference's plans of a rim. No program in sight.
  * WHAT IS PROVED HERE: plain laws of plans: the reference's plans are the plans with so many joins, or more, in the one order. No program in sight. Conditions stand in each statement.
  * WHAT IS SAID HERE: plain functions: letters, rims, and whether joins are a plan of a rim, as the program and as the reference ask it. No program in sight.
  * WHAT IS SAID HERE, WITH PLAIN LAWS: lists by their places; whether joins are a plan of a rim, as the program and as the reference ask it. No program in sight.
  * WHAT IS PROVED HERE: plain laws of the table of partners: with which edge each edge is joined. No program in sight. Conditions stand in each statement.
  * WHAT IS PROVED HERE: plain laws of the table of parts: how its numbers are found one after the other, and how great they are. No program in sight. Conditions stand in each statement.
  * WHAT IS SAID HERE: what the program answers of a rim: how many joins, how many plans, the first plan, the joins of all. No program in sight.
  * WHAT IS PROVED HERE: plain laws of the reference's plans: what they are made of, how many there are at most, which are the greatest. No program in sight. Conditions stand in each statement.
  * WHAT IS SAID HERE, WITH PLAIN LAWS: the joins of all greatest plans, as the reference seeks them. No program in sight.
  * WHAT IS SAID HERE, WITH PLAIN LAWS: what is taken away from a rim and what is left, as the program seeks it (from the left to the right) and as the reference does (the first two neighbours that fit, again and again). No program in sight.
  * WHAT IS PROVED HERE: what the library's functions hand back, out of the shelf's contracts, where its tables read as the program's text lays them. Conditions stand in each statement.
  * WHAT IS PROVED HERE: what functions hand back, each out of its own code; the conditions stand in each statement.
  * WHAT IS PROVED HERE: strings.ContainsRune over a string of letters alone: a letter is found just if it stands there; no other rune is. Conditions stand in the statement.
  * WHAT IS PROVED HERE: strings.Builder of the call's own, written byte by byte, beside a list of numbers of the call's own; strings made of a rim's bytes. Conditions stand in each statement. From the shelf's contracts.
  * WHAT IS SAID HERE, WITH PLAIN LAWS: the answers on steps, rests, cores, rims that are turned. No program in sight.
  * WHAT IS PROVED HERE: what functions hand back, each out of its own code; the conditions stand in each statement.
  * WHAT IS PROVED HERE: what functions hand back, each out of its own code; the conditions stand in each statement.
  * WHAT IS PROVED HERE: what functions hand back, each out of its own code; the conditions stand in each statement.
  * WHAT IS PROVED HERE: what functions hand back, each out of its own code; the conditions stand in each statement.
  * WHAT IS PROVED HERE: what functions hand back, each out of its own code; the conditions stand in each statement.
  * WHAT IS PROVED HERE: what functions hand back, each out of its own code; the conditions stand in each statement.
  * WHAT IS PROVED HERE: what functions hand back, each out of its own code; the conditions stand in each statement.
-/
import Derived.Test.YtlibemgaepkceaaGreatDoorU1
import Derived.Laws.BitsAllLaws
import Derived.Test.YtlibemgaepkceaaGreatDoorProg
import Derived.Test.YtlibemgaepkceaaGreatDoorU6
import Derived.Test.YtlibemgaepkceaaGreatDoorU2
import Derived.Shelf.Strings.BuilderK

set_option linter.unusedVariables false
set_option linter.unusedSimpArgs false

namespace Go.Proofs.YtlibemgaepkceaaGreatDoor.C3
open Go.Wk

/-! ### both -/
def hasL : List Int → Int → Bool
  | [], _ => false
  | x :: xs, n => if x = n then true else hasL xs n

def numE (L : Int) : Int → List Int → Int
  | _, [] => 0
  | last, n :: ns => if n < 0 ∨ L ≤ n then 2 else if n ≤ last then 7 else numE L n ns
def formE (L : Int) (f : List Int) : Int := if f.length = 0 then 4 else numE L (-1) f
def formsE (L : Int) : List (List Int) → Int
  | [] => 0
  | f :: fs => if formE L f = 0 then formsE L fs else formE L f
def checkE (L : Int) (fs : List (List Int)) : Int := if L < 1 ∨ 7 < L then 1 else if 10 < (fs.length : Int) then 3 else formsE L fs

/-! ### the package -/
def withS (s n : Int) : Int := bits .or .u8 s (IntKind.u8.wrap (1 * 2 ^ min n.toNat IntKind.u8.bits))
def hasS (s n : Int) : Bool := decide (bits .and .u8 (s / 2 ^ min n.toNat IntKind.u8.bits) 1 = 1)
def setF : Int → List Int → Int
  | s, [] => s
  | s, n :: ns => setF (withS s n) ns
def setsF (fs : List (List Int)) : List Int := fs.map (setF 0)
def openL (L : Int) (fs : List (List Int)) : Int := if checkE L fs = 0 then L else 0
def openS (L : Int) (fs : List (List Int)) : List Int := if checkE L fs = 0 then setsF fs else []

theorem setF_snoc : ∀ (ns : List Int) (s n : Int), setF s (ns ++ [n]) = withS (setF s ns) n
  | [], _, _ => rfl
  | m :: ns, s, n => by simp [setF, setF_snoc ns]

theorem withS_in (s n : Int) : InK .u8 (withS s n) := wrap_inK _ _
/-! ### the statements' own -/
/-! ### the package: which layer may follow, and in how many ways -/
def badS (p n f : Int) : Bool := (decide (bits .and .u8 f p ≠ 0) && decide (bits .andNot .u8 f p ≠ 0)) && !hasS f n
def idxL (P : Int → Bool) : Int → List Int → Int
  | _, [] => -1
  | i, f :: fs => if P f = true then i else idxL P (i + 1) fs
theorem idxL_any (P : Int → Bool) : ∀ (fs : List Int) (i : Int), 0 ≤ i → decide (0 ≤ idxL P i fs) = fs.any P
  | [], _, _ => by simp [idxL]
  | f :: fs, i, hi => by
    rw [idxL]
    split
    · rename_i h; simp [h, hi]
    · rename_i h; rw [idxL_any P fs (i + 1) (by omega)]; simp [h]
def mayB (fs : List Int) (p n : Int) : Bool := !hasS p n && !fs.any (badS p n)
def orI (p n : Int) : Int := bits .or .i64 p (IntKind.i64.wrap (1 * 2 ^ min n.toNat IntKind.i64.bits))
def powI (L : Int) : Int := 2 ^ L.toNat
def popN (q : Nat) : Nat := q % 2 + q / 2 % 2 + q / 4 % 2 + q / 8 % 2 + q / 16 % 2 + q / 32 % 2 + q / 64 % 2
def sumW : Nat → (Int → Int) → Int
  | 0, _ => 0
  | k + 1, f => sumW k f + f k
def ways (L : Nat) (fs : List Int) : Nat → Int → Int
  | 0, _ => 1
  | m + 1, q => sumW L fun n => if mayB fs q n = true then ways L fs m (orI q n) else 0
def endE (L : Nat) (fs : List Int) (q : Int) : Int := ways L fs (L - popN q.toNat) q
def sumE (L : Nat) (fs : List Int) (p : Int) (k : Nat) : Int := sumW k fun n => if mayB fs p n = true then endE L fs (orI p n) else 0
def fillE (L : Nat) (fs : List Int) (p : Int) : List Int := (List.range (2 ^ L)).map fun (q : Nat) => if p < (q : Int) then endE L fs q else 0
def endT (L : Int) (fs : List Int) : List Int := fillE L.toNat fs (-1)
def countT (L : Int) (fs : List Int) : Int := endE L.toNat fs 0

theorem powI_bd {L : Int} (h0 : 1 ≤ L) (h1 : L ≤ 7) : 2 ≤ powI L ∧ powI L ≤ 128 := by
  have : L = 1 ∨ L = 2 ∨ L = 3 ∨ L = 4 ∨ L = 5 ∨ L = 6 ∨ L = 7 := by omega
  rcases this with h | h | h | h | h | h | h <;> subst h <;> exact ⟨by decide, by decide⟩
theorem shl_powI {L : Int} (h0 : 0 ≤ L) (h1 : L ≤ 10) : IntKind.i64.wrap (1 * 2 ^ min L.toNat IntKind.i64.bits) = powI L := by
  have : L = 0 ∨ L = 1 ∨ L = 2 ∨ L = 3 ∨ L = 4 ∨ L = 5 ∨ L = 6 ∨ L = 7 ∨ L = 8 ∨ L = 9 ∨ L = 10 := by omega
  rcases this with h | h | h | h | h | h | h | h | h | h | h <;> subst h <;> decide +kernel
theorem powI_nat (L : Int) : powI L = ((2 ^ L.toNat : Nat) : Int) := by simp [powI]
theorem fillE_len (L : Nat) (fs : List Int) (p : Int) : (fillE L fs p).length = 2 ^ L := by simp [fillE]
theorem fillE_ix {L : Nat} {fs : List Int} {p q : Int} (h0 : 0 ≤ q) (h1 : q < 2 ^ L) : ix 0 (fillE L fs p) q = if p < q then endE L fs q else 0 := by
  have hq : q.toNat < 2 ^ L := by
    have : ((2 ^ L : Nat) : Int) = (2 : Int) ^ L := by simp
    omega
  have e : ((q.toNat : Nat) : Int) = q := by omega
  simp [ix, fillE, List.getD_eq_getElem?_getD, hq, e]

theorem or_facts : ∀ p < 128, ∀ n < 7, hasS (p : Nat) (n : Nat) = false → (p : Int) < orI (p : Nat) (n : Nat) ∧ orI (p : Nat) (n : Nat) < 128 ∧ popN (orI (p : Nat) (n : Nat)).toNat = popN p + 1 := by decide +kernel
theorem or_lt : ∀ L < 8, ∀ p < 2 ^ L, ∀ n < L, orI (p : Nat) (n : Nat) < ((2 ^ L : Nat) : Int) := by decide +kernel
theorem pop_lt : ∀ L < 8, ∀ p < 2 ^ L, p + 1 < 2 ^ L → popN p < L := by decide +kernel
theorem pop_full : ∀ L < 8, popN (2 ^ L - 1) = L := by decide +kernel

theorem mayB_not {fs : List Int} {p n : Int} (h : mayB fs p n = true) : hasS p n = false := by
  simp only [mayB, Bool.and_eq_true, Bool.not_eq_true'] at h
  exact h.1
theorem orI_facts {p n : Int} (h0 : 0 ≤ p) (h1 : p < 128) (h2 : 0 ≤ n) (h3 : n < 7) (h : hasS p n = false) : p < orI p n ∧ orI p n < 128 ∧ popN (orI p n).toNat = popN p.toNat + 1 := by
  obtain ⟨p, rfl⟩ := Int.eq_ofNat_of_zero_le h0
  obtain ⟨n, rfl⟩ := Int.eq_ofNat_of_zero_le h2
  exact or_facts p (by omega) n (by omega) h
theorem orI_lt {L p n : Int} (hL0 : 1 ≤ L) (hL : L ≤ 7) (h0 : 0 ≤ p) (h1 : p < powI L) (h2 : 0 ≤ n) (h3 : n < L) : orI p n < powI L := by
  obtain ⟨p, rfl⟩ := Int.eq_ofNat_of_zero_le h0
  obtain ⟨n, rfl⟩ := Int.eq_ofNat_of_zero_le h2
  rw [powI_nat] at h1 ⊢
  exact or_lt L.toNat (by omega) p (by omega) n (by omega)

theorem sumW_congr {f g : Int → Int} : ∀ (k : Nat), (∀ n : Nat, n < k → f n = g n) → sumW k f = sumW k g
  | 0, _ => rfl
  | k + 1, h => by rw [sumW, sumW, sumW_congr k (fun n hn => h n (by omega)), h k (by omega)]
theorem sumW_bd {f : Int → Int} {B : Int} : ∀ (k : Nat), (∀ n : Nat, n < k → 0 ≤ f n ∧ f n ≤ B) → 0 ≤ sumW k f ∧ sumW k f ≤ k * B
  | 0, _ => by simp [sumW]
  | k + 1, h => by
    have h1 := sumW_bd k (fun n hn => h n (by omega))
    have h2 := h k (by omega)
    rw [sumW]
    have : ((k + 1 : Nat) : Int) * B = k * B + B := by rw [Int.natCast_add, Int.add_mul]; simp
    omega
theorem ways_bd {L : Nat} {fs : List Int} (hL : L ≤ 7) : ∀ (m : Nat) (q : Int), 0 ≤ ways L fs m q ∧ ways L fs m q ≤ 7 ^ m
  | 0, _ => by simp [ways]
  | m + 1, q => by
    have h7 : (0 : Int) ≤ 7 ^ m := Int.pow_nonneg (by decide)
    have := sumW_bd (f := fun n => if mayB fs q n = true then ways L fs m (orI q n) else 0) (B := 7 ^ m) L (fun n _ => by
      have := ways_bd (fs := fs) hL m (orI q n)
      split <;> omega)
    rw [ways]
    refine ⟨this.1, Int.le_trans this.2 ?_⟩
    rw [Int.pow_succ, Int.mul_comm]
    exact Int.mul_le_mul_of_nonneg_left (by omega) h7
theorem pow7 : ∀ m ≤ 7, (7 : Int) ^ m ≤ 823543 := by decide +kernel
theorem endE_bd {L : Nat} {fs : List Int} (hL : L ≤ 7) (q : Int) : 0 ≤ endE L fs q ∧ endE L fs q ≤ 823543 := by
  have := ways_bd (fs := fs) hL (L - popN q.toNat) q
  have h7 := pow7 (L - popN q.toNat) (by omega)
  exact ⟨this.1, Int.le_trans this.2 h7⟩
theorem sumE_bd {L : Nat} {fs : List Int} (hL : L ≤ 7) (p : Int) {k : Nat} (hk : k ≤ 7) : 0 ≤ sumE L fs p k ∧ sumE L fs p k ≤ 5764801 := by
  have := sumW_bd (f := fun n => if mayB fs p n = true then endE L fs (orI p n) else 0) (B := 823543) k (fun n _ => by
    have := endE_bd (fs := fs) hL (orI p n)
    split <;> omega)
  unfold sumE
  omega
theorem endE_full {L : Nat} {fs : List Int} (hL : L ≤ 7) : endE L fs ((2 ^ L : Nat) - 1) = 1 := by
  have h2 : 1 ≤ 2 ^ L := Nat.one_le_two_pow
  rw [endE, show ((((2 ^ L : Nat) : Int) - 1)).toNat = 2 ^ L - 1 by omega, pop_full L (by omega), Nat.sub_self, ways]
theorem endE_step {L : Nat} {fs : List Int} (hL : L ≤ 7) {p : Int} (h0 : 0 ≤ p) (h1 : p + 1 < (2 ^ L : Nat)) : endE L fs p = sumE L fs p L := by
  have h2 : 2 ^ L ≤ 128 := Nat.pow_le_pow_right (n := 2) (i := L) (j := 7) (by decide) hL
  have hp := pop_lt L (by omega) p.toNat (by omega) (by omega)
  obtain ⟨m, hm⟩ : ∃ m, L - popN p.toNat = m + 1 := ⟨L - popN p.toNat - 1, by omega⟩
  rw [endE, hm, ways, sumE]
  refine sumW_congr L fun n hn => ?_
  split
  · rename_i hmay
    have hf := orI_facts h0 (by omega) (Int.natCast_nonneg n) (by omega) (mayB_not hmay)
    rw [endE, hf.2.2, show L - (popN p.toNat + 1) = m by omega]
  · rfl

theorem set_ix_self {xs : List Int} {p s : Int} (h0 : 0 ≤ p) (h1 : p < xs.length) : ix 0 (xs.set p.toNat s) p = s := by
  simp [ix, List.getD_eq_getElem?_getD, (by omega : p.toNat < xs.length)]
theorem set_ix_ne {xs : List Int} {p q s : Int} (h0 : 0 ≤ p) (h1 : 0 ≤ q) (h : p ≠ q) : ix 0 (xs.set p.toNat s) q = ix 0 xs q := by
  rw [ix, ix, List.getD_eq_getElem?_getD, List.getD_eq_getElem?_getD, List.getElem?_set_ne (by omega)]

theorem fill_start {L : Nat} {fs : List Int} (hL : L ≤ 7) {m : Int} (h : m = (2 ^ L : Nat) - 1) : (List.replicate (2 ^ L) 0).set m.toNat 1 = fillE L fs (m - 1) := by
  have h2 : 1 ≤ 2 ^ L := Nat.one_le_two_pow
  refine List.ext_getElem (by simp [fillE]) fun i h1 _ => ?_
  have hi : i < 2 ^ L := by simpa using h1
  rw [List.getElem_set]
  simp only [fillE, List.getElem_map, List.getElem_range, List.getElem_replicate]
  by_cases hm : m.toNat = i
  · have : (i : Int) = (2 ^ L : Nat) - 1 := by omega
    rw [if_pos hm, if_pos (by omega), this, endE_full hL]
  · rw [if_neg hm, if_neg (by omega)]
theorem fill_next {L : Nat} {fs : List Int} (hL : L ≤ 7) {p : Int} (h0 : 0 ≤ p) (h1 : p + 1 < (2 ^ L : Nat)) : (fillE L fs p).set p.toNat (sumE L fs p L) = fillE L fs (p - 1) := by
  refine List.ext_getElem (by simp [fillE]) fun i h2 _ => ?_
  have hi : i < 2 ^ L := by simpa [fillE] using h2
  rw [List.getElem_set]
  simp only [fillE, List.getElem_map, List.getElem_range]
  by_cases hm : p.toNat = i
  · have : (i : Int) = p := by omega
    rw [if_pos hm, if_pos (by omega), this, endE_step hL h0 h1]
  · rw [if_neg hm]
    by_cases hlt : p < (i : Int)
    · rw [if_pos hlt, if_pos (by omega)]
    · rw [if_neg hlt, if_neg (by omega)]
theorem fill_set0 {L : Nat} {fs : List Int} {p : Int} (h0 : 0 ≤ p) : (fillE L fs p).set p.toNat (sumE L fs p 0) = fillE L fs p := by
  refine List.ext_getElem (by simp [fillE]) fun i h2 _ => ?_
  rw [List.getElem_set]
  simp only [fillE, List.getElem_map, List.getElem_range]
  by_cases hm : p.toNat = i
  · have : (i : Int) = p := by omega
    rw [if_pos hm, if_neg (by omega)]; rfl
  · rw [if_neg hm]
theorem sumE_succ {L : Nat} {fs : List Int} {p k : Int} (hk : 0 ≤ k) : sumE L fs p (k + 1).toNat = sumE L fs p k.toNat + (if mayB fs p k = true then endE L fs (orI p k) else 0) := by
  have e : (k + 1).toNat = k.toNat + 1 := by omega
  have e2 : ((k.toNat : Nat) : Int) = k := by omega
  rw [e, sumE, sumW, e2]; rfl

theorem and_mask {y : Int} (h0 : 1 ≤ y) (h1 : y ≤ 7) : bits .and .u64 y 4294967295 = y ∧ y / 2 ^ min (32 : Int).toNat IntKind.u64.bits = 0 := by
  have : y = 1 ∨ y = 2 ∨ y = 3 ∨ y = 4 ∨ y = 5 ∨ y = 6 ∨ y = 7 := by omega
  rcases this with h | h | h | h | h | h | h <;> subst h <;> decide +kernel

/-! ### the package: places -/
theorem openL_ok {L : Int} {fs : List (List Int)} (h : checkE L fs = 0) : openL L fs = L ∧ openS L fs = setsF fs ∧ 1 ≤ L ∧ L ≤ 7 ∧ (fs.length : Int) ≤ 10 := by
  refine ⟨by simp [openL, h], by simp [openS, h], ?_⟩
  simp only [checkE] at h
  split at h
  · cases h
  · split at h
    · cases h
    · omega
theorem rep_first {a : Int} {n : Nat} (h : 1 ≤ n) : List.take (List.replicate n (0 : Int)).length [a] ++ List.drop (min [a].length (List.replicate n (0 : Int)).length) (List.replicate n 0) = List.replicate 1 a ++ List.replicate (n - 1) 0 := by
  obtain ⟨m, rfl⟩ : ∃ m, n = m + 1 := ⟨n - 1, by omega⟩
  simp [List.replicate_succ]
theorem rep_next {a b n : Int} (h1 : 1 ≤ b) (h2 : b < n) :
    List.take (b.toNat * 1) (List.replicate b.toNat a ++ List.replicate (n.toNat - b.toNat) 0) ++
      List.take ((List.replicate b.toNat a ++ List.replicate (n.toNat - b.toNat) 0).length - b.toNat) (List.take b.toNat (List.replicate b.toNat a ++ List.replicate (n.toNat - b.toNat) 0)) ++
      List.drop (b.toNat * 1 + min (List.take b.toNat (List.replicate b.toNat a ++ List.replicate (n.toNat - b.toNat) 0)).length ((List.replicate b.toNat a ++ List.replicate (n.toNat - b.toNat) 0).length - b.toNat)) (List.replicate b.toNat a ++ List.replicate (n.toNat - b.toNat) 0) =
    List.replicate (min (b + b) n).toNat a ++ List.replicate (n.toNat - (min (b + b) n).toNat) 0 := by
  have e1 : List.take b.toNat (List.replicate b.toNat a ++ List.replicate (n.toNat - b.toNat) 0) = List.replicate b.toNat a := by
    rw [List.take_append_of_le_length (by simp)]; simp
  have e2 : (List.replicate b.toNat a ++ List.replicate (n.toNat - b.toNat) (0 : Int)).length = n.toNat := by simp; omega
  rw [Nat.mul_one, e1, e2, List.take_replicate, List.length_replicate, List.replicate_append_replicate]
  rw [List.drop_append, List.drop_eq_nil_of_le (by simp), List.nil_append, List.drop_replicate, List.length_replicate]
  congr 2 <;> omega
end Go.Proofs.YtlibemgaepkceaaGreatDoor.C3

namespace Go.Proofs.YtlibemgaepkceaaGreatDoor.C3
open Go.Wk

/-! ### the first order -/
theorem with_or : ∀ p < 128, ∀ n < 7, withS (p : Nat) (n : Nat) = orI (p : Nat) (n : Nat) := by decide +kernel
theorem withS_lt {L p n : Int} (hL0 : 1 ≤ L) (hL : L ≤ 7) (h0 : 0 ≤ p) (h1 : p < powI L) (h2 : 0 ≤ n) (h3 : n < L) : withS p n < powI L ∧ 0 ≤ withS p n ∧ withS p n = orI p n := by
  have h7 := powI_bd hL0 hL
  have h := orI_lt hL0 hL h0 h1 h2 h3
  have hi := bd_u8 (withS_in p n)
  obtain ⟨p, rfl⟩ := Int.eq_ofNat_of_zero_le h0
  obtain ⟨n, rfl⟩ := Int.eq_ofNat_of_zero_le h2
  have e := with_or p (by omega) n (by omega)
  exact ⟨by rw [e]; exact h, hi.1, e⟩
def pickF (L : Int) (ss : List Int) (q : Int) : Nat → Option Int
  | 0 => none
  | m + 1 => if mayB ss q (L - (m + 1)) = true ∧ 0 < ix 0 (endT L ss) (withS q (L - (m + 1))) then some (L - (m + 1)) else pickF L ss q m
def firstG (L : Int) (ss : List Int) : Nat → Int → List Int → List Int
  | 0, _, out => out
  | m + 1, q, out => match pickF L ss q L.toNat with
    | some n => firstG L ss m (withS q n) (out ++ [n])
    | none => firstG L ss m q out
def firstE (L : Int) (fs : List (List Int)) : Int := if checkE L fs ≠ 0 then checkE L fs else if countT L (setsF fs) = 0 then 12 else 0
def firstL (L : Int) (fs : List (List Int)) : List Int := if firstE L fs = 0 then firstG L (setsF fs) L.toNat 0 [] else []
theorem endT_len (L : Int) (ss : List Int) : ((endT L ss).length : Int) = powI L := by rw [endT, fillE_len, powI_nat]
theorem endT0 {L : Int} (ss : List Int) (h0 : 1 ≤ L) (h7 : L ≤ 7) : ix 0 (endT L ss) 0 = countT L ss := by
  have := powI_bd h0 h7
  rw [endT, fillE_ix (by omega) (by have := powI_nat L; rw [powI] at this; rw [powI] at *; omega), if_pos (by omega), countT]

/-! ### pairs -/
/-! ### layers reached -/
/-! ### three layers -/
/-! ### the fewest forms -/
def cmpL : List Int → List Int → Int
  | [], [] => 0
  | [], _ :: _ => -1
  | _ :: _, [] => 1
  | x :: xs, y :: ys => if x < y then -1 else if y < x then 1 else cmpL xs ys
end Go.Proofs.YtlibemgaepkceaaGreatDoor.C3

namespace Go.Proofs.YtlibemgaepkceaaGreatDoor.C3
open Go.Wk

theorem hasL_mem : ∀ (l : List Int) (x : Int), hasL l x = true ↔ x ∈ l
  | [], x => by simp [hasL]
  | y :: l, x => by
    rw [hasL]
    split
    · rename_i h; simp [h]
    · rename_i h
      rw [hasL_mem l x, List.mem_cons]
      exact ⟨.inr, fun h' => h'.resolve_left (fun e => h e.symm)⟩

/-! ### runs, and orders that fit -/
/-! ### all orders -/
/-! ### chains -/
/-! ### an order's error, gaps and dates -/
/-! ### what the statements say -/
end Go.Proofs.YtlibemgaepkceaaGreatDoor.C3

namespace Go.Proofs.YtlibemgaepkceaaGreatDoor.C3
open Go.Wk

/-! ### numbers in ascending order -/
def up (n : Int) : Nat → List Int
  | 0 => []
  | k + 1 => (n - (k + 1)) :: up n k
end Go.Proofs.YtlibemgaepkceaaGreatDoor.C3

namespace Go.Proofs.YtlibemgaepkceaaGreatDoor.C3
open Go.Wk

/-! ### forms left out, by bits -/
/-! ### a function that is called with each order: what it keeps is some objects, of which something holds -/
end Go.Proofs.YtlibemgaepkceaaGreatDoor.C3

namespace Go.Proofs.YtlibemgaepkceaaGreatDoor.C3
open Go.Wk

/-! ### labels -/
/-! ### all three layers -/
end Go.Proofs.YtlibemgaepkceaaGreatDoor.C3

namespace Go.Proofs.YtlibemgaepkceaaGreatDoor.C3
open Go.Wk

theorem ix_mem {xs : List Int} {j : Int} (h0 : 0 ≤ j) (h : j < xs.length) : ix 0 xs j ∈ xs := List.mem_of_getElem? (ix_get h h0)
/-! ### orders by numbers -/
/-! ### turned round -/
theorem ext_ix {xs ys : List Int} (hl : xs.length = ys.length) (h : ∀ q : Int, 0 ≤ q → q < xs.length → ix 0 xs q = ix 0 ys q) : xs = ys := by
  refine List.ext_getElem hl fun i h1 h2 => ?_
  have := h i (by omega) (by omega)
  rwa [ix, ix, List.getD_eq_getElem?_getD, List.getD_eq_getElem?_getD, Int.toNat_natCast, List.getElem?_eq_getElem h1, List.getElem?_eq_getElem h2] at this
/-! ### what StyleGaps says -/
/-! ### a function that is called with each order, whose numbers are known -/
/-! ### what StyleBeside keeps of the orders -/
/-! ### what StyleMore says -/
/-! ### short lists, sorted -/
/-! ### what StyleNamed says -/
end Go.Proofs.YtlibemgaepkceaaGreatDoor.C3

namespace Go.Proofs.YtlibemgaepkceaaGreatDoor
open Go.Wk Go.RowKit Go.Lib
set_option linter.unusedVariables false
set_option linter.unusedSimpArgs false
theorem foSa_150_0 : fldOff Tryz.prog 150 0 = some 0 := by kernel_rfl
theorem foSa_150_1 : fldOff Tryz.prog 150 1 = some 1 := by kernel_rfl
theorem foSa_170_1 : fldOff Tryz.prog 170 1 = some 1 := by kernel_rfl
theorem elSa_168 : ElemI Tryz.prog 168 174 (.int .u8 0) 1 1 := ElemI.of Tryz.underlying168 (by kernel_rfl) (by first | rfl | kernel_rfl) (by decide)

theorem C3.F116 {s : Int} {n : Int} {w : World} (i_s : InK .u8 s) (i_n : InK .i64 n) (p_n : 0 ≤ n) : Calls Tryz.prog 116 #[.int .u8 s, .int .i64 n] w (Ret w (fun r _ => r = .int .u8 (withS s n))) := by
  have b_n := bd_i64 i_n
  have b_s := bd_u8 i_s
  have hS := St.start0 w
  refine enterR Tryz.func116 rfl Tryz.ntmps116 Tryz.results116 rfl ?_
  refine W.seq ?_
  refine W.reg ?_
  refine Wx.rd (v := .int .u8 0) (rd_assign rfl) rfl ?_
  refine Wx.nil ?_
  refine W.seq ?_
  refine W.reg ?_
  refine Wx.rd (v := .int .u8 s) (rd_move rfl) rfl ?_
  refine Wx.rd (v := .int .i64 n) (rd_move rfl) rfl ?_
  refine Wx.rd (v := .int .u8 (IntKind.u8.wrap (1 * 2 ^ min n.toNat (IntKind.u8).bits))) (rd_shl rfl rfl (by omega)) rfl ?_
  have bd_1 := bd_u8 (wrap_inK .u8 (1 * 2 ^ min n.toNat (IntKind.u8).bits))
  refine Wx.rd (v := .int .u8 (bits .or .u8 s (IntKind.u8.wrap (1 * 2 ^ min n.toNat (IntKind.u8).bits)))) (rd_or rfl rfl) rfl ?_
  have bd_2 := bd_u8 (bits_in .or .u8 s (IntKind.u8.wrap (1 * 2 ^ min n.toNat (IntKind.u8).bits)))
  refine Wx.rd (v := .int .u8 (bits .or .u8 s (IntKind.u8.wrap (1 * 2 ^ min n.toNat (IntKind.u8).bits)))) (rd_assign rfl) rfl ?_
  refine Wx.nil ?_
  have e0_0 : (withS s n) = (bits .or .u8 s (IntKind.u8.wrap (1 * 2 ^ min n.toNat (IntKind.u8).bits)) : Int) := by rfl
  exact W.ret ⟨.int .u8 (bits .or .u8 s (IntKind.u8.wrap (1 * 2 ^ min n.toNat (IntKind.u8).bits))), ResIs.one, hS.bel, (by rw [e0_0])⟩

theorem C3.F125 {s : Int} {n : Int} {w : World} (i_s : InK .u8 s) (i_n : InK .i64 n) (p_n : 0 ≤ n) : Calls Tryz.prog 125 #[.int .u8 s, .int .i64 n] w (Ret w (fun r _ => r = .bool (hasS s n))) := by
  have b_n := bd_i64 i_n
  have b_s := bd_u8 i_s
  have hS := St.start0 w
  refine enterR Tryz.func125 rfl Tryz.ntmps125 Tryz.results125 rfl ?_
  refine W.seq ?_
  refine W.reg ?_
  refine Wx.rd (v := .bool false) (rd_assign rfl) rfl ?_
  refine Wx.nil ?_
  refine W.seq ?_
  refine W.reg ?_
  refine Wx.rd (v := .int .u8 s) (rd_move rfl) rfl ?_
  refine Wx.rd (v := .int .i64 n) (rd_move rfl) rfl ?_
  refine Wx.rd (v := .int .u8 (s / 2 ^ min n.toNat (IntKind.u8).bits)) (rd_shr rfl rfl (by omega)) rfl ?_
  refine Wx.rd (v := .int .u8 (bits .and .u8 (s / 2 ^ min n.toNat (IntKind.u8).bits) 1)) (rd_and rfl rfl) rfl ?_
  have bd_1 := bd_u8 (bits_in .and .u8 (s / 2 ^ min n.toNat (IntKind.u8).bits) 1)
  refine Wx.rd (v := .bool (decide ((bits .and .u8 (s / 2 ^ min n.toNat (IntKind.u8).bits) 1) = 1))) (rd_eql rfl rfl) rfl ?_
  refine Wx.rd (v := .bool (decide ((bits .and .u8 (s / 2 ^ min n.toNat (IntKind.u8).bits) 1) = 1))) (rd_assign rfl) rfl ?_
  refine Wx.nil ?_
  have e0_0 : (hasS s n) = (decide ((bits .and .u8 (s / 2 ^ min n.toNat (IntKind.u8).bits) 1) = 1)) := by rfl
  exact W.ret ⟨.bool (decide ((bits .and .u8 (s / 2 ^ min n.toNat (IntKind.u8).bits) 1) = 1)), ResIs.one, hS.bel, (by rw [e0_0])⟩

theorem C3.F113 {L : Int} {fv : Value} {fs : List (List Int)} {O : List (Option Nat)} {w : World} (i_L : InK .i64 L) (h_fv : V (tSl (tSl (tI .i64))) fs fv O w) (hO : ∀ b, some b ∈ O → b < w.heap.size) : Calls Tryz.prog 113 #[.agg #[.int .i64 L, fv]] w (Ret w (fun r w' => ∃ sv, r = .tuple #[.agg #[.int .i64 (openL L fs), sv], .int .i64 (checkE L fs)] ∧ V (tSl (tI .u8)) (openS L fs) sv O w')) := by
  have b_L := bd_i64 i_L
  have a_fv := h_fv
  have l_fv := h_fv.len63
  have hS := St.start w O hO
  refine enterR Tryz.func113 rfl Tryz.ntmps113 Tryz.results113 rfl ?_
  refine W.seq ?_
  refine W.reg ?_
  refine Wx.box (cs := [.int .i64 L, fv]) hS rfl rfl rfl (fun g_1 w_2 hx_4 hb_3 hS => ?_)
  refine Wx.alloc (cs := [.int .i64 0, (.slice none 0 0)]) hS Tryz.zeroValue170 rfl rfl (fun g_5 w_6 hx_8 hb_7 hS => ?_)
  refine Wx.rd (v := .int .i64 0) (rd_assign rfl) rfl ?_
  refine Wx.nil ?_
  refine W.seq ?_
  refine W.block ?_
  refine W.seq ?_
  refine W.reg ?_
  refine Wx.rd (v := .pointer (some ⟨g_1, 0, none⟩)) (rd_fieldAddr rfl foSa_150_0) rfl ?_
  refine Wx.rd (v := .int .i64 L) (rd_loadX hS 1 rfl rfl rfl Tryz.isAgg3) rfl ?_
  refine Wx.rd (v := .bool (decide (L < 1))) (rd_lss rfl rfl) rfl ?_
  refine Wx.rd (v := .bool (decide (L < 1))) (rd_move rfl) rfl ?_
  refine Wx.cut (X := Unit) 4 [16, 17, 18, 19] (fun _ => [(19, .bool (decide (L < 1) || decide (7 < L)))]) (fun _ w' => St w O w' [.box g_5 170 [.int .i64 0, (.slice none 0 0)], .box g_1 150 [.int .i64 L, fv]]) ?_ ?_
  · rcases Bool.eq_false_or_eq_true (decide (L < 1)) with g_9 | g_9
    · -- True
      have gp_10 := of_decide_eq_true g_9
      refine Wx.gnoB rfl rfl (congrArg Value.bool g_9) rfl rfl ?_
      refine Wx.gnoB rfl rfl (congrArg Value.bool g_9) rfl rfl ?_
      refine Wx.gnoB rfl rfl (congrArg Value.bool g_9) rfl rfl ?_
      refine Wx.rd (v := .bool true) (rd_pickT (congrArg Value.bool g_9) rfl) rfl ?_
      refine Wx.nil ⟨(), hS, ⟨?_, trivial⟩, Out.look rfl Out.refl⟩
      show Value.bool true = Value.bool (decide (L < 1) || decide (7 < L))
      first | rw [g_9, Bool.true_or] | (rw [g_9]; rfl)
    · -- False
      have gp_11 := of_decide_eq_false g_9
      refine Wx.gyes rfl rfl (congrArg Value.bool g_9) ?_
      refine Wx.rd (v := .pointer (some ⟨g_1, 0, none⟩)) (rd_fieldAddr rfl foSa_150_0) rfl ?_
      refine Wx.gyes rfl rfl (congrArg Value.bool g_9) ?_
      refine Wx.rd (v := .int .i64 L) (rd_loadX hS 1 rfl rfl rfl Tryz.isAgg3) rfl ?_
      refine Wx.gyes rfl rfl (congrArg Value.bool g_9) ?_
      refine Wx.rd (v := .bool (decide (7 < L))) (rd_gtr rfl rfl) rfl ?_
      refine Wx.rd (v := .bool (decide (7 < L))) (rd_pickF (congrArg Value.bool g_9) rfl) rfl ?_
      refine Wx.nil ⟨(), hS, ⟨?_, trivial⟩, Out.look rfl Out.refl⟩
      show Value.bool (decide (7 < L)) = Value.bool (decide (L < 1) || decide (7 < L))
      first | rw [g_9, Bool.false_or] | (rw [g_9]; rfl)
  rintro ⟨⟩ u_13 w_12 hS
  refine Wx.rd (v := .bool (decide (L < 1) || decide (7 < L))) (rd_assign rfl) rfl ?_
  refine Wx.nil ?_
  refine W.cond rfl (fun c0 => ?_) (fun c0 => ?_)
  · -- yes
    try simp only [Bool.and_eq_true, Bool.or_eq_true, Bool.not_eq_true', Bool.and_eq_false_iff, Bool.or_eq_false_iff, Bool.not_eq_false', decide_eq_true_eq, decide_eq_false_iff_not, not_or, Bool.false_eq_true, Bool.true_eq_false, false_or, or_false, not_false_eq_true] at c0
    refine W.seq ?_
    refine W.reg ?_
    refine Wx.rd (v := .agg #[.int .i64 0, (.slice none 0 0)]) (rd_build (vs := []) rfl (by kernel_rfl)) rfl ?_
    refine Wx.storeX (cs' := [.int .i64 0, (.slice none 0 0)]) (ds := [.int .i64 0, (.slice none 0 0)]) hS 0 rfl rfl rfl rfl Tryz.sizeOf170 (Nat.le_of_ble_eq_true rfl) (one_cons rfl (one_cons rfl one_nil)) rfl (fun w_14 hz_15 hS => ?_)
    refine Wx.rd (v := .int .i64 1) (rd_assign rfl) rfl ?_
    refine Wx.nil ?_
    have hE : checkE L fs = 1 := by simp only [checkE]; rw [if_pos (by omega)]
    have e0_0 : (openL L fs) = (0 : Int) := by simp [openL, hE]
    have e0_1 : openS L fs = [] := by simp [openS, hE]
    have e0_2 : (checkE L fs) = (1 : Int) := by exact hE
    exact W.ret ⟨.tuple #[.agg #[.int .i64 0, (.slice none 0 0)], .int .i64 1], (ResIs.cell2 hS 0 rfl rfl Tryz.isAgg170 Tryz.sizeOf170), hS.bel, ⟨(.slice none 0 0), (by rw [e0_0, e0_2]), (by rw [e0_1]; exact (V.nil (t := (tI .u8))))⟩⟩
  · -- no
    try simp only [Bool.and_eq_true, Bool.or_eq_true, Bool.not_eq_true', Bool.and_eq_false_iff, Bool.or_eq_false_iff, Bool.not_eq_false', decide_eq_true_eq, decide_eq_false_iff_not, not_or, Bool.false_eq_true, Bool.true_eq_false, false_or, or_false, not_false_eq_true] at c0
    refine W.seq ?_
    refine W.reg ?_
    refine Wx.rd (v := .pointer (some ⟨g_1, 1, none⟩)) (rd_fieldAddr rfl foSa_150_1) rfl ?_
    refine Wx.rd (v := fv) (rd_loadX hS 1 rfl rfl rfl Tryz.isAgg24) rfl ?_
    refine Wx.rd (v := .int .i64 (fs.length : Int)) (rd_lenV rfl (hS.arg a_fv) Tryz.underlying24) rfl ?_
    refine Wx.rd (v := .bool (decide (10 < (fs.length : Int)))) (rd_gtr rfl rfl) rfl ?_
    refine Wx.rd (v := .bool (decide (10 < (fs.length : Int)))) (rd_assign rfl) rfl ?_
    refine Wx.nil ?_
    refine W.condD rfl (fun c1 => ?_) (fun c1 => ?_)
    · -- yes
      refine W.seq ?_
      refine W.reg ?_
      refine Wx.rd (v := .agg #[.int .i64 0, (.slice none 0 0)]) (rd_build (vs := []) rfl (by kernel_rfl)) rfl ?_
      refine Wx.storeX (cs' := [.int .i64 0, (.slice none 0 0)]) (ds := [.int .i64 0, (.slice none 0 0)]) hS 0 rfl rfl rfl rfl Tryz.sizeOf170 (Nat.le_of_ble_eq_true rfl) (one_cons rfl (one_cons rfl one_nil)) rfl (fun w_16 hz_17 hS => ?_)
      refine Wx.rd (v := .int .i64 3) (rd_assign rfl) rfl ?_
      refine Wx.nil ?_
      have hE : checkE L fs = 3 := by simp only [checkE]; rw [if_neg (by omega), if_pos (by omega)]
      have e1_0 : (openL L fs) = (0 : Int) := by simp [openL, hE]
      have e1_1 : openS L fs = [] := by simp [openS, hE]
      have e1_2 : (checkE L fs) = (3 : Int) := by exact hE
      exact W.ret ⟨.tuple #[.agg #[.int .i64 0, (.slice none 0 0)], .int .i64 3], (ResIs.cell2 hS 0 rfl rfl Tryz.isAgg170 Tryz.sizeOf170), hS.bel, ⟨(.slice none 0 0), (by rw [e1_0, e1_2]), (by rw [e1_1]; exact (V.nil (t := (tI .u8))))⟩⟩
    · -- no
      refine W.skip ?_
      refine W.seq ?_
      refine W.reg ?_
      refine Wx.rd (v := .pointer (some ⟨g_1, 0, none⟩)) (rd_fieldAddr rfl foSa_150_0) rfl ?_
      refine Wx.rd (v := .int .i64 L) (rd_loadX hS 1 rfl rfl rfl Tryz.isAgg3) rfl ?_
      refine Wx.rd (v := .agg #[.int .i64 L, (.slice none 0 0)]) (rd_build (vs := [(0, .int .i64 L)]) rfl (by kernel_rfl)) rfl ?_
      refine Wx.alloc (cs := [.int .i64 0, (.slice none 0 0)]) hS Tryz.zeroValue170 rfl rfl (fun g_18 w_19 hx_21 hb_20 hS => ?_)
      refine Wx.storeX (cs' := [.int .i64 L, (.slice none 0 0)]) (ds := [.int .i64 L, (.slice none 0 0)]) hS 0 rfl rfl rfl rfl Tryz.sizeOf170 (Nat.le_of_ble_eq_true rfl) (one_cons rfl (one_cons rfl one_nil)) rfl (fun w_22 hz_23 hS => ?_)
      refine Wx.nil ?_
      refine W.seq ?_
      refine W.seq ?_
      refine W.reg ?_
      refine Wx.rd (v := .pointer (some ⟨g_1, 1, none⟩)) (rd_fieldAddr rfl foSa_150_1) rfl ?_
      refine Wx.rd (v := fv) (rd_loadX hS 2 rfl rfl rfl Tryz.isAgg24) rfl ?_
      refine Wx.rd (v := .int .i64 (fs.length : Int)) (rd_lenV rfl (hS.arg a_fv) Tryz.underlying24) rfl ?_
      refine Wx.rd (v := .int .i64 0) (rd_move rfl) rfl ?_
      refine Wx.nil ?_
      refine W.block ?_
      have hE : checkE L fs = formsE L fs := by simp only [checkE]; rw [if_neg (by omega), if_neg (by omega)]
      have hS := hS.addNil (tI .u8) 174
      refine W.loop [3, 6, 7, 8, 10, 33, 34, 35, 36, 37, 38, 39, 40, 41, 42, 43, 44, 45, 46, 47, 48, 49, 50, 51, 52, 53, 54, 55, 56, 57, 58, 59, 60, 61, 62, 63, 64, 65, 66, 67, 68, 69, 70, 71, 72, 73] (fun x : Int × Value × (List Int) => match x with | (k, sv, sets) => [(33, .int .i64 k)]) (fun (x : Int × Value × (List Int)) w' => match x with | (k, sv, sets) => St w O w' [.row (tI .u8) 174 sv sets, .box g_18 170 [.int .i64 L, sv], .box g_5 170 [.int .i64 0, (.slice none 0 0)], .box g_1 150 [.int .i64 L, fv]] ∧ 0 ≤ k ∧ k ≤ fs.length ∧ formsE L (fs.drop k.toNat) = formsE L fs ∧ sets = setsF (fs.take k.toNat)) (fun x : Int × Value × (List Int) => match x with | (k, sv, sets) => (fs.length - k).toNat) (0, (.slice none 0 0), []) ⟨rfl, trivial⟩ ⟨hS, (by first | omega | simp), (by first | omega | simp), (by simp), (rfl)⟩ ?_
      rintro ⟨k, sv, sets⟩ u_25 w_24 ⟨hS, h0, h1, h2, h3⟩
      have hln : (sets.length : Int) ≤ 10 := by rw [h3]; simp [setsF]; omega
      refine W.seq ?_
      refine W.reg ?_
      refine Wx.rd (v := .bool (decide (k < (fs.length : Int)))) (rd_lss rfl rfl) rfl ?_
      refine Wx.nil ?_
      refine W.seq ?_
      refine W.condD rfl (fun c2 => ?_) (fun c2 => ?_)
      · -- yes
        refine W.skip ?_
        refine W.seq ?_
        refine W.block ?_
        refine W.seq ?_
        refine W.reg ?_
        refine Wx.ex (rd_index [] (hS.arg a_fv) rfl rfl Tryz.underlying24 Tryz.sizeOf25 (by first | omega | (simp only [List.length_set, List.length_append, List.length_cons, List.length_nil, List.length_replicate]; omega)) (by first | omega | (simp only [List.length_set, List.length_append, List.length_cons, List.length_nil, List.length_replicate]; omega))) rfl (fun p_26 hp_27 => ?_)
        refine Wx.ex (rd_load hp_27 rfl Tryz.isAgg25 Tryz.sizeOf25) rfl (fun v_28 hv_29 => ?_)
        have ln_30 := hv_29.len63
        have hS := hS.add hv_29
        refine Wx.rd (v := v_28) (rd_assign rfl) rfl ?_
        refine Wx.nil ?_
        refine W.seq ?_
        refine W.seq ?_
        refine W.reg ?_
        refine Wx.rd (v := v_28) (rd_move rfl) rfl ?_
        refine Wx.rd (v := .int .i64 ((ix [] fs k).length : Int)) (rd_lenV rfl (hS.v 0 rfl) Tryz.underlying25) rfl ?_
        refine Wx.rd (v := .bool (decide (((ix [] fs k).length : Int) = 0))) (rd_eql rfl rfl) rfl ?_
        refine Wx.nil ?_
        refine W.condD rfl (fun c3 => ?_) (fun c3 => ?_)
        · -- yes
          refine W.seq ?_
          refine W.reg ?_
          refine Wx.rd (v := .agg #[.int .i64 0, (.slice none 0 0)]) (rd_build (vs := []) rfl (by kernel_rfl)) rfl ?_
          refine Wx.storeX (cs' := [.int .i64 0, (.slice none 0 0)]) (ds := [.int .i64 0, (.slice none 0 0)]) hS 3 rfl rfl rfl rfl Tryz.sizeOf170 (Nat.le_of_ble_eq_true rfl) (one_cons rfl (one_cons rfl one_nil)) rfl (fun w_32 hz_33 hS => ?_)
          refine Wx.rd (v := .int .i64 4) (rd_assign rfl) rfl ?_
          refine Wx.nil ?_
          have hE : checkE L fs = 4 := by rw [hE, ← h2, drop_ix (d := []) h0 c2, formsE, show formE L (ix [] fs k) = 4 by rw [formE, if_pos (by omega)]]; simp
          have e2_0 : (openL L fs) = (0 : Int) := by simp [openL, hE]
          have e2_1 : openS L fs = [] := by simp [openS, hE]
          have e2_2 : (checkE L fs) = (4 : Int) := by exact hE
          exact W.ret ⟨.tuple #[.agg #[.int .i64 0, (.slice none 0 0)], .int .i64 4], (ResIs.cell2 hS 3 rfl rfl Tryz.isAgg170 Tryz.sizeOf170), hS.bel, ⟨(.slice none 0 0), (by rw [e2_0, e2_2]), (by rw [e2_1]; exact (V.nil (t := (tI .u8))))⟩⟩
        · -- no
          refine W.skip ?_
          refine W.seq ?_
          refine W.reg ?_
          refine Wx.rd (v := .int .u8 0) (rd_assign rfl) rfl ?_
          refine Wx.nil ?_
          refine W.seq ?_
          refine W.reg ?_
          refine Wx.rd (v := .int .i64 (-1)) (rd_assign rfl) rfl ?_
          refine Wx.nil ?_
          refine W.seq ?_
          refine W.seq ?_
          refine W.reg ?_
          refine Wx.rd (v := v_28) (rd_move rfl) rfl ?_
          refine Wx.rd (v := .int .i64 ((ix [] fs k).length : Int)) (rd_lenV rfl (hS.v 0 rfl) Tryz.underlying25) rfl ?_
          refine Wx.rd (v := .int .i64 0) (rd_move rfl) rfl ?_
          refine Wx.nil ?_
          refine W.block ?_
          refine W.loop [3, 7, 8, 10, 43, 44, 45, 46, 47, 48, 49, 50, 51, 52, 53, 54, 55, 56, 57, 58, 59, 60, 61, 62, 63, 64, 65, 66] (fun x : Int × Int × Int => match x with | (s, last, j) => [(7, .int .u8 s), (8, .int .i64 last), (43, .int .i64 j)]) (fun (x : Int × Int × Int) w' => match x with | (s, last, j) => St w O w' [Ob.v (tSl (tI .i64)) (ix [] fs k) v_28, .row (tI .u8) 174 sv sets, .box g_18 170 [.int .i64 L, sv], .box g_5 170 [.int .i64 0, (.slice none 0 0)], .box g_1 150 [.int .i64 L, fv]] ∧ 0 ≤ j ∧ j ≤ (ix [] fs k).length ∧ numE L last ((ix [] fs k).drop j.toNat) = numE L (-1) (ix [] fs k) ∧ s = setF 0 ((ix [] fs k).take j.toNat) ∧ InK .u8 s) (fun x : Int × Int × Int => match x with | (s, last, j) => ((ix [] fs k).length - j).toNat) (0, -1, 0) ⟨rfl, rfl, rfl, trivial⟩ ⟨hS, (by first | omega | simp), (by first | omega | simp), (by simp), (by simp [setF]), (⟨by decide, by decide⟩)⟩ ?_
          rintro ⟨s, last, j⟩ u_35 w_34 ⟨hS, g0, g1, g2, g3, g4⟩
          have b_s := bd_u8 g4
          refine W.seq ?_
          refine W.reg ?_
          refine Wx.rd (v := .bool (decide (j < ((ix [] fs k).length : Int)))) (rd_lss rfl rfl) rfl ?_
          refine Wx.nil ?_
          refine W.seq ?_
          refine W.condD rfl (fun c4 => ?_) (fun c4 => ?_)
          · -- yes
            refine W.skip ?_
            refine W.seq ?_
            refine W.block ?_
            refine W.seq ?_
            refine W.reg ?_
            refine Wx.ex (rd_index 0 (hS.v 0 rfl) rfl rfl Tryz.underlying25 Tryz.sizeOf3 (by first | omega | (simp only [List.length_set, List.length_append, List.length_cons, List.length_nil, List.length_replicate]; omega)) (by first | omega | (simp only [List.length_set, List.length_append, List.length_cons, List.length_nil, List.length_replicate]; omega))) rfl (fun p_36 hp_37 => ?_)
            refine Wx.rd (v := .int .i64 (ix 0 (ix [] fs k) j)) (rd_loadI hp_37 rfl Tryz.isAgg3 Tryz.sizeOf3) rfl ?_
            have bd_38 := bd_i64 hp_37.inK
            refine Wx.rd (v := .int .i64 (ix 0 (ix [] fs k) j)) (rd_assign rfl) rfl ?_
            refine Wx.nil ?_
            refine W.seq ?_
            refine W.block ?_
            refine W.seq ?_
            refine W.reg ?_
            refine Wx.rd (v := .int .i64 (ix 0 (ix [] fs k) j)) (rd_move rfl) rfl ?_
            refine Wx.rd (v := .bool (decide ((ix 0 (ix [] fs k) j) < 0))) (rd_lss rfl rfl) rfl ?_
            refine Wx.rd (v := .bool (decide ((ix 0 (ix [] fs k) j) < 0))) (rd_move rfl) rfl ?_
            refine Wx.cut (X := Unit) 5 [51, 52, 53, 54, 55] (fun _ => [(55, .bool (decide ((ix 0 (ix [] fs k) j) < 0) || decide (L ≤ (ix 0 (ix [] fs k) j))))]) (fun _ w' => St w O w' [Ob.v (tSl (tI .i64)) (ix [] fs k) v_28, .row (tI .u8) 174 sv sets, .box g_18 170 [.int .i64 L, sv], .box g_5 170 [.int .i64 0, (.slice none 0 0)], .box g_1 150 [.int .i64 L, fv]]) ?_ ?_
            · rcases Bool.eq_false_or_eq_true (decide ((ix 0 (ix [] fs k) j) < 0)) with g_39 | g_39
              · -- True
                have gp_40 := of_decide_eq_true g_39
                refine Wx.gnoB rfl rfl (congrArg Value.bool g_39) rfl rfl ?_
                refine Wx.gnoB rfl rfl (congrArg Value.bool g_39) rfl rfl ?_
                refine Wx.gnoB rfl rfl (congrArg Value.bool g_39) rfl rfl ?_
                refine Wx.gnoB rfl rfl (congrArg Value.bool g_39) rfl rfl ?_
                refine Wx.rd (v := .bool true) (rd_pickT (congrArg Value.bool g_39) rfl) rfl ?_
                refine Wx.nil ⟨(), hS, ⟨?_, trivial⟩, Out.look rfl Out.refl⟩
                show Value.bool true = Value.bool (decide ((ix 0 (ix [] fs k) j) < 0) || decide (L ≤ (ix 0 (ix [] fs k) j)))
                first | rw [g_39, Bool.true_or] | (rw [g_39]; rfl)
              · -- False
                have gp_41 := of_decide_eq_false g_39
                refine Wx.gyes rfl rfl (congrArg Value.bool g_39) ?_
                refine Wx.rd (v := .int .i64 (ix 0 (ix [] fs k) j)) (rd_move rfl) rfl ?_
                refine Wx.gyes rfl rfl (congrArg Value.bool g_39) ?_
                refine Wx.rd (v := .pointer (some ⟨g_1, 0, none⟩)) (rd_fieldAddr rfl foSa_150_0) rfl ?_
                refine Wx.gyes rfl rfl (congrArg Value.bool g_39) ?_
                refine Wx.rd (v := .int .i64 L) (rd_loadX hS 4 rfl rfl rfl Tryz.isAgg3) rfl ?_
                refine Wx.gyes rfl rfl (congrArg Value.bool g_39) ?_
                refine Wx.rd (v := .bool (decide (L ≤ (ix 0 (ix [] fs k) j)))) (rd_geq rfl rfl) rfl ?_
                refine Wx.rd (v := .bool (decide (L ≤ (ix 0 (ix [] fs k) j)))) (rd_pickF (congrArg Value.bool g_39) rfl) rfl ?_
                refine Wx.nil ⟨(), hS, ⟨?_, trivial⟩, Out.look rfl Out.refl⟩
                show Value.bool (decide (L ≤ (ix 0 (ix [] fs k) j))) = Value.bool (decide ((ix 0 (ix [] fs k) j) < 0) || decide (L ≤ (ix 0 (ix [] fs k) j)))
                first | rw [g_39, Bool.false_or] | (rw [g_39]; rfl)
            rintro ⟨⟩ u_43 w_42 hS
            refine Wx.rd (v := .bool (decide ((ix 0 (ix [] fs k) j) < 0) || decide (L ≤ (ix 0 (ix [] fs k) j)))) (rd_assign rfl) rfl ?_
            refine Wx.nil ?_
            refine W.cond rfl (fun c5 => ?_) (fun c5 => ?_)
            · -- yes
              try simp only [Bool.and_eq_true, Bool.or_eq_true, Bool.not_eq_true', Bool.and_eq_false_iff, Bool.or_eq_false_iff, Bool.not_eq_false', decide_eq_true_eq, decide_eq_false_iff_not, not_or, Bool.false_eq_true, Bool.true_eq_false, false_or, or_false, not_false_eq_true] at c5
              refine W.seq ?_
              refine W.reg ?_
              refine Wx.rd (v := .agg #[.int .i64 0, (.slice none 0 0)]) (rd_build (vs := []) rfl (by kernel_rfl)) rfl ?_
              refine Wx.storeX (cs' := [.int .i64 0, (.slice none 0 0)]) (ds := [.int .i64 0, (.slice none 0 0)]) hS 3 rfl rfl rfl rfl Tryz.sizeOf170 (Nat.le_of_ble_eq_true rfl) (one_cons rfl (one_cons rfl one_nil)) rfl (fun w_44 hz_45 hS => ?_)
              refine Wx.rd (v := .int .i64 2) (rd_assign rfl) rfl ?_
              refine Wx.nil ?_
              have hE : checkE L fs = 2 := by rw [hE, ← h2, drop_ix (d := []) h0 c2, formsE, show formE L (ix [] fs k) = 2 by rw [formE, if_neg (by omega), ← g2, drop_ix (d := 0) g0 c4, numE, if_pos (by omega)]]; simp
              have e3_0 : (openL L fs) = (0 : Int) := by simp [openL, hE]
              have e3_1 : openS L fs = [] := by simp [openS, hE]
              have e3_2 : (checkE L fs) = (2 : Int) := by exact hE
              exact W.ret ⟨.tuple #[.agg #[.int .i64 0, (.slice none 0 0)], .int .i64 2], (ResIs.cell2 hS 3 rfl rfl Tryz.isAgg170 Tryz.sizeOf170), hS.bel, ⟨(.slice none 0 0), (by rw [e3_0, e3_2]), (by rw [e3_1]; exact (V.nil (t := (tI .u8))))⟩⟩
            · -- no
              try simp only [Bool.and_eq_true, Bool.or_eq_true, Bool.not_eq_true', Bool.and_eq_false_iff, Bool.or_eq_false_iff, Bool.not_eq_false', decide_eq_true_eq, decide_eq_false_iff_not, not_or, Bool.false_eq_true, Bool.true_eq_false, false_or, or_false, not_false_eq_true] at c5
              refine W.seq ?_
              refine W.reg ?_
              refine Wx.rd (v := .int .i64 (ix 0 (ix [] fs k) j)) (rd_move rfl) rfl ?_
              refine Wx.rd (v := .int .i64 last) (rd_move rfl) rfl ?_
              refine Wx.rd (v := .bool (decide ((ix 0 (ix [] fs k) j) ≤ last))) (rd_leq rfl rfl) rfl ?_
              refine Wx.rd (v := .bool (decide ((ix 0 (ix [] fs k) j) ≤ last))) (rd_assign rfl) rfl ?_
              refine Wx.nil ?_
              refine W.condD rfl (fun c6 => ?_) (fun c6 => ?_)
              · -- yes
                refine W.seq ?_
                refine W.reg ?_
                refine Wx.rd (v := .agg #[.int .i64 0, (.slice none 0 0)]) (rd_build (vs := []) rfl (by kernel_rfl)) rfl ?_
                refine Wx.storeX (cs' := [.int .i64 0, (.slice none 0 0)]) (ds := [.int .i64 0, (.slice none 0 0)]) hS 3 rfl rfl rfl rfl Tryz.sizeOf170 (Nat.le_of_ble_eq_true rfl) (one_cons rfl (one_cons rfl one_nil)) rfl (fun w_46 hz_47 hS => ?_)
                refine Wx.rd (v := .int .i64 7) (rd_assign rfl) rfl ?_
                refine Wx.nil ?_
                have hE : checkE L fs = 7 := by rw [hE, ← h2, drop_ix (d := []) h0 c2, formsE, show formE L (ix [] fs k) = 7 by rw [formE, if_neg (by omega), ← g2, drop_ix (d := 0) g0 c4, numE, if_neg (by omega), if_pos (by omega)]]; simp
                have e4_0 : (openL L fs) = (0 : Int) := by simp [openL, hE]
                have e4_1 : openS L fs = [] := by simp [openS, hE]
                have e4_2 : (checkE L fs) = (7 : Int) := by exact hE
                exact W.ret ⟨.tuple #[.agg #[.int .i64 0, (.slice none 0 0)], .int .i64 7], (ResIs.cell2 hS 3 rfl rfl Tryz.isAgg170 Tryz.sizeOf170), hS.bel, ⟨(.slice none 0 0), (by rw [e4_0, e4_2]), (by rw [e4_1]; exact (V.nil (t := (tI .u8))))⟩⟩
              · -- no
                refine W.skip ?_
                refine W.reg ?_
                refine Wx.rd (v := .int .u8 s) (rd_move rfl) rfl ?_
                refine Wx.rd (v := .int .i64 (ix 0 (ix [] fs k) j)) (rd_move rfl) rfl ?_
                refine Wx.callF (run_callF Tryz.call116 rfl) (C3.F116 (in_u8 (by omega) (by omega)) (in_i64 (by omega) (by omega)) (by omega)) rfl ?_
                rintro r_48 w_49 hx_50 rfl
                have hS := hS.ext hx_50
                have in_51 := bd_u8 (withS_in s (ix 0 (ix [] fs k) j))
                refine Wx.rd (v := .int .i64 (ix 0 (ix [] fs k) j)) (rd_move rfl) rfl ?_
                refine Wx.rd (v := .int .u8 (withS s (ix 0 (ix [] fs k) j))) (rd_assign rfl) rfl ?_
                refine Wx.rd (v := .int .i64 (ix 0 (ix [] fs k) j)) (rd_assign rfl) rfl ?_
                refine Wx.nil ?_
                refine W.reg ?_
                refine Wx.rd (v := .int .i64 (j + 1)) (rd_add rfl rfl (in_i64 (by omega) (by omega))) rfl ?_
                refine Wx.rd (v := .int .i64 (j + 1)) (rd_move rfl) rfl ?_
                refine Wx.nil ?_
                refine ⟨(withS s (ix 0 (ix [] fs k) j), ix 0 (ix [] fs k) j, j + 1), (by show ((ix [] fs k).length - (j + 1)).toNat < ((ix [] fs k).length - j).toNat; omega), ?_, ?_, Out.look rfl (Out.hav rfl (Out.look rfl Out.self))⟩
                · exact ⟨hS, (by first | omega | assumption), (by first | omega | assumption), (by rw [← g2, drop_ix (d := 0) g0 c4, numE, if_neg (by omega), if_neg (by omega)]), (by rw [take_ix (d := 0) g0 c4, setF_snoc, ← g3]), (withS_in _ _)⟩
                · exact ⟨rfl, rfl, rfl, trivial⟩
          · -- no
            refine W.exit rfl ?_
            refine W.reg ?_
            refine Wx.rd (v := .pointer (some ⟨g_18, 1, none⟩)) (rd_fieldAddr rfl foSa_170_1) rfl ?_
            refine Wx.rd (v := sv) (rd_loadX hS 2 rfl rfl rfl Tryz.isAgg168) rfl ?_
            refine Wx.rd (v := .int .u8 s) (rd_move rfl) rfl ?_
            refine Wx.lit (t := (tI .u8)) (ys := [s]) (vs := [.int .u8 s]) elSa_168 hS rfl rfl ⟨(V.mkInt (in_u8 (by omega) (by omega))), trivial⟩ (by decide) rfl (fun v_52 w_53 hx_54 hS => ?_)
            refine Wx.append elSa_168 hS 2 rfl rfl rfl (Src.ofR hS 0 rfl) (by simp only [maxLen]; first | omega | (simp; omega) | simp) (by first | omega | (simp; omega) | simp) rfl (fun v_55 w_56 hz_57 hS => ?_)
            refine Wx.rd (v := .pointer (some ⟨g_18, 1, none⟩)) (rd_fieldAddr rfl foSa_170_1) rfl ?_
            refine Wx.storeX (cs' := [.int .i64 L, v_55]) (ds := [v_55]) hS 3 rfl rfl rfl (Go.Wk.cells_one (hS.rowOne 2 rfl)) Tryz.sizeOf168 (Nat.le_of_ble_eq_true rfl) (one_cons (hS.rowOne 2 rfl) one_nil) rfl (fun w_58 hz_59 hS => ?_)
            refine Wx.nil ?_
            refine W.reg ?_
            refine Wx.rd (v := .int .i64 (k + 1)) (rd_add rfl rfl (in_i64 (by omega) (by omega))) rfl ?_
            refine Wx.rd (v := .int .i64 (k + 1)) (rd_move rfl) rfl ?_
            refine Wx.nil ?_
            refine ⟨(k + 1, v_55, sets ++ [s]), (by show (fs.length - (k + 1)).toNat < (fs.length - k).toNat; omega), ?_, ?_, Out.look rfl (Out.hav rfl (Out.look rfl Out.self))⟩
            · exact ⟨St.tl (hS.tl), (by first | omega | assumption), (by first | omega | assumption), (by rw [← h2, drop_ix (d := []) h0 c2]; rw [formsE, if_pos]; rw [formE, if_neg (by omega), ← g2, drop_end (by omega)]; rfl), (by rw [take_ix (d := []) h0 c2, h3, g3, take_end (show ((ix [] fs k).length : Int) ≤ j by omega)]; simp [setsF])⟩
            · exact ⟨rfl, trivial⟩
      · -- no
        refine W.exit rfl ?_
        refine W.seq ?_
        refine W.reg ?_
        refine Wx.rd (v := .agg #[.int .i64 L, sv]) (rd_loadXs (ds := [.int .i64 L, sv]) hS 1 rfl rfl rfl rfl Tryz.isAgg170 Tryz.sizeOf170) rfl ?_
        refine Wx.storeX (cs' := [.int .i64 L, sv]) (ds := [.int .i64 L, sv]) hS 2 rfl rfl rfl rfl Tryz.sizeOf170 (Nat.le_of_ble_eq_true rfl) (one_cons rfl (one_cons (hS.rowOne 0 rfl) one_nil)) rfl (fun w_60 hz_61 hS => ?_)
        refine Wx.rd (v := .int .i64 0) (rd_assign rfl) rfl ?_
        refine Wx.nil ?_
        have hE : checkE L fs = 0 := by rw [hE, ← h2, drop_end (by omega)]; rfl
        have e5_0 : (openL L fs) = (L : Int) := by simp [openL, hE]
        have e5_1 : openS L fs = sets := by simp [openS, hE, h3, take_end (by omega : (fs.length : Int) ≤ k)]
        have e5_2 : (checkE L fs) = (0 : Int) := by exact hE
        exact W.ret ⟨.tuple #[.agg #[.int .i64 L, sv], .int .i64 0], (ResIs.cell2 hS 2 rfl rfl Tryz.isAgg170 Tryz.sizeOf170), hS.bel, ⟨sv, (by rw [e5_0, e5_2]), (by rw [e5_1]; exact ((hS.lend 0 rfl).mv (.less (fun _ h => List.mem_append.2 (.inr h)))))⟩⟩

theorem C3.F127 {f : Int} {gp : Nat} {p : Int} {gn : Nat} {n : Int} {w : World} (i_f : InK .u8 f) (i_p : InK .u8 p) (x_gp : w.heap[gp]? = some (.cells #[.int .u8 p] 174 (0, 0))) (i_n : InK .i64 n) (x_gn : w.heap[gn]? = some (.cells #[.int .i64 n] 3 (0, 0))) (p_n : 0 ≤ n) : Calls Tryz.prog 127 #[.int .u8 f, .pointer (some ⟨gp, 0, none⟩), .pointer (some ⟨gn, 0, none⟩)] w (Ret w (fun r _ => r = .bool (badS p n f))) := by
  have b_n := bd_i64 i_n
  have b_p := bd_u8 i_p
  have b_f := bd_u8 i_f
  have hS := St.start0 w
  refine enterR Tryz.func127 rfl Tryz.ntmps127 Tryz.results127 rfl ?_
  refine W.seq ?_
  refine W.reg ?_
  refine Wx.rd (v := .bool false) (rd_assign rfl) rfl ?_
  refine Wx.nil ?_
  refine W.seq ?_
  refine W.reg ?_
  refine Wx.rd (v := .int .u8 f) (rd_move rfl) rfl ?_
  refine Wx.rd (v := .int .u8 p) (rd_loadO x_gp hS.bel rfl rfl Tryz.isAgg174) rfl ?_
  refine Wx.rd (v := .int .u8 (bits .and .u8 f p)) (rd_and rfl rfl) rfl ?_
  have bd_1 := bd_u8 (bits_in .and .u8 f p)
  refine Wx.rd (v := .bool (decide ((bits .and .u8 f p) ≠ 0))) (rd_neq rfl rfl) rfl ?_
  refine Wx.rd (v := .bool (decide ((bits .and .u8 f p) ≠ 0))) (rd_move rfl) rfl ?_
  refine Wx.cut (X := Unit) 5 [10, 11, 12, 13, 14] (fun _ => [(14, .bool (decide ((bits .and .u8 f p) ≠ 0) && decide ((bits .andNot .u8 f p) ≠ 0)))]) (fun _ w' => St w [] w' []) ?_ ?_
  · rcases Bool.eq_false_or_eq_true (decide ((bits .and .u8 f p) ≠ 0)) with g_2 | g_2
    · -- True
      have gp_3 := of_decide_eq_true g_2
      refine Wx.gyes rfl rfl (congrArg Value.bool g_2) ?_
      refine Wx.rd (v := .int .u8 f) (rd_move rfl) rfl ?_
      refine Wx.gyes rfl rfl (congrArg Value.bool g_2) ?_
      refine Wx.rd (v := .int .u8 p) (rd_loadO x_gp hS.bel rfl rfl Tryz.isAgg174) rfl ?_
      refine Wx.gyes rfl rfl (congrArg Value.bool g_2) ?_
      refine Wx.rd (v := .int .u8 (bits .andNot .u8 f p)) (rd_andNot rfl rfl) rfl ?_
      have bd_4 := bd_u8 (bits_in .andNot .u8 f p)
      refine Wx.gyes rfl rfl (congrArg Value.bool g_2) ?_
      refine Wx.rd (v := .bool (decide ((bits .andNot .u8 f p) ≠ 0))) (rd_neq rfl rfl) rfl ?_
      refine Wx.rd (v := .bool (decide ((bits .andNot .u8 f p) ≠ 0))) (rd_pickT (congrArg Value.bool g_2) rfl) rfl ?_
      refine Wx.nil ⟨(), hS, ⟨?_, trivial⟩, Out.look rfl Out.refl⟩
      show Value.bool (decide ((bits .andNot .u8 f p) ≠ 0)) = Value.bool (decide ((bits .and .u8 f p) ≠ 0) && decide ((bits .andNot .u8 f p) ≠ 0))
      first | rw [g_2, Bool.true_and] | (rw [g_2]; rfl)
    · -- False
      have gp_5 := of_decide_eq_false g_2
      refine Wx.gnoB rfl rfl (congrArg Value.bool g_2) rfl rfl ?_
      refine Wx.gnoB rfl rfl (congrArg Value.bool g_2) rfl rfl ?_
      refine Wx.gnoB rfl rfl (congrArg Value.bool g_2) rfl rfl ?_
      refine Wx.gnoB rfl rfl (congrArg Value.bool g_2) rfl rfl ?_
      refine Wx.rd (v := .bool false) (rd_pickF (congrArg Value.bool g_2) rfl) rfl ?_
      refine Wx.nil ⟨(), hS, ⟨?_, trivial⟩, Out.look rfl Out.refl⟩
      show Value.bool false = Value.bool (decide ((bits .and .u8 f p) ≠ 0) && decide ((bits .andNot .u8 f p) ≠ 0))
      first | rw [g_2, Bool.false_and] | (rw [g_2]; rfl)
  rintro ⟨⟩ u_7 w_6 hS
  refine Wx.rd (v := .bool (decide ((bits .and .u8 f p) ≠ 0) && decide ((bits .andNot .u8 f p) ≠ 0))) (rd_move rfl) rfl ?_
  refine Wx.cut (X := Unit) 5 [16, 17, 18, 19, 20] (fun _ => [(20, .bool ((decide ((bits .and .u8 f p) ≠ 0) && decide ((bits .andNot .u8 f p) ≠ 0)) && !(hasS f n)))]) (fun _ w' => St w [] w' []) ?_ ?_
  · rcases Bool.eq_false_or_eq_true (decide ((bits .and .u8 f p) ≠ 0) && decide ((bits .andNot .u8 f p) ≠ 0)) with g_8 | g_8
    · -- True
      have gp_9 := g_8
      try simp only [Bool.and_eq_true, Bool.or_eq_true, Bool.not_eq_true', Bool.and_eq_false_iff, Bool.or_eq_false_iff, Bool.not_eq_false', decide_eq_true_eq, decide_eq_false_iff_not, not_or, Bool.false_eq_true, Bool.true_eq_false, false_or, or_false, not_false_eq_true] at gp_9
      refine Wx.gyes rfl rfl (congrArg Value.bool g_8) ?_
      refine Wx.rd (v := .int .u8 f) (rd_move rfl) rfl ?_
      refine Wx.gyes rfl rfl (congrArg Value.bool g_8) ?_
      refine Wx.rd (v := .int .i64 n) (rd_loadO x_gn hS.bel rfl rfl Tryz.isAgg3) rfl ?_
      refine Wx.gyes rfl rfl (congrArg Value.bool g_8) ?_
      refine Wx.callF (run_callF Tryz.call125 rfl) (C3.F125 i_f i_n (by omega)) rfl ?_
      rintro r_10 w_11 hx_12 rfl
      have hS := hS.ext hx_12
      refine Wx.gyes rfl rfl (congrArg Value.bool g_8) ?_
      refine Wx.rd (v := .bool (!(hasS f n))) (rd_not rfl) rfl ?_
      refine Wx.rd (v := .bool (!(hasS f n))) (rd_pickT (congrArg Value.bool g_8) rfl) rfl ?_
      refine Wx.nil ⟨(), hS, ⟨?_, trivial⟩, Out.look rfl Out.refl⟩
      show Value.bool (!(hasS f n)) = Value.bool ((decide ((bits .and .u8 f p) ≠ 0) && decide ((bits .andNot .u8 f p) ≠ 0)) && !(hasS f n))
      first | rw [g_8, Bool.true_and] | (rw [g_8]; rfl)
    · -- False
      have gp_13 := g_8
      try simp only [Bool.and_eq_true, Bool.or_eq_true, Bool.not_eq_true', Bool.and_eq_false_iff, Bool.or_eq_false_iff, Bool.not_eq_false', decide_eq_true_eq, decide_eq_false_iff_not, not_or, Bool.false_eq_true, Bool.true_eq_false, false_or, or_false, not_false_eq_true] at gp_13
      refine Wx.gnoB rfl rfl (congrArg Value.bool g_8) rfl rfl ?_
      refine Wx.gnoB rfl rfl (congrArg Value.bool g_8) rfl rfl ?_
      refine Wx.gnoB rfl rfl (congrArg Value.bool g_8) rfl rfl ?_
      refine Wx.gnoB rfl rfl (congrArg Value.bool g_8) rfl rfl ?_
      refine Wx.rd (v := .bool false) (rd_pickF (congrArg Value.bool g_8) rfl) rfl ?_
      refine Wx.nil ⟨(), hS, ⟨?_, trivial⟩, Out.look rfl Out.refl⟩
      show Value.bool false = Value.bool ((decide ((bits .and .u8 f p) ≠ 0) && decide ((bits .andNot .u8 f p) ≠ 0)) && !(hasS f n))
      first | rw [g_8, Bool.false_and] | (rw [g_8]; rfl)
  rintro ⟨⟩ u_15 w_14 hS
  refine Wx.rd (v := .bool ((decide ((bits .and .u8 f p) ≠ 0) && decide ((bits .andNot .u8 f p) ≠ 0)) && !(hasS f n))) (rd_assign rfl) rfl ?_
  refine Wx.nil ?_
  have e0_0 : (badS p n f) = ((decide ((bits .and .u8 f p) ≠ 0) && decide ((bits .andNot .u8 f p) ≠ 0)) && !(hasS f n)) := by rfl
  exact W.ret ⟨.bool ((decide ((bits .and .u8 f p) ≠ 0) && decide ((bits .andNot .u8 f p) ≠ 0)) && !(hasS f n)), ResIs.one, hS.bel, (by rw [e0_0])⟩

theorem C3.F136 {fv : Value} {fs : List Int} {Fr_fv : List (Option Nat)} {gp : Nat} {p : Int} {gn : Nat} {n : Int} {w : World} (h_fv : V (tSl (tI .u8)) fs fv Fr_fv w) (i_p : InK .u8 p) (x_gp : w.heap[gp]? = some (.cells #[.int .u8 p] 174 (0, 0))) (i_n : InK .i64 n) (x_gn : w.heap[gn]? = some (.cells #[.int .i64 n] 3 (0, 0))) (p_n : 0 ≤ n) : Calls Tryz.prog 136 #[fv, .func (.func 127) #[] #[.pointer (some ⟨gp, 0, none⟩), .pointer (some ⟨gn, 0, none⟩)]] w (Ret w (fun r _ => r = .int .i64 (idxL (badS p n) 0 fs))) := by
  have b_n := bd_i64 i_n
  have b_p := bd_u8 i_p
  have a_fv := h_fv.any
  have l_fv := h_fv.len63
  have hS := St.start0 w
  refine enterR Tryz.func136 rfl Tryz.ntmps136 Tryz.results136 rfl ?_
  refine W.seq ?_
  refine W.reg ?_
  refine Wx.rd (v := .int .i64 0) (rd_assign rfl) rfl ?_
  refine Wx.nil ?_
  refine W.seq ?_
  refine W.seq ?_
  refine W.reg ?_
  refine Wx.rd (v := fv) (rd_move rfl) rfl ?_
  refine Wx.rd (v := .int .i64 (fs.length : Int)) (rd_lenV rfl (hS.arg a_fv) Tryz.underlying168) rfl ?_
  refine Wx.rd (v := .int .i64 0) (rd_move rfl) rfl ?_
  refine Wx.nil ?_
  refine W.block ?_
  refine W.loop [4, 5, 8, 9, 10, 11, 12, 13, 14, 15, 16, 17, 18] (fun (k : Int) => [(8, .int .i64 k)]) (fun (k : Int) w' => St w [] w' [] ∧ 0 ≤ k ∧ k ≤ fs.length ∧ idxL (badS p n) k (fs.drop k.toNat) = idxL (badS p n) 0 fs) (fun (k : Int) => (fs.length - k).toNat) 0 ⟨rfl, trivial⟩ ⟨hS, (by first | omega | simp), (by first | omega | simp), (by simp)⟩ ?_
  rintro k u_2 w_1 ⟨hS, h0, h1, h2⟩
  refine W.seq ?_
  refine W.reg ?_
  refine Wx.rd (v := .bool (decide (k < (fs.length : Int)))) (rd_lss rfl rfl) rfl ?_
  refine Wx.nil ?_
  refine W.seq ?_
  refine W.condD rfl (fun c0 => ?_) (fun c0 => ?_)
  · -- yes
    refine W.skip ?_
    refine W.seq ?_
    refine W.block ?_
    refine W.seq ?_
    refine W.reg ?_
    refine Wx.rd (v := .int .i64 k) (rd_move rfl) rfl ?_
    refine Wx.rd (v := .int .i64 k) (rd_assign rfl) rfl ?_
    refine Wx.nil ?_
    refine W.seq ?_
    refine W.reg ?_
    refine Wx.rd (v := .func (.func 127) #[] #[.pointer (some ⟨gp, 0, none⟩), .pointer (some ⟨gn, 0, none⟩)]) (rd_move rfl) rfl ?_
    refine Wx.rd (v := fv) (rd_move rfl) rfl ?_
    refine Wx.rd (v := .int .i64 k) (rd_move rfl) rfl ?_
    refine Wx.ex (rd_index 0 (hS.arg a_fv) rfl rfl Tryz.underlying168 Tryz.sizeOf174 (by first | omega | (simp only [List.length_set, List.length_append, List.length_cons, List.length_nil, List.length_replicate]; omega)) (by first | omega | (simp only [List.length_set, List.length_append, List.length_cons, List.length_nil, List.length_replicate]; omega))) rfl (fun p_3 hp_4 => ?_)
    refine Wx.rd (v := .int .u8 (ix 0 fs k)) (rd_loadI hp_4 rfl Tryz.isAgg174 Tryz.sizeOf174) rfl ?_
    have bd_5 := bd_u8 hp_4.inK
    refine Wx.callF (run_callC (fs := []) (cs := [.pointer (some ⟨gp, 0, none⟩), .pointer (some ⟨gn, 0, none⟩)]) (vs := [.int .u8 (ix 0 fs k), .pointer (some ⟨gp, 0, none⟩), .pointer (some ⟨gn, 0, none⟩)]) Tryz.call127 rfl rfl) (C3.F127 (in_u8 (by omega) (by omega)) i_p (extAt x_gp hS.bel) i_n (extAt x_gn hS.bel) (by omega)) rfl ?_
    rintro r_6 w_7 hx_8 rfl
    have hS := hS.ext hx_8
    refine Wx.nil ?_
    refine W.cond rfl (fun c1 => ?_) (fun c1 => ?_)
    · -- yes
      try simp only [Bool.and_eq_true, Bool.or_eq_true, Bool.not_eq_true', Bool.and_eq_false_iff, Bool.or_eq_false_iff, Bool.not_eq_false', decide_eq_true_eq, decide_eq_false_iff_not, not_or, Bool.false_eq_true, Bool.true_eq_false, false_or, or_false, not_false_eq_true] at c1
      refine W.seq ?_
      refine W.reg ?_
      refine Wx.rd (v := .int .i64 k) (rd_move rfl) rfl ?_
      refine Wx.rd (v := .int .i64 k) (rd_assign rfl) rfl ?_
      refine Wx.nil ?_
      have e0_0 : (idxL (badS p n) 0 fs) = (k : Int) := by rw [← h2, drop_ix (d := 0) h0 c0, idxL, if_pos c1]
      exact W.ret ⟨.int .i64 k, ResIs.one, hS.bel, (by rw [e0_0])⟩
    · -- no
      try simp only [Bool.and_eq_true, Bool.or_eq_true, Bool.not_eq_true', Bool.and_eq_false_iff, Bool.or_eq_false_iff, Bool.not_eq_false', decide_eq_true_eq, decide_eq_false_iff_not, not_or, Bool.false_eq_true, Bool.true_eq_false, false_or, or_false, not_false_eq_true] at c1
      refine W.skip ?_
      refine W.reg ?_
      refine Wx.rd (v := .int .i64 (k + 1)) (rd_add rfl rfl (in_i64 (by omega) (by omega))) rfl ?_
      refine Wx.rd (v := .int .i64 (k + 1)) (rd_move rfl) rfl ?_
      refine Wx.nil ?_
      refine ⟨k + 1, (by show (fs.length - (k + 1)).toNat < (fs.length - k).toNat; omega), ?_, ?_, Out.look rfl Out.self⟩
      · exact ⟨hS, (by first | omega | assumption), (by first | omega | assumption), (by rw [← h2, drop_ix (d := 0) h0 c0, idxL, if_neg (by simp [c1])])⟩
      · exact ⟨rfl, trivial⟩
  · -- no
    refine W.exit rfl ?_
    refine W.seq ?_
    refine W.reg ?_
    refine Wx.rd (v := .int .i64 (-1)) (rd_assign rfl) rfl ?_
    refine Wx.nil ?_
    have e1_0 : (idxL (badS p n) 0 fs) = (-1 : Int) := by rw [← h2, drop_end (by omega)]; rfl
    exact W.ret ⟨.int .i64 (-1), ResIs.one, hS.bel, (by rw [e1_0])⟩

theorem C3.F126 {fv : Value} {fs : List Int} {Fr_fv : List (Option Nat)} {gp : Nat} {p : Int} {gn : Nat} {n : Int} {w : World} (h_fv : V (tSl (tI .u8)) fs fv Fr_fv w) (i_p : InK .u8 p) (x_gp : w.heap[gp]? = some (.cells #[.int .u8 p] 174 (0, 0))) (i_n : InK .i64 n) (x_gn : w.heap[gn]? = some (.cells #[.int .i64 n] 3 (0, 0))) (p_n : 0 ≤ n) : Calls Tryz.prog 126 #[fv, .func (.func 127) #[] #[.pointer (some ⟨gp, 0, none⟩), .pointer (some ⟨gn, 0, none⟩)]] w (Ret w (fun r _ => r = .bool (fs.any (badS p n)))) := by
  have b_n := bd_i64 i_n
  have b_p := bd_u8 i_p
  have a_fv := h_fv.any
  have l_fv := h_fv.len63
  have hS := St.start0 w
  refine enterR Tryz.func126 rfl Tryz.ntmps126 Tryz.results126 rfl ?_
  refine W.seq ?_
  refine W.reg ?_
  refine Wx.rd (v := .bool false) (rd_assign rfl) rfl ?_
  refine Wx.nil ?_
  refine W.seq ?_
  refine W.reg ?_
  refine Wx.rd (v := fv) (rd_move rfl) rfl ?_
  refine Wx.rd (v := .func (.func 127) #[] #[.pointer (some ⟨gp, 0, none⟩), .pointer (some ⟨gn, 0, none⟩)]) (rd_move rfl) rfl ?_
  refine Wx.callF (run_callF Tryz.call136 rfl) (C3.F136 (hS.arg a_fv) i_p (extAt x_gp hS.bel) i_n (extAt x_gn hS.bel) (by omega)) rfl ?_
  rintro r_1 w_2 hx_3 rfl
  have hS := hS.ext hx_3
  refine Wx.rd (v := .bool (decide (0 ≤ (idxL (badS p n) 0 fs)))) (rd_geq rfl rfl) rfl ?_
  refine Wx.rd (v := .bool (decide (0 ≤ (idxL (badS p n) 0 fs)))) (rd_assign rfl) rfl ?_
  refine Wx.nil ?_
  have e0_0 : (fs.any (badS p n)) = (decide (0 ≤ (idxL (badS p n) 0 fs))) := by exact (idxL_any _ _ _ (by omega)).symm
  exact W.ret ⟨.bool (decide (0 ≤ (idxL (badS p n) 0 fs))), ResIs.one, hS.bel, (by rw [e0_0])⟩

theorem C3.F115 {L : Int} {sv : Value} {ss : List Int} {Fr_sv : List (Option Nat)} {p : Int} {n : Int} {w : World} (i_L : InK .i64 L) (h_sv : V (tSl (tI .u8)) ss sv Fr_sv w) (i_p : InK .u8 p) (i_n : InK .i64 n) (p_n : 0 ≤ n) : Calls Tryz.prog 115 #[.agg #[.int .i64 L, sv], .int .u8 p, .int .i64 n] w (Ret w (fun r _ => r = .bool (mayB ss p n))) := by
  have b_n := bd_i64 i_n
  have b_p := bd_u8 i_p
  have b_L := bd_i64 i_L
  have a_sv := h_sv.any
  have l_sv := h_sv.len63
  have hS := St.start0 w
  refine enterR Tryz.func115 rfl Tryz.ntmps115 Tryz.results115 rfl ?_
  refine W.seq ?_
  refine W.reg ?_
  refine Wx.box (cs := [.int .i64 L, sv]) hS rfl rfl rfl (fun g_1 w_2 hx_4 hb_3 hS => ?_)
  refine Wx.box (cs := [.int .u8 p]) hS rfl rfl rfl (fun g_5 w_6 hx_8 hb_7 hS => ?_)
  refine Wx.box (cs := [.int .i64 n]) hS rfl rfl rfl (fun g_9 w_10 hx_12 hb_11 hS => ?_)
  refine Wx.rd (v := .bool false) (rd_assign rfl) rfl ?_
  refine Wx.nil ?_
  refine W.seq ?_
  refine W.reg ?_
  refine Wx.rd (v := .int .u8 p) (rd_loadX hS 1 rfl rfl rfl Tryz.isAgg174) rfl ?_
  refine Wx.rd (v := .int .i64 n) (rd_loadX hS 0 rfl rfl rfl Tryz.isAgg3) rfl ?_
  refine Wx.callF (run_callF Tryz.call125 rfl) (C3.F125 i_p i_n (by omega)) rfl ?_
  rintro r_13 w_14 hx_15 rfl
  have hS := hS.ext hx_15
  refine Wx.rd (v := .bool (!(hasS p n))) (rd_not rfl) rfl ?_
  refine Wx.rd (v := .bool (!(hasS p n))) (rd_move rfl) rfl ?_
  refine Wx.cut (X := Unit) 6 [12, 13, 14, 15, 16, 17] (fun _ => [(17, .bool (!(hasS p n) && !(ss.any (badS p n))))]) (fun _ w' => St w [] w' [.box g_9 3 [.int .i64 n], .box g_5 174 [.int .u8 p], .box g_1 170 [.int .i64 L, sv]]) ?_ ?_
  · rcases Bool.eq_false_or_eq_true (!(hasS p n)) with g_16 | g_16
    · -- True
      have gp_17 := g_16
      try simp only [Bool.and_eq_true, Bool.or_eq_true, Bool.not_eq_true', Bool.and_eq_false_iff, Bool.or_eq_false_iff, Bool.not_eq_false', decide_eq_true_eq, decide_eq_false_iff_not, not_or, Bool.false_eq_true, Bool.true_eq_false, false_or, or_false, not_false_eq_true] at gp_17
      refine Wx.gyes rfl rfl (congrArg Value.bool g_16) ?_
      refine Wx.rd (v := .pointer (some ⟨g_1, 1, none⟩)) (rd_fieldAddr rfl foSa_170_1) rfl ?_
      refine Wx.gyes rfl rfl (congrArg Value.bool g_16) ?_
      refine Wx.rd (v := sv) (rd_loadX hS 2 rfl rfl rfl Tryz.isAgg168) rfl ?_
      refine Wx.gyes rfl rfl (congrArg Value.bool g_16) ?_
      refine Wx.rd (v := .func (.func 127) #[] #[.pointer (some ⟨g_5, 0, none⟩), .pointer (some ⟨g_9, 0, none⟩)]) (rd_makeFunc (vs := []) (us := [.pointer (some ⟨g_5, 0, none⟩), .pointer (some ⟨g_9, 0, none⟩)]) rfl rfl) rfl ?_
      refine Wx.gyes rfl rfl (congrArg Value.bool g_16) ?_
      refine Wx.callF (run_callF Tryz.call126 rfl) (C3.F126 (hS.arg a_sv) i_p (boxAt hS 1 rfl (Ext.refl _)) i_n (boxAt hS 0 rfl (Ext.refl _)) (by omega)) rfl ?_
      rintro r_18 w_19 hx_20 rfl
      have hS := hS.ext hx_20
      refine Wx.gyes rfl rfl (congrArg Value.bool g_16) ?_
      refine Wx.rd (v := .bool (!(ss.any (badS p n)))) (rd_not rfl) rfl ?_
      refine Wx.rd (v := .bool (!(ss.any (badS p n)))) (rd_pickT (congrArg Value.bool g_16) rfl) rfl ?_
      refine Wx.nil ⟨(), hS, ⟨?_, trivial⟩, Out.look rfl Out.refl⟩
      show Value.bool (!(ss.any (badS p n))) = Value.bool (!(hasS p n) && !(ss.any (badS p n)))
      first | rw [g_16, Bool.true_and] | (rw [g_16]; rfl)
    · -- False
      have gp_21 := g_16
      try simp only [Bool.and_eq_true, Bool.or_eq_true, Bool.not_eq_true', Bool.and_eq_false_iff, Bool.or_eq_false_iff, Bool.not_eq_false', decide_eq_true_eq, decide_eq_false_iff_not, not_or, Bool.false_eq_true, Bool.true_eq_false, false_or, or_false, not_false_eq_true] at gp_21
      refine Wx.gnoB rfl rfl (congrArg Value.bool g_16) rfl rfl ?_
      refine Wx.gnoB rfl rfl (congrArg Value.bool g_16) rfl rfl ?_
      refine Wx.gnoB rfl rfl (congrArg Value.bool g_16) rfl rfl ?_
      refine Wx.gnoB rfl rfl (congrArg Value.bool g_16) rfl rfl ?_
      refine Wx.gnoB rfl rfl (congrArg Value.bool g_16) rfl rfl ?_
      refine Wx.rd (v := .bool false) (rd_pickF (congrArg Value.bool g_16) rfl) rfl ?_
      refine Wx.nil ⟨(), hS, ⟨?_, trivial⟩, Out.look rfl Out.refl⟩
      show Value.bool false = Value.bool (!(hasS p n) && !(ss.any (badS p n)))
      first | rw [g_16, Bool.false_and] | (rw [g_16]; rfl)
  rintro ⟨⟩ u_23 w_22 hS
  refine Wx.rd (v := .bool (!(hasS p n) && !(ss.any (badS p n)))) (rd_assign rfl) rfl ?_
  refine Wx.nil ?_
  have e0_0 : (mayB ss p n) = (!(hasS p n) && !(ss.any (badS p n))) := by rfl
  exact W.ret ⟨.bool (!(hasS p n) && !(ss.any (badS p n))), ResIs.one, hS.bel, (by rw [e0_0])⟩
end Go.Proofs.YtlibemgaepkceaaGreatDoor

namespace Go.Proofs.YtlibemgaepkceaaGreatDoor
open Go.Wk Go.RowKit Go.Lib
set_option linter.unusedVariables false
set_option linter.unusedSimpArgs false
theorem foSb_170_0 : fldOff Tryz.prog 170 0 = some 0 := by kernel_rfl
theorem elSb_25 : ElemI Tryz.prog 25 3 (.int .i64 0) 1 8 := ElemI.of Tryz.underlying25 (by kernel_rfl) (by first | rfl | kernel_rfl) (by decide)
theorem mixedSb_ : Tryz.prog.follows .mixedOrders = true := by kernel_rfl

theorem C3.F114 {L : Int} {sv : Value} {ss : List Int} {Fr_sv : List (Option Nat)} {w : World} (i_L : InK .i64 L) (h_sv : V (tSl (tI .u8)) ss sv Fr_sv w) (p_1 : 1 ≤ L) (p_7 : L ≤ 7) : Calls Tryz.prog 114 #[.agg #[.int .i64 L, sv]] w (Ret w (fun r w' => ∃ ev, r = ev ∧ Fresh (tI .i64) 3 (endT L ss) ev w.heap.size w')) := by
  have b_L := bd_i64 i_L
  have hpw := powI_bd p_1 p_7
  have hpn := powI_nat L
  have a_sv := h_sv.any
  have l_sv := h_sv.len63
  have hS := St.start0 w
  refine enterR Tryz.func114 rfl Tryz.ntmps114 Tryz.results114 rfl ?_
  refine W.seq ?_
  refine W.reg ?_
  refine Wx.box (cs := [.int .i64 L, sv]) hS rfl rfl rfl (fun g_1 w_2 hx_4 hb_3 hS => ?_)
  refine Wx.rd (v := (.slice none 0 0)) (rd_assign rfl) rfl ?_
  refine Wx.nil ?_
  refine W.seq ?_
  refine W.reg ?_
  refine Wx.rd (v := .pointer (some ⟨g_1, 0, none⟩)) (rd_fieldAddr rfl foSb_170_0) rfl ?_
  refine Wx.rd (v := .int .i64 L) (rd_loadX hS 0 rfl rfl rfl Tryz.isAgg3) rfl ?_
  refine Wx.rd (v := .int .i64 (powI L)) (Rd.to (v := .int .i64 (IntKind.i64.wrap (1 * 2 ^ min L.toNat (IntKind.i64).bits))) (rd_shl rfl rfl (by omega)) (congrArg (Value.int .i64) (show (powI L : Int) = (IntKind.i64.wrap (1 * 2 ^ min L.toNat (IntKind.i64).bits) : Int) from (shl_powI (by omega) (by omega)).symm).symm)) rfl ?_
  have bd_5 := bd_i64 (wrap_inK .i64 (1 * 2 ^ min L.toNat (IntKind.i64).bits))
  refine Wx.make (t := (tI .i64)) (zy := (0 : Int)) (m := (2 ^ L.toNat)) elSb_25 rfl rfl (fun _ _ => ⟨rfl, by decide, by decide⟩) hS (congrArg (Value.int .i64) hpn) (congrArg (Value.int .i64) hpn) (by omega) (by simp only [maxLen]; omega) rfl (fun v_6 w_7 hx_8 hS => ?_)
  refine Wx.rd (v := v_6) (rd_assign rfl) rfl ?_
  refine Wx.nil ?_
  refine W.seq ?_
  refine W.reg ?_
  refine Wx.rd (v := v_6) (rd_move rfl) rfl ?_
  refine Wx.rd (v := v_6) (rd_move rfl) rfl ?_
  have hrl : (List.replicate (2 ^ L.toNat) (0 : Int)).length = 2 ^ L.toNat := by simp
  refine Wx.rd (v := .int .i64 ((List.replicate (2 ^ L.toNat) (0 : Int)).length : Int)) (rd_lenR hS 0 rfl rfl Tryz.underlying25) rfl ?_
  refine Wx.rd (v := .int .i64 (((List.replicate (2 ^ L.toNat) (0 : Int)).length : Int) - 1)) (rd_sub rfl rfl (in_i64 (by omega) (by omega))) rfl ?_
  refine Wx.indexR hS 0 rfl rfl rfl Tryz.underlying25 Tryz.sizeOf3 (by first | omega | (simp only [List.length_set, List.length_append, List.length_cons, List.length_nil, List.length_replicate]; omega)) (by first | omega | (simp only [List.length_set, List.length_append, List.length_cons, List.length_nil, List.length_replicate]; omega)) rfl (fun g_11 hg_12 => ?_)
  refine Wx.storeR (j := (((List.replicate (2 ^ L.toNat) (0 : Int)).length : Int) - 1).toNat) (z := 1) hS 0 rfl hg_12 rfl (by first | omega | (simp only [List.length_set, List.length_append, List.length_cons, List.length_nil, List.length_replicate]; omega)) rfl (V.mkInt (in_i64 (by omega) (by omega))) Tryz.sizeOf3 (fun w_13 hz_14 hS => ?_)
  have hS := hS.spell (ys' := fillE L.toNat ss (powI L - 2)) 0 rfl (by rw [fill_start (L := L.toNat) (fs := ss) (by omega) (by simp)]; congr 1; omega)
  refine Wx.nil ?_
  refine W.seq ?_
  refine W.seq ?_
  refine W.reg ?_
  refine Wx.rd (v := v_6) (rd_move rfl) rfl ?_
  have hle := fillE_len L.toNat ss (powI L - 2)
  refine Wx.rd (v := .int .i64 ((fillE L.toNat ss (powI L - 2)).length : Int)) (rd_lenR hS 0 rfl rfl Tryz.underlying25) rfl ?_
  refine Wx.rd (v := .int .i64 (((fillE L.toNat ss (powI L - 2)).length : Int) - 2)) (rd_sub rfl rfl (in_i64 (by omega) (by omega))) rfl ?_
  refine Wx.rd (v := .int .i64 (((fillE L.toNat ss (powI L - 2)).length : Int) - 2)) (rd_assign rfl) rfl ?_
  refine Wx.nil ?_
  refine W.block ?_
  refine W.loop [4, 5, 18, 19, 20, 21, 22, 23, 24, 25, 26, 27, 28, 29, 30, 31, 32, 33, 34, 35, 36, 37, 38, 39, 40, 41, 42, 43, 44, 45] (fun x : Int × (List Int) => match x with | (p, out) => [(4, .int .i64 p)]) (fun (x : Int × (List Int)) w' => match x with | (p, out) => St w [] w' [.row (tI .i64) 3 v_6 out, .box g_1 170 [.int .i64 L, sv]] ∧ -1 ≤ p ∧ p ≤ powI L - 2 ∧ out = fillE L.toNat ss p ∧ (out.length : Int) = powI L) (fun x : Int × (List Int) => match x with | (p, out) => (p + 1).toNat) (((fillE L.toNat ss (powI L - 2)).length : Int) - 2, fillE L.toNat ss (powI L - 2)) ⟨rfl, trivial⟩ ⟨hS, (by omega), (by omega), (by congr 1; omega), (by omega)⟩ ?_
  rintro ⟨p, out⟩ u_16 w_15 ⟨hS, g0m, g1, g2, g3⟩
  refine W.seq ?_
  refine W.seq ?_
  refine W.reg ?_
  refine Wx.rd (v := .int .i64 p) (rd_move rfl) rfl ?_
  refine Wx.rd (v := .bool (decide (0 ≤ p))) (rd_geq rfl rfl) rfl ?_
  refine Wx.nil ?_
  refine W.condD rfl (fun c0 => ?_) (fun c0 => ?_)
  · -- yes
    refine W.skip ?_
    refine W.seq ?_
    refine W.block ?_
    refine W.seq ?_
    refine W.reg ?_
    refine Wx.rd (v := .pointer (some ⟨g_1, 0, none⟩)) (rd_fieldAddr rfl foSb_170_0) rfl ?_
    refine Wx.rd (v := .int .i64 L) (rd_loadX hS 1 rfl rfl rfl Tryz.isAgg3) rfl ?_
    refine Wx.rd (v := .int .i64 0) (rd_move rfl) rfl ?_
    refine Wx.nil ?_
    refine W.block ?_
    refine W.loop [5, 24, 25, 26, 27, 28, 29, 30, 31, 32, 33, 34, 35, 36, 37, 38, 39, 40, 41, 42, 43, 44, 45] (fun x : Int × (List Int) => match x with | (k, out) => [(24, .int .i64 k)]) (fun (x : Int × (List Int)) w' => match x with | (k, out) => St w [] w' [.row (tI .i64) 3 v_6 out, .box g_1 170 [.int .i64 L, sv]] ∧ 0 ≤ k ∧ k ≤ L ∧ out = (fillE L.toNat ss p).set p.toNat (sumE L.toNat ss p k.toNat) ∧ (out.length : Int) = powI L) (fun x : Int × (List Int) => match x with | (k, out) => (L - k).toNat) (0, out) ⟨rfl, trivial⟩ ⟨hS, (by first | omega | simp), (by first | omega | simp), (by rw [g2]; exact (fill_set0 c0).symm), (g3)⟩ ?_
    rintro ⟨k, out⟩ u_18 w_17 ⟨hS, h0, h1, h2, h3⟩
    refine W.seq ?_
    refine W.reg ?_
    refine Wx.rd (v := .bool (decide (k < L))) (rd_lss rfl rfl) rfl ?_
    refine Wx.nil ?_
    refine W.seq ?_
    refine W.condD rfl (fun c1 => ?_) (fun c1 => ?_)
    · -- yes
      refine W.skip ?_
      refine W.seq ?_
      refine W.block ?_
      refine W.seq ?_
      refine W.reg ?_
      refine Wx.rd (v := .int .i64 k) (rd_move rfl) rfl ?_
      refine Wx.rd (v := .int .i64 k) (rd_assign rfl) rfl ?_
      refine Wx.nil ?_
      refine W.seq ?_
      refine W.reg ?_
      refine Wx.rd (v := .agg #[.int .i64 L, sv]) (rd_loadXs (ds := [.int .i64 L, sv]) hS 1 rfl rfl rfl rfl Tryz.isAgg170 Tryz.sizeOf170) rfl ?_
      refine Wx.rd (v := .int .i64 p) (rd_move rfl) rfl ?_
      refine Wx.rd (v := .int .u8 p) (rd_convIn rfl Tryz.underlying3 Tryz.underlying174 (in_u8 (by omega) (by omega))) rfl ?_
      refine Wx.rd (v := .int .i64 k) (rd_move rfl) rfl ?_
      refine Wx.callF (run_callF Tryz.call115 rfl) (C3.F115 i_L (hS.arg a_sv) (in_u8 (by omega) (by omega)) (in_i64 (by omega) (by omega)) (by omega)) rfl ?_
      rintro r_19 w_20 hx_21 rfl
      have hS := hS.ext hx_21
      refine Wx.nil ?_
      refine W.cond rfl (fun c2 => ?_) (fun c2 => ?_)
      · -- yes
        try simp only [Bool.and_eq_true, Bool.or_eq_true, Bool.not_eq_true', Bool.and_eq_false_iff, Bool.or_eq_false_iff, Bool.not_eq_false', decide_eq_true_eq, decide_eq_false_iff_not, not_or, Bool.false_eq_true, Bool.true_eq_false, false_or, or_false, not_false_eq_true] at c2
        refine W.regT 13 mixedSb_ (by kernel_rfl) ?_
        refine Wx.rd (v := v_6) (rd_move rfl) rfl ?_
        refine Wx.rd (v := .int .i64 p) (rd_move rfl) rfl ?_
        have hll := fillE_len L.toNat ss p
        have hlt := orI_lt (n := k) p_1 p_7 c0 (by omega) h0 (by omega)
        have hof := orI_facts (n := k) c0 (by omega) h0 (by omega) (mayB_not c2)
        have ho : ix 0 out p = sumE L.toNat ss p k.toNat := by rw [h2]; exact set_ix_self c0 (by omega)
        have hoo : ix 0 out (orI p k) = endE L.toNat ss (orI p k) := by rw [h2, set_ix_ne c0 (by omega) (by omega), fillE_ix (by omega) (by rw [hpn] at hlt; simpa using hlt), if_pos hof.1]
        have hs1 := sumE_bd (L := L.toNat) (fs := ss) (by omega) p (k := k.toNat) (by omega)
        have hs2 := endE_bd (L := L.toNat) (fs := ss) (by omega) (orI p k)
        refine Wx.indexR hS 0 rfl rfl rfl Tryz.underlying25 Tryz.sizeOf3 (by first | omega | (simp only [List.length_set, List.length_append, List.length_cons, List.length_nil, List.length_replicate]; omega)) (by first | omega | (simp only [List.length_set, List.length_append, List.length_cons, List.length_nil, List.length_replicate]; omega)) rfl (fun g_22 hg_23 => ?_)
        refine Wx.rd (v := .int .i64 (ix 0 out p)) (rd_loadRI' hS 0 rfl hg_23 rfl (by first | omega | (simp only [List.length_set, List.length_append, List.length_cons, List.length_nil, List.length_replicate]; omega)) (by first | omega | (simp only [List.length_set, List.length_append, List.length_cons, List.length_nil, List.length_replicate]; omega)) Tryz.isAgg3 Tryz.sizeOf3) rfl ?_
        have bd_24 := bd_i64 (hS.rowInK' 0 rfl (by first | omega | (simp only [List.length_set, List.length_append, List.length_cons, List.length_nil, List.length_replicate]; omega)) (by first | omega | (simp only [List.length_set, List.length_append, List.length_cons, List.length_nil, List.length_replicate]; omega)) : InK .i64 (ix 0 out p))
        refine Wx.rd (v := v_6) (rd_move rfl) rfl ?_
        refine Wx.rd (v := .int .i64 p) (rd_move rfl) rfl ?_
        refine Wx.rd (v := .int .i64 k) (rd_move rfl) rfl ?_
        refine Wx.rd (v := .int .i64 (IntKind.i64.wrap (1 * 2 ^ min k.toNat (IntKind.i64).bits))) (rd_shl rfl rfl (by omega)) rfl ?_
        have bd_25 := bd_i64 (wrap_inK .i64 (1 * 2 ^ min k.toNat (IntKind.i64).bits))
        refine Wx.rd (v := .int .i64 (orI p k)) (Rd.to (v := .int .i64 (bits .or .i64 p (IntKind.i64.wrap (1 * 2 ^ min k.toNat (IntKind.i64).bits)))) (rd_or rfl rfl) (congrArg (Value.int .i64) (show (orI p k : Int) = (bits .or .i64 p (IntKind.i64.wrap (1 * 2 ^ min k.toNat (IntKind.i64).bits)) : Int) from rfl).symm)) rfl ?_
        have bd_26 := bd_i64 (bits_in .or .i64 p (IntKind.i64.wrap (1 * 2 ^ min k.toNat (IntKind.i64).bits)))
        refine Wx.indexR hS 0 rfl rfl rfl Tryz.underlying25 Tryz.sizeOf3 (by first | omega | (simp only [List.length_set, List.length_append, List.length_cons, List.length_nil, List.length_replicate]; omega)) (by first | omega | (simp only [List.length_set, List.length_append, List.length_cons, List.length_nil, List.length_replicate]; omega)) rfl (fun g_27 hg_28 => ?_)
        refine Wx.rd (v := .int .i64 (ix 0 out (orI p k))) (rd_loadRI' hS 0 rfl hg_28 rfl (by first | omega | (simp only [List.length_set, List.length_append, List.length_cons, List.length_nil, List.length_replicate]; omega)) (by first | omega | (simp only [List.length_set, List.length_append, List.length_cons, List.length_nil, List.length_replicate]; omega)) Tryz.isAgg3 Tryz.sizeOf3) rfl ?_
        have bd_29 := bd_i64 (hS.rowInK' 0 rfl (by first | omega | (simp only [List.length_set, List.length_append, List.length_cons, List.length_nil, List.length_replicate]; omega)) (by first | omega | (simp only [List.length_set, List.length_append, List.length_cons, List.length_nil, List.length_replicate]; omega)) : InK .i64 (ix 0 out (orI p k)))
        refine Wx.rd (v := .int .i64 ((ix 0 out p) + (ix 0 out (orI p k)))) (rd_add rfl rfl (in_i64 (by omega) (by omega))) rfl ?_
        refine Wx.indexR hS 0 rfl rfl rfl Tryz.underlying25 Tryz.sizeOf3 (by first | omega | (simp only [List.length_set, List.length_append, List.length_cons, List.length_nil, List.length_replicate]; omega)) (by first | omega | (simp only [List.length_set, List.length_append, List.length_cons, List.length_nil, List.length_replicate]; omega)) rfl (fun g_30 hg_31 => ?_)
        refine Wx.nilQ (fun w_32 hx_33 => ?_)
        have hS := hS.ext hx_33
        refine Wx.storeR (j := p.toNat) (z := (ix 0 out p) + (ix 0 out (orI p k))) hS 0 rfl hg_31 rfl (by first | omega | (simp only [List.length_set, List.length_append, List.length_cons, List.length_nil, List.length_replicate]; omega)) rfl (V.mkInt (in_i64 (by omega) (by omega))) Tryz.sizeOf3 (fun w_34 hz_35 hS => ?_)
        refine Wx.nil ?_
        refine W.reg ?_
        refine Wx.rd (v := .int .i64 (k + 1)) (rd_add rfl rfl (in_i64 (by omega) (by omega))) rfl ?_
        refine Wx.rd (v := .int .i64 (k + 1)) (rd_move rfl) rfl ?_
        refine Wx.nil ?_
        refine ⟨(k + 1, List.set out p.toNat ((ix 0 out p) + (ix 0 out (orI p k)))), (by show (L - (k + 1)).toNat < (L - k).toNat; omega), ?_, ?_, Out.look rfl Out.self⟩
        · exact ⟨hS, (by first | omega | assumption), (by first | omega | assumption), (by rw [ho, hoo, sumE_succ h0, if_pos c2, h2, List.set_set]), (by rw [List.length_set]; exact h3)⟩
        · exact ⟨rfl, trivial⟩
      · -- no
        try simp only [Bool.and_eq_true, Bool.or_eq_true, Bool.not_eq_true', Bool.and_eq_false_iff, Bool.or_eq_false_iff, Bool.not_eq_false', decide_eq_true_eq, decide_eq_false_iff_not, not_or, Bool.false_eq_true, Bool.true_eq_false, false_or, or_false, not_false_eq_true] at c2
        refine W.skip ?_
        refine W.reg ?_
        refine Wx.rd (v := .int .i64 (k + 1)) (rd_add rfl rfl (in_i64 (by omega) (by omega))) rfl ?_
        refine Wx.rd (v := .int .i64 (k + 1)) (rd_move rfl) rfl ?_
        refine Wx.nil ?_
        refine ⟨(k + 1, out), (by show (L - (k + 1)).toNat < (L - k).toNat; omega), ?_, ?_, Out.look rfl Out.self⟩
        · exact ⟨hS, (by first | omega | assumption), (by first | omega | assumption), (by rw [sumE_succ h0, if_neg (by simp [c2]), Int.add_zero]; exact h2), (h3)⟩
        · exact ⟨rfl, trivial⟩
    · -- no
      refine W.exit rfl ?_
      refine W.reg ?_
      refine Wx.rd (v := .int .i64 p) (rd_move rfl) rfl ?_
      refine Wx.rd (v := .int .i64 (p - 1)) (rd_sub rfl rfl (in_i64 (by omega) (by omega))) rfl ?_
      refine Wx.rd (v := .int .i64 (p - 1)) (rd_assign rfl) rfl ?_
      refine Wx.nil ?_
      refine ⟨(p - 1, out), (by show ((p - 1) + 1).toNat < (p + 1).toNat; omega), ?_, ?_, Out.look rfl (Out.hav rfl (Out.look rfl Out.self))⟩
      · exact ⟨hS, (by first | omega | assumption), (by first | omega | assumption), (by rw [h2, show k.toNat = L.toNat by omega, fill_next (by omega) c0 (by omega)]), (h3)⟩
      · exact ⟨rfl, trivial⟩
  · -- no
    refine W.exit rfl ?_
    refine W.seq ?_
    refine W.reg ?_
    refine Wx.rd (v := v_6) (rd_move rfl) rfl ?_
    refine Wx.rd (v := v_6) (rd_assign rfl) rfl ?_
    refine Wx.nil ?_
    have e0_0 : endT L ss = out := by rw [endT, g2]; congr 1; omega
    exact W.ret ⟨v_6, ResIs.one, hS.bel, ⟨v_6, rfl, (by rw [e0_0]; exact (hS.fr 0 rfl flat_int))⟩⟩
end Go.Proofs.YtlibemgaepkceaaGreatDoor

namespace Go.Proofs.YtlibemgaepkceaaGreatDoor
open Go.Wk Go.RowKit Go.Lib
set_option linter.unusedVariables false
set_option linter.unusedSimpArgs false
theorem foSc_170_0 : fldOff Tryz.prog 170 0 = some 0 := by kernel_rfl
theorem elSc_25 : ElemI Tryz.prog 25 3 (.int .i64 0) 1 8 := ElemI.of Tryz.underlying25 (by kernel_rfl) (by first | rfl | kernel_rfl) (by decide)

theorem C3.F104 {L : Int} {fv : Value} {fs : List (List Int)} {Fr_fv : List (Option Nat)} {w : World} (i_L : InK .i64 L) (h_fv : V (tSl (tSl (tI .i64))) fs fv Fr_fv w) : Calls Tryz.prog 104 #[.agg #[.int .i64 L, fv]] w (Ret w (fun r w' => ∃ rv, r = .tuple #[rv, .int .i64 (firstE L fs)] ∧ Fresh (tI .i64) 3 (firstL L fs) rv w.heap.size w')) := by
  have b_L := bd_i64 i_L
  have a_fv := h_fv.any
  have l_fv := h_fv.len63
  have hS := St.start0 w
  refine enterR Tryz.func104 rfl Tryz.ntmps104 Tryz.results104 rfl ?_
  refine W.seq ?_
  refine W.reg ?_
  refine Wx.box (cs := [.int .i64 L, fv]) hS rfl rfl rfl (fun g_1 w_2 hx_4 hb_3 hS => ?_)
  refine Wx.rd (v := (.slice none 0 0)) (rd_assign rfl) rfl ?_
  refine Wx.rd (v := .int .i64 0) (rd_assign rfl) rfl ?_
  refine Wx.nil ?_
  refine W.seq ?_
  refine W.reg ?_
  refine Wx.rd (v := .agg #[.int .i64 L, fv]) (rd_loadXs (ds := [.int .i64 L, fv]) hS 0 rfl rfl rfl rfl Tryz.isAgg150 Tryz.sizeOf150) rfl ?_
  refine Wx.callF (run_callF Tryz.call113 rfl) (C3.F113 i_L (hS.arg a_fv) hS.fb_lt) rfl ?_
  rintro r_5 w_6 hx_7 ⟨v_8, rfl, hv_9⟩
  have ln_11 := hv_9.len63
  have hS := hS.ext hx_7
  have hS := hS.add hv_9
  refine Wx.rd (v := .tuple #[.agg #[.int .i64 (openL L fs), v_8], .int .i64 (checkE L fs)]) (rd_move rfl) rfl ?_
  refine Wx.rd (v := .agg #[.int .i64 (openL L fs), v_8]) (rd_extract rfl rfl) rfl ?_
  refine Wx.rd (v := .int .i64 (checkE L fs)) (rd_extract rfl rfl) rfl ?_
  refine Wx.alloc (cs := [.int .i64 0, (.slice none 0 0)]) hS Tryz.zeroValue170 rfl rfl (fun g_12 w_13 hx_15 hb_14 hS => ?_)
  refine Wx.storeX (cs' := [.int .i64 (openL L fs), v_8]) (ds := [.int .i64 (openL L fs), v_8]) hS 0 rfl rfl rfl rfl Tryz.sizeOf170 (Nat.le_of_ble_eq_true rfl) (one_cons rfl (one_cons (V.oneC (hS.v 1 rfl)) one_nil)) rfl (fun w_16 hz_17 hS => ?_)
  refine Wx.rd (v := .int .i64 (checkE L fs)) (rd_assign rfl) rfl ?_
  refine Wx.nil ?_
  refine W.seq ?_
  refine W.seq ?_
  refine W.reg ?_
  refine Wx.rd (v := .int .i64 (checkE L fs)) (rd_move rfl) rfl ?_
  refine Wx.rd (v := .bool (decide ((checkE L fs) ≠ 0))) (rd_neq rfl rfl) rfl ?_
  refine Wx.nil ?_
  refine W.condD rfl (fun c0 => ?_) (fun c0 => ?_)
  · -- yes
    refine W.seq ?_
    refine W.reg ?_
    refine Wx.rd (v := .int .i64 (checkE L fs)) (rd_move rfl) rfl ?_
    refine Wx.rd (v := (.slice none 0 0)) (rd_assign rfl) rfl ?_
    refine Wx.rd (v := .int .i64 (checkE L fs)) (rd_assign rfl) rfl ?_
    refine Wx.nil ?_
    have hE : firstE L fs = checkE L fs := by rw [firstE, if_pos (by omega)]
    have hl : firstL L fs = [] := by rw [firstL, if_neg (by omega)]
    have e0_0 : firstL L fs = [] := by exact hl
    have e0_1 : (firstE L fs) = (checkE L fs : Int) := by exact hE
    exact W.ret ⟨.tuple #[(.slice none 0 0), .int .i64 (checkE L fs)], ResIs.two, hS.bel, ⟨(.slice none 0 0), (by rw [e0_1]), (by rw [e0_0]; exact ((hS.addNil (tI .i64) 3).fr 0 rfl flat_int))⟩⟩
  · -- no
    have hc : checkE L fs = 0 := by omega
    have ho := openL_ok hc
    have hpw := powI_bd (L := openL L fs) (by omega) (by omega)
    have hel := endT_len (openL L fs) (openS L fs)
    have he0 := endT0 (L := openL L fs) (openS L fs) (by omega) (by omega)
    refine W.skip ?_
    refine W.seq ?_
    refine W.reg ?_
    refine Wx.rd (v := .agg #[.int .i64 (openL L fs), v_8]) (rd_loadXs (ds := [.int .i64 (openL L fs), v_8]) hS 0 rfl rfl rfl rfl Tryz.isAgg170 Tryz.sizeOf170) rfl ?_
    refine Wx.callF (run_callF Tryz.call114 rfl) (C3.F114 (in_i64 (by omega) (by omega)) (hS.v 1 rfl) (by omega) (by omega)) rfl ?_
    rintro r_18 w_19 hx_20 ⟨_, rfl, hv_21⟩
    have hS := hS.pushFr hx_20 hv_21
    refine Wx.rd (v := r_18) (rd_assign rfl) rfl ?_
    refine Wx.nil ?_
    refine W.seq ?_
    refine W.seq ?_
    refine W.reg ?_
    refine Wx.rd (v := r_18) (rd_move rfl) rfl ?_
    refine Wx.indexR hS 0 rfl rfl rfl Tryz.underlying25 Tryz.sizeOf3 (by first | omega | (simp only [List.length_set, List.length_append, List.length_cons, List.length_nil, List.length_replicate]; omega)) (by first | omega | (simp only [List.length_set, List.length_append, List.length_cons, List.length_nil, List.length_replicate]; omega)) rfl (fun g_23 hg_24 => ?_)
    refine Wx.rd (v := .int .i64 (ix 0 (endT (openL L fs) (openS L fs)) 0)) (rd_loadRI' hS 0 rfl hg_24 rfl (by first | omega | (simp only [List.length_set, List.length_append, List.length_cons, List.length_nil, List.length_replicate]; omega)) (by first | omega | (simp only [List.length_set, List.length_append, List.length_cons, List.length_nil, List.length_replicate]; omega)) Tryz.isAgg3 Tryz.sizeOf3) rfl ?_
    have bd_25 := bd_i64 (hS.rowInK' 0 rfl (by first | omega | (simp only [List.length_set, List.length_append, List.length_cons, List.length_nil, List.length_replicate]; omega)) (by first | omega | (simp only [List.length_set, List.length_append, List.length_cons, List.length_nil, List.length_replicate]; omega)) : InK .i64 (ix 0 (endT (openL L fs) (openS L fs)) 0))
    refine Wx.rd (v := .bool (decide ((ix 0 (endT (openL L fs) (openS L fs)) 0) = 0))) (rd_eql rfl rfl) rfl ?_
    refine Wx.nil ?_
    refine W.condD rfl (fun c1 => ?_) (fun c1 => ?_)
    · -- yes
      refine W.seq ?_
      refine W.reg ?_
      refine Wx.rd (v := (.slice none 0 0)) (rd_assign rfl) rfl ?_
      refine Wx.rd (v := .int .i64 12) (rd_assign rfl) rfl ?_
      refine Wx.nil ?_
      have hE : firstE L fs = 12 := by rw [firstE, if_neg (by omega), ← ho.1, ← ho.2.1, if_pos (by omega)]
      have hl : firstL L fs = [] := by rw [firstL, if_neg (by omega)]
      have e1_0 : firstL L fs = [] := by exact hl
      have e1_1 : (firstE L fs) = (12 : Int) := by exact hE
      exact W.ret ⟨.tuple #[(.slice none 0 0), .int .i64 12], ResIs.two, hS.bel, ⟨(.slice none 0 0), (by rw [e1_1]), (by rw [e1_0]; exact ((hS.addNil (tI .i64) 3).fr 0 rfl flat_int))⟩⟩
    · -- no
      have hE : firstE L fs = 0 := by rw [firstE, if_neg (by omega), ← ho.1, ← ho.2.1, if_neg (by omega)]
      refine W.skip ?_
      refine W.seq ?_
      refine W.reg ?_
      refine Wx.rd (v := .pointer (some ⟨g_12, 0, none⟩)) (rd_fieldAddr rfl foSc_170_0) rfl ?_
      refine Wx.rd (v := .int .i64 (openL L fs)) (rd_loadX hS 1 rfl rfl rfl Tryz.isAgg3) rfl ?_
      obtain ⟨n_29, hn_30⟩ : ∃ n_29 : Nat, (openL L fs : Int) = (n_29 : Int) := ⟨(openL L fs).toNat, by omega⟩
      refine Wx.make0 (t := (tI .i64)) (m := n_29) elSc_25 hS rfl (congrArg (Value.int .i64) hn_30) (by omega) (by simp only [maxLen]; omega) rfl (fun v_26 w_27 hx_28 hS => ?_)
      refine Wx.rd (v := v_26) (rd_assign rfl) rfl ?_
      refine Wx.nil ?_
      refine W.seq ?_
      refine W.reg ?_
      refine Wx.rd (v := .int .u8 0) (rd_assign rfl) rfl ?_
      refine Wx.nil ?_
      refine W.seq ?_
      refine W.seq ?_
      refine W.reg ?_
      refine Wx.rd (v := .pointer (some ⟨g_12, 0, none⟩)) (rd_fieldAddr rfl foSc_170_0) rfl ?_
      refine Wx.rd (v := .int .i64 (openL L fs)) (rd_loadX hS 2 rfl rfl rfl Tryz.isAgg3) rfl ?_
      refine Wx.rd (v := .int .i64 0) (rd_move rfl) rfl ?_
      refine Wx.nil ?_
      refine W.block ?_
      refine W.loop [7, 8, 9, 29, 30, 31, 32, 33, 34, 35, 36, 37, 38, 39, 40, 41, 42, 43, 44, 45, 46, 47, 48, 49, 50, 51, 52, 53, 54, 55, 56, 57] (fun x : Int × Int × Value × (List Int) => match x with | (q, i, xv, out) => [(8, .int .u8 q), (29, .int .i64 i), (7, xv)]) (fun (x : Int × Int × Value × (List Int)) w' => match x with | (q, i, xv, out) => St w [] w' [.row (tI .i64) 3 xv out, .row (tI .i64) 3 r_18 (endT (openL L fs) (openS L fs)), .box g_12 170 [.int .i64 (openL L fs), v_8], Ob.v (tSl (tI .u8)) (openS L fs) v_8, .box g_1 150 [.int .i64 L, fv]] ∧ 0 ≤ i ∧ i ≤ openL L fs ∧ firstG (openL L fs) (openS L fs) (openL L fs - i).toNat q out = firstG (openL L fs) (openS L fs) (openL L fs).toNat 0 [] ∧ (out.length : Int) ≤ i ∧ 0 ≤ q ∧ q < powI (openL L fs)) (fun x : Int × Int × Value × (List Int) => match x with | (q, i, xv, out) => (openL L fs - i).toNat) (0, 0, v_26, []) ⟨rfl, rfl, rfl, trivial⟩ ⟨hS, (by first | omega | simp), (by first | omega | simp), (by simp), (by simp), (by first | omega | simp), (by first | omega | simp)⟩ ?_
      rintro ⟨q, i, xv, out⟩ u_32 w_31 ⟨hS, h0, h1, h2, h3, h4, h5⟩
      refine W.seq ?_
      refine W.reg ?_
      refine Wx.rd (v := .bool (decide (i < (openL L fs)))) (rd_lss rfl rfl) rfl ?_
      refine Wx.nil ?_
      refine W.seq ?_
      refine W.condD rfl (fun c2 => ?_) (fun c2 => ?_)
      · -- yes
        refine W.skip ?_
        refine W.seq ?_
        refine W.block ?_
        refine W.seq ?_
        refine W.reg ?_
        refine Wx.rd (v := .pointer (some ⟨g_12, 0, none⟩)) (rd_fieldAddr rfl foSc_170_0) rfl ?_
        refine Wx.rd (v := .int .i64 (openL L fs)) (rd_loadX hS 2 rfl rfl rfl Tryz.isAgg3) rfl ?_
        refine Wx.rd (v := .int .i64 0) (rd_move rfl) rfl ?_
        refine Wx.nil ?_
        refine W.block ?_
        refine W.loop [7, 8, 9, 33, 34, 35, 36, 37, 38, 39, 40, 41, 42, 43, 44, 45, 46, 47, 48, 49, 50, 51, 52, 53, 54, 55, 56] (fun (j : Int) => [(8, .int .u8 q), (33, .int .i64 j), (7, xv)]) (fun (j : Int) w' => St w [] w' [.row (tI .i64) 3 xv out, .row (tI .i64) 3 r_18 (endT (openL L fs) (openS L fs)), .box g_12 170 [.int .i64 (openL L fs), v_8], Ob.v (tSl (tI .u8)) (openS L fs) v_8, .box g_1 150 [.int .i64 L, fv]] ∧ 0 ≤ j ∧ j ≤ openL L fs ∧ pickF (openL L fs) (openS L fs) q (openL L fs - j).toNat = pickF (openL L fs) (openS L fs) q (openL L fs).toNat) (fun (j : Int) => (openL L fs - j).toNat) 0 ⟨rfl, rfl, rfl, trivial⟩ ⟨hS, (by first | omega | simp), (by first | omega | simp), (by simp)⟩ ?_
        rintro j u_34 w_33 ⟨hS, g0, g1, g2⟩
        refine W.seq ?_
        refine W.reg ?_
        refine Wx.rd (v := .bool (decide (j < (openL L fs)))) (rd_lss rfl rfl) rfl ?_
        refine Wx.nil ?_
        refine W.seq ?_
        refine W.condD rfl (fun c3 => ?_) (fun c3 => ?_)
        · -- yes
          refine W.skip ?_
          refine W.seq ?_
          refine W.block ?_
          refine W.seq ?_
          refine W.reg ?_
          refine Wx.rd (v := .int .i64 j) (rd_move rfl) rfl ?_
          refine Wx.rd (v := .int .i64 j) (rd_assign rfl) rfl ?_
          refine Wx.nil ?_
          refine W.seq ?_
          refine W.reg ?_
          refine Wx.rd (v := .agg #[.int .i64 (openL L fs), v_8]) (rd_loadXs (ds := [.int .i64 (openL L fs), v_8]) hS 2 rfl rfl rfl rfl Tryz.isAgg170 Tryz.sizeOf170) rfl ?_
          refine Wx.rd (v := .int .u8 q) (rd_move rfl) rfl ?_
          refine Wx.rd (v := .int .i64 j) (rd_move rfl) rfl ?_
          refine Wx.callF (run_callF Tryz.call115 rfl) (C3.F115 (in_i64 (by omega) (by omega)) (hS.v 3 rfl) (in_u8 (by omega) (by omega)) (in_i64 (by omega) (by omega)) (by omega)) rfl ?_
          rintro r_35 w_36 hx_37 rfl
          have hS := hS.ext hx_37
          refine Wx.rd (v := .bool (mayB (openS L fs) q j)) (rd_move rfl) rfl ?_
          refine Wx.cut (X := Unit) 8 [41, 42, 43, 44, 45, 46, 47, 48] (fun _ => [(48, .bool (mayB (openS L fs) q j && decide (0 < (ix 0 (endT (openL L fs) (openS L fs)) (withS q j)))))]) (fun _ w' => St w [] w' [.row (tI .i64) 3 xv out, .row (tI .i64) 3 r_18 (endT (openL L fs) (openS L fs)), .box g_12 170 [.int .i64 (openL L fs), v_8], Ob.v (tSl (tI .u8)) (openS L fs) v_8, .box g_1 150 [.int .i64 L, fv]]) ?_ ?_
          · rcases Bool.eq_false_or_eq_true (mayB (openS L fs) q j) with g_38 | g_38
            · -- True
              have gp_39 := g_38
              try simp only [Bool.and_eq_true, Bool.or_eq_true, Bool.not_eq_true', Bool.and_eq_false_iff, Bool.or_eq_false_iff, Bool.not_eq_false', decide_eq_true_eq, decide_eq_false_iff_not, not_or, Bool.false_eq_true, Bool.true_eq_false, false_or, or_false, not_false_eq_true] at gp_39
              refine Wx.gyes rfl rfl (congrArg Value.bool g_38) ?_
              refine Wx.rd (v := r_18) (rd_move rfl) rfl ?_
              refine Wx.gyes rfl rfl (congrArg Value.bool g_38) ?_
              refine Wx.rd (v := .int .u8 q) (rd_move rfl) rfl ?_
              refine Wx.gyes rfl rfl (congrArg Value.bool g_38) ?_
              refine Wx.rd (v := .int .i64 j) (rd_move rfl) rfl ?_
              refine Wx.gyes rfl rfl (congrArg Value.bool g_38) ?_
              refine Wx.callF (run_callF Tryz.call116 rfl) (C3.F116 (in_u8 (by omega) (by omega)) (in_i64 (by omega) (by omega)) (by omega)) rfl ?_
              rintro r_40 w_41 hx_42 rfl
              have hS := hS.ext hx_42
              have in_43 := bd_u8 (withS_in q j)
              refine Wx.gyes rfl rfl (congrArg Value.bool g_38) ?_
              have hw := withS_lt (L := openL L fs) (p := q) (n := j) (by omega) (by omega) (by omega) (by omega) (by omega) (by omega)
              refine Wx.indexR hS 1 rfl rfl rfl Tryz.underlying25 Tryz.sizeOf3 (by first | omega | (simp only [List.length_set, List.length_append, List.length_cons, List.length_nil, List.length_replicate]; omega)) (by first | omega | (simp only [List.length_set, List.length_append, List.length_cons, List.length_nil, List.length_replicate]; omega)) rfl (fun g_44 hg_45 => ?_)
              refine Wx.gyes rfl rfl (congrArg Value.bool g_38) ?_
              refine Wx.rd (v := .int .i64 (ix 0 (endT (openL L fs) (openS L fs)) (withS q j))) (rd_loadRI' hS 1 rfl hg_45 rfl (by first | omega | (simp only [List.length_set, List.length_append, List.length_cons, List.length_nil, List.length_replicate]; omega)) (by first | omega | (simp only [List.length_set, List.length_append, List.length_cons, List.length_nil, List.length_replicate]; omega)) Tryz.isAgg3 Tryz.sizeOf3) rfl ?_
              have bd_46 := bd_i64 (hS.rowInK' 1 rfl (by first | omega | (simp only [List.length_set, List.length_append, List.length_cons, List.length_nil, List.length_replicate]; omega)) (by first | omega | (simp only [List.length_set, List.length_append, List.length_cons, List.length_nil, List.length_replicate]; omega)) : InK .i64 (ix 0 (endT (openL L fs) (openS L fs)) (withS q j)))
              refine Wx.gyes rfl rfl (congrArg Value.bool g_38) ?_
              refine Wx.rd (v := .bool (decide (0 < (ix 0 (endT (openL L fs) (openS L fs)) (withS q j))))) (rd_gtr rfl rfl) rfl ?_
              refine Wx.rd (v := .bool (decide (0 < (ix 0 (endT (openL L fs) (openS L fs)) (withS q j))))) (rd_pickT (congrArg Value.bool g_38) rfl) rfl ?_
              refine Wx.nil ⟨(), hS, ⟨?_, trivial⟩, Out.look rfl Out.refl⟩
              show Value.bool (decide (0 < (ix 0 (endT (openL L fs) (openS L fs)) (withS q j)))) = Value.bool (mayB (openS L fs) q j && decide (0 < (ix 0 (endT (openL L fs) (openS L fs)) (withS q j))))
              first | rw [g_38, Bool.true_and] | (rw [g_38]; rfl)
            · -- False
              have gp_47 := g_38
              try simp only [Bool.and_eq_true, Bool.or_eq_true, Bool.not_eq_true', Bool.and_eq_false_iff, Bool.or_eq_false_iff, Bool.not_eq_false', decide_eq_true_eq, decide_eq_false_iff_not, not_or, Bool.false_eq_true, Bool.true_eq_false, false_or, or_false, not_false_eq_true] at gp_47
              refine Wx.gnoB rfl rfl (congrArg Value.bool g_38) rfl rfl ?_
              refine Wx.gnoB rfl rfl (congrArg Value.bool g_38) rfl rfl ?_
              refine Wx.gnoB rfl rfl (congrArg Value.bool g_38) rfl rfl ?_
              refine Wx.gnoB rfl rfl (congrArg Value.bool g_38) rfl rfl ?_
              refine Wx.gnoB rfl rfl (congrArg Value.bool g_38) rfl rfl ?_
              refine Wx.gnoB rfl rfl (congrArg Value.bool g_38) rfl rfl ?_
              refine Wx.gnoB rfl rfl (congrArg Value.bool g_38) rfl rfl ?_
              refine Wx.rd (v := .bool false) (rd_pickF (congrArg Value.bool g_38) rfl) rfl ?_
              refine Wx.nil ⟨(), hS, ⟨?_, trivial⟩, Out.look rfl Out.refl⟩
              show Value.bool false = Value.bool (mayB (openS L fs) q j && decide (0 < (ix 0 (endT (openL L fs) (openS L fs)) (withS q j))))
              first | rw [g_38, Bool.false_and] | (rw [g_38]; rfl)
          rintro ⟨⟩ u_49 w_48 hS
          refine Wx.nil ?_
          refine W.cond rfl (fun c4 => ?_) (fun c4 => ?_)
          · -- yes
            try simp only [Bool.and_eq_true, Bool.or_eq_true, Bool.not_eq_true', Bool.and_eq_false_iff, Bool.or_eq_false_iff, Bool.not_eq_false', decide_eq_true_eq, decide_eq_false_iff_not, not_or, Bool.false_eq_true, Bool.true_eq_false, false_or, or_false, not_false_eq_true] at c4
            refine W.seq ?_
            refine W.reg ?_
            refine Wx.rd (v := xv) (rd_move rfl) rfl ?_
            refine Wx.rd (v := .int .i64 j) (rd_move rfl) rfl ?_
            refine Wx.lit (t := (tI .i64)) (ys := [j]) (vs := [.int .i64 j]) elSc_25 hS rfl rfl ⟨(V.mkInt (in_i64 (by omega) (by omega))), trivial⟩ (by decide) rfl (fun v_50 w_51 hx_52 hS => ?_)
            refine Wx.append elSc_25 hS 1 rfl rfl rfl (Src.ofR hS 0 rfl) (by simp only [maxLen]; first | omega | (simp; omega) | simp) (by first | omega | (simp; omega) | simp) rfl (fun v_53 w_54 hz_55 hS => ?_)
            refine Wx.rd (v := .int .u8 q) (rd_move rfl) rfl ?_
            refine Wx.rd (v := .int .i64 j) (rd_move rfl) rfl ?_
            have hw := withS_lt (L := openL L fs) (p := q) (n := j) (by omega) (by omega) (by omega) (by omega) (by omega) (by omega)
            refine Wx.callF (run_callF Tryz.call116 rfl) (C3.F116 (in_u8 (by omega) (by omega)) (in_i64 (by omega) (by omega)) (by omega)) rfl ?_
            rintro r_56 w_57 hx_58 rfl
            have hS := hS.ext hx_58
            have in_59 := bd_u8 (withS_in q j)
            refine Wx.rd (v := v_53) (rd_assign rfl) rfl ?_
            refine Wx.rd (v := .int .u8 (withS q j)) (rd_assign rfl) rfl ?_
            refine Wx.nil ?_
            refine W.exit rfl ?_
            refine W.reg ?_
            refine Wx.rd (v := .int .i64 (i + 1)) (rd_add rfl rfl (in_i64 (by omega) (by omega))) rfl ?_
            refine Wx.rd (v := .int .i64 (i + 1)) (rd_move rfl) rfl ?_
            refine Wx.nil ?_
            refine ⟨(withS q j, i + 1, v_53, out ++ [j]), (by show (openL L fs - (i + 1)).toNat < (openL L fs - i).toNat; omega), ?_, ?_, Out.look rfl (Out.hav rfl (Out.look rfl (Out.hav rfl (Out.look rfl Out.self))))⟩
            · exact ⟨hS.tl, (by first | omega | assumption), (by first | omega | assumption), (by rw [← h2, show (openL L fs - i).toNat = (openL L fs - (i + 1)).toNat + 1 by omega, firstG, ← g2, show (openL L fs - j).toNat = (openL L fs - (j + 1)).toNat + 1 by omega, pickF, show openL L fs - (((openL L fs - (j + 1)).toNat : Nat) + 1 : Int) = j by omega, if_pos ⟨c4.1, by omega⟩]), (by simp; omega), (by first | omega | assumption), (by first | omega | assumption)⟩
            · exact ⟨rfl, rfl, rfl, trivial⟩
          · -- no
            try simp only [Bool.and_eq_true, Bool.or_eq_true, Bool.not_eq_true', Bool.and_eq_false_iff, Bool.or_eq_false_iff, Bool.not_eq_false', decide_eq_true_eq, decide_eq_false_iff_not, not_or, Bool.false_eq_true, Bool.true_eq_false, false_or, or_false, not_false_eq_true] at c4
            refine W.skip ?_
            refine W.reg ?_
            refine Wx.rd (v := .int .i64 (j + 1)) (rd_add rfl rfl (in_i64 (by omega) (by omega))) rfl ?_
            refine Wx.rd (v := .int .i64 (j + 1)) (rd_move rfl) rfl ?_
            refine Wx.nil ?_
            refine ⟨j + 1, (by show (openL L fs - (j + 1)).toNat < (openL L fs - j).toNat; omega), ?_, ?_, Out.look rfl (Out.hav rfl (Out.look rfl Out.self))⟩
            · exact ⟨hS, (by first | omega | assumption), (by first | omega | assumption), (by rw [← g2, show (openL L fs - j).toNat = (openL L fs - (j + 1)).toNat + 1 by omega, pickF, show openL L fs - (((openL L fs - (j + 1)).toNat : Nat) + 1 : Int) = j by omega, if_neg (by intro hh; rcases c4 with c4 | c4; { rw [hh.1] at c4; cases c4 }; omega)])⟩
            · exact ⟨rfl, rfl, rfl, trivial⟩
        · -- no
          refine W.exit rfl ?_
          refine W.reg ?_
          refine Wx.rd (v := .int .i64 (i + 1)) (rd_add rfl rfl (in_i64 (by omega) (by omega))) rfl ?_
          refine Wx.rd (v := .int .i64 (i + 1)) (rd_move rfl) rfl ?_
          refine Wx.nil ?_
          refine ⟨(q, i + 1, xv, out), (by show (openL L fs - (i + 1)).toNat < (openL L fs - i).toNat; omega), ?_, ?_, Out.look rfl (Out.hav rfl (Out.look rfl Out.self))⟩
          · exact ⟨hS, (by first | omega | assumption), (by first | omega | assumption), (by rw [← h2, show (openL L fs - i).toNat = (openL L fs - (i + 1)).toNat + 1 by omega, firstG, ← g2, show (openL L fs - j).toNat = 0 by omega, pickF]), (by first | omega | assumption), (by first | omega | assumption), (by first | omega | assumption)⟩
          · exact ⟨rfl, rfl, rfl, trivial⟩
      · -- no
        refine W.exit rfl ?_
        refine W.seq ?_
        refine W.reg ?_
        refine Wx.rd (v := xv) (rd_move rfl) rfl ?_
        refine Wx.rd (v := xv) (rd_assign rfl) rfl ?_
        refine Wx.rd (v := .int .i64 0) (rd_assign rfl) rfl ?_
        refine Wx.nil ?_
        have hl : firstL L fs = out := by rw [firstL, if_pos hE, ← ho.1, ← ho.2.1, ← h2, show (openL L fs - i).toNat = 0 by omega, firstG]
        have e2_0 : firstL L fs = out := by exact hl
        have e2_1 : (firstE L fs) = (0 : Int) := by exact hE
        exact W.ret ⟨.tuple #[xv, .int .i64 0], ResIs.two, hS.bel, ⟨xv, (by rw [e2_1]), (by rw [e2_0]; exact (hS.fr 0 rfl flat_int))⟩⟩
end Go.Proofs.YtlibemgaepkceaaGreatDoor

namespace Go.Proofs.YtlibemgaepkceaaGreatDoor
open Go.Wk Go.RowKit Go.Lib
set_option linter.unusedVariables false
set_option linter.unusedSimpArgs false
theorem elVb_25 : ElemI Tryz.prog 25 3 (.int .i64 0) 1 8 := ElemI.of Tryz.underlying25 (by kernel_rfl) (by first | rfl | kernel_rfl) (by decide)
theorem elVb_24 : ElemI Tryz.prog 24 25 ((.slice none 0 0)) 1 24 := ElemI.of Tryz.underlying24 (by kernel_rfl) (by first | rfl | kernel_rfl) (by decide)

set_option maxHeartbeats 2000000 in
theorem C3.F96  {w : World}  : Calls Tryz.prog 96 #[] w (Ret w (fun r _ => r = .bool true)) := by
  have hS := St.start0 w
  refine enterR Tryz.func96 rfl Tryz.ntmps96 Tryz.results96 rfl ?_
  refine W.seq ?_
  refine W.reg ?_
  refine Wx.rd (v := .bool false) (rd_assign rfl) rfl ?_
  refine Wx.nil ?_
  refine W.seq ?_
  refine W.reg ?_
  refine Wx.lit (t := (tI .i64)) (ys := [9, 3, 6, 1]) (vs := [.int .i64 9, .int .i64 3, .int .i64 6, .int .i64 1]) elVb_25 hS rfl rfl ⟨(V.mkInt (in_i64 (by omega) (by omega))), ⟨(V.mkInt (in_i64 (by omega) (by omega))), ⟨(V.mkInt (in_i64 (by omega) (by omega))), ⟨(V.mkInt (in_i64 (by omega) (by omega))), trivial⟩⟩⟩⟩ (by decide) rfl (fun v_1 w_2 hx_3 hS => ?_)
  have hS := hS.freeze 0 rfl
  refine Wx.callF (run_callF Tryz.call30 rfl) (F30 (hS.v 0 rfl) hS.fb_lt) rfl ?_
  rintro r_5 w_6 hx_7 ⟨_, rfl, hv_8⟩
  have ln_10 := hv_8.len63
  have hS := hS.ext hx_7
  have hS := hS.add hv_8
  refine Wx.rd (v := .agg #[.int .i64 4, .int .i64 1, r_5]) (rd_buildC (vs := [(0, .int .i64 4), (1, .int .i64 1), (2, r_5)]) (us := [(0, .agg #[.int .i64 4]), (1, .agg #[.int .i64 1]), (2, .agg #[r_5])]) rfl (parts_cons rfl (parts_cons rfl (parts_cons (Go.Wk.cells_one (V.oneC (hS.v 0 rfl))) parts_nil))) (by kernel_rfl)) rfl ?_
  refine Wx.alloc (cs := [.int .i64 0, .int .i64 0, (.slice none 0 0)]) hS Tryz.zeroValue146 rfl rfl (fun g_11 w_12 hx_14 hb_13 hS => ?_)
  refine Wx.storeX (cs' := [.int .i64 4, .int .i64 1, r_5]) (ds := [.int .i64 4, .int .i64 1, r_5]) hS 0 rfl rfl rfl rfl Tryz.sizeOf146 (Nat.le_of_ble_eq_true rfl) (one_cons rfl (one_cons rfl (one_cons (V.oneC (hS.v 1 rfl)) one_nil))) rfl (fun w_15 hz_16 hS => ?_)
  refine Wx.nil ?_
  refine W.seq ?_
  refine W.reg ?_
  refine Wx.rd (v := .agg #[.int .i64 4, .int .i64 1, r_5]) (rd_loadXs (ds := [.int .i64 4, .int .i64 1, r_5]) hS 0 rfl rfl rfl rfl Tryz.isAgg146 Tryz.sizeOf146) rfl ?_
  refine Wx.callF (run_callF Tryz.call103 rfl) (F103 (in_i64 (by omega) (by omega)) (in_i64 (by omega) (by omega)) (hS.v 1 rfl) hS.fb_lt) rfl ?_
  rintro r_17 w_18 hx_19 ⟨v_20, rfl, hv_21⟩
  have hS := hS.pushFr hx_19 hv_21
  refine Wx.rd (v := .tuple #[v_20, .int .i64 (checkS 4 1 [9, 3, 6, 1])]) (rd_move rfl) rfl ?_
  refine Wx.rd (v := v_20) (rd_extract rfl rfl) rfl ?_
  refine Wx.rd (v := .int .i64 0) (Rd.to (v := .int .i64 (checkS 4 1 [9, 3, 6, 1])) (rd_extract rfl rfl) (congrArg (Value.int .i64) (show (0 : Int) = (checkS 4 1 [9, 3, 6, 1] : Int) from (by decide +kernel)).symm)) rfl ?_
  refine Wx.rd (v := v_20) (rd_assign rfl) rfl ?_
  refine Wx.rd (v := .int .i64 0) (rd_assign rfl) rfl ?_
  refine Wx.nil ?_
  refine W.seq ?_
  refine W.reg ?_
  refine Wx.lit (t := (tI .i64)) (ys := [0, 1]) (vs := [.int .i64 0, .int .i64 1]) elVb_25 hS rfl rfl ⟨(V.mkInt (in_i64 (by omega) (by omega))), ⟨(V.mkInt (in_i64 (by omega) (by omega))), trivial⟩⟩ (by decide) rfl (fun v_23 w_24 hx_25 hS => ?_)
  refine Wx.lit (t := (tI .i64)) (ys := [1, 2]) (vs := [.int .i64 1, .int .i64 2]) elVb_25 hS rfl rfl ⟨(V.mkInt (in_i64 (by omega) (by omega))), ⟨(V.mkInt (in_i64 (by omega) (by omega))), trivial⟩⟩ (by decide) rfl (fun v_26 w_27 hx_28 hS => ?_)
  refine Wx.lit (t := (tI .i64)) (ys := [2, 3]) (vs := [.int .i64 2, .int .i64 3]) elVb_25 hS rfl rfl ⟨(V.mkInt (in_i64 (by omega) (by omega))), ⟨(V.mkInt (in_i64 (by omega) (by omega))), trivial⟩⟩ (by decide) rfl (fun v_29 w_30 hx_31 hS => ?_)
  have hS := hS.freeze 2 rfl
  have hS := hS.freeze 2 rfl
  have hS := hS.freeze 2 rfl
  refine Wx.lit (t := (tSl (tI .i64))) (ys := [[0, 1], [1, 2], [2, 3]]) (vs := [v_23, v_26, v_29]) elVb_24 hS rfl rfl ⟨(hS.v 2 rfl), ⟨(hS.v 1 rfl), ⟨(hS.v 0 rfl), trivial⟩⟩⟩ (by decide) rfl (fun v_35 w_36 hx_37 hS => ?_)
  refine Wx.rd (v := .agg #[.int .i64 4, v_35]) (rd_buildC (vs := [(0, .int .i64 4), (1, v_35)]) (us := [(0, .agg #[.int .i64 4]), (1, .agg #[v_35])]) rfl (parts_cons rfl (parts_cons (Go.Wk.cells_one (hS.rowOne 0 rfl)) parts_nil)) (by kernel_rfl)) rfl ?_
  refine Wx.callF (run_callF Tryz.call104 rfl) (C3.F104 (in_i64 (by omega) (by omega)) (hS.lend 0 rfl)) rfl ?_
  rintro r_38 w_39 hx_40 ⟨v_41, rfl, hv_42⟩
  have hS := hS.pushFr hx_40 hv_42
  refine Wx.rd (v := .tuple #[v_41, .int .i64 (firstE 4 [[0, 1], [1, 2], [2, 3]])]) (rd_move rfl) rfl ?_
  refine Wx.rd (v := v_41) (rd_extract rfl rfl) rfl ?_
  refine Wx.rd (v := .int .i64 0) (Rd.to (v := .int .i64 (firstE 4 [[0, 1], [1, 2], [2, 3]])) (rd_extract rfl rfl) (congrArg (Value.int .i64) (show (0 : Int) = (firstE 4 [[0, 1], [1, 2], [2, 3]] : Int) from (by decide +kernel)).symm)) rfl ?_
  refine Wx.rd (v := v_41) (rd_assign rfl) rfl ?_
  refine Wx.rd (v := .int .i64 0) (rd_assign rfl) rfl ?_
  refine Wx.nil ?_
  refine W.seq ?_
  refine W.reg ?_
  refine Wx.rd (v := .int .i64 0) (rd_move rfl) rfl ?_
  refine Wx.rd (v := .bool true) (Rd.to (v := .bool (decide ((0 : Int) = 0))) (rd_eql rfl rfl) rfl) rfl ?_
  refine Wx.rd (v := .bool true) (rd_move rfl) rfl ?_
  refine Wx.gyes rfl rfl rfl ?_
  refine Wx.rd (v := .int .i64 0) (rd_move rfl) rfl ?_
  refine Wx.gyes rfl rfl rfl ?_
  refine Wx.rd (v := .bool true) (Rd.to (v := .bool (decide ((0 : Int) = 0))) (rd_eql rfl rfl) rfl) rfl ?_
  refine Wx.rd (v := .bool true) (rd_pickT rfl rfl) rfl ?_
  refine Wx.rd (v := .bool true) (rd_move rfl) rfl ?_
  refine Wx.gyes rfl rfl rfl ?_
  refine Wx.rd (v := v_20) (rd_move rfl) rfl ?_
  refine Wx.gyes rfl rfl rfl ?_
  refine Wx.lit (t := (tI .i64)) (ys := [9, 6, 6, 1]) (vs := [.int .i64 9, .int .i64 6, .int .i64 6, .int .i64 1]) elVb_25 hS rfl rfl ⟨(V.mkInt (in_i64 (by omega) (by omega))), ⟨(V.mkInt (in_i64 (by omega) (by omega))), ⟨(V.mkInt (in_i64 (by omega) (by omega))), ⟨(V.mkInt (in_i64 (by omega) (by omega))), trivial⟩⟩⟩⟩ (by decide) rfl (fun v_44 w_45 hx_46 hS => ?_)
  refine Wx.gyes rfl rfl rfl ?_
  have hS := hS.freeze 0 rfl
  refine Wx.callF (run_callF Tryz.call30 rfl) (F30 (hS.v 0 rfl) hS.fb_lt) rfl ?_
  rintro r_48 w_49 hx_50 ⟨_, rfl, hv_51⟩
  have ln_53 := hv_51.len63
  have hS := hS.ext hx_50
  have hS := hS.add hv_51
  refine Wx.gyes rfl rfl rfl ?_
  refine Wx.callF (run_callF Tryz.call27 rfl) (F27 (hS.lend 7 rfl) (hS.v 0 rfl)) rfl ?_
  rintro r_54 w_55 hx_56 rfl
  have hS := hS.ext hx_56
  rw [show (decide ((sillsE 4 1 [9, 3, 6, 1]) = [9, 6, 6, 1]) : Bool) = true from (by decide +kernel)]
  refine Wx.rd (v := .bool true) (rd_pickT rfl rfl) rfl ?_
  refine Wx.rd (v := .bool true) (rd_move rfl) rfl ?_
  refine Wx.gyes rfl rfl rfl ?_
  refine Wx.rd (v := v_41) (rd_move rfl) rfl ?_
  refine Wx.gyes rfl rfl rfl ?_
  refine Wx.lit (t := (tI .i64)) (ys := [0, 1, 2, 3]) (vs := [.int .i64 0, .int .i64 1, .int .i64 2, .int .i64 3]) elVb_25 hS rfl rfl ⟨(V.mkInt (in_i64 (by omega) (by omega))), ⟨(V.mkInt (in_i64 (by omega) (by omega))), ⟨(V.mkInt (in_i64 (by omega) (by omega))), ⟨(V.mkInt (in_i64 (by omega) (by omega))), trivial⟩⟩⟩⟩ (by decide) rfl (fun v_57 w_58 hx_59 hS => ?_)
  refine Wx.gyes rfl rfl rfl ?_
  have hS := hS.freeze 0 rfl
  refine Wx.callF (run_callF Tryz.call30 rfl) (F30 (hS.v 0 rfl) hS.fb_lt) rfl ?_
  rintro r_61 w_62 hx_63 ⟨_, rfl, hv_64⟩
  have ln_66 := hv_64.len63
  have hS := hS.ext hx_63
  have hS := hS.add hv_64
  refine Wx.gyes rfl rfl rfl ?_
  refine Wx.callF (run_callF Tryz.call27 rfl) (F27 (hS.lend 4 rfl) (hS.v 0 rfl)) rfl ?_
  rintro r_67 w_68 hx_69 rfl
  have hS := hS.ext hx_69
  rw [show (decide ((firstL 4 [[0, 1], [1, 2], [2, 3]]) = [0, 1, 2, 3]) : Bool) = true from (by decide +kernel)]
  refine Wx.rd (v := .bool true) (rd_pickT rfl rfl) rfl ?_
  refine Wx.rd (v := .bool true) (rd_assign rfl) rfl ?_
  refine Wx.nil ?_
  exact W.ret ⟨.bool true, ResIs.one, hS.bel, rfl⟩
end Go.Proofs.YtlibemgaepkceaaGreatDoor

namespace Go.Proofs.YtlibemgaepkceaaGreatDoor.C5
open Go.Wk

def rng (i n : Int) : List Int := (List.range (n - i).toNat).map fun (k : Nat) => i + k
theorem rng_mem {i n x : Int} : x ∈ rng i n ↔ i ≤ x ∧ x < n := by
  rw [rng, List.mem_map]
  constructor
  · rintro ⟨k, hk, rfl⟩
    rw [List.mem_range] at hk
    omega
  · intro h
    exact ⟨(x - i).toNat, List.mem_range.2 (by omega), by omega⟩
theorem rng_nil {i n : Int} (h : n ≤ i) : rng i n = [] := by rw [rng, show (n - i).toNat = 0 by omega]; rfl
theorem rng_cons {i n : Int} (h : i < n) : rng i n = i :: rng (i + 1) n := by
  rw [rng, show (n - i).toNat = (n - (i + 1)).toNat + 1 by omega, List.range_succ_eq_map, List.map_cons, List.map_map, rng]
  simp only [List.cons.injEq]
  refine ⟨by omega, List.map_congr_left fun k _ => ?_⟩
  show i + ((k + 1 : Nat) : Int) = i + 1 + (k : Int)
  omega
theorem rng_snoc {i n : Int} (h : i ≤ n) : rng i (n + 1) = rng i n ++ [n] := by
  rw [rng, show (n + 1 - i).toNat = (n - i).toNat + 1 by omega, List.range_succ, List.map_append, rng]
  simp only [List.map_cons, List.map_nil, List.append_cancel_left_eq, List.cons.injEq, and_true]
  omega
theorem rng_asc (i n : Int) : (rng i n).Pairwise (· < ·) := by
  rw [rng, List.pairwise_map]
  exact List.pairwise_lt_range.imp fun h => by omega

abbrev Join := Int × Int
def cmb (x y : Int × Int) : Int × Int := if x.1 < y.1 then y else if y.1 = x.1 then (x.1, x.2 + y.2) else x
def joinP (a b : Int × Int) : Int × Int := (a.1 + b.1 + 1, a.2 * b.2)
def partT (F : Int → Int → Bool) : Nat → Int → Int → Int × Int
  | 0, _, _ => (0, 1)
  | m + 1, i, n => if n ≤ i then (0, 1) else (rng (i + 1) n).foldl (fun best j => if F i j = true then cmb best (joinP (partT F m (i + 1) j) (partT F m (j + 1) n)) else best) (partT F m (i + 1) n)
def partP (F : Int → Int → Bool) (i n : Int) : Int × Int := partT F (n - i).toNat i n
end Go.Proofs.YtlibemgaepkceaaGreatDoor.C5

namespace Go.Proofs.YtlibemgaepkceaaGreatDoor.C5
open Go.Wk

variable {F : Int → Int → Bool}

/-! ### how deep a recursion goes does not matter -/
/-! ### how many joins, and how many plans -/
/-! ### the first greatest plan -/
end Go.Proofs.YtlibemgaepkceaaGreatDoor.C5

namespace Go.Proofs.YtlibemgaepkceaaGreatDoor.C5
open Go.Wk

variable {F : Int → Int → Bool}

/-! ### the order of plans -/
end Go.Proofs.YtlibemgaepkceaaGreatDoor.C5

namespace Go.Proofs.YtlibemgaepkceaaGreatDoor.C5
open Go.Wk

def usedB (l : List Join) (i : Int) : Bool := l.any fun x => decide (x.1 = i) || decide (x.2 = i)
def crossB (y x : Join) : Bool := ((decide (x.1 < y.1) && decide (y.1 < x.2)) && decide (x.2 < y.2)) || ((decide (y.1 < x.1) && decide (x.1 < y.2)) && decide (y.2 < x.2))
def crossesB (l : List Join) (x : Join) : Bool := l.any fun y => crossB y x
def goesB (F : Int → Int → Bool) (l : List Join) (i j : Int) : Bool := (F i j && !usedB l j) && !crossesB l (i, j)
def plansR (F : Int → Int → Bool) (n least : Int) : Nat → List Join → Int → List (List Join)
  | 0, begun, frm => if (begun.length : Int) + (n - frm) / 2 < least then [] else if least ≤ begun.length then [begun] else []
  | m + 1, begun, frm => if (begun.length : Int) + (n - frm) / 2 < least then [] else
    ((rng frm n).flatMap fun i => if usedB begun i = true then [] else (rng (i + 1) n).flatMap fun j => if goesB F begun i j = true then plansR F n least m (begun ++ [(i, j)]) (i + 1) else []) ++ (if least ≤ begun.length then [begun] else [])
end Go.Proofs.YtlibemgaepkceaaGreatDoor.C5

namespace Go.Proofs.YtlibemgaepkceaaGreatDoor.C5
open Go.Wk

variable {F : Int → Int → Bool}

end Go.Proofs.YtlibemgaepkceaaGreatDoor.C5

namespace Go.Proofs.YtlibemgaepkceaaGreatDoor.C5
open Go.Wk

/-! ### letters -/
def isLet (c : Int) : Bool := decide (97 ≤ c ∧ c ≤ 106) || decide (65 ≤ c ∧ c ≤ 74)
def letS : ByteArray := { data := #[97, 98, 99, 100, 101, 102, 103, 104, 105, 106, 65, 66, 67, 68, 69, 70, 71, 72, 73, 74] }
def letsB (s : ByteArray) : Bool := (List.range s.size).all fun (p : Nat) => isLet (tabAt s p)
def rimE (s : ByteArray) : Int := if 12 < (s.size : Int) then 3 else if letsB s = true then 0 else 10
def Lets (s : ByteArray) : Prop := ∀ p : Int, 0 ≤ p → p < s.size → isLet (tabAt s p) = true
theorem letsB_iff {s : ByteArray} : letsB s = true ↔ Lets s := by
  rw [letsB, List.all_eq_true]
  constructor
  · intro h p h0 h1
    have := h p.toNat (List.mem_range.2 (by omega))
    rwa [Int.toNat_of_nonneg h0] at this
  · intro h p hp
    exact h p (by omega) (by have := List.mem_range.1 hp; omega)
theorem rimE_ok {s : ByteArray} (h : rimE s = 0) : (s.size : Int) ≤ 12 ∧ Lets s := by
  rw [rimE] at h
  split at h
  · cases h
  · split at h
    · rename_i h1 h2; exact ⟨by omega, letsB_iff.1 h2⟩
    · cases h
theorem isLet_bd {c : Int} (h : isLet c = true) : 65 ≤ c ∧ c ≤ 106 := by
  simp only [isLet, Bool.or_eq_true, decide_eq_true_eq] at h; omega
def fitC (x y : Int) : Bool := decide (x = y + 32 ∨ y = x + 32)
def fitR (s : ByteArray) (i j : Int) : Bool := fitC (tabAt s i) (tabAt s j)
theorem rimE_bad {s : ByteArray} {p : Int} (hs : (s.size : Int) ≤ 12) (h0 : 0 ≤ p) (h1 : p < s.size) (h : isLet (tabAt s p) = false) : rimE s = 10 := by
  rw [rimE, if_neg (by omega), if_neg]
  intro hb
  rw [letsB_iff.1 hb p h0 h1] at h
  cases h
theorem rimE_good {s : ByteArray} (hs : (s.size : Int) ≤ 12) (h : Lets s) : rimE s = 0 := by
  rw [rimE, if_neg (by omega), if_pos (letsB_iff.2 h)]
end Go.Proofs.YtlibemgaepkceaaGreatDoor.C5

namespace Go.Proofs.YtlibemgaepkceaaGreatDoor.C5
open Go.Wk

/-! ### lists by their places -/
theorem ix_mem {α : Type} {d : α} {xs : List α} {j : Int} (h0 : 0 ≤ j) (h : j < xs.length) : ix d xs j ∈ xs := List.mem_of_getElem? (ix_get h h0)
theorem take_ix {α : Type} {d : α} {xs : List α} {j : Int} (h0 : 0 ≤ j) (h : j < xs.length) : xs.take (j + 1).toNat = xs.take j.toNat ++ [ix d xs j] := by
  rw [show (j + 1).toNat = j.toNat + 1 by omega, List.take_add_one, ix_get h h0 (d := d)]; rfl

/-! ### joins in use, joins that cross -/
/-! ### is it a plan? -/
variable {s : ByteArray} {pre : List Join} {x : Join} (hin : (0 ≤ x.1 ∧ x.1 ≤ (s.size : Int) - 1) ∧ (0 ≤ x.2 ∧ x.2 ≤ (s.size : Int) - 1))
include hin
variable (h1 : x.1 < x.2) (h2 : usedB pre x.1 = false) (h3 : usedB pre x.2 = false)
include h1 h2 h3
variable (h4 : fitR s x.1 x.2 = true)
include h4
variable (h5 : crossesB pre x = false)
include h5
end Go.Proofs.YtlibemgaepkceaaGreatDoor.C5

namespace Go.Proofs.YtlibemgaepkceaaGreatDoor.C5
open Go.Wk
set_option linter.unusedVariables false

structure ToOK (pre : List Join) (tq : List Int) : Prop where
  len : tq.length = 12
  bd : ∀ q, 0 ≤ q → q < 12 → 0 ≤ ix 0 tq q ∧ ix 0 tq q ≤ 12
  at1 : ∀ x ∈ pre, 0 ≤ x.1 ∧ x.1 < x.2 ∧ x.2 < 12 ∧ ix 0 tq x.1 = x.2 + 1 ∧ ix 0 tq x.2 = x.1 + 1
  of : ∀ q, 0 ≤ q → q < 12 → 0 < ix 0 tq q → ∃ x ∈ pre, x.1 = q ∨ x.2 = q
variable {pre : List Join} {tq : List Int}
end Go.Proofs.YtlibemgaepkceaaGreatDoor.C5

namespace Go.Proofs.YtlibemgaepkceaaGreatDoor.C5
open Go.Wk Go

variable {F : Int → Int → Bool}
def stepP (F : Int → Int → Bool) (i n : Int) (best : Int × Int) (j : Int) : Int × Int := if F i j = true then cmb best (joinP (partP F (i + 1) j) (partP F (j + 1) n)) else best
def foldP (F : Int → Int → Bool) (i n j : Int) : Int × Int := (rng (i + 1) j).foldl (stepP F i n) (partP F (i + 1) n)
section
variable {i n j bm bc A B : Int} (k0 : i + 1 ≤ j) (k2 : bm = (foldP F i n j).1) (k3 : bc = (foldP F i n j).2)
include k0 k2 k3
variable (h : F i j = true) (hj : joinP (partP F (i + 1) j) (partP F (j + 1) n) = (A, B))
include h hj
end

/-! ### the first greatest plan, as it is sought -/
theorem find_rng {p : Int → Bool} {j : Int} : ∀ (m : Nat) (i n : Int), (n - i).toNat = m → i ≤ j → j < n → (∀ q, i ≤ q → q < j → p q = false) → p j = true → (rng i n).find? p = some j
  | 0, i, n, h, h1, h2, _, _ => by omega
  | m + 1, i, n, h, h1, h2, hq, hj => by
    rw [rng_cons (by omega), List.find?_cons]
    by_cases e : i = j
    · subst e; rw [hj]
    · rw [hq i (Int.le_refl _) (by omega)]
      exact find_rng m (i + 1) n (by omega) (by omega) h2 (fun q q1 q2 => hq q (by omega) q2) hj
end Go.Proofs.YtlibemgaepkceaaGreatDoor.C5

namespace Go.Proofs.YtlibemgaepkceaaGreatDoor.C5
open Go.Wk Go

end Go.Proofs.YtlibemgaepkceaaGreatDoor.C5

namespace Go.Proofs.YtlibemgaepkceaaGreatDoor.C5
open Go.Wk Go

variable {F : Int → Int → Bool}
def PR (F : Int → Int → Bool) (n least : Int) (begun : List Join) (frm : Int) : List (List Join) := plansR F n least (n - frm).toNat begun frm
def inR (F : Int → Int → Bool) (n least : Int) (begun : List Join) (i j0 : Int) : List (List Join) := (rng j0 n).flatMap fun j => if goesB F begun i j = true then PR F n least (begun ++ [(i, j)]) (i + 1) else []
section
variable {n least : Int} {begun : List Join}
end
/-! ### the greatest ones -/
end Go.Proofs.YtlibemgaepkceaaGreatDoor.C5

namespace Go.Proofs.YtlibemgaepkceaaGreatDoor.C5
open Go.Wk Go

section
variable {l : List Join} {k : Int} {x : Join} (h0 : 0 ≤ k)
include h0
end
end Go.Proofs.YtlibemgaepkceaaGreatDoor.C5

namespace Go.Proofs.YtlibemgaepkceaaGreatDoor.C5
open Go.Wk Go

abbrev Tk := List Join × List Int
def topI (l : List Int) : Int := ix 0 l (l.length - 1)
def stepS (s : ByteArray) (a : Tk) (j : Int) : Tk := if 0 < a.2.length ∧ fitR s (topI a.2) j = true then (a.1 ++ [(topI a.2, j)], a.2.take ((a.2.length : Int) - 1).toNat) else (a.1, a.2 ++ [j])
def runS (s : ByteArray) (a : Tk) (rest : List Int) : Tk := rest.foldl (stepS s) a
def takS (s : ByteArray) : Tk := runS s ([], []) (rng 0 s.size)
variable {s : ByteArray} {st : List Join} {lf : List Int}
theorem runS_cons {a : Tk} {j : Int} {r : List Int} : runS s a (j :: r) = runS s (stepS s a j) r := rfl
theorem stepS_yes {j : Int} (h : 0 < (lf.length : Int)) (hf : fitR s (ix 0 lf ((lf.length : Int) - 1)) j = true) : stepS s (st, lf) j = (st ++ [(ix 0 lf ((lf.length : Int) - 1), j)], lf.take ((lf.length : Int) - 1).toNat) :=
  if_pos ⟨by show 0 < lf.length; omega, hf⟩
theorem stepS_no {j : Int} (h : ¬ 0 < (lf.length : Int) ∨ fitR s (ix 0 lf ((lf.length : Int) - 1)) j = false) : stepS s (st, lf) j = (st, lf ++ [j]) := by
  refine if_neg ?_
  rintro ⟨h1, h2⟩
  rcases h with h | h
  · have : 0 < lf.length := h1; omega
  · have h2 : fitR s (ix 0 lf ((lf.length : Int) - 1)) j = true := h2
    rw [h2] at h; cases h

/-! ### the reference's way -/
theorem runS_bd {s : ByteArray} {n : Int} : ∀ (rest : List Int) (st : List Join) (lf : List Int), (∀ x ∈ lf, 0 ≤ x ∧ x < n) → (∀ x ∈ rest, 0 ≤ x ∧ x < n) →
    (∀ x ∈ (runS s (st, lf) rest).2, 0 ≤ x ∧ x < n) ∧ 2 * ((runS s (st, lf) rest).1.length : Int) + (runS s (st, lf) rest).2.length = 2 * (st.length : Int) + lf.length + rest.length
  | [], st, lf, h, _ => ⟨h, by show 2 * (st.length : Int) + lf.length = 2 * (st.length : Int) + lf.length + ((0 : Nat) : Int); omega⟩
  | j :: r, st, lf, h, hr => by
    have hj := hr j (List.mem_cons_self ..)
    have hr2 : ∀ x ∈ r, 0 ≤ x ∧ x < n := fun x hx => hr x (List.mem_cons_of_mem _ hx)
    rw [runS_cons]
    by_cases hc : 0 < lf.length ∧ fitR s (topI lf) j = true
    · rw [stepS, if_pos hc]
      have := runS_bd (s := s) r (st ++ [(topI lf, j)]) (lf.take ((lf.length : Int) - 1).toNat) (fun x hx => h x (List.mem_of_mem_take hx)) hr2
      refine ⟨this.1, this.2.trans ?_⟩
      have h0 := hc.1
      simp only [List.length_append, List.length_take, List.length_cons, List.length_nil]
      omega
    · rw [stepS, if_neg hc]
      have := runS_bd (s := s) r st (lf ++ [j]) (fun x hx => by
        rcases List.mem_append.1 hx with hx | hx
        · exact h x hx
        · rw [List.mem_singleton] at hx; subst hx; exact hj) hr2
      refine ⟨this.1, this.2.trans ?_⟩
      simp only [List.length_append, List.length_cons, List.length_nil]
      omega
theorem rng_len {i n : Int} (h : i ≤ n) : ((rng i n).length : Int) = n - i := by rw [rng, List.length_map, List.length_range]; omega
theorem takS_bd {s : ByteArray} : (∀ x ∈ (takS s).2, 0 ≤ x ∧ x < s.size) ∧ 2 * ((takS s).1.length : Int) + (takS s).2.length = s.size := by
  have := runS_bd (s := s) (n := s.size) (rng 0 s.size) [] [] (by simp) (fun x hx => by rw [rng_mem] at hx; exact hx)
  refine ⟨this.1, this.2.trans ?_⟩
  rw [rng_len (by omega)]
  simp
end Go.Proofs.YtlibemgaepkceaaGreatDoor.C5

namespace Go.Proofs.YtlibemgaepkceaaGreatDoor.C5
set_option linter.unusedVariables false
open Go.Wk Go.RowKit Go.Lib

def otherU (r : Int) : Int := if isUpperU r = true then toLowerU r else toUpperU r
theorem ret_of_same {P : Program} {f : FuncId} {args : Array Value} {w : World} {v : Value} (h : Calls P f args w fun e w' => e = .returned v ∧ w' = w) : Calls P f args w (Ret w fun r _ => r = v) :=
  h.mono fun e w' ⟨he, hw⟩ => ⟨v, he, by rw [hw]; exact Ext.refl _, rfl⟩
theorem ret_of_below {P : Program} {f : FuncId} {args : Array Value} {w : World} {v : Value} (h : Calls P f args w fun e w' => e = .returned v ∧ Below w.heap.size w w') : Calls P f args w (Ret w fun r _ => r = v) :=
  h.mono fun e w' ⟨he, hw⟩ => ⟨v, he, hw, rfl⟩
theorem F138 {r : Int} {w : World} (i_r : InK .i32 r) (hG : Laid w) : Calls Tryz.prog 138 #[.int .i32 r] w (Ret w fun q _ => q = .bool (isUpperU r)) :=
  ret_of_below (Tryz.unicode_IsUpper_all r w i_r.1 i_r.2 hG.props hG.upper)
theorem F139 {r : Int} {w : World} (_ : InK .i32 r) (hG : Laid w) : Calls Tryz.prog 139 #[.int .i32 r] w (Ret w fun q _ => q = .int .i32 (toLowerU r)) :=
  (Tryz.unicode_ToLower_laid r w hG.cases).mono fun e w' hh => by
    obtain ⟨he, hw⟩ := hh
    exact ⟨_, he, by first | exact hw | (rw [hw]; exact Ext.refl _) | (obtain ⟨q, hq⟩ := hw; rw [hq]; exact below_drewNs w q), rfl⟩
theorem F140 {r : Int} {w : World} (_ : InK .i32 r) (hG : Laid w) : Calls Tryz.prog 140 #[.int .i32 r] w (Ret w fun q _ => q = .int .i32 (toUpperU r)) :=
  (Tryz.unicode_ToUpper_laid r w hG.cases).mono fun e w' hh => by
    obtain ⟨he, hw⟩ := hh
    exact ⟨_, he, by first | exact hw | (rw [hw]; exact Ext.refl _) | (obtain ⟨q, hq⟩ := hw; rw [hq]; exact below_drewNs w q), rfl⟩
theorem F128 {s : ByteArray} {c : Int} {w : World} (_ : s.size ≤ maxLen) (_ : InK .u8 c) : Calls Tryz.prog 128 #[.string s, .int .u8 c] w (Ret w fun q _ => q = .int .i64 (indexByte s.data.toList c.toNat.toUInt8)) :=
  ret_of_same (Tryz.strings_IndexByte s c w)
theorem F129 {r : Int} {w : World} (_ : InK .i32 r) : Calls Tryz.prog 129 #[.int .i32 r] w (Ret w fun q _ => q = .bool (validRune r)) := ret_of_same (Tryz.utf8_ValidRune r w)
/-! ### letters, by the library -/
theorem otherU_let {y : Int} (h : isLet y = true) : otherU y = if y ≤ 90 then y + 32 else y - 32 := by
  simp only [isLet, Bool.or_eq_true, decide_eq_true_eq] at h
  have hl : latin1 y = true := by rw [latin1]; exact decide_eq_true (by omega)
  rw [otherU, isUpperU, if_pos hl, isUpperL]
  by_cases hu : y ≤ 90
  · rw [if_pos (decide_eq_true (by omega)), if_pos hu, toLowerU, if_pos (by omega), if_pos (by omega)]
  · rw [if_neg (by rw [decide_eq_true_eq]; omega), if_neg hu, toUpperU, if_pos (by omega), if_pos (by omega)]
theorem fit_other {x y : Int} (hx : isLet x = true) (hy : isLet y = true) : decide (x = otherU y) = fitC x y := by
  rw [otherU_let hy, fitC]
  simp only [isLet, Bool.or_eq_true, decide_eq_true_eq] at hx hy
  congr 1
  simp only [eq_iff_iff]
  split <;> omega
def hasRune (s : ByteArray) (r : Int) : Bool := decide (0 ≤ r ∧ r < 128) && decide (0 ≤ indexByte s.data.toList r.toNat.toUInt8)
theorem letS_table : ∀ c < 128, decide (0 ≤ indexByte letS.data.toList (c : Nat).toUInt8) = isLet (c : Nat) := by decide +kernel
theorem hasRune_let {r : Int} (h0 : 0 ≤ r) : hasRune letS r = isLet r := by
  rw [hasRune]
  by_cases h : r < 128
  · rw [decide_eq_true ⟨h0, h⟩, Bool.true_and]
    have := letS_table r.toNat (by omega)
    rwa [Int.toNat_of_nonneg h0] at this
  · rw [decide_eq_false (by omega), Bool.false_and]
    symm
    rw [isLet, Bool.or_eq_false_iff, decide_eq_false_iff_not, decide_eq_false_iff_not]
    omega
theorem rune_let {s : ByteArray} {p : Int} (h0 : 0 ≤ p) (h : hasRune letS (runeAt s p) = true) : runeW s p = 1 ∧ isLet (tabAt s p) = true := by
  rw [hasRune_let (runeAt_bd s p).1] at h
  have hb := isLet_bd h
  by_cases ha : tabAt s p < 128
  · have := runeAt_ascii h0 ha
    rw [this.1] at h
    exact ⟨this.2, h⟩
  · have := runeAt_other h0 (by omega : 128 ≤ tabAt s p)
    omega
theorem rune_not {s : ByteArray} {p : Int} (h0 : 0 ≤ p) (h : hasRune letS (runeAt s p) = false) : isLet (tabAt s p) = false := by
  rw [hasRune_let (runeAt_bd s p).1] at h
  cases hl : isLet (tabAt s p) with
  | false => rfl
  | true =>
    have hb := isLet_bd hl
    rw [(runeAt_ascii h0 (by omega)).1, hl] at h
    exact h
theorem index_not : ∀ (l : List UInt8) (c : UInt8), (∀ b ∈ l, b.toNat < 128) → 128 ≤ c.toNat → indexByte l c = -1
  | [], _, _, _ => rfl
  | b :: l, c, h, hc => by
    have hb := h b (List.mem_cons_self ..)
    have hne : (b == c) = false := by
      cases hq : b == c with
      | false => rfl
      | true => rw [eq_of_beq hq] at hb; omega
    rw [indexByte, hne, index_not l c (fun x hx => h x (List.mem_cons_of_mem _ hx)) hc]; rfl
theorem letS_asc : ∀ q : Int, 0 ≤ q → q < letS.size → tabAt letS q < 128 := by
  intro q h0 h1
  have h : ∀ k < 20, tabAt letS (k : Nat) < 128 := by decide +kernel
  have hs : letS.size = 20 := by decide
  have := h q.toNat (by omega)
  rwa [Int.toNat_of_nonneg h0] at this
theorem index_asc {s : ByteArray} {a b : Nat} {c : Int} (h : ∀ q : Int, 0 ≤ q → q < s.size → tabAt s q < 128) (h1 : 128 ≤ c) (h2 : c ≤ 255) : indexByte (s.extract a b).data.toList c.toNat.toUInt8 = -1 := by
  refine index_not _ _ (fun x hx => ?_) ?_
  · have hx2 : x ∈ s.data.toList := by
      rw [ByteArray.data_extract, Array.toList_extract] at hx
      exact List.mem_of_mem_drop (List.mem_of_mem_take hx)
    obtain ⟨k, hk, rfl⟩ := List.mem_iff_getElem.1 hx2
    have := h (k : Int) (by omega) (by have e : s.size = s.data.toList.length := (by simp); omega)
    rw [tabAt, Int.toNat_natCast, List.getD_eq_getElem?_getD, List.getElem?_eq_getElem hk] at this
    simp only [Option.getD_some] at this
    omega
  · rw [Nat.toUInt8, UInt8.toNat_ofNat']; omega
end Go.Proofs.YtlibemgaepkceaaGreatDoor.C5

namespace Go.Proofs.YtlibemgaepkceaaGreatDoor
open Go.Wk Go.RowKit Go.Lib
set_option linter.unusedVariables false
set_option linter.unusedSimpArgs false
theorem mixedHa_ : Tryz.prog.follows .mixedOrders = true := by kernel_rfl

theorem C5.F132 {c : Int} {w : World} (i_c : InK .i32 c) (hG : Laid w) : Calls Tryz.prog 132 #[.int .i32 c] w (Ret w (fun r _ => r = .int .i32 (otherU c))) := by
  have b_c := bd_i32 i_c
  have hS := St.start0 w
  refine enterR Tryz.func132 rfl Tryz.ntmps132 Tryz.results132 rfl ?_
  refine W.seq ?_
  refine W.reg ?_
  refine Wx.rd (v := .int .i32 0) (rd_assign rfl) rfl ?_
  refine Wx.nil ?_
  refine W.seq ?_
  refine W.seq ?_
  refine W.reg ?_
  refine Wx.rd (v := .int .i32 c) (rd_move rfl) rfl ?_
  refine Wx.callF (run_callF Tryz.call138 rfl) (C5.F138 i_c (hG.ext hS.bel)) rfl ?_
  rintro r_1 w_2 hx_3 rfl
  have hS := hS.ext hx_3
  refine Wx.nil ?_
  refine W.cond rfl (fun c0 => ?_) (fun c0 => ?_)
  · -- yes
    try simp only [Bool.and_eq_true, Bool.or_eq_true, Bool.not_eq_true', Bool.and_eq_false_iff, Bool.or_eq_false_iff, Bool.not_eq_false', decide_eq_true_eq, decide_eq_false_iff_not, not_or, Bool.false_eq_true, Bool.true_eq_false, false_or, or_false, not_false_eq_true] at c0
    refine W.seq ?_
    refine W.reg ?_
    refine Wx.rd (v := .int .i32 c) (rd_move rfl) rfl ?_
    refine Wx.callF (run_callF Tryz.call139 rfl) (C5.F139 i_c (hG.ext hS.bel)) rfl ?_
    rintro r_4 w_5 hx_6 rfl
    have hS := hS.ext hx_6
    refine Wx.rd (v := .int .i32 (toLowerU c)) (rd_assign rfl) rfl ?_
    refine Wx.nil ?_
    have e0_0 : (otherU c) = (toLowerU c : Int) := by rw [otherU, if_pos c0]
    exact W.ret ⟨.int .i32 (toLowerU c), ResIs.one, hS.bel, (by rw [e0_0])⟩
  · -- no
    try simp only [Bool.and_eq_true, Bool.or_eq_true, Bool.not_eq_true', Bool.and_eq_false_iff, Bool.or_eq_false_iff, Bool.not_eq_false', decide_eq_true_eq, decide_eq_false_iff_not, not_or, Bool.false_eq_true, Bool.true_eq_false, false_or, or_false, not_false_eq_true] at c0
    refine W.skip ?_
    refine W.seq ?_
    refine W.reg ?_
    refine Wx.rd (v := .int .i32 c) (rd_move rfl) rfl ?_
    refine Wx.callF (run_callF Tryz.call140 rfl) (C5.F140 i_c (hG.ext hS.bel)) rfl ?_
    rintro r_7 w_8 hx_9 rfl
    have hS := hS.ext hx_9
    refine Wx.rd (v := .int .i32 (toUpperU c)) (rd_assign rfl) rfl ?_
    refine Wx.nil ?_
    have e1_0 : (otherU c) = (toUpperU c : Int) := by rw [otherU, if_neg (by rw [c0]; decide)]
    exact W.ret ⟨.int .i32 (toUpperU c), ResIs.one, hS.bel, (by rw [e1_0])⟩

theorem C5.F119 {rim : ByteArray} {i : Int} {j : Int} {w : World} (s_rim : rim.size ≤ maxLen) (i_i : InK .i64 i) (i_j : InK .i64 j) (p_i : 0 ≤ i) (p_i2 : i < rim.size) (p_j : 0 ≤ j) (p_j2 : j < rim.size) (p_l : Lets rim) (hG : Laid w) : Calls Tryz.prog 119 #[.string rim, .int .i64 i, .int .i64 j] w (Ret w (fun r _ => r = .bool (fitR rim i j))) := by
  have b_j := bd_i64 i_j
  have b_i := bd_i64 i_i
  have hS := St.start0 w
  refine enterR Tryz.func119 rfl Tryz.ntmps119 Tryz.results119 rfl ?_
  refine W.seq ?_
  refine W.reg ?_
  refine Wx.rd (v := .bool false) (rd_assign rfl) rfl ?_
  refine Wx.nil ?_
  refine W.seq ?_
  refine W.regQ mixedHa_ (by kernel_rfl) ?_
  refine Wx.rd (v := .string rim) (rd_move rfl) rfl ?_
  refine Wx.rd (v := .int .i64 i) (rd_move rfl) rfl ?_
  refine Wx.rd (v := .int .u8 (tabAt rim i)) (rd_indexS' (by kernel_rfl) rfl Tryz.underlying9 (by omega) (by omega)) rfl ?_
  have bd_1 := tabAt_bd rim i
  refine Wx.rd (v := .int .i32 (tabAt rim i)) (rd_convIn rfl Tryz.underlying5 Tryz.underlying21 (in_i32 (by omega) (by omega))) rfl ?_
  refine Wx.rd (v := .string rim) (rd_move rfl) rfl ?_
  refine Wx.rd (v := .int .i64 j) (rd_move rfl) rfl ?_
  refine Wx.rd (v := .int .u8 (tabAt rim j)) (rd_indexS' (by kernel_rfl) rfl Tryz.underlying9 (by omega) (by omega)) rfl ?_
  have bd_2 := tabAt_bd rim j
  refine Wx.rd (v := .int .i32 (tabAt rim j)) (rd_convIn rfl Tryz.underlying5 Tryz.underlying21 (in_i32 (by omega) (by omega))) rfl ?_
  refine Wx.callV (v := .int .i32 (otherU (tabAt rim j))) (run_callF Tryz.call132 rfl) (fun w_3 hw_4 => (C5.F132 (in_i32 (by omega) (by omega)) (hG.ext (Ext.trans hS.bel hw_4)))) rfl ?_
  refine Wx.rd (v := .bool (decide ((tabAt rim i) = (otherU (tabAt rim j))))) (rd_eql rfl rfl) rfl ?_
  refine Wx.rd (v := .bool (decide ((tabAt rim i) = (otherU (tabAt rim j))))) (rd_assign rfl) rfl ?_
  refine Wx.nilQ (fun w_5 hx_6 => ?_)
  have hS := hS.ext hx_6
  have e0_0 : (fitR rim i j) = (decide ((tabAt rim i) = (otherU (tabAt rim j)))) := by exact (fit_other (p_l i p_i p_i2) (p_l j p_j p_j2)).symm
  exact W.ret ⟨.bool (decide ((tabAt rim i) = (otherU (tabAt rim j)))), ResIs.one, hS.bel, (by rw [e0_0])⟩

theorem C5.F118w {s : ByteArray} {r : Int} {w : World} (s_s : s.size ≤ maxLen) (i_r : InK .i32 r) (p_a : ∀ q : Int, 0 ≤ q → q < s.size → tabAt s q < 128) (p_4 : 4 ≤ s.size) (p_r : 128 ≤ r) : Calls Tryz.prog 118 #[.string s, .int .i32 r] w (Ret w (fun r _ => r = .int .i64 (-1))) := by
  have b_r := bd_i32 i_r
  have hen := encode_last p_r
  have hS := St.start0 w
  refine enterR Tryz.func118 rfl Tryz.ntmps118 Tryz.results118 rfl ?_
  refine W.seq ?_
  refine W.reg ?_
  refine Wx.rd (v := .int .i64 0) (rd_assign rfl) rfl ?_
  refine Wx.nil ?_
  refine W.block ?_
  refine W.seq ?_
  refine W.reg ?_
  refine Wx.rd (v := .int .i32 r) (rd_move rfl) rfl ?_
  refine Wx.rd (v := .bool (decide (0 ≤ r))) (rd_leq rfl rfl) rfl ?_
  refine Wx.rd (v := .bool (decide (0 ≤ r))) (rd_move rfl) rfl ?_
  refine Wx.cut (X := Unit) 3 [164, 165, 166] (fun _ => [(166, .bool (decide (0 ≤ r) && decide (r < 128)))]) (fun _ w' => St w [] w' []) ?_ ?_
  · rcases Bool.eq_false_or_eq_true (decide (0 ≤ r)) with g_1 | g_1
    · -- True
      have gp_2 := of_decide_eq_true g_1
      refine Wx.gyes rfl rfl (congrArg Value.bool g_1) ?_
      refine Wx.rd (v := .int .i32 r) (rd_move rfl) rfl ?_
      refine Wx.gyes rfl rfl (congrArg Value.bool g_1) ?_
      refine Wx.rd (v := .bool (decide (r < 128))) (rd_lss rfl rfl) rfl ?_
      refine Wx.rd (v := .bool (decide (r < 128))) (rd_pickT (congrArg Value.bool g_1) rfl) rfl ?_
      refine Wx.nil ⟨(), hS, ⟨?_, trivial⟩, Out.look rfl Out.refl⟩
      show Value.bool (decide (r < 128)) = Value.bool (decide (0 ≤ r) && decide (r < 128))
      first | rw [g_1, Bool.true_and] | (rw [g_1]; rfl)
    · -- False
      have gp_3 := of_decide_eq_false g_1
      refine Wx.gnoB rfl rfl (congrArg Value.bool g_1) rfl rfl ?_
      refine Wx.gnoB rfl rfl (congrArg Value.bool g_1) rfl rfl ?_
      refine Wx.rd (v := .bool false) (rd_pickF (congrArg Value.bool g_1) rfl) rfl ?_
      refine Wx.nil ⟨(), hS, ⟨?_, trivial⟩, Out.look rfl Out.refl⟩
      show Value.bool false = Value.bool (decide (0 ≤ r) && decide (r < 128))
      first | rw [g_1, Bool.false_and] | (rw [g_1]; rfl)
  rintro ⟨⟩ u_5 w_4 hS
  refine Wx.rd (v := .bool (decide (0 ≤ r) && decide (r < 128))) (rd_assign rfl) rfl ?_
  refine Wx.nil ?_
  refine W.condF rfl (by rw [decide_eq_false (show ¬ r < 128 by omega), Bool.and_false]) ?_
  refine W.seq ?_
  refine W.reg ?_
  refine Wx.rd (v := .int .i32 r) (rd_move rfl) rfl ?_
  refine Wx.rd (v := .bool (decide (r = 65533))) (rd_eql rfl rfl) rfl ?_
  refine Wx.rd (v := .bool (decide (r = 65533))) (rd_assign rfl) rfl ?_
  refine Wx.nil ?_
  refine W.condD rfl (fun c1 => ?_) (fun c1 => ?_)
  · -- yes
    refine W.seq ?_
    refine W.seq ?_
    refine W.reg ?_
    refine Wx.rd (v := .string s) (rd_move rfl) rfl ?_
    refine Wx.rangeS (s := s) hS rfl Tryz.underlying9 rfl (fun g_6 w_7 hx_8 hS => ?_)
    refine Wx.nil ?_
    refine W.block ?_
    refine W.loop [4, 5, 6, 176, 177, 178, 179, 180, 181, 182] (fun (q : Nat) => []) (fun (q : Nat) w' => St w [] w' [.raw g_6 (.stringIter s q)]) (fun (q : Nat) => s.size - q) 0 trivial hS ?_
    rintro q u_10 w_9 hS
    refine W.seq ?_
    refine W.reg ?_
    refine Wx.nextS hS 0 rfl rfl rfl (fun hn w_11 hz_12 hS => ?_) (fun hn => ?_)
    · -- a rune
      have hS : St _ _ w_11 [.raw g_6 (.stringIter s (q + (runeW s (q : Int)).toNat))] := hS
      have hq := p_a (q : Int) (by omega) hn
      refine Wx.rd (v := .bool true) (rd_extract rfl rfl) rfl ?_
      refine Wx.nil ?_
      refine W.seq ?_
      refine W.condT rfl rfl ?_
      refine W.skip ?_
      refine W.block ?_
      refine W.seq ?_
      refine W.reg ?_
      refine Wx.rd (v := .int .i64 (q : Int)) (rd_extract rfl rfl) rfl ?_
      refine Wx.rd (v := .int .i32 (runeAt s (q : Int))) (rd_extract rfl rfl) rfl ?_
      refine Wx.rd (v := .int .i64 (q : Int)) (rd_assign rfl) rfl ?_
      refine Wx.rd (v := .int .i32 (runeAt s (q : Int))) (rd_assign rfl) rfl ?_
      refine Wx.nil ?_
      refine W.seq ?_
      refine W.reg ?_
      refine Wx.rd (v := .int .i32 (runeAt s (q : Int))) (rd_move rfl) rfl ?_
      refine Wx.rd (v := .bool (decide ((runeAt s (q : Int)) = 65533))) (rd_eql rfl rfl) rfl ?_
      refine Wx.nil ?_
      refine W.condF rfl (decide_eq_false (by rw [(runeAt_ascii (by omega) hq).1]; omega)) ?_
      refine W.skip ?_
      refine ⟨q + (runeW s (q : Int)).toNat, (by show s.size - (q + (runeW s (q : Int)).toNat) < s.size - q; have := (runeAt_ascii (by omega) hq).2; omega), ?_, ?_, Out.look rfl Out.self⟩
      · exact hS
      · exact trivial
    · -- the end
      refine Wx.rd (v := .bool false) (rd_extract rfl rfl) rfl ?_
      refine Wx.nil ?_
      refine W.seq ?_
      refine W.condF rfl rfl ?_
      refine W.exit rfl ?_
      refine W.seq ?_
      refine W.reg ?_
      refine Wx.rd (v := .int .i64 (-1)) (rd_assign rfl) rfl ?_
      refine Wx.nil ?_
      exact W.ret ⟨.int .i64 (-1), ResIs.one, hS.bel, rfl⟩
  · -- no
    refine W.seq ?_
    refine W.reg ?_
    refine Wx.rd (v := .int .i32 r) (rd_move rfl) rfl ?_
    refine Wx.callF (run_callF Tryz.call129 rfl) (C5.F129 i_r) rfl ?_
    rintro r_14 w_15 hx_16 rfl
    have hS := hS.ext hx_16
    refine Wx.rd (v := .bool (!(validRune r))) (rd_not rfl) rfl ?_
    refine Wx.rd (v := .bool (!(validRune r))) (rd_assign rfl) rfl ?_
    refine Wx.nil ?_
    refine W.cond rfl (fun c4 => ?_) (fun c4 => ?_)
    · -- yes
      try simp only [Bool.and_eq_true, Bool.or_eq_true, Bool.not_eq_true', Bool.and_eq_false_iff, Bool.or_eq_false_iff, Bool.not_eq_false', decide_eq_true_eq, decide_eq_false_iff_not, not_or, Bool.false_eq_true, Bool.true_eq_false, false_or, or_false, not_false_eq_true] at c4
      refine W.seq ?_
      refine W.reg ?_
      refine Wx.rd (v := .int .i64 (-1)) (rd_assign rfl) rfl ?_
      refine Wx.nil ?_
      exact W.ret ⟨.int .i64 (-1), ResIs.one, hS.bel, rfl⟩
    · -- no
      try simp only [Bool.and_eq_true, Bool.or_eq_true, Bool.not_eq_true', Bool.and_eq_false_iff, Bool.or_eq_false_iff, Bool.not_eq_false', decide_eq_true_eq, decide_eq_false_iff_not, not_or, Bool.false_eq_true, Bool.true_eq_false, false_or, or_false, not_false_eq_true] at c4
      refine W.scope ?_
      refine W.seq ?_
      refine W.reg ?_
      refine Wx.rd (v := .int .i32 r) (rd_move rfl) rfl ?_
      refine Wx.rd (v := .string (Utf8.encode r)) (rd_convRS rfl Tryz.underlying21 Tryz.underlying9) rfl ?_
      refine Wx.rd (v := .string (Utf8.encode r)) (rd_assign rfl) rfl ?_
      refine Wx.nil ?_
      refine W.seq ?_
      refine W.reg ?_
      refine Wx.rd (v := .string (Utf8.encode r)) (rd_move rfl) rfl ?_
      refine Wx.rd (v := .int .i64 ((Utf8.encode r).size : Int)) (rd_lenS rfl Tryz.underlying9) rfl ?_
      refine Wx.rd (v := .int .i64 (((Utf8.encode r).size : Int) - 1)) (rd_sub rfl rfl (in_i64 (by omega) (by omega))) rfl ?_
      refine Wx.rd (v := .int .i64 (((Utf8.encode r).size : Int) - 1)) (rd_assign rfl) rfl ?_
      refine Wx.nil ?_
      refine W.seq ?_
      refine W.reg ?_
      refine Wx.rd (v := .int .i64 (((Utf8.encode r).size : Int) - 1)) (rd_move rfl) rfl ?_
      refine Wx.rd (v := .int .i64 (((Utf8.encode r).size : Int) - 1)) (rd_assign rfl) rfl ?_
      refine Wx.nil ?_
      refine W.seq ?_
      refine W.reg ?_
      refine Wx.rd (v := .int .i64 0) (rd_assign rfl) rfl ?_
      refine Wx.nil ?_
      refine W.seq ?_
      refine W.block ?_
      refine W.loop [4, 9, 10, 11, 12, 23, 24, 25, 26, 27, 28, 29, 30, 31, 32, 33, 34, 35, 36, 37, 38, 39, 40, 41, 42, 43, 44, 45, 46, 47, 48, 49, 50, 51, 52, 53, 54, 55, 56, 57, 58, 59, 60, 61, 62, 63, 64, 65, 66, 67, 68, 69, 70, 71, 72, 73, 74, 75, 76, 77, 78, 79, 80, 81, 82, 83, 84, 85, 86, 87, 88, 89, 90, 91, 92, 93, 94, 95, 96, 97, 98] (fun x : Int × Int => match x with | (i, fails) => [(9, .int .i64 i), (10, .int .i64 fails)]) (fun (x : Int × Int) w' => match x with | (i, fails) => St w [] w' [] ∧ i = (Utf8.encode r).size - 1) (fun x : Int × Int => match x with | (i, fails) => 0) (((Utf8.encode r).size : Int) - 1, 0) ⟨rfl, rfl, trivial⟩ ⟨hS, (by first | omega | simp)⟩ ?_
      rintro ⟨i, fails⟩ u_18 w_17 ⟨hS, h0⟩
      refine W.seq ?_
      refine W.seq ?_
      refine W.reg ?_
      refine Wx.rd (v := .int .i64 i) (rd_move rfl) rfl ?_
      refine Wx.rd (v := .string s) (rd_move rfl) rfl ?_
      refine Wx.rd (v := .int .i64 (s.size : Int)) (rd_lenS rfl Tryz.underlying9) rfl ?_
      refine Wx.rd (v := .bool (decide (i < (s.size : Int)))) (rd_lss rfl rfl) rfl ?_
      refine Wx.nil ?_
      refine W.condT rfl (decide_eq_true (by omega)) ?_
      refine W.skip ?_
      refine W.block ?_
      refine W.scope ?_
      refine W.seq ?_
      refine W.seq ?_
      refine W.regQ mixedHa_ (by kernel_rfl) ?_
      refine Wx.rd (v := .string s) (rd_move rfl) rfl ?_
      refine Wx.rd (v := .int .i64 i) (rd_move rfl) rfl ?_
      refine Wx.rd (v := .int .u8 (tabAt s i)) (rd_indexS' (by kernel_rfl) rfl Tryz.underlying9 (by omega) (by omega)) rfl ?_
      have bd_19 := tabAt_bd s i
      refine Wx.rd (v := .string (Utf8.encode r)) (rd_move rfl) rfl ?_
      refine Wx.rd (v := .int .i64 (((Utf8.encode r).size : Int) - 1)) (rd_move rfl) rfl ?_
      refine Wx.rd (v := .int .u8 (tabAt (Utf8.encode r) (((Utf8.encode r).size : Int) - 1))) (rd_indexS' (by kernel_rfl) rfl Tryz.underlying9 (by omega) (by omega)) rfl ?_
      have bd_20 := tabAt_bd (Utf8.encode r) (((Utf8.encode r).size : Int) - 1)
      refine Wx.rd (v := .bool (decide ((tabAt s i) ≠ (tabAt (Utf8.encode r) (((Utf8.encode r).size : Int) - 1))))) (rd_neq rfl rfl) rfl ?_
      refine Wx.nilQ (fun w_21 hx_22 => ?_)
      have hS := hS.ext hx_22
      refine W.condT rfl (decide_eq_true (by have := p_a i (by omega) (by omega); omega)) ?_
      refine W.seq ?_
      refine W.regQ mixedHa_ (by kernel_rfl) ?_
      refine Wx.rd (v := .string s) (rd_move rfl) rfl ?_
      refine Wx.rd (v := .int .i64 i) (rd_move rfl) rfl ?_
      refine Wx.rd (v := .int .i64 (i + 1)) (rd_add rfl rfl (in_i64 (by omega) (by omega))) rfl ?_
      refine Wx.rd (v := .string ((s).extract (i + 1).toNat s.size)) (rd_sliceS_L Tryz.underlying9 rfl rfl (by omega) (by omega)) rfl ?_
      refine Wx.rd (v := .string (Utf8.encode r)) (rd_move rfl) rfl ?_
      refine Wx.rd (v := .int .i64 (((Utf8.encode r).size : Int) - 1)) (rd_move rfl) rfl ?_
      refine Wx.rd (v := .int .u8 (tabAt (Utf8.encode r) (((Utf8.encode r).size : Int) - 1))) (rd_indexS' (by kernel_rfl) rfl Tryz.underlying9 (by omega) (by omega)) rfl ?_
      have bd_23 := tabAt_bd (Utf8.encode r) (((Utf8.encode r).size : Int) - 1)
      refine Wx.callV (v := .int .i64 (indexByte ((s).extract (i + 1).toNat s.size).data.toList (tabAt (Utf8.encode r) (((Utf8.encode r).size : Int) - 1)).toNat.toUInt8)) (run_callF Tryz.call128 rfl) (fun w_24 hw_25 => (C5.F128 (by first | assumption | (simp only [maxLen]; omega) | (simp only [ByteArray.size_extract, ByteArray.size_append, maxLen] at *; omega) | decide) (in_u8 (by omega) (by omega)))) rfl ?_
      refine Wx.rd (v := .int .i64 (indexByte ((s).extract (i + 1).toNat s.size).data.toList (tabAt (Utf8.encode r) (((Utf8.encode r).size : Int) - 1)).toNat.toUInt8)) (rd_assign rfl) rfl ?_
      refine Wx.nilQ (fun w_26 hx_27 => ?_)
      have hS := hS.ext hx_27
      refine W.seq ?_
      refine W.seq ?_
      refine W.reg ?_
      refine Wx.rd (v := .int .i64 (indexByte ((s).extract (i + 1).toNat s.size).data.toList (tabAt (Utf8.encode r) (((Utf8.encode r).size : Int) - 1)).toNat.toUInt8)) (rd_move rfl) rfl ?_
      refine Wx.rd (v := .bool (decide ((indexByte ((s).extract (i + 1).toNat s.size).data.toList (tabAt (Utf8.encode r) (((Utf8.encode r).size : Int) - 1)).toNat.toUInt8) < 0))) (rd_lss rfl rfl) rfl ?_
      refine Wx.nil ?_
      refine W.condT rfl (decide_eq_true (by rw [index_asc p_a hen.2.2 (tab_le _ _).2]; decide)) ?_
      refine W.seq ?_
      refine W.reg ?_
      refine Wx.rd (v := .int .i64 (-1)) (rd_assign rfl) rfl ?_
      refine Wx.nil ?_
      exact W.ret ⟨.int .i64 (-1), ResIs.one, hS.bel, rfl⟩

theorem C5.F106w {s : ByteArray} {r : Int} {w : World} (s_s : s.size ≤ maxLen) (i_r : InK .i32 r) (p_a : ∀ q : Int, 0 ≤ q → q < s.size → tabAt s q < 128) (p_4 : 4 ≤ s.size) (p_r : 128 ≤ r) : Calls Tryz.prog 106 #[.string s, .int .i32 r] w (Ret w (fun r _ => r = .bool false)) := by
  have b_r := bd_i32 i_r
  have hS := St.start0 w
  refine enterR Tryz.func106 rfl Tryz.ntmps106 Tryz.results106 rfl ?_
  refine W.seq ?_
  refine W.reg ?_
  refine Wx.rd (v := .bool false) (rd_assign rfl) rfl ?_
  refine Wx.nil ?_
  refine W.seq ?_
  refine W.reg ?_
  refine Wx.rd (v := .string s) (rd_move rfl) rfl ?_
  refine Wx.rd (v := .int .i32 r) (rd_move rfl) rfl ?_
  refine Wx.callF (run_callF Tryz.call118 rfl) (C5.F118w (by first | assumption | (simp only [maxLen]; omega) | (simp only [ByteArray.size_extract, ByteArray.size_append, maxLen] at *; omega) | decide) i_r (by omega) (by omega) (by omega)) rfl ?_
  rintro r_1 w_2 hx_3 rfl
  have hS := hS.ext hx_3
  refine Wx.rd (v := .bool false) (Rd.to (v := .bool (decide (0 ≤ ((-1 : Int))))) (rd_geq rfl rfl) rfl) rfl ?_
  refine Wx.rd (v := .bool false) (rd_assign rfl) rfl ?_
  refine Wx.nil ?_
  exact W.ret ⟨.bool false, ResIs.one, hS.bel, rfl⟩
end Go.Proofs.YtlibemgaepkceaaGreatDoor

namespace Go.Proofs.YtlibemgaepkceaaGreatDoor.C5
open Go.Wk Go.RowKit Go.Lib

theorem F106 {s : ByteArray} {r : Int} {w : World} (h1 : s.size ≤ maxLen) (h2 : InK .i32 r) (p_a : ∀ q : Int, 0 ≤ q → q < s.size → tabAt s q < 128) (p_4 : 4 ≤ s.size) (p_0 : 0 ≤ r) :
    Calls Tryz.prog 106 #[.string s, .int .i32 r] w (Ret w fun q _ => q = .bool (hasRune s r)) := by
  by_cases h : r < 128
  · have := ret_of_same (Tryz.strings_ContainsRune_ascii s r w p_0 h)
    rw [hasRune, decide_eq_true (And.intro p_0 h), Bool.true_and]
    exact this
  · have := F106w (w := w) h1 h2 p_a p_4 (by omega)
    rw [hasRune, decide_eq_false (fun q => h q.2), Bool.false_and]
    exact this
end Go.Proofs.YtlibemgaepkceaaGreatDoor.C5

namespace Go.Proofs.YtlibemgaepkceaaGreatDoor.C5
open Go.Wk Go.RowKit Go.Lib Go
set_option linter.unusedVariables false

/-! ### strings by their bytes -/
def byteAt (s : ByteArray) (i : Int) : UInt8 := s.data.toList.getD i.toNat 0
def mkB (l : List UInt8) : ByteArray := ⟨l.toArray⟩
def restV (s : ByteArray) : ByteArray := mkB ((takS s).2.map (byteAt s))
/-! ### the builder -/
theorem bld_start {w0 w : World} {O : List (Option Nat)} {obs : List Ob} {g : Nat} (hS : St w0 O w obs) (i : Nat) (hi : obs[i]? = some (.box g 156 [.pointer none, .slice none 0 0])) : IsBuilderF 156 5 w0.heap.size g (Go.Lib.byteCells []) w :=
  .inl ⟨(hS.get i hi).1, .slice none 0 0, (hS.get i hi).2, ⟨rfl, .inl ⟨rfl, rfl⟩⟩, by simp [Value.ownBlock]⟩
theorem bld_block {B b : Nat} {bs : List Value} {w : World} (h : IsBuilderF 156 5 B b bs w) : ∃ cs, w.heap[b]? = some (.cells cs 156 (0, 0)) := by
  rcases h with ⟨_, v, h, _⟩ | ⟨_, v, h, _⟩ <;> exact ⟨_, h⟩
theorem bld_keep {w0 w w' : World} {O : List (Option Nat)} {b : Nat} {bs : List Value} {v : Value} {ys : List Int} (hS : St w0 O w [.row (tI .i64) 3 v ys]) (h : IsBuilderF 156 5 w0.heap.size b bs w) (hB : Below w0.heap.size w w') (hK : OthersKept 5 (some b) w w') : St w0 O w' [.row (tI .i64) 3 v ys] := by
  obtain ⟨cb, hcb⟩ := bld_block h
  obtain ⟨cs, h1, h2⟩ := hS.get 0 rfl
  refine ⟨Below.trans hS.bel hB, hS.olt, fun ob ho => ?_, hS.sep⟩
  rw [List.mem_singleton] at ho
  subst ho
  refine ⟨cs, ⟨h1.1, ?_⟩, h2⟩
  rcases h1.2 with hn | ⟨g, cap, cur, e1, e2, e3, e4⟩
  · exact .inl hn
  · refine .inr ⟨g, cap, cur, e1, e2, hK g _ e3 ?_ ?_, e4⟩
    · intro e
      injection e with e
      rw [e, hcb] at e3
      simp at e3
    · intro c fz e
      simp at e
theorem F108 {B b : Nat} {l : List UInt8} {c : Int} {u : UInt8} {w : World} (h : IsBuilderF 156 5 B b (Go.Lib.byteCells l) w) (hc : c = (u.toNat : Int)) (hl : (l.length : Int) ≤ 1000) (hB : B ≤ w.heap.size) :
    Calls Tryz.prog 108 #[.pointer (some ⟨b, 0, none⟩), .int .u8 c] w (Bk fun r w' => r = .nilIface ∧ IsBuilderF 156 5 B b (Go.Lib.byteCells (l ++ [u])) w' ∧ Below B w w' ∧ OthersKept 5 (some b) w w') := by
  have := Tryz.Builder_WriteByte_k B b (Go.Lib.byteCells l) c w h (by rw [Go.Lib.byteCells, List.length_map]; omega) hB
  refine this.mono fun e w' hh => ?_
  obtain ⟨he, h1, h2, h3⟩ := hh
  refine ⟨_, he, rfl, .inr ?_, h2, h3⟩
  subst hc
  have e : Go.Lib.byteCells (l ++ [u]) = Go.Lib.byteCells l ++ [.int .u8 (u.toNat : Int)] := by simp [Go.Lib.byteCells]
  rw [e]; exact h1
theorem F109 {B b : Nat} {l : List UInt8} {w : World} (h : IsBuilderF 156 5 B b (Go.Lib.byteCells l) w) (hB : B ≤ w.heap.size) :
    Calls Tryz.prog 109 #[.pointer (some ⟨b, 0, none⟩)] w (Bk fun r w' => r = .string (mkB l) ∧ Below B w w') :=
  (Tryz.Builder_String_any_f B b l w h hB).mono fun e w' hh => ⟨_, hh.1, rfl, hh.2.2⟩
end Go.Proofs.YtlibemgaepkceaaGreatDoor.C5

namespace Go.Proofs.YtlibemgaepkceaaGreatDoor.C5
open Go.Wk Go

def restE (s : ByteArray) : ByteArray := if rimE s = 0 then restV s else ByteArray.empty
end Go.Proofs.YtlibemgaepkceaaGreatDoor.C5

namespace Go.Proofs.YtlibemgaepkceaaGreatDoor
open Go.Wk Go.RowKit Go.Lib
set_option linter.unusedVariables false
set_option linter.unusedSimpArgs false
theorem elHb_157 : ElemI Tryz.prog 157 179 (.agg #[.int .i64 0, .int .i64 0]) 2 16 := ElemI.of Tryz.underlying157 (by kernel_rfl) (by first | rfl | kernel_rfl) (by decide)
theorem elHb_25 : ElemI Tryz.prog 25 3 (.int .i64 0) 1 8 := ElemI.of Tryz.underlying25 (by kernel_rfl) (by first | rfl | kernel_rfl) (by decide)

theorem C5.F101 {rim : ByteArray} {w : World} (s_rim : rim.size ≤ maxLen) : Calls Tryz.prog 101 #[.string rim] w (Ret w (fun r _ => r = .int .i64 (rimE rim))) := by
  have hS := St.start0 w
  refine enterR Tryz.func101 rfl Tryz.ntmps101 Tryz.results101 rfl ?_
  refine W.seq ?_
  refine W.reg ?_
  refine Wx.rd (v := .int .i64 0) (rd_assign rfl) rfl ?_
  refine Wx.nil ?_
  refine W.seq ?_
  refine W.seq ?_
  refine W.reg ?_
  refine Wx.rd (v := .string rim) (rd_move rfl) rfl ?_
  refine Wx.rd (v := .int .i64 (rim.size : Int)) (rd_lenS rfl Tryz.underlying9) rfl ?_
  refine Wx.rd (v := .bool (decide (12 < (rim.size : Int)))) (rd_gtr rfl rfl) rfl ?_
  refine Wx.nil ?_
  refine W.condD rfl (fun c0 => ?_) (fun c0 => ?_)
  · -- yes
    refine W.seq ?_
    refine W.reg ?_
    refine Wx.rd (v := .int .i64 3) (rd_assign rfl) rfl ?_
    refine Wx.nil ?_
    have e0_0 : (rimE rim) = (3 : Int) := by rw [rimE, if_pos c0]
    exact W.ret ⟨.int .i64 3, ResIs.one, hS.bel, (by rw [e0_0])⟩
  · -- no
    refine W.skip ?_
    refine W.seq ?_
    refine W.seq ?_
    refine W.reg ?_
    refine Wx.rd (v := .string rim) (rd_move rfl) rfl ?_
    refine Wx.rangeS (s := rim) hS rfl Tryz.underlying9 rfl (fun g_1 w_2 hx_3 hS => ?_)
    refine Wx.nil ?_
    refine W.block ?_
    refine W.loop [2, 4, 10, 11, 12, 13, 14, 15] (fun (p : Nat) => []) (fun (p : Nat) w' => St w [] w' [.raw g_1 (.stringIter rim p)] ∧ p ≤ rim.size ∧ (∀ q : Int, 0 ≤ q → q < p → isLet (tabAt rim q) = true)) (fun (p : Nat) => rim.size - p) 0 trivial ⟨hS, (Nat.zero_le _), (fun q q0 q1 => by omega)⟩ ?_
    rintro p u_5 w_4 ⟨hS, h1, h2⟩
    refine W.seq ?_
    refine W.reg ?_
    refine Wx.nextS hS 0 rfl rfl rfl (fun hn w_6 hz_7 hS => ?_) (fun hn => ?_)
    · -- a rune
      have hS : St _ _ w_6 [.raw g_1 (.stringIter rim (p + (runeW rim (p : Int)).toNat))] := hS
      have hrb := runeAt_bd rim (p : Int)
      refine Wx.rd (v := .bool true) (rd_extract rfl rfl) rfl ?_
      refine Wx.nil ?_
      refine W.seq ?_
      refine W.condT rfl rfl ?_
      refine W.skip ?_
      refine W.block ?_
      refine W.seq ?_
      refine W.reg ?_
      refine Wx.rd (v := .int .i32 (runeAt rim (p : Int))) (rd_extract rfl rfl) rfl ?_
      refine Wx.rd (v := .int .i32 (runeAt rim (p : Int))) (rd_assign rfl) rfl ?_
      refine Wx.nil ?_
      refine W.seq ?_
      refine W.reg ?_
      refine Wx.rd (v := .int .i32 (runeAt rim (p : Int))) (rd_move rfl) rfl ?_
      refine Wx.callF (run_callF Tryz.call106 rfl) (C5.F106 (by first | assumption | (simp only [maxLen]; omega) | (simp only [ByteArray.size_extract, ByteArray.size_append, maxLen] at *; omega) | decide) (in_i32 (by omega) (by omega)) letS_asc (by decide) (by omega)) rfl ?_
      rintro r_9 w_10 hx_11 rfl
      have hS := hS.ext hx_11
      refine Wx.rd (v := .bool (!(hasRune letS (runeAt rim (p : Int))))) (rd_not rfl) rfl ?_
      refine Wx.nil ?_
      refine W.cond rfl (fun c2 => ?_) (fun c2 => ?_)
      · -- yes
        try simp only [Bool.and_eq_true, Bool.or_eq_true, Bool.not_eq_true', Bool.and_eq_false_iff, Bool.or_eq_false_iff, Bool.not_eq_false', decide_eq_true_eq, decide_eq_false_iff_not, not_or, Bool.false_eq_true, Bool.true_eq_false, false_or, or_false, not_false_eq_true] at c2
        have hnl := rune_not (s := rim) (p := (p : Int)) (by omega) c2
        refine W.seq ?_
        refine W.reg ?_
        refine Wx.rd (v := .int .i64 10) (rd_assign rfl) rfl ?_
        refine Wx.nil ?_
        have e1_0 : (rimE rim) = (10 : Int) := by exact rimE_bad (by omega) (by omega) hn hnl
        exact W.ret ⟨.int .i64 10, ResIs.one, hS.bel, (by rw [e1_0])⟩
      · -- no
        try simp only [Bool.and_eq_true, Bool.or_eq_true, Bool.not_eq_true', Bool.and_eq_false_iff, Bool.or_eq_false_iff, Bool.not_eq_false', decide_eq_true_eq, decide_eq_false_iff_not, not_or, Bool.false_eq_true, Bool.true_eq_false, false_or, or_false, not_false_eq_true] at c2
        have hle := rune_let (s := rim) (p := (p : Int)) (by omega) c2
        refine W.skip ?_
        refine ⟨p + (runeW rim (p : Int)).toNat, (by show rim.size - (p + (runeW rim (p : Int)).toNat) < rim.size - p; omega), ?_, ?_, Out.look rfl Out.self⟩
        · exact ⟨hS, (by omega), (fun q q0 q1 => by by_cases hq : q = (p : Int); (subst hq; exact hle.2); exact h2 q q0 (by omega))⟩
        · exact trivial
    · -- the end
      refine Wx.rd (v := .bool false) (rd_extract rfl rfl) rfl ?_
      refine Wx.nil ?_
      refine W.seq ?_
      refine W.condF rfl rfl ?_
      refine W.exit rfl ?_
      refine W.seq ?_
      refine W.reg ?_
      refine Wx.rd (v := .int .i64 0) (rd_assign rfl) rfl ?_
      refine Wx.nil ?_
      have e2_0 : (rimE rim) = (0 : Int) := by exact rimE_good (by omega) (fun q q0 q1 => h2 q q0 (by omega))
      exact W.ret ⟨.int .i64 0, ResIs.one, hS.bel, (by rw [e2_0])⟩

theorem C5.F107b {rim : ByteArray} {O : List (Option Nat)} {w : World} (s_rim : rim.size ≤ maxLen) (p_12 : (rim.size : Int) ≤ 12) (p_l : Lets rim) (hO : ∀ b, some b ∈ O → b < w.heap.size) (hG : Laid w) : Calls Tryz.prog 107 #[.string rim] w (Ret w (fun r w' => ∃ sv lv, r = .tuple #[sv, lv] ∧ V (tSl (tP (tI .i64) (tI .i64))) ((takS rim).1) sv O w' ∧ Fresh (tI .i64) 3 ((takS rim).2) lv w.heap.size w')) := by
  have hS := St.start w O hO
  refine enterR Tryz.func107 rfl Tryz.ntmps107 Tryz.results107 rfl ?_
  refine W.seq ?_
  refine W.reg ?_
  refine Wx.rd (v := (.slice none 0 0)) (rd_assign rfl) rfl ?_
  refine Wx.rd (v := (.slice none 0 0)) (rd_assign rfl) rfl ?_
  refine Wx.nil ?_
  refine W.seq ?_
  refine W.seq ?_
  refine W.reg ?_
  refine Wx.rd (v := .string rim) (rd_move rfl) rfl ?_
  refine Wx.rangeS (s := rim) hS rfl Tryz.underlying9 rfl (fun g_1 w_2 hx_3 hS => ?_)
  refine Wx.nil ?_
  refine W.block ?_
  have hS := hS.addNil (tP (tI .i64) (tI .i64)) 179
  have hS := hS.addNil (tI .i64) 3
  refine W.loop [2, 3, 4, 5, 8, 9, 10, 11, 12, 13, 14, 15, 16, 17, 18, 19, 20, 21, 22, 23, 24, 25, 26, 27, 28, 29, 30, 31, 32, 33, 34, 35, 36, 37, 38, 39, 40, 41, 42] (fun x : Value × (List (Int × Int)) × Value × (List Int) × Nat => match x with | (tv, st, lw, lf, p) => [(2, tv), (3, lw)]) (fun (x : Value × (List (Int × Int)) × Value × (List Int) × Nat) w' => match x with | (tv, st, lw, lf, p) => St w O w' [.row (tI .i64) 3 lw lf, .row (tP (tI .i64) (tI .i64)) 179 tv st, .raw g_1 (.stringIter rim p)] ∧ p ≤ rim.size ∧ runS rim (st, lf) (rng p rim.size) = takS rim ∧ (∀ x ∈ lf, 0 ≤ x ∧ x < p) ∧ 2 * (st.length : Int) + lf.length = p) (fun x : Value × (List (Int × Int)) × Value × (List Int) × Nat => match x with | (tv, st, lw, lf, p) => rim.size - p) ((.slice none 0 0), [], (.slice none 0 0), [], 0) ⟨rfl, rfl, trivial⟩ ⟨hS, (Nat.zero_le _), (rfl), (by simp), (rfl)⟩ ?_
  rintro ⟨tv, st, lw, lf, p⟩ u_5 w_4 ⟨hS, h1, h2, h3, h4⟩
  refine W.seq ?_
  refine W.reg ?_
  refine Wx.nextS hS 2 rfl rfl rfl (fun hn w_6 hz_7 hS => ?_) (fun hn => ?_)
  · -- a rune
    have hS : St _ _ w_6 [.row (tI .i64) 3 lw lf, .row (tP (tI .i64) (tI .i64)) 179 tv st, .raw g_1 (.stringIter rim (p + (runeW rim (p : Int)).toNat))] := hS
    have hra := (runeAt_ascii (s := rim) (p := (p : Int)) (by omega) (by have := isLet_bd (p_l p (by omega) (by omega)); omega)).2
    refine Wx.rd (v := .bool true) (rd_extract rfl rfl) rfl ?_
    refine Wx.nil ?_
    refine W.seq ?_
    refine W.condT rfl rfl ?_
    refine W.skip ?_
    refine W.block ?_
    refine W.seq ?_
    refine W.reg ?_
    refine Wx.rd (v := .int .i64 (p : Int)) (rd_extract rfl rfl) rfl ?_
    refine Wx.rd (v := .int .i64 (p : Int)) (rd_assign rfl) rfl ?_
    refine Wx.nil ?_
    refine W.seq ?_
    refine W.reg ?_
    refine Wx.rd (v := lw) (rd_move rfl) rfl ?_
    refine Wx.rd (v := .int .i64 (lf.length : Int)) (rd_lenR hS 0 rfl rfl Tryz.underlying25) rfl ?_
    refine Wx.rd (v := .int .i64 (lf.length : Int)) (rd_assign rfl) rfl ?_
    refine Wx.nil ?_
    refine W.seq ?_
    refine W.seq ?_
    refine W.reg ?_
    refine Wx.rd (v := .int .i64 (lf.length : Int)) (rd_move rfl) rfl ?_
    refine Wx.rd (v := .bool (decide (0 < (lf.length : Int)))) (rd_gtr rfl rfl) rfl ?_
    refine Wx.rd (v := .bool (decide (0 < (lf.length : Int)))) (rd_move rfl) rfl ?_
    refine Wx.cut (X := Unit) 9 [16, 17, 18, 19, 20, 21, 22, 23, 24] (fun _ => [(24, .bool (decide (0 < (lf.length : Int)) && fitR rim (ix 0 lf ((lf.length : Int) - 1)) (p : Int)))]) (fun _ w' => St w O w' [.row (tI .i64) 3 lw lf, .row (tP (tI .i64) (tI .i64)) 179 tv st, .raw g_1 (.stringIter rim (p + (runeW rim (p : Int)).toNat))]) ?_ ?_
    · rcases Bool.eq_false_or_eq_true (decide (0 < (lf.length : Int))) with g_9 | g_9
      · -- True
        have gp_10 := of_decide_eq_true g_9
        refine Wx.gyes rfl rfl (congrArg Value.bool g_9) ?_
        refine Wx.rd (v := .string rim) (rd_move rfl) rfl ?_
        refine Wx.gyes rfl rfl (congrArg Value.bool g_9) ?_
        refine Wx.rd (v := lw) (rd_move rfl) rfl ?_
        refine Wx.gyes rfl rfl (congrArg Value.bool g_9) ?_
        refine Wx.rd (v := .int .i64 (lf.length : Int)) (rd_move rfl) rfl ?_
        refine Wx.gyes rfl rfl (congrArg Value.bool g_9) ?_
        refine Wx.rd (v := .int .i64 ((lf.length : Int) - 1)) (rd_sub rfl rfl (in_i64 (by omega) (by omega))) rfl ?_
        refine Wx.gyes rfl rfl (congrArg Value.bool g_9) ?_
        refine Wx.indexR hS 0 rfl rfl rfl Tryz.underlying25 Tryz.sizeOf3 (by first | omega | (simp only [List.length_set, List.length_append, List.length_cons, List.length_nil, List.length_replicate]; omega)) (by first | omega | (simp only [List.length_set, List.length_append, List.length_cons, List.length_nil, List.length_replicate]; omega)) rfl (fun g_11 hg_12 => ?_)
        refine Wx.gyes rfl rfl (congrArg Value.bool g_9) ?_
        refine Wx.rd (v := .int .i64 (ix 0 lf ((lf.length : Int) - 1))) (rd_loadRI' hS 0 rfl hg_12 rfl (by first | omega | (simp only [List.length_set, List.length_append, List.length_cons, List.length_nil, List.length_replicate]; omega)) (by first | omega | (simp only [List.length_set, List.length_append, List.length_cons, List.length_nil, List.length_replicate]; omega)) Tryz.isAgg3 Tryz.sizeOf3) rfl ?_
        have bd_13 := bd_i64 (hS.rowInK' 0 rfl (by first | omega | (simp only [List.length_set, List.length_append, List.length_cons, List.length_nil, List.length_replicate]; omega)) (by first | omega | (simp only [List.length_set, List.length_append, List.length_cons, List.length_nil, List.length_replicate]; omega)) : InK .i64 (ix 0 lf ((lf.length : Int) - 1)))
        refine Wx.gyes rfl rfl (congrArg Value.bool g_9) ?_
        refine Wx.rd (v := .int .i64 (p : Int)) (rd_move rfl) rfl ?_
        refine Wx.gyes rfl rfl (congrArg Value.bool g_9) ?_
        have hlm := h3 (ix 0 lf ((lf.length : Int) - 1)) (ix_mem (by omega) (by omega))
        refine Wx.callF (run_callF Tryz.call119 rfl) (C5.F119 (by first | assumption | (simp only [maxLen]; omega) | (simp only [ByteArray.size_extract, ByteArray.size_append, maxLen] at *; omega) | decide) (in_i64 (by omega) (by omega)) (in_i64 (by omega) (by omega)) (by omega) (by omega) (by omega) (by omega) (by omega) (hG.ext hS.bel)) rfl ?_
        rintro r_14 w_15 hx_16 rfl
        have hS := hS.ext hx_16
        refine Wx.rd (v := .bool (fitR rim (ix 0 lf ((lf.length : Int) - 1)) (p : Int))) (rd_pickT (congrArg Value.bool g_9) rfl) rfl ?_
        refine Wx.nil ⟨(), hS, ⟨?_, trivial⟩, Out.look rfl Out.refl⟩
        show Value.bool (fitR rim (ix 0 lf ((lf.length : Int) - 1)) (p : Int)) = Value.bool (decide (0 < (lf.length : Int)) && fitR rim (ix 0 lf ((lf.length : Int) - 1)) (p : Int))
        first | rw [g_9, Bool.true_and] | (rw [g_9]; rfl)
      · -- False
        have gp_17 := of_decide_eq_false g_9
        refine Wx.gnoB rfl rfl (congrArg Value.bool g_9) rfl rfl ?_
        refine Wx.gnoB rfl rfl (congrArg Value.bool g_9) rfl rfl ?_
        refine Wx.gnoB rfl rfl (congrArg Value.bool g_9) rfl rfl ?_
        refine Wx.gnoB rfl rfl (congrArg Value.bool g_9) rfl rfl ?_
        refine Wx.gnoB rfl rfl (congrArg Value.bool g_9) rfl rfl ?_
        refine Wx.gnoB rfl rfl (congrArg Value.bool g_9) rfl rfl ?_
        refine Wx.gnoB rfl rfl (congrArg Value.bool g_9) rfl rfl ?_
        refine Wx.gnoB rfl rfl (congrArg Value.bool g_9) rfl rfl ?_
        refine Wx.rd (v := .bool false) (rd_pickF (congrArg Value.bool g_9) rfl) rfl ?_
        refine Wx.nil ⟨(), hS, ⟨?_, trivial⟩, Out.look rfl Out.refl⟩
        show Value.bool false = Value.bool (decide (0 < (lf.length : Int)) && fitR rim (ix 0 lf ((lf.length : Int) - 1)) (p : Int))
        first | rw [g_9, Bool.false_and] | (rw [g_9]; rfl)
    rintro ⟨⟩ u_19 w_18 hS
    refine Wx.nil ?_
    refine W.cond rfl (fun c1 => ?_) (fun c1 => ?_)
    · -- yes
      try simp only [Bool.and_eq_true, Bool.or_eq_true, Bool.not_eq_true', Bool.and_eq_false_iff, Bool.or_eq_false_iff, Bool.not_eq_false', decide_eq_true_eq, decide_eq_false_iff_not, not_or, Bool.false_eq_true, Bool.true_eq_false, false_or, or_false, not_false_eq_true] at c1
      refine W.seq ?_
      refine W.reg ?_
      refine Wx.rd (v := tv) (rd_move rfl) rfl ?_
      refine Wx.rd (v := lw) (rd_move rfl) rfl ?_
      refine Wx.rd (v := .int .i64 (lf.length : Int)) (rd_move rfl) rfl ?_
      refine Wx.rd (v := .int .i64 ((lf.length : Int) - 1)) (rd_sub rfl rfl (in_i64 (by omega) (by omega))) rfl ?_
      refine Wx.indexR hS 0 rfl rfl rfl Tryz.underlying25 Tryz.sizeOf3 (by first | omega | (simp only [List.length_set, List.length_append, List.length_cons, List.length_nil, List.length_replicate]; omega)) (by first | omega | (simp only [List.length_set, List.length_append, List.length_cons, List.length_nil, List.length_replicate]; omega)) rfl (fun g_20 hg_21 => ?_)
      refine Wx.rd (v := .int .i64 (ix 0 lf ((lf.length : Int) - 1))) (rd_loadRI' hS 0 rfl hg_21 rfl (by first | omega | (simp only [List.length_set, List.length_append, List.length_cons, List.length_nil, List.length_replicate]; omega)) (by first | omega | (simp only [List.length_set, List.length_append, List.length_cons, List.length_nil, List.length_replicate]; omega)) Tryz.isAgg3 Tryz.sizeOf3) rfl ?_
      have bd_22 := bd_i64 (hS.rowInK' 0 rfl (by first | omega | (simp only [List.length_set, List.length_append, List.length_cons, List.length_nil, List.length_replicate]; omega)) (by first | omega | (simp only [List.length_set, List.length_append, List.length_cons, List.length_nil, List.length_replicate]; omega)) : InK .i64 (ix 0 lf ((lf.length : Int) - 1)))
      refine Wx.rd (v := .int .i64 (p : Int)) (rd_move rfl) rfl ?_
      refine Wx.rd (v := .agg #[.int .i64 (ix 0 lf ((lf.length : Int) - 1)), .int .i64 (p : Int)]) (rd_build (vs := [(0, .int .i64 (ix 0 lf ((lf.length : Int) - 1))), (1, .int .i64 (p : Int))]) rfl (by kernel_rfl)) rfl ?_
      refine Wx.lit (t := (tP (tI .i64) (tI .i64))) (ys := [(ix 0 lf ((lf.length : Int) - 1), (p : Int))]) (vs := [.agg #[.int .i64 (ix 0 lf ((lf.length : Int) - 1)), .int .i64 (p : Int)]]) elHb_157 hS rfl rfl ⟨(V.mk2 (in_i64 (by omega) (by omega)) (in_i64 (by omega) (by omega))), trivial⟩ (by decide) rfl (fun v_23 w_24 hx_25 hS => ?_)
      refine Wx.append elHb_157 hS 2 rfl rfl rfl (Src.ofR hS 0 rfl) (by simp only [maxLen]; first | omega | (simp; omega) | simp) (by first | omega | (simp; omega) | simp) rfl (fun v_26 w_27 hz_28 hS => ?_)
      refine Wx.rd (v := v_26) (rd_assign rfl) rfl ?_
      refine Wx.nil ?_
      refine W.seq ?_
      refine W.reg ?_
      refine Wx.rd (v := lw) (rd_move rfl) rfl ?_
      refine Wx.rd (v := .int .i64 (lf.length : Int)) (rd_move rfl) rfl ?_
      refine Wx.rd (v := .int .i64 ((lf.length : Int) - 1)) (rd_sub rfl rfl (in_i64 (by omega) (by omega))) rfl ?_
      obtain ⟨g_29, c_30, rfl, hc_31⟩ := hS.rowForm 1 rfl (by omega)
      refine Wx.rd (v := (.slice (some ⟨g_29, 0, none⟩) ((lf.length : Int) - 1).toNat c_30)) (rd_headO Tryz.underlying25 Tryz.sizeOf3 rfl rfl (by omega) (by omega)) rfl ?_
      have hS : St _ _ _ [.row (tP (tI .i64) (tI .i64)) 179 v_23 [(ix 0 lf ((lf.length : Int) - 1), (p : Int))], .row (tI .i64) 3 (.slice (some ⟨g_29, 0, none⟩) ((lf.length : Int) - 1).toNat c_30) (List.take ((lf.length : Int) - 1).toNat lf), .row (tP (tI .i64) (tI .i64)) 179 v_26 (st ++ [(ix 0 lf ((lf.length : Int) - 1), (p : Int))]), .raw g_1 (.stringIter rim (p + (runeW rim (p : Int)).toNat))] := hS.shrink (m := ((lf.length : Int) - 1).toNat) 1 rfl (by omega)
      refine Wx.rd (v := (.slice (some ⟨g_29, 0, none⟩) ((lf.length : Int) - 1).toNat c_30)) (rd_assign rfl) rfl ?_
      refine Wx.nil ?_
      refine W.exit rfl ?_
      refine ⟨(v_26, st ++ [(ix 0 lf ((lf.length : Int) - 1), (p : Int))], (.slice (some ⟨g_29, 0, none⟩) ((lf.length : Int) - 1).toNat c_30), List.take ((lf.length : Int) - 1).toNat lf, p + (runeW rim (p : Int)).toNat), (by show rim.size - (p + (runeW rim (p : Int)).toNat) < rim.size - p; omega), ?_, ?_, Out.look rfl (Out.hav rfl (Out.look rfl Out.self))⟩
      · exact ⟨hS.tl, (by omega), (by rw [← h2, rng_cons (i := (p : Int)) (by omega), runS_cons, show ((p + (runeW rim (p : Int)).toNat : Nat) : Int) = (p : Int) + 1 by omega]; first | rw [stepS_yes c1.1 c1.2] | rw [stepS_no c1]), (fun x hx => by first | (have := h3 x (List.mem_of_mem_take hx); omega) | (rcases List.mem_append.1 hx with hx | hx; (have := h3 x hx; omega); (rw [List.mem_singleton] at hx; omega))), (by simp only [List.length_append, List.length_take, List.length_cons, List.length_nil]; omega)⟩
      · exact ⟨rfl, rfl, trivial⟩
    · -- no
      try simp only [Bool.and_eq_true, Bool.or_eq_true, Bool.not_eq_true', Bool.and_eq_false_iff, Bool.or_eq_false_iff, Bool.not_eq_false', decide_eq_true_eq, decide_eq_false_iff_not, not_or, Bool.false_eq_true, Bool.true_eq_false, false_or, or_false, not_false_eq_true] at c1
      refine W.skip ?_
      refine W.reg ?_
      refine Wx.rd (v := lw) (rd_move rfl) rfl ?_
      refine Wx.rd (v := .int .i64 (p : Int)) (rd_move rfl) rfl ?_
      refine Wx.lit (t := (tI .i64)) (ys := [(p : Int)]) (vs := [.int .i64 (p : Int)]) elHb_25 hS rfl rfl ⟨(V.mkInt (in_i64 (by omega) (by omega))), trivial⟩ (by decide) rfl (fun v_32 w_33 hx_34 hS => ?_)
      refine Wx.append elHb_25 hS 1 rfl rfl rfl (Src.ofR hS 0 rfl) (by simp only [maxLen]; first | omega | (simp; omega) | simp) (by first | omega | (simp; omega) | simp) rfl (fun v_35 w_36 hz_37 hS => ?_)
      refine Wx.rd (v := v_35) (rd_assign rfl) rfl ?_
      refine Wx.nil ?_
      refine ⟨(tv, st, v_35, lf ++ [(p : Int)], p + (runeW rim (p : Int)).toNat), (by show rim.size - (p + (runeW rim (p : Int)).toNat) < rim.size - p; omega), ?_, ?_, Out.look rfl (Out.hav rfl (Out.look rfl Out.self))⟩
      · exact ⟨hS.tl, (by omega), (by rw [← h2, rng_cons (i := (p : Int)) (by omega), runS_cons, show ((p + (runeW rim (p : Int)).toNat : Nat) : Int) = (p : Int) + 1 by omega]; first | rw [stepS_yes c1.1 c1.2] | rw [stepS_no c1]), (fun x hx => by first | (have := h3 x (List.mem_of_mem_take hx); omega) | (rcases List.mem_append.1 hx with hx | hx; (have := h3 x hx; omega); (rw [List.mem_singleton] at hx; omega))), (by simp only [List.length_append, List.length_take, List.length_cons, List.length_nil]; omega)⟩
      · exact ⟨rfl, rfl, trivial⟩
  · -- the end
    refine Wx.rd (v := .bool false) (rd_extract rfl rfl) rfl ?_
    refine Wx.nil ?_
    refine W.seq ?_
    refine W.condF rfl rfl ?_
    refine W.exit rfl ?_
    refine W.seq ?_
    refine W.reg ?_
    refine Wx.rd (v := tv) (rd_move rfl) rfl ?_
    refine Wx.rd (v := lw) (rd_move rfl) rfl ?_
    refine Wx.rd (v := tv) (rd_assign rfl) rfl ?_
    refine Wx.rd (v := lw) (rd_assign rfl) rfl ?_
    refine Wx.nil ?_
    have e0_0 : (takS rim).1 = st := by rw [← h2, rng_nil (by omega)]; rfl
    have e0_1 : (takS rim).2 = lf := by rw [← h2, rng_nil (by omega)]; rfl
    exact W.ret ⟨.tuple #[tv, lw], ResIs.two, hS.bel, ⟨tv, lw, rfl, (by rw [e0_0]; exact ((hS.lend 1 rfl).mv (.less (fun _ h => List.mem_append.2 (.inr h))))), (by rw [e0_1]; exact (hS.fr 0 rfl flat_int))⟩⟩

end Go.Proofs.YtlibemgaepkceaaGreatDoor

namespace Go.Proofs.YtlibemgaepkceaaGreatDoor
open Go.Wk Go.RowKit Go.Lib
set_option linter.unusedVariables false
set_option linter.unusedSimpArgs false


theorem C5.F102 {rim : ByteArray} {w : World} (s_rim : rim.size ≤ maxLen) (p_12 : (rim.size : Int) ≤ 12) (p_l : Lets rim) (hG : Laid w) : Calls Tryz.prog 102 #[.string rim] w (Ret w (fun r _ => r = .string (restV rim))) := by
  have hlb := takS_bd (s := rim)
  have hS := St.start0 w
  refine enterR Tryz.func102 rfl Tryz.ntmps102 Tryz.results102 rfl ?_
  refine W.seq ?_
  refine W.reg ?_
  refine Wx.rd (v := .string ({ data := #[] } : ByteArray)) (rd_assign rfl) rfl ?_
  refine Wx.nil ?_
  refine W.seq ?_
  refine W.reg ?_
  refine Wx.alloc (cs := [(.pointer none), (.slice none 0 0)]) hS Tryz.zeroValue156 rfl rfl (fun g_1 w_2 hx_4 hb_3 hS => ?_)
  refine Wx.nil ?_
  refine W.seq ?_
  refine W.reg ?_
  refine Wx.rd (v := .string rim) (rd_move rfl) rfl ?_
  refine Wx.callF (run_callF Tryz.call107 rfl) (C5.F107b (by first | assumption | (simp only [maxLen]; omega) | (simp only [ByteArray.size_extract, ByteArray.size_append, maxLen] at *; omega) | decide) (by omega) (by omega) hS.fb_lt (hG.ext hS.bel)) rfl ?_
  rintro r_5 w_6 hx_7 ⟨v_8, v_9, rfl, hv_10, hv_11⟩
  have hS := hS.pushFr hx_7 hv_11
  refine Wx.rd (v := .tuple #[v_8, v_9]) (rd_move rfl) rfl ?_
  refine Wx.rd (v := v_8) (rd_extract rfl rfl) rfl ?_
  refine Wx.rd (v := v_9) (rd_extract rfl rfl) rfl ?_
  refine Wx.rd (v := v_8) (rd_assign rfl) rfl ?_
  refine Wx.rd (v := v_9) (rd_assign rfl) rfl ?_
  refine Wx.nil ?_
  refine W.seq ?_
  refine W.seq ?_
  refine W.reg ?_
  refine Wx.rd (v := v_9) (rd_move rfl) rfl ?_
  refine Wx.rd (v := .int .i64 (((takS rim).2).length : Int)) (rd_lenR hS 0 rfl rfl Tryz.underlying25) rfl ?_
  refine Wx.rd (v := .int .i64 0) (rd_move rfl) rfl ?_
  refine Wx.nil ?_
  refine W.block ?_
  have hbd := bld_start hS 1 rfl
  have hS := (hS.front 1 rfl).tl
  refine W.loop [7, 15, 16, 17, 18, 19, 20, 21, 22, 23] (fun (k : Int) => [(15, .int .i64 k)]) (fun (k : Int) w' => St w [] w' [.row (tI .i64) 3 v_9 ((takS rim).2)] ∧ 0 ≤ k ∧ k ≤ (takS rim).2.length ∧ Lib.IsBuilderF 156 5 w.heap.size g_1 (Go.Lib.byteCells (((takS rim).2.take k.toNat).map (byteAt rim))) w') (fun (k : Int) => ((takS rim).2.length - k).toNat) 0 ⟨rfl, trivial⟩ ⟨hS, (by first | omega | simp), (by first | omega | simp), (hbd)⟩ ?_
  rintro k u_15 w_14 ⟨hS, h0, h1, hbd⟩
  refine W.seq ?_
  refine W.reg ?_
  refine Wx.rd (v := .bool (decide (k < (((takS rim).2).length : Int)))) (rd_lss rfl rfl) rfl ?_
  refine Wx.nil ?_
  refine W.seq ?_
  refine W.condD rfl (fun c0 => ?_) (fun c0 => ?_)
  · -- yes
    have hkb := hlb.1 (ix 0 (takS rim).2 k) (ix_mem h0 c0)
    refine W.skip ?_
    refine W.seq ?_
    refine W.block ?_
    refine W.seq ?_
    refine W.reg ?_
    refine Wx.indexR hS 0 rfl rfl rfl Tryz.underlying25 Tryz.sizeOf3 (by first | omega | (simp only [List.length_set, List.length_append, List.length_cons, List.length_nil, List.length_replicate]; omega)) (by first | omega | (simp only [List.length_set, List.length_append, List.length_cons, List.length_nil, List.length_replicate]; omega)) rfl (fun g_16 hg_17 => ?_)
    refine Wx.rd (v := .int .i64 (ix 0 ((takS rim).2) k)) (rd_loadRI' hS 0 rfl hg_17 rfl (by first | omega | (simp only [List.length_set, List.length_append, List.length_cons, List.length_nil, List.length_replicate]; omega)) (by first | omega | (simp only [List.length_set, List.length_append, List.length_cons, List.length_nil, List.length_replicate]; omega)) Tryz.isAgg3 Tryz.sizeOf3) rfl ?_
    have bd_18 := bd_i64 (hS.rowInK' 0 rfl (by first | omega | (simp only [List.length_set, List.length_append, List.length_cons, List.length_nil, List.length_replicate]; omega)) (by first | omega | (simp only [List.length_set, List.length_append, List.length_cons, List.length_nil, List.length_replicate]; omega)) : InK .i64 (ix 0 ((takS rim).2) k))
    refine Wx.rd (v := .int .i64 (ix 0 ((takS rim).2) k)) (rd_assign rfl) rfl ?_
    refine Wx.nil ?_
    refine W.reg ?_
    refine Wx.rd (v := .string rim) (rd_move rfl) rfl ?_
    refine Wx.rd (v := .int .i64 (ix 0 ((takS rim).2) k)) (rd_move rfl) rfl ?_
    refine Wx.rd (v := .int .u8 (tabAt rim (ix 0 ((takS rim).2) k))) (rd_indexS' (by kernel_rfl) rfl Tryz.underlying9 (by omega) (by omega)) rfl ?_
    have bd_19 := tabAt_bd rim (ix 0 ((takS rim).2) k)
    refine Wx.callB (run_callF Tryz.call108 rfl) (F108 hbd rfl (by rw [List.length_map, List.length_take]; omega) hS.bel.size) rfl ?_
    rintro r_20 w_21 ⟨rfl, hbd2, hBe, hBk⟩
    have hS := bld_keep hS hbd hBe hBk
    have hbd := hbd2
    refine Wx.nil ?_
    refine W.reg ?_
    refine Wx.rd (v := .int .i64 (k + 1)) (rd_add rfl rfl (in_i64 (by omega) (by omega))) rfl ?_
    refine Wx.rd (v := .int .i64 (k + 1)) (rd_move rfl) rfl ?_
    refine Wx.nil ?_
    refine ⟨k + 1, (by show ((takS rim).2.length - (k + 1)).toNat < ((takS rim).2.length - k).toNat; omega), ?_, ?_, Out.look rfl Out.self⟩
    · exact ⟨hS, (by first | omega | assumption), (by first | omega | assumption), (by rw [take_ix (d := 0) h0 c0, List.map_append]; exact hbd)⟩
    · exact ⟨rfl, trivial⟩
  · -- no
    refine W.exit rfl ?_
    refine W.seq ?_
    refine W.reg ?_
    refine Wx.callB (run_callF Tryz.call109 rfl) (F109 hbd hS.bel.size) rfl ?_
    rintro r_22 w_23 ⟨rfl, hBe⟩
    have hS := (St.start0 w).ext (Below.trans hS.bel hBe)
    refine Wx.rd (v := .string (mkB (((takS rim).2.take k.toNat).map (byteAt rim)))) (rd_assign rfl) rfl ?_
    refine Wx.nil ?_
    have e0_0 : (restV rim) = (mkB (((takS rim).2.take k.toNat).map (byteAt rim))) := by rw [restV, List.take_of_length_le (by omega)]
    exact W.ret ⟨.string (mkB (((takS rim).2.take k.toNat).map (byteAt rim))), ResIs.one, hS.bel, (by rw [e0_0])⟩
end Go.Proofs.YtlibemgaepkceaaGreatDoor

namespace Go.Proofs.YtlibemgaepkceaaGreatDoor
open Go.Wk Go.RowKit Go.Lib
set_option linter.unusedVariables false
set_option linter.unusedSimpArgs false


theorem C5.F95 {rim : ByteArray} {w : World} (s_rim : rim.size ≤ maxLen) (hG : Laid w) : Calls Tryz.prog 95 #[.string rim] w (Ret w (fun r _ => r = .tuple #[.string (restE rim), .int .i64 (rimE rim)])) := by
  have hS := St.start0 w
  refine enterR Tryz.func95 rfl Tryz.ntmps95 Tryz.results95 rfl ?_
  refine W.seq ?_
  refine W.reg ?_
  refine Wx.rd (v := .string ({ data := #[] } : ByteArray)) (rd_assign rfl) rfl ?_
  refine Wx.rd (v := .int .i64 0) (rd_assign rfl) rfl ?_
  refine Wx.nil ?_
  refine W.seq ?_
  refine W.seq ?_
  refine W.reg ?_
  refine Wx.rd (v := .string rim) (rd_move rfl) rfl ?_
  refine Wx.callF (run_callF Tryz.call101 rfl) (C5.F101 (by first | assumption | (simp only [maxLen]; omega) | (simp only [ByteArray.size_extract, ByteArray.size_append, maxLen] at *; omega) | decide)) rfl ?_
  rintro r_1 w_2 hx_3 rfl
  have hS := hS.ext hx_3
  refine Wx.rd (v := .int .i64 (rimE rim)) (rd_assign rfl) rfl ?_
  refine Wx.nil ?_
  refine W.seq ?_
  refine W.reg ?_
  refine Wx.rd (v := .int .i64 (rimE rim)) (rd_move rfl) rfl ?_
  refine Wx.rd (v := .bool (decide ((rimE rim) ≠ 0))) (rd_neq rfl rfl) rfl ?_
  refine Wx.nil ?_
  refine W.condD rfl (fun c0 => ?_) (fun c0 => ?_)
  · -- yes
    refine W.seq ?_
    refine W.reg ?_
    refine Wx.rd (v := .int .i64 (rimE rim)) (rd_move rfl) rfl ?_
    refine Wx.rd (v := .string ({ data := #[] } : ByteArray)) (rd_assign rfl) rfl ?_
    refine Wx.rd (v := .int .i64 (rimE rim)) (rd_assign rfl) rfl ?_
    refine Wx.nil ?_
    have e0_0 : (restE rim) = ({ data := #[] } : ByteArray) := by rw [restE, if_neg c0]; rfl
    exact W.ret ⟨.tuple #[.string ({ data := #[] } : ByteArray), .int .i64 (rimE rim)], ResIs.two, hS.bel, (by rw [e0_0])⟩
  · -- no
    have hr0 : rimE rim = 0 := by omega
    obtain ⟨hr1, hr2⟩ := rimE_ok hr0
    refine W.skip ?_
    refine W.seq ?_
    refine W.reg ?_
    refine Wx.rd (v := .string rim) (rd_move rfl) rfl ?_
    refine Wx.callF (run_callF Tryz.call102 rfl) (C5.F102 (by first | assumption | (simp only [maxLen]; omega) | (simp only [ByteArray.size_extract, ByteArray.size_append, maxLen] at *; omega) | decide) (by omega) hr2 (hG.ext hS.bel)) rfl ?_
    rintro r_4 w_5 hx_6 rfl
    have hS := hS.ext hx_6
    refine Wx.rd (v := .string (restV rim)) (rd_assign rfl) rfl ?_
    refine Wx.rd (v := .int .i64 0) (rd_assign rfl) rfl ?_
    refine Wx.nil ?_
    have e1_0 : (restE rim) = (restV rim) := by rw [restE, if_pos hr0]
    have e1_1 : (rimE rim) = (0 : Int) := by exact hr0
    exact W.ret ⟨.tuple #[.string (restV rim), .int .i64 0], ResIs.two, hS.bel, (by rw [e1_0, e1_1])⟩
end Go.Proofs.YtlibemgaepkceaaGreatDoor

namespace Go.Proofs.YtlibemgaepkceaaGreatDoor
open Go.Wk Go.RowKit Go.Lib
set_option linter.unusedVariables false
set_option linter.unusedSimpArgs false


set_option maxHeartbeats 2000000 in
theorem C5.F84  {w : World} (hG : Laid w) : Calls Tryz.prog 84 #[] w (Ret w (fun r _ => r = .bool true)) := by
  have hS := St.start0 w
  refine enterR Tryz.func84 rfl Tryz.ntmps84 Tryz.results84 rfl ?_
  refine W.seq ?_
  refine W.reg ?_
  refine Wx.rd (v := .bool false) (rd_assign rfl) rfl ?_
  refine Wx.nil ?_
  refine W.seq ?_
  refine W.reg ?_
  refine Wx.callF (run_callF Tryz.call95 rfl) (C5.F95 (by first | assumption | (simp only [maxLen]; omega) | (simp only [ByteArray.size_extract, ByteArray.size_append, maxLen] at *; omega) | decide) (hG.ext hS.bel)) rfl ?_
  rintro r_1 w_2 hx_3 rfl
  have hS := hS.ext hx_3
  refine Wx.rd (v := .tuple #[.string (restE ({ data := #[97, 98, 66, 99] } : ByteArray)), .int .i64 (rimE ({ data := #[97, 98, 66, 99] } : ByteArray))]) (rd_move rfl) rfl ?_
  refine Wx.rd (v := .string (restE ({ data := #[97, 98, 66, 99] } : ByteArray))) (rd_extract rfl rfl) rfl ?_
  refine Wx.rd (v := .int .i64 (rimE ({ data := #[97, 98, 66, 99] } : ByteArray))) (rd_extract rfl rfl) rfl ?_
  refine Wx.rd (v := .string (restE ({ data := #[97, 98, 66, 99] } : ByteArray))) (rd_assign rfl) rfl ?_
  refine Wx.rd (v := .int .i64 0) (Rd.to (v := .int .i64 (rimE ({ data := #[97, 98, 66, 99] } : ByteArray))) (rd_assign rfl) (congrArg (Value.int .i64) (show (0 : Int) = (rimE ({ data := #[97, 98, 66, 99] } : ByteArray) : Int) from (by decide +kernel)).symm)) rfl ?_
  refine Wx.nil ?_
  refine W.seq ?_
  refine W.reg ?_
  refine Wx.rd (v := .int .i64 0) (rd_move rfl) rfl ?_
  refine Wx.rd (v := .bool true) (Rd.to (v := .bool (decide ((0 : Int) = 0))) (rd_eql rfl rfl) rfl) rfl ?_
  refine Wx.rd (v := .bool true) (rd_move rfl) rfl ?_
  refine Wx.gyes rfl rfl rfl ?_
  refine Wx.rd (v := .string (restE ({ data := #[97, 98, 66, 99] } : ByteArray))) (rd_move rfl) rfl ?_
  refine Wx.gyes rfl rfl rfl ?_
  refine Wx.rd (v := .bool true) (Rd.to (v := .bool ((restE ({ data := #[97, 98, 66, 99] } : ByteArray)) == ({ data := #[97, 99] } : ByteArray))) (rd_eqlS rfl rfl) (congrArg (Value.bool) (show (true : Bool) = ((restE ({ data := #[97, 98, 66, 99] } : ByteArray)) == ({ data := #[97, 99] } : ByteArray) : Bool) from (by decide +kernel)).symm)) rfl ?_
  refine Wx.rd (v := .bool true) (rd_pickT rfl rfl) rfl ?_
  refine Wx.rd (v := .bool true) (rd_move rfl) rfl ?_
  refine Wx.gyes rfl rfl rfl ?_
  refine Wx.callF (run_callF Tryz.call96 rfl) (C3.F96) rfl ?_
  rintro r_4 w_5 hx_6 rfl
  have hS := hS.ext hx_6
  refine Wx.rd (v := .bool true) (rd_pickT rfl rfl) rfl ?_
  refine Wx.rd (v := .bool true) (rd_assign rfl) rfl ?_
  refine Wx.nil ?_
  exact W.ret ⟨.bool true, ResIs.one, hS.bel, rfl⟩
end Go.Proofs.YtlibemgaepkceaaGreatDoor

namespace Go.Proofs.YtlibemgaepkceaaGreatDoor
open Go.Wk Go.RowKit Go.Lib
set_option linter.unusedVariables false
set_option linter.unusedSimpArgs false
theorem elUa_25 : ElemI Tryz.prog 25 3 (.int .i64 0) 1 8 := ElemI.of Tryz.underlying25 (by kernel_rfl) (by first | rfl | kernel_rfl) (by decide)

theorem F99 {n : Int} {lo : Int} {hi : Int} {w : World} (i_n : InK .i64 n) (i_lo : InK .i64 lo) (i_hi : InK .i64 hi) : Calls Tryz.prog 99 #[.int .i64 n, .int .i64 lo, .int .i64 hi] w (Ret w (fun r _ => r = .bool (decide (lo ≤ n) && decide (n ≤ hi)))) := by
  have b_hi := bd_i64 i_hi
  have b_lo := bd_i64 i_lo
  have b_n := bd_i64 i_n
  have hS := St.start0 w
  refine enterR Tryz.func99 rfl Tryz.ntmps99 Tryz.results99 rfl ?_
  refine W.seq ?_
  refine W.reg ?_
  refine Wx.rd (v := .bool false) (rd_assign rfl) rfl ?_
  refine Wx.nil ?_
  refine W.seq ?_
  refine W.reg ?_
  refine Wx.rd (v := .int .i64 lo) (rd_move rfl) rfl ?_
  refine Wx.rd (v := .int .i64 n) (rd_move rfl) rfl ?_
  refine Wx.rd (v := .bool (decide (lo ≤ n))) (rd_leq rfl rfl) rfl ?_
  refine Wx.rd (v := .bool (decide (lo ≤ n))) (rd_move rfl) rfl ?_
  refine Wx.cut (X := Unit) 4 [11, 12, 13, 14] (fun _ => [(14, .bool (decide (lo ≤ n) && decide (n ≤ hi)))]) (fun _ w' => St w [] w' []) ?_ ?_
  · rcases Bool.eq_false_or_eq_true (decide (lo ≤ n)) with g_1 | g_1
    · -- True
      have gp_2 := of_decide_eq_true g_1
      refine Wx.gyes rfl rfl (congrArg Value.bool g_1) ?_
      refine Wx.rd (v := .int .i64 n) (rd_move rfl) rfl ?_
      refine Wx.gyes rfl rfl (congrArg Value.bool g_1) ?_
      refine Wx.rd (v := .int .i64 hi) (rd_move rfl) rfl ?_
      refine Wx.gyes rfl rfl (congrArg Value.bool g_1) ?_
      refine Wx.rd (v := .bool (decide (n ≤ hi))) (rd_leq rfl rfl) rfl ?_
      refine Wx.rd (v := .bool (decide (n ≤ hi))) (rd_pickT (congrArg Value.bool g_1) rfl) rfl ?_
      refine Wx.nil ⟨(), hS, ⟨?_, trivial⟩, Out.look rfl Out.refl⟩
      show Value.bool (decide (n ≤ hi)) = Value.bool (decide (lo ≤ n) && decide (n ≤ hi))
      first | rw [g_1, Bool.true_and] | (rw [g_1]; rfl)
    · -- False
      have gp_3 := of_decide_eq_false g_1
      refine Wx.gnoB rfl rfl (congrArg Value.bool g_1) rfl rfl ?_
      refine Wx.gnoB rfl rfl (congrArg Value.bool g_1) rfl rfl ?_
      refine Wx.gnoB rfl rfl (congrArg Value.bool g_1) rfl rfl ?_
      refine Wx.rd (v := .bool false) (rd_pickF (congrArg Value.bool g_1) rfl) rfl ?_
      refine Wx.nil ⟨(), hS, ⟨?_, trivial⟩, Out.look rfl Out.refl⟩
      show Value.bool false = Value.bool (decide (lo ≤ n) && decide (n ≤ hi))
      first | rw [g_1, Bool.false_and] | (rw [g_1]; rfl)
  rintro ⟨⟩ u_5 w_4 hS
  refine Wx.rd (v := .bool (decide (lo ≤ n) && decide (n ≤ hi))) (rd_assign rfl) rfl ?_
  refine Wx.nil ?_
  exact W.ret ⟨.bool (decide (lo ≤ n) && decide (n ≤ hi)), ResIs.one, hS.bel, rfl⟩

theorem F98 {z : Int} {w : World} (i_z : InK .i64 z) : Calls Tryz.prog 98 #[.int .i64 z] w (Ret w (fun r _ => r = .bool (!(decide (0 ≤ z) && decide (z ≤ 20))))) := by
  have b_z := bd_i64 i_z
  have hS := St.start0 w
  refine enterR Tryz.func98 rfl Tryz.ntmps98 Tryz.results98 rfl ?_
  refine W.seq ?_
  refine W.reg ?_
  refine Wx.rd (v := .bool false) (rd_assign rfl) rfl ?_
  refine Wx.nil ?_
  refine W.seq ?_
  refine W.reg ?_
  refine Wx.rd (v := .int .i64 z) (rd_move rfl) rfl ?_
  refine Wx.callF (run_callF Tryz.call99 rfl) (F99 i_z (in_i64 (by omega) (by omega)) (in_i64 (by omega) (by omega))) rfl ?_
  rintro r_1 w_2 hx_3 rfl
  have hS := hS.ext hx_3
  refine Wx.rd (v := .bool (!(decide (0 ≤ z) && decide (z ≤ 20)))) (rd_not rfl) rfl ?_
  refine Wx.rd (v := .bool (!(decide (0 ≤ z) && decide (z ≤ 20)))) (rd_assign rfl) rfl ?_
  refine Wx.nil ?_
  exact W.ret ⟨.bool (!(decide (0 ≤ z) && decide (z ≤ 20))), ResIs.one, hS.bel, rfl⟩

theorem F97 {xv : Value} {xs : List Int} {Fr_xv : List (Option Nat)} {w : World} (h_xv : V (tSl (tI .i64)) xs xv Fr_xv w) (p_b : ∀ z ∈ xs, 0 ≤ z ∧ z ≤ 20) : Calls Tryz.prog 97 #[.func (.func 98) #[] #[], xv] w (Ret w (fun r _ => r = .bool false)) := by
  have a_xv := h_xv.any
  have l_xv := h_xv.len63
  have hS := St.start0 w
  refine enterR Tryz.func97 rfl Tryz.ntmps97 Tryz.results97 rfl ?_
  refine W.seq ?_
  refine W.reg ?_
  refine Wx.rd (v := .bool false) (rd_assign rfl) rfl ?_
  refine Wx.nil ?_
  refine W.seq ?_
  refine W.seq ?_
  refine W.reg ?_
  refine Wx.rd (v := xv) (rd_move rfl) rfl ?_
  refine Wx.rd (v := .int .i64 (xs.length : Int)) (rd_lenV rfl (hS.arg a_xv) Tryz.underlying25) rfl ?_
  refine Wx.rd (v := .int .i64 0) (rd_move rfl) rfl ?_
  refine Wx.nil ?_
  refine W.block ?_
  refine W.loop [4, 6, 9, 10, 11, 12, 13, 14, 15, 16] (fun (k : Int) => [(9, .int .i64 k)]) (fun (k : Int) w' => St w [] w' [] ∧ 0 ≤ k ∧ k ≤ xs.length) (fun (k : Int) => (xs.length - k).toNat) 0 ⟨rfl, trivial⟩ ⟨hS, (by first | omega | simp), (by first | omega | simp)⟩ ?_
  rintro k u_2 w_1 ⟨hS, h0, h1⟩
  refine W.seq ?_
  refine W.reg ?_
  refine Wx.rd (v := .bool (decide (k < (xs.length : Int)))) (rd_lss rfl rfl) rfl ?_
  refine Wx.nil ?_
  refine W.seq ?_
  refine W.condD rfl (fun c0 => ?_) (fun c0 => ?_)
  · -- yes
    refine W.skip ?_
    refine W.seq ?_
    refine W.block ?_
    refine W.seq ?_
    refine W.reg ?_
    refine Wx.ex (rd_index 0 (hS.arg a_xv) rfl rfl Tryz.underlying25 Tryz.sizeOf3 (by first | omega | (simp only [List.length_set, List.length_append, List.length_cons, List.length_nil, List.length_replicate]; omega)) (by first | omega | (simp only [List.length_set, List.length_append, List.length_cons, List.length_nil, List.length_replicate]; omega))) rfl (fun p_3 hp_4 => ?_)
    refine Wx.rd (v := .int .i64 (ix 0 xs k)) (rd_loadI hp_4 rfl Tryz.isAgg3 Tryz.sizeOf3) rfl ?_
    have bd_5 := bd_i64 hp_4.inK
    refine Wx.rd (v := .int .i64 (ix 0 xs k)) (rd_assign rfl) rfl ?_
    refine Wx.nil ?_
    refine W.seq ?_
    refine W.reg ?_
    refine Wx.rd (v := .func (.func 98) #[] #[]) (rd_move rfl) rfl ?_
    refine Wx.rd (v := .int .i64 (ix 0 xs k)) (rd_move rfl) rfl ?_
    refine Wx.callF (run_callC (fs := []) (cs := []) (vs := [.int .i64 (ix 0 xs k)]) Tryz.call98 rfl rfl) (F98 (in_i64 (by omega) (by omega))) rfl ?_
    rintro r_6 w_7 hx_8 rfl
    have hS := hS.ext hx_8
    refine Wx.nil ?_
    refine W.condF rfl (by have := p_b _ (ix_inl h0 c0); simp; omega) ?_
    refine W.skip ?_
    refine W.reg ?_
    refine Wx.rd (v := .int .i64 (k + 1)) (rd_add rfl rfl (in_i64 (by omega) (by omega))) rfl ?_
    refine Wx.rd (v := .int .i64 (k + 1)) (rd_move rfl) rfl ?_
    refine Wx.nil ?_
    refine ⟨k + 1, (by show (xs.length - (k + 1)).toNat < (xs.length - k).toNat; omega), ?_, ?_, Out.look rfl Out.self⟩
    · exact ⟨hS, (by first | omega | assumption), (by first | omega | assumption)⟩
    · exact ⟨rfl, trivial⟩
  · -- no
    refine W.exit rfl ?_
    refine W.seq ?_
    refine W.reg ?_
    refine Wx.rd (v := .bool false) (rd_assign rfl) rfl ?_
    refine Wx.nil ?_
    exact W.ret ⟨.bool false, ResIs.one, hS.bel, rfl⟩

theorem F91 {vv : Value} {vs : List (List Int)} {Fr_vv : List (Option Nat)} {m : Int} {w : World} (h_vv : V (tSl (tSl (tI .i64))) vs vv Fr_vv w) (p_dv : DvOK vs m) : Calls Tryz.prog 91 #[vv] w (Ret w (fun r _ => r = .int .i64 0)) := by
  have hr0 := p_dv.l _ (row_mem p_dv (Int.le_refl 0) (by have := p_dv.n; omega))
  have hvn := p_dv.n
  have hm6 := p_dv.m6
  have a_vv := h_vv.any
  have l_vv := h_vv.len63
  have hS := St.start0 w
  refine enterR Tryz.func91 rfl Tryz.ntmps91 Tryz.results91 rfl ?_
  refine W.seq ?_
  refine W.reg ?_
  refine Wx.rd (v := .int .i64 0) (rd_assign rfl) rfl ?_
  refine Wx.nil ?_
  refine W.seq ?_
  refine W.block ?_
  refine W.seq ?_
  refine W.reg ?_
  refine Wx.rd (v := vv) (rd_move rfl) rfl ?_
  refine Wx.rd (v := .int .i64 (vs.length : Int)) (rd_lenV rfl (hS.arg a_vv) Tryz.underlying24) rfl ?_
  refine Wx.rd (v := .bool (decide ((vs.length : Int) = 0))) (rd_eql rfl rfl) rfl ?_
  refine Wx.rd (v := .bool (decide ((vs.length : Int) = 0))) (rd_assign rfl) rfl ?_
  refine Wx.nil ?_
  refine W.condF rfl (decide_eq_false (by omega)) ?_
  refine W.seq ?_
  refine W.reg ?_
  refine Wx.rd (v := vv) (rd_move rfl) rfl ?_
  refine Wx.rd (v := .int .i64 (vs.length : Int)) (rd_lenV rfl (hS.arg a_vv) Tryz.underlying24) rfl ?_
  refine Wx.rd (v := .bool (decide (4 < (vs.length : Int)))) (rd_gtr rfl rfl) rfl ?_
  refine Wx.rd (v := .bool (decide (4 < (vs.length : Int)))) (rd_move rfl) rfl ?_
  refine Wx.cut (X := Unit) 6 [14, 15, 16, 17, 18, 19] (fun _ => [(19, .bool (decide (4 < (vs.length : Int)) || decide (6 < ((ix [] vs 0).length : Int))))]) (fun _ w' => St w [] w' []) ?_ ?_
  · rcases Bool.eq_false_or_eq_true (decide (4 < (vs.length : Int))) with g_1 | g_1
    · -- True
      have gp_2 := of_decide_eq_true g_1
      refine Wx.gnoB rfl rfl (congrArg Value.bool g_1) rfl rfl ?_
      refine Wx.gnoB rfl rfl (congrArg Value.bool g_1) rfl rfl ?_
      refine Wx.gnoB rfl rfl (congrArg Value.bool g_1) rfl rfl ?_
      refine Wx.gnoB rfl rfl (congrArg Value.bool g_1) rfl rfl ?_
      refine Wx.gnoB rfl rfl (congrArg Value.bool g_1) rfl rfl ?_
      refine Wx.rd (v := .bool true) (rd_pickT (congrArg Value.bool g_1) rfl) rfl ?_
      refine Wx.nil ⟨(), hS, ⟨?_, trivial⟩, Out.look rfl Out.refl⟩
      show Value.bool true = Value.bool (decide (4 < (vs.length : Int)) || decide (6 < ((ix [] vs 0).length : Int)))
      first | rw [g_1, Bool.true_or] | (rw [g_1]; rfl)
    · -- False
      have gp_3 := of_decide_eq_false g_1
      refine Wx.gyes rfl rfl (congrArg Value.bool g_1) ?_
      refine Wx.rd (v := vv) (rd_move rfl) rfl ?_
      refine Wx.gyes rfl rfl (congrArg Value.bool g_1) ?_
      refine Wx.ex (rd_index [] (hS.arg a_vv) rfl rfl Tryz.underlying24 Tryz.sizeOf25 (by first | omega | (simp only [List.length_set, List.length_append, List.length_cons, List.length_nil, List.length_replicate]; omega)) (by first | omega | (simp only [List.length_set, List.length_append, List.length_cons, List.length_nil, List.length_replicate]; omega))) rfl (fun p_4 hp_5 => ?_)
      refine Wx.gyes rfl rfl (congrArg Value.bool g_1) ?_
      refine Wx.ex (rd_load hp_5 rfl Tryz.isAgg25 Tryz.sizeOf25) rfl (fun v_6 hv_7 => ?_)
      have ln_8 := hv_7.len63
      have hS := hS.add hv_7
      refine Wx.gyes rfl rfl (congrArg Value.bool g_1) ?_
      refine Wx.rd (v := .int .i64 ((ix [] vs 0).length : Int)) (rd_lenV rfl (hS.v 0 rfl) Tryz.underlying25) rfl ?_
      refine Wx.gyes rfl rfl (congrArg Value.bool g_1) ?_
      refine Wx.rd (v := .bool (decide (6 < ((ix [] vs 0).length : Int)))) (rd_gtr rfl rfl) rfl ?_
      refine Wx.rd (v := .bool (decide (6 < ((ix [] vs 0).length : Int)))) (rd_pickF (congrArg Value.bool g_1) rfl) rfl ?_
      refine Wx.nil ⟨(), hS.tl, ⟨?_, trivial⟩, Out.look rfl Out.refl⟩
      show Value.bool (decide (6 < ((ix [] vs 0).length : Int))) = Value.bool (decide (4 < (vs.length : Int)) || decide (6 < ((ix [] vs 0).length : Int)))
      first | rw [g_1, Bool.false_or] | (rw [g_1]; rfl)
  rintro ⟨⟩ u_11 w_10 hS
  refine Wx.rd (v := .bool (decide (4 < (vs.length : Int)) || decide (6 < ((ix [] vs 0).length : Int)))) (rd_assign rfl) rfl ?_
  refine Wx.nil ?_
  refine W.condF rfl (by simp; omega) ?_
  refine W.skip ?_
  refine W.seq ?_
  refine W.seq ?_
  refine W.reg ?_
  refine Wx.rd (v := vv) (rd_move rfl) rfl ?_
  refine Wx.rd (v := .int .i64 (vs.length : Int)) (rd_lenV rfl (hS.arg a_vv) Tryz.underlying24) rfl ?_
  refine Wx.rd (v := .int .i64 0) (rd_move rfl) rfl ?_
  refine Wx.nil ?_
  refine W.block ?_
  refine W.loop [2, 4, 22, 23, 24, 25, 26, 27, 28, 29, 30, 31, 32, 33, 34, 35, 36, 37] (fun (k : Int) => [(22, .int .i64 k)]) (fun (k : Int) w' => St w [] w' [] ∧ 0 ≤ k ∧ k ≤ vs.length) (fun (k : Int) => (vs.length - k).toNat) 0 ⟨rfl, trivial⟩ ⟨hS, (by first | omega | simp), (by first | omega | simp)⟩ ?_
  rintro k u_13 w_12 ⟨hS, h0, h1⟩
  refine W.seq ?_
  refine W.reg ?_
  refine Wx.rd (v := .bool (decide (k < (vs.length : Int)))) (rd_lss rfl rfl) rfl ?_
  refine Wx.nil ?_
  refine W.seq ?_
  refine W.condD rfl (fun c2 => ?_) (fun c2 => ?_)
  · -- yes
    have hkm := row_mem p_dv h0 c2
    have hkl := p_dv.l _ hkm
    refine W.skip ?_
    refine W.seq ?_
    refine W.block ?_
    refine W.seq ?_
    refine W.reg ?_
    refine Wx.ex (rd_index [] (hS.arg a_vv) rfl rfl Tryz.underlying24 Tryz.sizeOf25 (by first | omega | (simp only [List.length_set, List.length_append, List.length_cons, List.length_nil, List.length_replicate]; omega)) (by first | omega | (simp only [List.length_set, List.length_append, List.length_cons, List.length_nil, List.length_replicate]; omega))) rfl (fun p_14 hp_15 => ?_)
    refine Wx.ex (rd_load hp_15 rfl Tryz.isAgg25 Tryz.sizeOf25) rfl (fun v_16 hv_17 => ?_)
    have ln_18 := hv_17.len63
    have hS := hS.add hv_17
    refine Wx.rd (v := v_16) (rd_assign rfl) rfl ?_
    refine Wx.nil ?_
    refine W.block ?_
    refine W.seq ?_
    refine W.reg ?_
    refine Wx.rd (v := v_16) (rd_move rfl) rfl ?_
    refine Wx.rd (v := .int .i64 ((ix [] vs k).length : Int)) (rd_lenV rfl (hS.v 0 rfl) Tryz.underlying25) rfl ?_
    refine Wx.rd (v := vv) (rd_move rfl) rfl ?_
    refine Wx.ex (rd_index [] (hS.arg a_vv) rfl rfl Tryz.underlying24 Tryz.sizeOf25 (by first | omega | (simp only [List.length_set, List.length_append, List.length_cons, List.length_nil, List.length_replicate]; omega)) (by first | omega | (simp only [List.length_set, List.length_append, List.length_cons, List.length_nil, List.length_replicate]; omega))) rfl (fun p_20 hp_21 => ?_)
    refine Wx.ex (rd_load hp_21 rfl Tryz.isAgg25 Tryz.sizeOf25) rfl (fun v_22 hv_23 => ?_)
    have ln_24 := hv_23.len63
    have hS := hS.add hv_23
    refine Wx.rd (v := .int .i64 ((ix [] vs 0).length : Int)) (rd_lenV rfl (hS.v 0 rfl) Tryz.underlying25) rfl ?_
    refine Wx.rd (v := .bool (decide (((ix [] vs k).length : Int) ≠ ((ix [] vs 0).length : Int)))) (rd_neq rfl rfl) rfl ?_
    refine Wx.rd (v := .bool (decide (((ix [] vs k).length : Int) ≠ ((ix [] vs 0).length : Int)))) (rd_assign rfl) rfl ?_
    refine Wx.nil ?_
    refine W.condF rfl (decide_eq_false (by omega)) ?_
    refine W.seq ?_
    refine W.reg ?_
    refine Wx.rd (v := v_16) (rd_move rfl) rfl ?_
    refine Wx.callF (run_callF Tryz.call97 rfl) (F97 (hS.v 1 rfl) (p_dv.b _ hkm)) rfl ?_
    rintro r_26 w_27 hx_28 rfl
    have hS := hS.ext hx_28
    refine Wx.rd (v := .bool false) (rd_assign rfl) rfl ?_
    refine Wx.nil ?_
    refine W.condF rfl rfl ?_
    refine W.skip ?_
    refine W.reg ?_
    refine Wx.rd (v := .int .i64 (k + 1)) (rd_add rfl rfl (in_i64 (by omega) (by omega))) rfl ?_
    refine Wx.rd (v := .int .i64 (k + 1)) (rd_move rfl) rfl ?_
    refine Wx.nil ?_
    refine ⟨k + 1, (by show (vs.length - (k + 1)).toNat < (vs.length - k).toNat; omega), ?_, ?_, Out.look rfl Out.self⟩
    · exact ⟨St.tl (hS.tl), (by first | omega | assumption), (by first | omega | assumption)⟩
    · exact ⟨rfl, trivial⟩
  · -- no
    refine W.exit rfl ?_
    refine W.seq ?_
    refine W.reg ?_
    refine Wx.rd (v := .int .i64 0) (rd_assign rfl) rfl ?_
    refine Wx.nil ?_
    exact W.ret ⟨.int .i64 0, ResIs.one, hS.bel, rfl⟩

theorem F92 {vv : Value} {vs : List (List Int)} {m : Int} {O : List (Option Nat)} {w : World} (h_vv : V (tSl (tSl (tI .i64))) vs vv O w) (p_dv : DvOK vs m) (p_m : 1 ≤ m) (hO : ∀ b, some b ∈ O → b < w.heap.size) : Calls Tryz.prog 92 #[vv] w (Ret w (fun r w' => ∃ ov, r = .agg #[vv, ov] ∧ Fresh (tI .i64) 3 (List.replicate m.toNat (-1)) ov w.heap.size w')) := by
  have hr0 := p_dv.l _ (row_mem p_dv (Int.le_refl 0) (by have := p_dv.n; omega))
  have hvn := p_dv.n
  have hm6 := p_dv.m6
  have a_vv := h_vv
  have l_vv := h_vv.len63
  have hS := St.start w O hO
  refine enterR Tryz.func92 rfl Tryz.ntmps92 Tryz.results92 rfl ?_
  refine W.seq ?_
  refine W.reg ?_
  refine Wx.alloc (cs := [(.slice none 0 0), (.slice none 0 0)]) hS Tryz.zeroValue137 rfl rfl (fun g_1 w_2 hx_4 hb_3 hS => ?_)
  refine Wx.nil ?_
  refine W.seq ?_
  refine W.reg ?_
  refine Wx.rd (v := vv) (rd_move rfl) rfl ?_
  refine Wx.lit (t := (tI .i64)) (ys := [-1]) (vs := [.int .i64 (-1)]) elUa_25 hS rfl rfl ⟨(V.mkInt (in_i64 (by omega) (by omega))), trivial⟩ (by decide) rfl (fun v_5 w_6 hx_7 hS => ?_)
  refine Wx.rd (v := vv) (rd_move rfl) rfl ?_
  refine Wx.ex (rd_index [] (hS.arg a_vv) rfl rfl Tryz.underlying24 Tryz.sizeOf25 (by first | omega | (simp only [List.length_set, List.length_append, List.length_cons, List.length_nil, List.length_replicate]; omega)) (by first | omega | (simp only [List.length_set, List.length_append, List.length_cons, List.length_nil, List.length_replicate]; omega))) rfl (fun p_8 hp_9 => ?_)
  refine Wx.ex (rd_load hp_9 rfl Tryz.isAgg25 Tryz.sizeOf25) rfl (fun v_10 hv_11 => ?_)
  have ln_12 := hv_11.len63
  have hS := hS.add hv_11
  refine Wx.rd (v := .int .i64 ((ix [] vs 0).length : Int)) (rd_lenV rfl (hS.v 0 rfl) Tryz.underlying25) rfl ?_
  refine Wx.callF (run_callF Tryz.call47 rfl) (F47 (a := -1) (hS.lend 1 rfl) (in_i64 (by omega) (by omega)) (by omega) (by omega)) rfl ?_
  rintro r_14 w_15 hx_16 ⟨_, rfl, hv_17⟩
  have hS := hS.pushFr hx_16 hv_17
  refine Wx.rd (v := .agg #[vv, r_14]) (rd_buildC (vs := [(0, vv), (1, r_14)]) (us := [(0, .agg #[vv]), (1, .agg #[r_14])]) rfl (parts_cons (Go.Wk.cells_one (V.oneC (hS.arg a_vv))) (parts_cons (Go.Wk.cells_one (hS.rowOne 0 rfl)) parts_nil)) (by kernel_rfl)) rfl ?_
  refine Wx.storeX (cs' := [vv, r_14]) (ds := [vv, r_14]) hS 3 rfl rfl rfl rfl Tryz.sizeOf137 (Nat.le_of_ble_eq_true rfl) (one_cons (V.oneC (hS.arg a_vv)) (one_cons (hS.rowOne 0 rfl) one_nil)) rfl (fun w_19 hz_20 hS => ?_)
  refine Wx.nil ?_
  have e0_0 : List.replicate m.toNat (-1) = List.replicate ((ix [] vs 0).length : Int).toNat (-1) := by rw [hr0]
  exact W.ret ⟨.agg #[vv, r_14], (ResIs.cell1 hS 3 rfl rfl Tryz.isAgg137 Tryz.sizeOf137), hS.bel, ⟨r_14, rfl, (by rw [e0_0]; exact (hS.fr 0 rfl flat_int))⟩⟩
end Go.Proofs.YtlibemgaepkceaaGreatDoor

namespace Go.Proofs.YtlibemgaepkceaaGreatDoor
open Go.Wk Go.RowKit Go.Lib
set_option linter.unusedVariables false
set_option linter.unusedSimpArgs false
theorem foUb_137_1 : fldOff Tryz.prog 137 1 = some 1 := by kernel_rfl
theorem foUb_137_0 : fldOff Tryz.prog 137 0 = some 0 := by kernel_rfl

set_option maxHeartbeats 1000000 in
theorem F117 {vv : Value} {vs : List (List Int)} {Fr_vv : List (Option Nat)} {ov : Value} {ow : List Int} {Fr_ov : List (Option Nat)} {i : Int} {h : Int} {w : World} (h_vv : V (tSl (tSl (tI .i64))) vs vv Fr_vv w) (h_ov : V (tSl (tI .i64)) ow ov Fr_ov w) (i_i : InK .i64 i) (i_h : InK .i64 h) (p_dv : DvOK vs ow.length) (p_i : 0 ≤ i ∧ i < vs.length) : Calls Tryz.prog 117 #[.agg #[vv, ov], .int .i64 i, .int .i64 h] w (Ret w (fun r _ => r = .tuple #[.int .i64 ((shV vs ow i h).1), .int .i64 ((shV vs ow i h).2)])) := by
  have b_h := bd_i64 i_h
  have b_i := bd_i64 i_i
  have hrm := row_mem p_dv p_i.1 p_i.2
  have hrl := p_dv.l _ hrm
  have hm6 := p_dv.m6
  have a_vv := h_vv.any
  have l_vv := h_vv.len63
  have a_ov := h_ov.any
  have l_ov := h_ov.len63
  have hS := St.start0 w
  refine enterR Tryz.func117 rfl Tryz.ntmps117 Tryz.results117 rfl ?_
  refine W.seq ?_
  refine W.reg ?_
  refine Wx.box (cs := [vv, ov]) hS rfl rfl rfl (fun g_1 w_2 hx_4 hb_3 hS => ?_)
  refine Wx.rd (v := .int .i64 0) (rd_assign rfl) rfl ?_
  refine Wx.rd (v := .int .i64 0) (rd_assign rfl) rfl ?_
  refine Wx.nil ?_
  refine W.seq ?_
  refine W.seq ?_
  refine W.reg ?_
  refine Wx.rd (v := .pointer (some ⟨g_1, 1, none⟩)) (rd_fieldAddr rfl foUb_137_1) rfl ?_
  refine Wx.rd (v := ov) (rd_loadX hS 0 rfl rfl rfl Tryz.isAgg25) rfl ?_
  refine Wx.rd (v := .int .i64 (ow.length : Int)) (rd_lenV rfl (hS.arg a_ov) Tryz.underlying25) rfl ?_
  refine Wx.rd (v := .int .i64 0) (rd_move rfl) rfl ?_
  refine Wx.nil ?_
  refine W.block ?_
  refine W.loop [6, 7, 8, 9, 13, 14, 15, 16, 17, 18, 19, 20, 21, 22, 23, 24, 25, 26, 27, 28, 29, 30, 31, 32, 33, 34, 35, 36, 37, 38, 39, 40, 41] (fun x : Int × Int × Int => match x with | (s, mx, k) => [(6, .int .i64 s), (7, .int .i64 mx), (13, .int .i64 k)]) (fun (x : Int × Int × Int) w' => match x with | (s, mx, k) => St w [] w' [.box g_1 137 [vv, ov]] ∧ 0 ≤ k ∧ k ≤ ow.length ∧ (s, mx) = shK (ix [] vs i) ow h k) (fun x : Int × Int × Int => match x with | (s, mx, k) => (ow.length - k).toNat) (0, 0, 0) ⟨rfl, rfl, rfl, trivial⟩ ⟨hS, (by first | omega | simp), (by first | omega | simp), (rfl)⟩ ?_
  rintro ⟨s, mx, k⟩ u_6 w_5 ⟨hS, h0, h1, h2⟩
  refine W.seq ?_
  refine W.reg ?_
  refine Wx.rd (v := .bool (decide (k < (ow.length : Int)))) (rd_lss rfl rfl) rfl ?_
  refine Wx.nil ?_
  refine W.seq ?_
  refine W.condD rfl (fun c0 => ?_) (fun c0 => ?_)
  · -- yes
    have hsb := shk_bd (ow := ow) (h := h) (p_dv.b _ hrm) h0 (by omega)
    have hzb := p_dv.b _ hrm _ (List.mem_of_getElem? (ix_get (d := 0) (xs := ix [] vs i) (n := k) (by omega) h0))
    rw [← h2] at hsb
    simp only at hsb
    refine W.skip ?_
    refine W.seq ?_
    refine W.block ?_
    refine W.seq ?_
    refine W.reg ?_
    refine Wx.rd (v := .int .i64 k) (rd_move rfl) rfl ?_
    refine Wx.ex (rd_index 0 (hS.arg a_ov) rfl rfl Tryz.underlying25 Tryz.sizeOf3 (by first | omega | (simp only [List.length_set, List.length_append, List.length_cons, List.length_nil, List.length_replicate]; omega)) (by first | omega | (simp only [List.length_set, List.length_append, List.length_cons, List.length_nil, List.length_replicate]; omega))) rfl (fun p_7 hp_8 => ?_)
    refine Wx.rd (v := .int .i64 (ix 0 ow k)) (rd_loadI hp_8 rfl Tryz.isAgg3 Tryz.sizeOf3) rfl ?_
    have bd_9 := bd_i64 hp_8.inK
    refine Wx.rd (v := .int .i64 k) (rd_assign rfl) rfl ?_
    refine Wx.rd (v := .int .i64 (ix 0 ow k)) (rd_assign rfl) rfl ?_
    refine Wx.nil ?_
    refine W.seq ?_
    refine W.reg ?_
    refine Wx.rd (v := .int .i64 (ix 0 ow k)) (rd_move rfl) rfl ?_
    refine Wx.rd (v := .int .i64 h) (rd_move rfl) rfl ?_
    refine Wx.rd (v := .bool (decide ((ix 0 ow k) = h))) (rd_eql rfl rfl) rfl ?_
    refine Wx.nil ?_
    refine W.condD rfl (fun c1 => ?_) (fun c1 => ?_)
    · -- yes
      refine W.seq ?_
      refine W.reg ?_
      refine Wx.rd (v := .int .i64 s) (rd_move rfl) rfl ?_
      refine Wx.rd (v := .pointer (some ⟨g_1, 0, none⟩)) (rd_fieldAddr rfl foUb_137_0) rfl ?_
      refine Wx.rd (v := vv) (rd_loadX hS 0 rfl rfl rfl Tryz.isAgg24) rfl ?_
      refine Wx.rd (v := .int .i64 i) (rd_move rfl) rfl ?_
      refine Wx.ex (rd_index [] (hS.arg a_vv) rfl rfl Tryz.underlying24 Tryz.sizeOf25 (by first | omega | (simp only [List.length_set, List.length_append, List.length_cons, List.length_nil, List.length_replicate]; omega)) (by first | omega | (simp only [List.length_set, List.length_append, List.length_cons, List.length_nil, List.length_replicate]; omega))) rfl (fun p_10 hp_11 => ?_)
      refine Wx.ex (rd_load hp_11 rfl Tryz.isAgg25 Tryz.sizeOf25) rfl (fun v_12 hv_13 => ?_)
      have ln_14 := hv_13.len63
      have hS := hS.add hv_13
      refine Wx.rd (v := .int .i64 k) (rd_move rfl) rfl ?_
      refine Wx.ex (rd_index 0 (hS.v 0 rfl) rfl rfl Tryz.underlying25 Tryz.sizeOf3 (by first | omega | (simp only [List.length_set, List.length_append, List.length_cons, List.length_nil, List.length_replicate]; omega)) (by first | omega | (simp only [List.length_set, List.length_append, List.length_cons, List.length_nil, List.length_replicate]; omega))) rfl (fun p_16 hp_17 => ?_)
      refine Wx.rd (v := .int .i64 (ix 0 (ix [] vs i) k)) (rd_loadI hp_17 rfl Tryz.isAgg3 Tryz.sizeOf3) rfl ?_
      have bd_18 := bd_i64 hp_17.inK
      refine Wx.rd (v := .int .i64 (s + (ix 0 (ix [] vs i) k))) (rd_add rfl rfl (in_i64 (by omega) (by omega))) rfl ?_
      refine Wx.rd (v := .int .i64 (s + (ix 0 (ix [] vs i) k))) (rd_assign rfl) rfl ?_
      refine Wx.nil ?_
      refine W.reg ?_
      refine Wx.rd (v := .int .i64 mx) (rd_move rfl) rfl ?_
      refine Wx.rd (v := .pointer (some ⟨g_1, 0, none⟩)) (rd_fieldAddr rfl foUb_137_0) rfl ?_
      refine Wx.rd (v := vv) (rd_loadX hS 1 rfl rfl rfl Tryz.isAgg24) rfl ?_
      refine Wx.rd (v := .int .i64 i) (rd_move rfl) rfl ?_
      refine Wx.ex (rd_index [] (hS.arg a_vv) rfl rfl Tryz.underlying24 Tryz.sizeOf25 (by first | omega | (simp only [List.length_set, List.length_append, List.length_cons, List.length_nil, List.length_replicate]; omega)) (by first | omega | (simp only [List.length_set, List.length_append, List.length_cons, List.length_nil, List.length_replicate]; omega))) rfl (fun p_19 hp_20 => ?_)
      refine Wx.ex (rd_load hp_20 rfl Tryz.isAgg25 Tryz.sizeOf25) rfl (fun v_21 hv_22 => ?_)
      have ln_23 := hv_22.len63
      have hS := hS.add hv_22
      refine Wx.rd (v := .int .i64 k) (rd_move rfl) rfl ?_
      refine Wx.ex (rd_index 0 (hS.v 0 rfl) rfl rfl Tryz.underlying25 Tryz.sizeOf3 (by first | omega | (simp only [List.length_set, List.length_append, List.length_cons, List.length_nil, List.length_replicate]; omega)) (by first | omega | (simp only [List.length_set, List.length_append, List.length_cons, List.length_nil, List.length_replicate]; omega))) rfl (fun p_25 hp_26 => ?_)
      refine Wx.rd (v := .int .i64 (ix 0 (ix [] vs i) k)) (rd_loadI hp_26 rfl Tryz.isAgg3 Tryz.sizeOf3) rfl ?_
      have bd_27 := bd_i64 hp_26.inK
      refine Wx.rd (v := .int .i64 (max mx (ix 0 (ix [] vs i) k))) (rd_max rfl rfl) rfl ?_
      refine Wx.rd (v := .int .i64 (max mx (ix 0 (ix [] vs i) k))) (rd_assign rfl) rfl ?_
      refine Wx.nil ?_
      refine W.reg ?_
      refine Wx.rd (v := .int .i64 (k + 1)) (rd_add rfl rfl (in_i64 (by omega) (by omega))) rfl ?_
      refine Wx.rd (v := .int .i64 (k + 1)) (rd_move rfl) rfl ?_
      refine Wx.nil ?_
      refine ⟨(s + (ix 0 (ix [] vs i) k), max mx (ix 0 (ix [] vs i) k), k + 1), (by show (ow.length - (k + 1)).toNat < (ow.length - k).toNat; omega), ?_, ?_, Out.look rfl Out.self⟩
      · exact ⟨St.tl (hS.tl), (by first | omega | assumption), (by first | omega | assumption), (by rw [sh_next h0, ← h2, shS, if_pos c1])⟩
      · exact ⟨rfl, rfl, rfl, trivial⟩
    · -- no
      refine W.skip ?_
      refine W.reg ?_
      refine Wx.rd (v := .int .i64 (k + 1)) (rd_add rfl rfl (in_i64 (by omega) (by omega))) rfl ?_
      refine Wx.rd (v := .int .i64 (k + 1)) (rd_move rfl) rfl ?_
      refine Wx.nil ?_
      refine ⟨(s, mx, k + 1), (by show (ow.length - (k + 1)).toNat < (ow.length - k).toNat; omega), ?_, ?_, Out.look rfl Out.self⟩
      · exact ⟨hS, (by first | omega | assumption), (by first | omega | assumption), (by rw [sh_next h0, ← h2, shS, if_neg c1])⟩
      · exact ⟨rfl, rfl, rfl, trivial⟩
  · -- no
    refine W.exit rfl ?_
    refine W.seq ?_
    refine W.reg ?_
    refine Wx.rd (v := .int .i64 s) (rd_move rfl) rfl ?_
    refine Wx.rd (v := .int .i64 mx) (rd_move rfl) rfl ?_
    refine Wx.rd (v := .int .i64 s) (rd_assign rfl) rfl ?_
    refine Wx.rd (v := .int .i64 mx) (rd_assign rfl) rfl ?_
    refine Wx.nil ?_
    have he : shV vs ow i h = (s, mx) := by rw [shV, h2, show k = (ow.length : Int) by omega]
    have e0_0 : ((shV vs ow i h).1) = (s : Int) := by rw [he]
    have e0_1 : ((shV vs ow i h).2) = (mx : Int) := by rw [he]
    exact W.ret ⟨.tuple #[.int .i64 s, .int .i64 mx], ResIs.two, hS.bel, (by rw [e0_0, e0_1])⟩

set_option maxHeartbeats 1000000 in
theorem F105 {vv : Value} {vs : List (List Int)} {Fr_vv : List (Option Nat)} {ov : Value} {ow : List Int} {Fr_ov : List (Option Nat)} {i : Int} {h : Int} {w : World} (h_vv : V (tSl (tSl (tI .i64))) vs vv Fr_vv w) (h_ov : V (tSl (tI .i64)) ow ov Fr_ov w) (i_i : InK .i64 i) (i_h : InK .i64 h) (p_dv : DvOK vs ow.length) (p_i : 0 ≤ i ∧ i < vs.length) : Calls Tryz.prog 105 #[.agg #[vv, ov], .int .i64 i, .int .i64 h] w (Ret w (fun r _ => r = .tuple #[.int .i64 (envV vs ow i h), .int .i64 ((shV vs ow i h).1 - (shV vs ow i h).2 - (shV vs ow i i).1)])) := by
  have b_h := bd_i64 i_h
  have b_i := bd_i64 i_i
  have hb1 := shv_bd p_dv p_i.1 p_i.2 h
  have hb2 := shv_bd p_dv p_i.1 p_i.2 i
  have a_vv := h_vv.any
  have l_vv := h_vv.len63
  have a_ov := h_ov.any
  have l_ov := h_ov.len63
  have hS := St.start0 w
  refine enterR Tryz.func105 rfl Tryz.ntmps105 Tryz.results105 rfl ?_
  refine W.seq ?_
  refine W.reg ?_
  refine Wx.box (cs := [vv, ov]) hS rfl rfl rfl (fun g_1 w_2 hx_4 hb_3 hS => ?_)
  refine Wx.rd (v := .int .i64 0) (rd_assign rfl) rfl ?_
  refine Wx.rd (v := .int .i64 0) (rd_assign rfl) rfl ?_
  refine Wx.nil ?_
  refine W.seq ?_
  refine W.reg ?_
  refine Wx.rd (v := .agg #[vv, ov]) (rd_loadXs (ds := [vv, ov]) hS 0 rfl rfl rfl rfl Tryz.isAgg137 Tryz.sizeOf137) rfl ?_
  refine Wx.rd (v := .int .i64 i) (rd_move rfl) rfl ?_
  refine Wx.rd (v := .int .i64 i) (rd_move rfl) rfl ?_
  refine Wx.callF (run_callF Tryz.call117 rfl) (F117 (hS.arg a_vv) (hS.arg a_ov) i_i i_i (by omega) (by omega)) rfl ?_
  rintro r_5 w_6 hx_7 rfl
  have hS := hS.ext hx_7
  refine Wx.rd (v := .tuple #[.int .i64 ((shV vs ow i i).1), .int .i64 ((shV vs ow i i).2)]) (rd_move rfl) rfl ?_
  refine Wx.rd (v := .int .i64 ((shV vs ow i i).1)) (rd_extract rfl rfl) rfl ?_
  refine Wx.rd (v := .int .i64 ((shV vs ow i i).2)) (rd_extract rfl rfl) rfl ?_
  refine Wx.rd (v := .int .i64 ((shV vs ow i i).1)) (rd_assign rfl) rfl ?_
  refine Wx.rd (v := .int .i64 ((shV vs ow i i).2)) (rd_assign rfl) rfl ?_
  refine Wx.nil ?_
  refine W.seq ?_
  refine W.reg ?_
  refine Wx.rd (v := .agg #[vv, ov]) (rd_loadXs (ds := [vv, ov]) hS 0 rfl rfl rfl rfl Tryz.isAgg137 Tryz.sizeOf137) rfl ?_
  refine Wx.rd (v := .int .i64 i) (rd_move rfl) rfl ?_
  refine Wx.rd (v := .int .i64 h) (rd_move rfl) rfl ?_
  refine Wx.callF (run_callF Tryz.call117 rfl) (F117 (hS.arg a_vv) (hS.arg a_ov) i_i i_h (by omega) (by omega)) rfl ?_
  rintro r_8 w_9 hx_10 rfl
  have hS := hS.ext hx_10
  refine Wx.rd (v := .tuple #[.int .i64 ((shV vs ow i h).1), .int .i64 ((shV vs ow i h).2)]) (rd_move rfl) rfl ?_
  refine Wx.rd (v := .int .i64 ((shV vs ow i h).1)) (rd_extract rfl rfl) rfl ?_
  refine Wx.rd (v := .int .i64 ((shV vs ow i h).2)) (rd_extract rfl rfl) rfl ?_
  refine Wx.rd (v := .int .i64 ((shV vs ow i h).1)) (rd_assign rfl) rfl ?_
  refine Wx.rd (v := .int .i64 ((shV vs ow i h).2)) (rd_assign rfl) rfl ?_
  refine Wx.nil ?_
  refine W.seq ?_
  refine W.reg ?_
  refine Wx.rd (v := .int .i64 ((shV vs ow i h).1)) (rd_move rfl) rfl ?_
  refine Wx.rd (v := .int .i64 ((shV vs ow i i).1)) (rd_move rfl) rfl ?_
  refine Wx.rd (v := .int .i64 (((shV vs ow i h).1) - ((shV vs ow i i).1))) (rd_sub rfl rfl (in_i64 (by omega) (by omega))) rfl ?_
  refine Wx.rd (v := .int .i64 ((shV vs ow i h).1)) (rd_move rfl) rfl ?_
  refine Wx.rd (v := .int .i64 ((shV vs ow i h).2)) (rd_move rfl) rfl ?_
  refine Wx.rd (v := .int .i64 (((shV vs ow i h).1) - ((shV vs ow i h).2))) (rd_sub rfl rfl (in_i64 (by omega) (by omega))) rfl ?_
  refine Wx.rd (v := .int .i64 ((shV vs ow i i).1)) (rd_move rfl) rfl ?_
  refine Wx.rd (v := .int .i64 ((((shV vs ow i h).1) - ((shV vs ow i h).2)) - ((shV vs ow i i).1))) (rd_sub rfl rfl (in_i64 (by omega) (by omega))) rfl ?_
  refine Wx.rd (v := .int .i64 (((shV vs ow i h).1) - ((shV vs ow i i).1))) (rd_assign rfl) rfl ?_
  refine Wx.rd (v := .int .i64 ((((shV vs ow i h).1) - ((shV vs ow i h).2)) - ((shV vs ow i i).1))) (rd_assign rfl) rfl ?_
  refine Wx.nil ?_
  have e0_0 : (envV vs ow i h) = (((shV vs ow i h).1) - ((shV vs ow i i).1) : Int) := by rfl
  have e0_1 : ((shV vs ow i h).1 - (shV vs ow i h).2 - (shV vs ow i i).1) = ((((shV vs ow i h).1) - ((shV vs ow i h).2)) - ((shV vs ow i i).1) : Int) := by rfl
  exact W.ret ⟨.tuple #[.int .i64 (((shV vs ow i h).1) - ((shV vs ow i i).1)), .int .i64 ((((shV vs ow i h).1) - ((shV vs ow i h).2)) - ((shV vs ow i i).1))], ResIs.two, hS.bel, (by rw [e0_0, e0_1])⟩

set_option maxHeartbeats 1000000 in
theorem F100 {vv : Value} {vs : List (List Int)} {Fr_vv : List (Option Nat)} {ov : Value} {ow : List Int} {Fr_ov : List (Option Nat)} {h : Int} {w : World} (h_vv : V (tSl (tSl (tI .i64))) vs vv Fr_vv w) (h_ov : V (tSl (tI .i64)) ow ov Fr_ov w) (i_h : InK .i64 h) (p_dv : DvOK vs ow.length) : Calls Tryz.prog 100 #[.agg #[vv, ov], .int .i64 h] w (Ret w (fun r _ => r = .int .i64 (enmV vs ow h))) := by
  have b_h := bd_i64 i_h
  have a_vv := h_vv.any
  have l_vv := h_vv.len63
  have a_ov := h_ov.any
  have l_ov := h_ov.len63
  have hS := St.start0 w
  refine enterR Tryz.func100 rfl Tryz.ntmps100 Tryz.results100 rfl ?_
  refine W.seq ?_
  refine W.reg ?_
  refine Wx.box (cs := [vv, ov]) hS rfl rfl rfl (fun g_1 w_2 hx_4 hb_3 hS => ?_)
  refine Wx.rd (v := .int .i64 0) (rd_assign rfl) rfl ?_
  refine Wx.nil ?_
  refine W.seq ?_
  refine W.seq ?_
  refine W.reg ?_
  refine Wx.rd (v := .pointer (some ⟨g_1, 0, none⟩)) (rd_fieldAddr rfl foUb_137_0) rfl ?_
  refine Wx.rd (v := vv) (rd_loadX hS 0 rfl rfl rfl Tryz.isAgg24) rfl ?_
  refine Wx.rd (v := .int .i64 (vs.length : Int)) (rd_lenV rfl (hS.arg a_vv) Tryz.underlying24) rfl ?_
  refine Wx.rd (v := .int .i64 0) (rd_move rfl) rfl ?_
  refine Wx.nil ?_
  refine W.block ?_
  refine W.loop [4, 5, 6, 7, 11, 12, 13, 14, 15, 16, 17, 18, 19, 20, 21, 22, 23, 24] (fun (k : Int) => [(11, .int .i64 k)]) (fun (k : Int) w' => St w [] w' [.box g_1 137 [vv, ov]] ∧ 0 ≤ k ∧ k ≤ vs.length ∧ (rng 0 k).find? (fun j => decide (0 < envV vs ow j h)) = none) (fun (k : Int) => (vs.length - k).toNat) 0 ⟨rfl, trivial⟩ ⟨hS, (by first | omega | simp), (by first | omega | simp), (rfl)⟩ ?_
  rintro k u_6 w_5 ⟨hS, h0, h1, h2⟩
  refine W.seq ?_
  refine W.reg ?_
  refine Wx.rd (v := .bool (decide (k < (vs.length : Int)))) (rd_lss rfl rfl) rfl ?_
  refine Wx.nil ?_
  refine W.seq ?_
  refine W.condD rfl (fun c0 => ?_) (fun c0 => ?_)
  · -- yes
    have hkk : 0 ≤ k ∧ k < vs.length := ⟨h0, by omega⟩
    refine W.skip ?_
    refine W.seq ?_
    refine W.block ?_
    refine W.seq ?_
    refine W.reg ?_
    refine Wx.rd (v := .int .i64 k) (rd_move rfl) rfl ?_
    refine Wx.rd (v := .int .i64 k) (rd_assign rfl) rfl ?_
    refine Wx.nil ?_
    refine W.seq ?_
    refine W.reg ?_
    refine Wx.rd (v := .agg #[vv, ov]) (rd_loadXs (ds := [vv, ov]) hS 0 rfl rfl rfl rfl Tryz.isAgg137 Tryz.sizeOf137) rfl ?_
    refine Wx.rd (v := .int .i64 k) (rd_move rfl) rfl ?_
    refine Wx.rd (v := .int .i64 h) (rd_move rfl) rfl ?_
    refine Wx.callF (run_callF Tryz.call105 rfl) (F105 (hS.arg a_vv) (hS.arg a_ov) (in_i64 (by omega) (by omega)) i_h p_dv hkk) rfl ?_
    rintro r_7 w_8 hx_9 rfl
    have hS := hS.ext hx_9
    refine Wx.rd (v := .tuple #[.int .i64 (envV vs ow k h), .int .i64 ((shV vs ow k h).1 - (shV vs ow k h).2 - (shV vs ow k k).1)]) (rd_move rfl) rfl ?_
    refine Wx.rd (v := .int .i64 (envV vs ow k h)) (rd_extract rfl rfl) rfl ?_
    refine Wx.rd (v := .int .i64 ((shV vs ow k h).1 - (shV vs ow k h).2 - (shV vs ow k k).1)) (rd_extract rfl rfl) rfl ?_
    refine Wx.rd (v := .int .i64 (envV vs ow k h)) (rd_assign rfl) rfl ?_
    refine Wx.rd (v := .int .i64 ((shV vs ow k h).1 - (shV vs ow k h).2 - (shV vs ow k k).1)) (rd_assign rfl) rfl ?_
    refine Wx.nil ?_
    refine W.seq ?_
    refine W.reg ?_
    refine Wx.rd (v := .int .i64 (envV vs ow k h)) (rd_move rfl) rfl ?_
    refine Wx.rd (v := .bool (decide (0 < (envV vs ow k h)))) (rd_gtr rfl rfl) rfl ?_
    refine Wx.nil ?_
    refine W.condD rfl (fun c1 => ?_) (fun c1 => ?_)
    · -- yes
      refine W.seq ?_
      refine W.reg ?_
      refine Wx.rd (v := .int .i64 k) (rd_move rfl) rfl ?_
      refine Wx.rd (v := .int .i64 k) (rd_assign rfl) rfl ?_
      refine Wx.nil ?_
      have e0_0 : (enmV vs ow h) = (k : Int) := by exact fnd_hit h0 (by omega) h2 (decide_eq_true (by omega))
      exact W.ret ⟨.int .i64 k, ResIs.one, hS.bel, (by rw [e0_0])⟩
    · -- no
      refine W.skip ?_
      refine W.reg ?_
      refine Wx.rd (v := .int .i64 (k + 1)) (rd_add rfl rfl (in_i64 (by omega) (by omega))) rfl ?_
      refine Wx.rd (v := .int .i64 (k + 1)) (rd_move rfl) rfl ?_
      refine Wx.nil ?_
      refine ⟨k + 1, (by show (vs.length - (k + 1)).toNat < (vs.length - k).toNat; omega), ?_, ?_, Out.look rfl Out.self⟩
      · exact ⟨hS, (by first | omega | assumption), (by first | omega | assumption), (fnd_next h0 h2 (decide_eq_false (by omega)))⟩
      · exact ⟨rfl, trivial⟩
  · -- no
    refine W.exit rfl ?_
    refine W.seq ?_
    refine W.reg ?_
    refine Wx.rd (v := .int .i64 (-1)) (rd_assign rfl) rfl ?_
    refine Wx.nil ?_
    have e1_0 : (enmV vs ow h) = (-1 : Int) := by exact fnd_none h2 (by omega)
    exact W.ret ⟨.int .i64 (-1), ResIs.one, hS.bel, (by rw [e1_0])⟩

set_option maxHeartbeats 1000000 in
theorem F93 {vv : Value} {vs : List (List Int)} {Fr_vv : List (Option Nat)} {ov : Value} {ow : List Int} {Fr_ov : List (Option Nat)} {w : World} (h_vv : V (tSl (tSl (tI .i64))) vs vv Fr_vv w) (h_ov : V (tSl (tI .i64)) ow ov Fr_ov w) (p_dv : DvOK vs ow.length) : Calls Tryz.prog 93 #[.agg #[vv, ov]] w (Ret w (fun r _ => r = .int .i64 (calV vs ow))) := by
  have a_vv := h_vv.any
  have l_vv := h_vv.len63
  have a_ov := h_ov.any
  have l_ov := h_ov.len63
  have hS := St.start0 w
  refine enterR Tryz.func93 rfl Tryz.ntmps93 Tryz.results93 rfl ?_
  refine W.seq ?_
  refine W.reg ?_
  refine Wx.box (cs := [vv, ov]) hS rfl rfl rfl (fun g_1 w_2 hx_4 hb_3 hS => ?_)
  refine Wx.rd (v := .int .i64 0) (rd_assign rfl) rfl ?_
  refine Wx.nil ?_
  refine W.seq ?_
  refine W.seq ?_
  refine W.reg ?_
  refine Wx.rd (v := .pointer (some ⟨g_1, 0, none⟩)) (rd_fieldAddr rfl foUb_137_0) rfl ?_
  refine Wx.rd (v := vv) (rd_loadX hS 0 rfl rfl rfl Tryz.isAgg24) rfl ?_
  refine Wx.rd (v := .int .i64 (vs.length : Int)) (rd_lenV rfl (hS.arg a_vv) Tryz.underlying24) rfl ?_
  refine Wx.rd (v := .int .i64 0) (rd_move rfl) rfl ?_
  refine Wx.nil ?_
  refine W.block ?_
  refine W.loop [2, 3, 7, 8, 9, 10, 11, 12, 13, 14, 15] (fun (k : Int) => [(7, .int .i64 k)]) (fun (k : Int) w' => St w [] w' [.box g_1 137 [vv, ov]] ∧ 0 ≤ k ∧ k ≤ vs.length ∧ (rng 0 k).find? (fun i => decide (enmV vs ow i = -1)) = none) (fun (k : Int) => (vs.length - k).toNat) 0 ⟨rfl, trivial⟩ ⟨hS, (by first | omega | simp), (by first | omega | simp), (rfl)⟩ ?_
  rintro k u_6 w_5 ⟨hS, h0, h1, h2⟩
  refine W.seq ?_
  refine W.reg ?_
  refine Wx.rd (v := .bool (decide (k < (vs.length : Int)))) (rd_lss rfl rfl) rfl ?_
  refine Wx.nil ?_
  refine W.seq ?_
  refine W.condD rfl (fun c0 => ?_) (fun c0 => ?_)
  · -- yes
    refine W.skip ?_
    refine W.seq ?_
    refine W.block ?_
    refine W.seq ?_
    refine W.reg ?_
    refine Wx.rd (v := .int .i64 k) (rd_move rfl) rfl ?_
    refine Wx.rd (v := .int .i64 k) (rd_assign rfl) rfl ?_
    refine Wx.nil ?_
    refine W.seq ?_
    refine W.reg ?_
    refine Wx.rd (v := .agg #[vv, ov]) (rd_loadXs (ds := [vv, ov]) hS 0 rfl rfl rfl rfl Tryz.isAgg137 Tryz.sizeOf137) rfl ?_
    refine Wx.rd (v := .int .i64 k) (rd_move rfl) rfl ?_
    refine Wx.callF (run_callF Tryz.call100 rfl) (F100 (hS.arg a_vv) (hS.arg a_ov) (in_i64 (by omega) (by omega)) (by omega)) rfl ?_
    rintro r_7 w_8 hx_9 rfl
    have hS := hS.ext hx_9
    refine Wx.rd (v := .bool (decide ((enmV vs ow k) = (-1)))) (rd_eql rfl rfl) rfl ?_
    refine Wx.nil ?_
    refine W.condD rfl (fun c1 => ?_) (fun c1 => ?_)
    · -- yes
      refine W.seq ?_
      refine W.reg ?_
      refine Wx.rd (v := .int .i64 k) (rd_move rfl) rfl ?_
      refine Wx.rd (v := .int .i64 k) (rd_assign rfl) rfl ?_
      refine Wx.nil ?_
      have e0_0 : (calV vs ow) = (k : Int) := by exact fnd_hit h0 (by omega) h2 (decide_eq_true c1)
      exact W.ret ⟨.int .i64 k, ResIs.one, hS.bel, (by rw [e0_0])⟩
    · -- no
      refine W.skip ?_
      refine W.reg ?_
      refine Wx.rd (v := .int .i64 (k + 1)) (rd_add rfl rfl (in_i64 (by omega) (by omega))) rfl ?_
      refine Wx.rd (v := .int .i64 (k + 1)) (rd_move rfl) rfl ?_
      refine Wx.nil ?_
      refine ⟨k + 1, (by show (vs.length - (k + 1)).toNat < (vs.length - k).toNat; omega), ?_, ?_, Out.look rfl Out.self⟩
      · exact ⟨hS, (by first | omega | assumption), (by first | omega | assumption), (fnd_next h0 h2 (decide_eq_false c1))⟩
      · exact ⟨rfl, trivial⟩
  · -- no
    refine W.exit rfl ?_
    refine W.seq ?_
    refine W.reg ?_
    refine Wx.rd (v := .int .i64 (-1)) (rd_assign rfl) rfl ?_
    refine Wx.nil ?_
    have e1_0 : (calV vs ow) = (-1 : Int) := by exact fnd_none h2 (by omega)
    exact W.ret ⟨.int .i64 (-1), ResIs.one, hS.bel, (by rw [e1_0])⟩
end Go.Proofs.YtlibemgaepkceaaGreatDoor

namespace Go.Proofs.YtlibemgaepkceaaGreatDoor
open Go.Wk Go.RowKit Go.Lib
set_option linter.unusedVariables false
set_option linter.unusedSimpArgs false
theorem elUc_25 : ElemI Tryz.prog 25 3 (.int .i64 0) 1 8 := ElemI.of Tryz.underlying25 (by kernel_rfl) (by first | rfl | kernel_rfl) (by decide)
theorem mixedUc_ : Tryz.prog.follows .mixedOrders = true := by kernel_rfl
theorem foUc_137_1 : fldOff Tryz.prog 137 1 = some 1 := by kernel_rfl

set_option maxHeartbeats 2000000 in
theorem F94 {vv ov : Value} {vs : List (List Int)} {ow l : List Int} {ob : List Ob} {w0 w : World} {O : List (Option Nat)} (p_dv : DvOK vs ow.length) (p_l : wlkR vs ow 9 [] 0 = some l) (p_k : 0 ≤ idxP (eqI (enmV vs ow (ix 0 l (l.length - 1)))) 0 l) (hS : St w0 O w (Ob.v (tSl (tSl (tI .i64))) vs vv :: .row (tI .i64) 3 ov ow :: ob)) : Calls Tryz.prog 94 #[.agg #[vv, ov]] w (Bk fun r w' => r = .tuple #[] ∧ St w0 O w' (Ob.v (tSl (tSl (tI .i64))) vs vv :: .row (tI .i64) 3 ov (turV vs ow l) :: ob)) := by
  have hm6 := p_dv.m6
  refine enterB Tryz.func94 rfl Tryz.ntmps94 Tryz.results94 rfl ?_
  refine W.seq ?_
  refine W.reg ?_
  refine Wx.box (cs := [vv, ov]) hS rfl rfl rfl (fun g_1 w_2 hx_4 hb_3 hS => ?_)
  refine Wx.nil ?_
  refine W.seq ?_
  refine W.reg ?_
  refine Wx.rd (v := (.slice none 0 0)) (rd_assign rfl) rfl ?_
  refine Wx.nil ?_
  refine W.seq ?_
  refine W.seq ?_
  refine W.reg ?_
  refine Wx.rd (v := .int .i64 0) (rd_assign rfl) rfl ?_
  refine Wx.nil ?_
  refine W.block ?_
  have hS := hS.addNil (tI .i64) 3
  refine W.loop [2, 3, 9, 10, 11, 12, 13, 14, 15, 16, 17, 18, 19] (fun x : Int × Value × (List Int) × Nat => match x with | (i, lv, l2, n) => [(3, .int .i64 i), (2, lv)]) (fun (x : Int × Value × (List Int) × Nat) w' => match x with | (i, lv, l2, n) => St w0 O w' (.row (tI .i64) 3 lv l2 :: .box g_1 137 [vv, ov] :: Ob.v (tSl (tSl (tI .i64))) vs vv :: .row (tI .i64) 3 ov ow :: ob) ∧ wlkR vs ow n l2 i = some l ∧ (l2.length : Int) + n ≤ 9 ∧ -1 ≤ i ∧ i ≤ 4) (fun x : Int × Value × (List Int) × Nat => match x with | (i, lv, l2, n) => n) (0, (.slice none 0 0), [], 9) ⟨rfl, rfl, trivial⟩ ⟨hS, (p_l), (by decide), (by decide)⟩ ?_
  rintro ⟨i, lv, l2, n⟩ u_6 w_5 ⟨hS, h1, h3, h4⟩
  refine W.seq ?_
  refine W.seq ?_
  refine W.reg ?_
  refine Wx.rd (v := lv) (rd_move rfl) rfl ?_
  refine Wx.rd (v := .int .i64 i) (rd_move rfl) rfl ?_
  refine Wx.callF (run_callF Tryz.call65 rfl) (F65 (hS.lend 0 rfl) (in_i64 (by omega) (by omega))) rfl ?_
  rintro r_7 w_8 hx_9 rfl
  have hS := hS.ext hx_9
  refine Wx.rd (v := .bool (!(hasL l2 i))) (rd_not rfl) rfl ?_
  refine Wx.nil ?_
  refine W.cond rfl (fun c0 => ?_) (fun c0 => ?_)
  · -- yes
    try simp only [Bool.and_eq_true, Bool.or_eq_true, Bool.not_eq_true', Bool.and_eq_false_iff, Bool.or_eq_false_iff, Bool.not_eq_false', decide_eq_true_eq, decide_eq_false_iff_not, not_or, Bool.false_eq_true, Bool.true_eq_false, false_or, or_false, not_false_eq_true] at c0
    refine W.skip ?_
    refine W.seq ?_
    refine W.block ?_
    refine W.reg ?_
    refine Wx.rd (v := lv) (rd_move rfl) rfl ?_
    refine Wx.rd (v := .int .i64 i) (rd_move rfl) rfl ?_
    refine Wx.lit (t := (tI .i64)) (ys := [i]) (vs := [.int .i64 i]) elUc_25 hS rfl rfl ⟨(V.mkInt (in_i64 (by omega) (by omega))), trivial⟩ (by decide) rfl (fun v_10 w_11 hx_12 hS => ?_)
    refine Wx.append elUc_25 hS 1 rfl rfl rfl (Src.ofR hS 0 rfl) (by simp only [maxLen]; first | omega | (simp; omega) | simp) (by first | omega | (simp; omega) | simp) rfl (fun v_13 w_14 hz_15 hS => ?_)
    refine Wx.rd (v := v_13) (rd_assign rfl) rfl ?_
    refine Wx.nil ?_
    refine W.reg ?_
    refine Wx.rd (v := .agg #[vv, ov]) (rd_loadXs (ds := [vv, ov]) hS 2 rfl rfl rfl rfl Tryz.isAgg137 Tryz.sizeOf137) rfl ?_
    refine Wx.rd (v := .int .i64 i) (rd_move rfl) rfl ?_
    refine Wx.callF (run_callF Tryz.call100 rfl) (F100 (hS.v 3 rfl) (hS.lend 4 rfl) (in_i64 (by omega) (by omega)) p_dv) rfl ?_
    rintro r_16 w_17 hx_18 rfl
    have hS := hS.ext hx_18
    refine Wx.rd (v := .int .i64 (enmV vs ow i)) (rd_assign rfl) rfl ?_
    refine Wx.nil ?_
    refine ⟨(enmV vs ow i, v_13, l2 ++ [i], n - 1), (by have := (wlk_next h1 c0).2; show n - 1 < n; omega), ?_, ?_, Out.look rfl Out.self⟩
    · exact ⟨hS.tl, ((wlk_next h1 c0).1), (by have := (wlk_next h1 c0).2; simp only [List.length_append, List.length_cons, List.length_nil]; omega), (enm_bd p_dv _)⟩
    · exact ⟨rfl, rfl, trivial⟩
  · -- no
    try simp only [Bool.and_eq_true, Bool.or_eq_true, Bool.not_eq_true', Bool.and_eq_false_iff, Bool.or_eq_false_iff, Bool.not_eq_false', decide_eq_true_eq, decide_eq_false_iff_not, not_or, Bool.false_eq_true, Bool.true_eq_false, false_or, or_false, not_false_eq_true] at c0
    have hll : l2.length = l.length := congrArg List.length (wlk_end h1 c0)
    have hsay : l2 = l := wlk_end h1 c0
    rw [hsay] at hS
    have hS := hS.freeze 0 rfl
    have hlp : 0 < l.length := wlk_pos p_l
    have hen := enm_bd (ow := ow) p_dv (ix 0 l (l.length - 1))
    refine W.exit rfl ?_
    refine W.seq ?_
    refine W.regQ mixedUc_ (by kernel_rfl) ?_
    refine Wx.rd (v := .agg #[vv, ov]) (rd_loadXs (ds := [vv, ov]) hS 1 rfl rfl rfl rfl Tryz.isAgg137 Tryz.sizeOf137) rfl ?_
    refine Wx.rd (v := lv) (rd_move rfl) rfl ?_
    refine Wx.rd (v := lv) (rd_move rfl) rfl ?_
    refine Wx.rd (v := .int .i64 (l.length : Int)) (rd_lenV rfl (hS.v 0 rfl) Tryz.underlying25) rfl ?_
    refine Wx.rd (v := .int .i64 ((l.length : Int) - 1)) (rd_sub rfl rfl (in_i64 (by omega) (by omega))) rfl ?_
    refine Wx.ex (rd_index 0 (hS.v 0 rfl) rfl rfl Tryz.underlying25 Tryz.sizeOf3 (by first | omega | (simp only [List.length_set, List.length_append, List.length_cons, List.length_nil, List.length_replicate]; omega)) (by first | omega | (simp only [List.length_set, List.length_append, List.length_cons, List.length_nil, List.length_replicate]; omega))) rfl (fun p_20 hp_21 => ?_)
    refine Wx.rd (v := .int .i64 (ix 0 l ((l.length : Int) - 1))) (rd_loadI hp_21 rfl Tryz.isAgg3 Tryz.sizeOf3) rfl ?_
    have bd_22 := bd_i64 hp_21.inK
    refine Wx.callV (v := .int .i64 (enmV vs ow (ix 0 l ((l.length : Int) - 1)))) (run_callF Tryz.call100 rfl) (fun w_23 hw_24 => (F100 ((hS.v 2 rfl).ext hw_24) ((hS.lend 3 rfl).ext hw_24) (in_i64 (by omega) (by omega)) p_dv)) rfl ?_
    refine Wx.rd (v := .int .i64 (enmV vs ow (ix 0 l ((l.length : Int) - 1)))) (rd_assign rfl) rfl ?_
    refine Wx.nilQ (fun w_25 hx_26 => ?_)
    have hS := hS.ext hx_26
    refine W.seq ?_
    refine W.reg ?_
    refine Wx.rd (v := lv) (rd_move rfl) rfl ?_
    refine Wx.rd (v := lv) (rd_move rfl) rfl ?_
    refine Wx.rd (v := .int .i64 (enmV vs ow (ix 0 l ((l.length : Int) - 1)))) (rd_move rfl) rfl ?_
    refine Wx.callF (run_callF Tryz.call7 rfl) (F7 (hS.v 0 rfl) (in_i64 (by omega) (by omega))) rfl ?_
    rintro r_27 w_28 hx_29 rfl
    have hS := hS.ext hx_29
    rw [show (idxP (fun y => decide (y = (enmV vs ow (ix 0 l ((l.length : Int) - 1))))) 0 l : Int) = idxP (eqI (enmV vs ow (ix 0 l (l.length - 1)))) 0 l from rfl]
    have ib_30 := idxP_bd (fun y => decide (y = (enmV vs ow (ix 0 l ((l.length : Int) - 1))))) l 0 (Int.le_refl 0)
    have hik := idx_lt p_k
    have hdl : ((l.drop (idxP (eqI (enmV vs ow (ix 0 l (l.length - 1)))) 0 l).toNat).length : Int) = l.length - idxP (eqI (enmV vs ow (ix 0 l (l.length - 1)))) 0 l := by rw [List.length_drop]; omega
    have hrn : (((rinV vs ow l)).length : Int) = (l.drop (idxP (eqI (enmV vs ow (ix 0 l (l.length - 1)))) 0 l).toNat).length := rfl
    refine Wx.ex (rd_sliceL (hS.v 0 rfl) Tryz.underlying25 Tryz.sizeOf3 rfl rfl (by omega) (by omega)) rfl (fun u_31 hu_32 => ?_)
    have ln_33 := hu_32.len63
    have hS := hS.add hu_32
    refine Wx.rd (v := u_31) (rd_assign rfl) rfl ?_
    refine Wx.nil ?_
    refine W.seq ?_
    refine W.reg ?_
    refine Wx.rd (v := .pointer (some ⟨g_1, 1, none⟩)) (rd_fieldAddr rfl foUc_137_1) rfl ?_
    refine Wx.rd (v := ov) (rd_loadX hS 2 rfl rfl rfl Tryz.isAgg25) rfl ?_
    refine Wx.rd (v := .int .i64 (ow.length : Int)) (rd_lenR hS 4 rfl rfl Tryz.underlying25) rfl ?_
    refine Wx.rd (v := .int .i64 0) (rd_move rfl) rfl ?_
    refine Wx.nil ?_
    refine W.block ?_
    refine W.loop [6, 7, 8, 36, 37, 38, 39, 40, 41, 42, 43, 44, 45, 46, 47, 48, 49, 50, 51, 52, 53, 54, 55, 56, 57, 58] (fun x : Int × (List Int) => match x with | (k, o2) => [(36, .int .i64 k)]) (fun (x : Int × (List Int)) w' => match x with | (k, o2) => St w0 O w' (Ob.v (tSl (tI .i64)) (l.drop (idxP (eqI (enmV vs ow (ix 0 l (l.length - 1)))) 0 l).toNat) u_31 :: Ob.v (tSl (tI .i64)) l lv :: .box g_1 137 [vv, ov] :: Ob.v (tSl (tSl (tI .i64))) vs vv :: .row (tI .i64) 3 ov o2 :: ob) ∧ 0 ≤ k ∧ k ≤ ow.length ∧ o2 = mpK (turM (rinV vs ow l)) ow k) (fun x : Int × (List Int) => match x with | (k, o2) => (ow.length - k).toNat) (0, ow) ⟨rfl, trivial⟩ ⟨hS, (by first | omega | simp), (by first | omega | simp), (rfl)⟩ ?_
    rintro ⟨k, o2⟩ u_36 w_35 ⟨hS, k0, k1, k2⟩
    refine W.seq ?_
    refine W.reg ?_
    refine Wx.rd (v := .bool (decide (k < (ow.length : Int)))) (rd_lss rfl rfl) rfl ?_
    refine Wx.nil ?_
    refine W.seq ?_
    refine W.condD rfl (fun c1 => ?_) (fun c1 => ?_)
    · -- yes
      have hkk : k < ow.length := by omega
      have hml := mp_len (turM (rinV vs ow l)) ow k
      have hma := mp_at (f := turM (rinV vs ow l)) k0 hkk
      rw [← k2] at hml hma
      refine W.skip ?_
      refine W.seq ?_
      refine W.block ?_
      refine W.seq ?_
      refine W.reg ?_
      refine Wx.rd (v := .int .i64 k) (rd_move rfl) rfl ?_
      refine Wx.indexR hS 4 rfl rfl rfl Tryz.underlying25 Tryz.sizeOf3 (by first | omega | (simp only [List.length_set, List.length_append, List.length_cons, List.length_nil, List.length_replicate]; omega)) (by first | omega | (simp only [List.length_set, List.length_append, List.length_cons, List.length_nil, List.length_replicate]; omega)) rfl (fun g_37 hg_38 => ?_)
      refine Wx.rd (v := .int .i64 (ix 0 o2 k)) (rd_loadRI' hS 4 rfl hg_38 rfl (by first | omega | (simp only [List.length_set, List.length_append, List.length_cons, List.length_nil, List.length_replicate]; omega)) (by first | omega | (simp only [List.length_set, List.length_append, List.length_cons, List.length_nil, List.length_replicate]; omega)) Tryz.isAgg3 Tryz.sizeOf3) rfl ?_
      have bd_39 := bd_i64 (hS.rowInK' 4 rfl (by first | omega | (simp only [List.length_set, List.length_append, List.length_cons, List.length_nil, List.length_replicate]; omega)) (by first | omega | (simp only [List.length_set, List.length_append, List.length_cons, List.length_nil, List.length_replicate]; omega)) : InK .i64 (ix 0 o2 k))
      refine Wx.rd (v := .int .i64 k) (rd_assign rfl) rfl ?_
      refine Wx.rd (v := .int .i64 (ix 0 o2 k)) (rd_assign rfl) rfl ?_
      refine Wx.nil ?_
      refine W.seq ?_
      refine W.reg ?_
      refine Wx.rd (v := u_31) (rd_move rfl) rfl ?_
      refine Wx.rd (v := .int .i64 (ix 0 o2 k)) (rd_move rfl) rfl ?_
      refine Wx.callF (run_callF Tryz.call7 rfl) (F7 (hS.v 0 rfl) (in_i64 (by omega) (by omega))) rfl ?_
      rintro r_40 w_41 hx_42 rfl
      have hS := hS.ext hx_42
      rw [show (idxP (fun y => decide (y = (ix 0 o2 k))) 0 (l.drop (idxP (eqI (enmV vs ow (ix 0 l (l.length - 1)))) 0 l).toNat) : Int) = idxP (eqI (ix 0 ow k)) 0 (rinV vs ow l) from (by rw [← hma]; rfl)]
      have ib_43 := idxP_bd (fun y => decide (y = (ix 0 o2 k))) (l.drop (idxP (eqI (enmV vs ow (ix 0 l (l.length - 1)))) 0 l).toNat) 0 (Int.le_refl 0)
      refine Wx.rd (v := .int .i64 (idxP (eqI (ix 0 ow k)) 0 (rinV vs ow l))) (rd_assign rfl) rfl ?_
      refine Wx.nil ?_
      refine W.seq ?_
      refine W.reg ?_
      refine Wx.rd (v := .int .i64 (idxP (eqI (ix 0 ow k)) 0 (rinV vs ow l))) (rd_move rfl) rfl ?_
      refine Wx.rd (v := .bool (decide (0 ≤ (idxP (eqI (ix 0 ow k)) 0 (rinV vs ow l))))) (rd_geq rfl rfl) rfl ?_
      refine Wx.nil ?_
      refine W.condD rfl (fun c2 => ?_) (fun c2 => ?_)
      · -- yes
        have hjl := idx_lt c2
        have hm0 := Int.emod_nonneg (idxP (eqI (ix 0 ow k)) 0 (rinV vs ow l) + 1) (show ((l.drop (idxP (eqI (enmV vs ow (ix 0 l (l.length - 1)))) 0 l).toNat).length : Int) ≠ 0 by omega)
        have hm1 := Int.emod_lt_of_pos (idxP (eqI (ix 0 ow k)) 0 (rinV vs ow l) + 1) (show 0 < ((l.drop (idxP (eqI (enmV vs ow (ix 0 l (l.length - 1)))) 0 l).toNat).length : Int) by omega)
        refine W.regT 12 mixedUc_ (by kernel_rfl) ?_
        refine Wx.rd (v := .pointer (some ⟨g_1, 1, none⟩)) (rd_fieldAddr rfl foUc_137_1) rfl ?_
        refine Wx.rd (v := ov) (rd_loadX hS 2 rfl rfl rfl Tryz.isAgg25) rfl ?_
        refine Wx.rd (v := .int .i64 k) (rd_move rfl) rfl ?_
        refine Wx.rd (v := u_31) (rd_move rfl) rfl ?_
        refine Wx.rd (v := .int .i64 (idxP (eqI (ix 0 ow k)) 0 (rinV vs ow l))) (rd_move rfl) rfl ?_
        refine Wx.rd (v := .int .i64 ((idxP (eqI (ix 0 ow k)) 0 (rinV vs ow l)) + 1)) (rd_add rfl rfl (in_i64 (by omega) (by omega))) rfl ?_
        refine Wx.rd (v := u_31) (rd_move rfl) rfl ?_
        refine Wx.rd (v := .int .i64 ((l.drop (idxP (eqI (enmV vs ow (ix 0 l (l.length - 1)))) 0 l).toNat).length : Int)) (rd_lenV rfl (hS.v 0 rfl) Tryz.underlying25) rfl ?_
        refine Wx.rd (v := .int .i64 (((idxP (eqI (ix 0 ow k)) 0 (rinV vs ow l)) + 1) % ((l.drop (idxP (eqI (enmV vs ow (ix 0 l (l.length - 1)))) 0 l).toNat).length : Int))) (rd_rem rfl rfl (by omega) (by omega)) rfl ?_
        refine Wx.ex (rd_index 0 (hS.v 0 rfl) rfl rfl Tryz.underlying25 Tryz.sizeOf3 (by first | omega | (simp only [List.length_set, List.length_append, List.length_cons, List.length_nil, List.length_replicate]; omega)) (by first | omega | (simp only [List.length_set, List.length_append, List.length_cons, List.length_nil, List.length_replicate]; omega))) rfl (fun p_44 hp_45 => ?_)
        refine Wx.rd (v := .int .i64 (ix 0 (l.drop (idxP (eqI (enmV vs ow (ix 0 l (l.length - 1)))) 0 l).toNat) (((idxP (eqI (ix 0 ow k)) 0 (rinV vs ow l)) + 1) % ((l.drop (idxP (eqI (enmV vs ow (ix 0 l (l.length - 1)))) 0 l).toNat).length : Int)))) (rd_loadI hp_45 rfl Tryz.isAgg3 Tryz.sizeOf3) rfl ?_
        have bd_46 := bd_i64 hp_45.inK
        refine Wx.indexR hS 4 rfl rfl rfl Tryz.underlying25 Tryz.sizeOf3 (by first | omega | (simp only [List.length_set, List.length_append, List.length_cons, List.length_nil, List.length_replicate]; omega)) (by first | omega | (simp only [List.length_set, List.length_append, List.length_cons, List.length_nil, List.length_replicate]; omega)) rfl (fun g_47 hg_48 => ?_)
        refine Wx.nilQ (fun w_49 hx_50 => ?_)
        have hS := hS.ext hx_50
        refine Wx.storeR (j := k.toNat) (z := ix 0 (l.drop (idxP (eqI (enmV vs ow (ix 0 l (l.length - 1)))) 0 l).toNat) (((idxP (eqI (ix 0 ow k)) 0 (rinV vs ow l)) + 1) % ((l.drop (idxP (eqI (enmV vs ow (ix 0 l (l.length - 1)))) 0 l).toNat).length : Int))) hS 4 rfl hg_48 rfl (by first | omega | (simp only [List.length_set, List.length_append, List.length_cons, List.length_nil, List.length_replicate]; omega)) rfl (V.mkInt (in_i64 (by omega) (by omega))) Tryz.sizeOf3 (fun w_51 hz_52 hS => ?_)
        refine Wx.nil ?_
        refine W.reg ?_
        refine Wx.rd (v := .int .i64 (k + 1)) (rd_add rfl rfl (in_i64 (by omega) (by omega))) rfl ?_
        refine Wx.rd (v := .int .i64 (k + 1)) (rd_move rfl) rfl ?_
        refine Wx.nil ?_
        refine ⟨(k + 1, List.set o2 k.toNat (ix 0 (l.drop (idxP (eqI (enmV vs ow (ix 0 l (l.length - 1)))) 0 l).toNat) (((idxP (eqI (ix 0 ow k)) 0 (rinV vs ow l)) + 1) % ((l.drop (idxP (eqI (enmV vs ow (ix 0 l (l.length - 1)))) 0 l).toNat).length : Int)))), (by show (ow.length - (k + 1)).toNat < (ow.length - k).toNat; omega), ?_, ?_, Out.look rfl Out.self⟩
        · exact ⟨hS, (by first | omega | assumption), (by first | omega | assumption), (by rw [k2, ← mp_set k0 hkk, turM, if_pos c2]; rfl)⟩
        · exact ⟨rfl, trivial⟩
      · -- no
        refine W.skip ?_
        refine W.reg ?_
        refine Wx.rd (v := .int .i64 (k + 1)) (rd_add rfl rfl (in_i64 (by omega) (by omega))) rfl ?_
        refine Wx.rd (v := .int .i64 (k + 1)) (rd_move rfl) rfl ?_
        refine Wx.nil ?_
        refine ⟨(k + 1, o2), (by show (ow.length - (k + 1)).toNat < (ow.length - k).toNat; omega), ?_, ?_, Out.look rfl Out.self⟩
        · exact ⟨hS, (by first | omega | assumption), (by first | omega | assumption), (by rw [k2]; exact mp_keep k0 hkk (by rw [turM, if_neg c2]))⟩
        · exact ⟨rfl, trivial⟩
    · -- no
      have hsay : o2 = (turV vs ow l) := by rw [k2, mp_end (by omega)]; rfl
      rw [hsay] at hS
      refine W.exit rfl ?_
      exact ⟨.tuple #[], ResIs.zero, rfl, (St.tl (St.tl (St.tl hS)))⟩
end Go.Proofs.YtlibemgaepkceaaGreatDoor
