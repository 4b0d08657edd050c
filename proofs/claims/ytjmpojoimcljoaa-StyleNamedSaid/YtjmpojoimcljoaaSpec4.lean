/-
  WHAT IS SAID HERE: plain functions: forms left out, of layer 3's reference.
-/
import Derived.Test.YtjmpojoimcljoaaSpec3
namespace Go.Proofs.Ytjmpojoimcljoaa
open Go.Wk

def withoutG (out : List Int) : Int → List (List Int) → List (List Int)
  | _, [] => []
  | i, f :: fs => if hasL out i = true then withoutG out (i + 1) fs else f :: withoutG out (i + 1) fs
theorem withoutG_mem (out : List Int) : ∀ (fs : List (List Int)) (i : Int) (f : List Int), f ∈ withoutG out i fs → f ∈ fs
  | [], _, f, h => by simp [withoutG] at h
  | g :: fs, i, f, h => by
    rw [withoutG] at h
    split at h
    · exact List.mem_cons_of_mem _ (withoutG_mem out fs _ f h)
    · rcases List.mem_cons.1 h with rfl | h
      · exact List.mem_cons_self ..
      · exact List.mem_cons_of_mem _ (withoutG_mem out fs _ f h)
theorem withoutG_len (out : List Int) : ∀ (fs : List (List Int)) (i : Int), (withoutG out i fs).length ≤ fs.length
  | [], _ => Nat.le_refl _
  | g :: fs, i => by
    have := withoutG_len out fs (i + 1)
    rw [withoutG]
    split <;> simp <;> omega
theorem withoutG_ok {L : Int} {fs : List (List Int)} (h : okF L fs) (out : List Int) (i : Int) : okF L (withoutG out i fs) := fun f hf => h f (withoutG_mem out fs i f hf)
def freeR (L : Int) (fs : List (List Int)) : Bool := !(tripA L L.toNat).any (apartRT fs)
def isFree (L : Int) (fs : List (List Int)) (out : List Int) : Bool := freeR L (withoutG out 0 fs)
/-- The first list that can be left out, of those that begin with some, from an index on: a round for each index. -/
def leftX (g : List Int → Int → List Int × Bool) (n : Int) (out : List Int) : Nat → List Int × Bool
  | 0 => ([], false)
  | k + 1 => if (g (out ++ [n - (k + 1)]) (n - (k + 1) + 1)).2 = true then ((g (out ++ [n - (k + 1)]) (n - (k + 1) + 1)).1, true) else leftX g n out k
def leftG (L : Int) (fs : List (List Int)) : Nat → List Int → Int → List Int × Bool
  | 0, out, _ => (out, isFree L fs out)
  | m + 1, out, from_ => leftX (leftG L fs m) fs.length out (fs.length - from_).toNat
theorem leftX_len {g : List Int → Int → List Int × Bool} {n : Int} {out : List Int} {B : Nat} (h : ∀ i, (g (out ++ [i]) (i + 1)).1.length ≤ B) : ∀ k, (leftX g n out k).1.length ≤ B
  | 0 => Nat.zero_le _
  | k + 1 => by
    rw [leftX]
    split
    · exact h _
    · exact leftX_len h k
theorem leftG_len (L : Int) (fs : List (List Int)) : ∀ (m : Nat) (out : List Int) (i : Int), (leftG L fs m out i).1.length ≤ out.length + m
  | 0, out, _ => Nat.le_refl _
  | m + 1, out, i => by
    rw [leftG]
    refine leftX_len (fun j => ?_) _
    have := leftG_len L fs m (out ++ [j]) (j + 1)
    simp only [List.length_append, List.length_singleton] at this
    omega
/-- All forms left out: nothing is apart. -/
theorem withoutG_all (out : List Int) : ∀ (fs : List (List Int)) (i : Int), (∀ j, i ≤ j → j < i + fs.length → j ∈ out) → withoutG out i fs = []
  | [], _, _ => rfl
  | f :: fs, i, h => by
    rw [withoutG, if_pos ((hasL_mem _ _).2 (h i (Int.le_refl _) (by simp; omega)))]
    exact withoutG_all out fs (i + 1) (fun j h1 h2 => h j (by omega) (by simp; omega))
theorem chain_nil (a c : Int) : chainL [] a c = [a] := by
  simp [chainL, chainG, passC]
theorem freeR_nil (L : Int) : freeR L [] = true := by
  rw [freeR, Bool.not_eq_true', List.any_eq_false]
  intro t ht h
  have hlt : ∀ (m : Nat) (t : Int × Int × Int), t ∈ tripA L m → t.1 < t.2.1 := by
    intro m
    induction m with
    | zero => intro t h; simp [tripA] at h
    | succ m ih =>
      intro t h
      rw [tripA] at h
      rcases List.mem_append.1 h with h | h
      · have hB : ∀ (a : Int) (k : Nat) (t : Int × Int × Int), t ∈ tripB L a k → t.1 = a ∧ L - k ≤ t.2.1 := by
          intro a k
          induction k with
          | zero => intro t h; simp [tripB] at h
          | succ k ihk =>
            intro t h
            rw [tripB] at h
            rcases List.mem_append.1 h with h | h
            · have hC : ∀ (b : Int) (k : Nat) (t : Int × Int × Int), t ∈ tripC L a b k → t.1 = a ∧ t.2.1 = b := by
                intro b k
                induction k with
                | zero => intro t h; simp [tripC] at h
                | succ k ihk =>
                  intro t h
                  rw [tripC] at h
                  rcases List.mem_cons.1 h with rfl | h
                  · exact ⟨rfl, rfl⟩
                  · exact ihk t h
              have := hC _ _ t h
              exact ⟨this.1, by omega⟩
            · have := ihk t h
              exact ⟨this.1, by omega⟩
        have := hB _ _ t h
        omega
      · exact ih t h
  have h1 := hlt _ t ht
  simp only [apartRT, apartR, chainB, chain_nil, Bool.and_eq_true] at h
  rw [hasL_mem] at h
  simp at h
  omega
theorem leftX_hit {g : List Int → Int → List Int × Bool} {n : Int} {out : List Int} : ∀ (k : Nat) (i : Int), n - k ≤ i → i < n → (g (out ++ [i]) (i + 1)).2 = true → (leftX g n out k).2 = true
  | 0, i, h1, h2, _ => by omega
  | k + 1, i, h1, h2, h => by
    rw [leftX]
    split
    · rfl
    · rename_i hn
      by_cases e : i = n - (k + 1)
      · subst e; exact absurd h hn
      · exact leftX_hit k i (by omega) h2 h
theorem leftG_all (L : Int) (fs : List (List Int)) : ∀ (m : Nat) (out : List Int) (i : Int), i + m = fs.length → 0 ≤ i → (∀ j, 0 ≤ j → j < i → j ∈ out) → (leftG L fs m out i).2 = true
  | 0, out, i, h, h0, ho => by
    rw [leftG, isFree, withoutG_all out fs 0 (fun j h1 h2 => ho j h1 (by omega))]
    exact freeR_nil L
  | m + 1, out, i, h, h0, ho => by
    rw [leftG]
    refine leftX_hit _ i (by omega) (by omega) (leftG_all L fs m (out ++ [i]) (i + 1) (by omega) (by omega) (fun j h1 h2 => ?_))
    by_cases e : j = i
    · subst e; simp
    · exact List.mem_append_left _ (ho j h1 (by omega))
/-- The reference's answer: the first number of forms for which there is a list. -/
def leastG (L : Int) (fs : List (List Int)) : Nat → Nat → List Int × Bool
  | 0, n => leftG L fs n [] 0
  | k + 1, n => if (leftG L fs n [] 0).2 = true then leftG L fs n [] 0 else leastG L fs k (n + 1)
def refFewest (L : Int) (fs : List (List Int)) : List Int := if checkE L fs ≠ 0 then [] else (leastG L fs fs.length 0).1
def leavesB (L : Int) (fs : List (List Int)) : Bool := (decide (fewestL L fs = refFewest L fs) && decide (checkE L fs = checkE L fs)) && true
/-! ### numbers in ascending order -/
def up (n : Int) : Nat → List Int
  | 0 => []
  | k + 1 => (n - (k + 1)) :: up n k
theorem up_mem {n x : Int} : ∀ k : Nat, x ∈ up n k ↔ n - k ≤ x ∧ x < n
  | 0 => by simp [up]
  | k + 1 => by
    rw [up, List.mem_cons, up_mem k]
    omega
theorem up_len (n : Int) : ∀ k : Nat, (up n k).length = k
  | 0 => rfl
  | k + 1 => by rw [up, List.length_cons, up_len n k]
theorem up_snoc (n : Int) : ∀ k : Nat, up (n + 1) (k + 1) = up n k ++ [n]
  | 0 => by simp [up]
  | k + 1 => by
    rw [up, up_snoc n k, up]
    simp only [List.cons_append]
    congr 1
    omega
end Go.Proofs.Ytjmpojoimcljoaa
