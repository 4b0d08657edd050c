/-
  WHAT IS PROVED HERE, TEXT BY TEXT (several texts of one prover, joined to one file; the conditions stand in each statement):
  * WHAT IS PROVED HERE: the maps of six small shores, with some lines taken away, can all be gone through, and have as many parts as stated: all choices are tried. No program in sight.
-/
import Derived.Test.YtdpdlplkngggoaaGreatDoorU2

set_option linter.unusedVariables false
set_option linter.unusedSimpArgs false

namespace Go.Proofs.YtdpdlplkngggoaaGreatDoor
open Go.Wk
set_option linter.unusedVariables false
def goodM (m : Rws) : Bool := okM m && (tblB (tabV m) && (decide (teN (tabV m) = (m.flatten.length : Int)) && (permB (teN (tabV m)) (arndF (tabV m)) && permB (teN (tabV m)) (alngF (tabV m)))))
def cutG (m : Rws) (line : Int) : Bool := (tblB (tabV (m.map (cutL line))) && permB (teN (tabV (m.map (cutL line)))) (arndF (tabV (m.map (cutL line))))) && decide (0 ≤ line ∧ line < teN (tabV m) / 2)
def endB (s : Ends) (m : Rws) (suf : List Bool) : Bool := decide (partT (tabV m) + aloneN (s.1 * s.2) (keptL (lineL s.1 s.2) suf) = (labV (s.1 * s.2) (keptL (lineL s.1 s.2) suf)).2)
def treeB (s : Ends) : Nat → Rws → List Bool → Bool
  | 0, m, suf => goodM m && endB s m suf
  | k + 1, m, suf => goodM m && (treeB s k m (true :: suf) && (cutG m k && treeB s k (cutV m k) (false :: suf)))
theorem tree_0 : treeB (1, 2) 1 (gridM 1 2) [] = true := by decide +kernel
theorem tree_1 : treeB (2, 2) 4 (gridM 2 2) [] = true := by decide +kernel
theorem tree_2 : treeB (1, 6) 5 (gridM 1 6) [] = true := by decide +kernel
theorem tree_3 : treeB (1, 4) 3 (gridM 1 4) [] = true := by decide +kernel
theorem tree_4 : treeB (2, 3) 7 (gridM 2 3) [] = true := by decide +kernel
theorem tree_5 : treeB (3, 2) 7 (gridM 3 2) [] = true := by decide +kernel
section
variable {s : Ends} {k : Nat} {m : Rws} {suf : List Bool}
theorem tree_good (h : treeB s k m suf = true) : goodM m = true := by
  cases k <;> (rw [treeB, Bool.and_eq_true] at h; exact h.1)
theorem tree_keep (h : treeB s (k + 1) m suf = true) : treeB s k m (true :: suf) = true := by
  rw [treeB, Bool.and_eq_true, Bool.and_eq_true] at h; exact h.2.1
theorem tree_cut (h : treeB s (k + 1) m suf = true) : cutG m k = true ∧ treeB s k (cutV m k) (false :: suf) = true := by
  rw [treeB, Bool.and_eq_true, Bool.and_eq_true, Bool.and_eq_true] at h; exact h.2.2
theorem tree_end (h : treeB s 0 m suf = true) : partT (tabV m) + aloneN (s.1 * s.2) (keptL (lineL s.1 s.2) suf) = (labV (s.1 * s.2) (keptL (lineL s.1 s.2) suf)).2 := by
  rw [treeB, Bool.and_eq_true] at h; exact of_decide_eq_true h.2
structure GoodM (m : Rws) : Prop where
  o : MapOK m
  t : TblOK (tabV m)
  e : teN (tabV m) = (m.flatten.length : Int)
  a : permB (teN (tabV m)) (arndF (tabV m)) = true
  b : permB (teN (tabV m)) (alngF (tabV m)) = true
theorem good_m (h : goodM m = true) : GoodM m := by
  rw [goodM, Bool.and_eq_true, Bool.and_eq_true, Bool.and_eq_true, Bool.and_eq_true, decide_eq_true_eq] at h
  exact ⟨map_ok h.1, tbl_ok h.2.1, h.2.2.1, h.2.2.2.1, h.2.2.2.2⟩
end
end Go.Proofs.YtdpdlplkngggoaaGreatDoor
namespace Go.Proofs.YtdpdlplkngggoaaGreatDoor
open Go.Wk
theorem tree_all {s : Ends} (hs : s ∈ sizeL) : treeB s (lineL s.1 s.2).length (gridM s.1 s.2) [] = true := by
  simp only [sizeL, List.mem_cons, List.not_mem_nil, or_false] at hs
  rcases hs with rfl | rfl | rfl | rfl | rfl | rfl
  · exact tree_0
  · exact tree_1
  · exact tree_4
  · exact tree_5
  · exact tree_2
  · exact tree_3
end Go.Proofs.YtdpdlplkngggoaaGreatDoor
