/-
  WHAT IS PROVED HERE, TEXT BY TEXT (several texts of one prover, joined to one file; the conditions stand in each statement):
  * WHAT IS SAID HERE: all orders of at most six barges are good: reckoned by the kernel. No program in sight.
-/
import Derived.Test.YtodcppoglpfodaaGreatDoorU3

set_option linter.unusedVariables false
set_option linter.unusedSimpArgs false

namespace Go.Proofs.YtodcppoglpfodaaGreatDoor
open Go.Wk Go.RowKit Go.Lib
set_option linter.unusedVariables false
theorem g1to4 : ((ordO 1 (upL 1)).all goodF && (ordO 2 (upL 2)).all goodF && (ordO 3 (upL 3)).all goodF && (ordO 4 (upL 4)).all goodF) = true := by decide +kernel
theorem g5 : (ordO 5 (upL 5)).all goodF = true := by decide +kernel
def six (k : Nat) : List (List Int) := (ordO 5 ([0, 1, 2, 3, 4, 5].take k ++ [0, 1, 2, 3, 4, 5].drop (k + 1))).map ((k : Int) :: ·)
theorem g60 : (six 0).all goodF = true := by decide +kernel
theorem g61 : (six 1).all goodF = true := by decide +kernel
theorem g62 : (six 2).all goodF = true := by decide +kernel
theorem g63 : (six 3).all goodF = true := by decide +kernel
theorem g64 : (six 4).all goodF = true := by decide +kernel
theorem g65 : (six 5).all goodF = true := by decide +kernel
theorem six_all : ordO 6 (upL 6) = six 0 ++ (six 1 ++ (six 2 ++ (six 3 ++ (six 4 ++ (six 5 ++ []))))) := rfl
theorem g6 : (ordO 6 (upL 6)).all goodF = true := by
  rw [six_all, List.all_append, List.all_append, List.all_append, List.all_append, List.all_append, List.all_append, g60, g61, g62, g63, g64, g65]; rfl
theorem good_ord {n : Nat} {xs : List Int} (h0 : 1 ≤ n) (h1 : n ≤ 6) (h : xs ∈ ordO n (upL n)) : goodO xs = true := by
  have h4 := g1to4
  simp only [Bool.and_eq_true] at h4
  have key : (ordO n (upL n)).all goodF = true := by
    obtain rfl | rfl | rfl | rfl | rfl | rfl : n = 1 ∨ n = 2 ∨ n = 3 ∨ n = 4 ∨ n = 5 ∨ n = 6 := by omega
    · exact h4.1.1.1
    · exact h4.1.1.2
    · exact h4.1.2
    · exact h4.2
    · exact g5
    · exact g6
  rw [← goodF_eq]
  exact List.all_eq_true.1 key xs h
structure GoodO (xs : List Int) : Prop where
  p : PmOK xs
  r : rnOK xs = true
  o : (rnV xs).length = xs.length
  m : ((mvS xs).size : Int) = 2 * xs.length
  e : C5.rimE (rimV xs) = 0
  f : C5.fullP (rimV xs) = true
  t : C5.mostV (rimV xs) = xs.length
  v : C5.validE (rimV xs) (jnV xs) = 0
  z : (rimV xs).size = (mvS xs).size
theorem rimV_size (xs : List Int) : (rimV xs).size = (mvS xs).size := by
  have h := strL_len (mvS xs)
  rw [rimV, rpS, strOfNums]
  show (_ : Array UInt8).size = _
  simp [h]
theorem good_of {xs : List Int} (h : goodO xs = true) : GoodO xs := by
  simp only [goodO, pmB, Bool.and_eq_true, decide_eq_true_iff, List.all_eq_true] at h
  obtain ⟨⟨⟨⟨⟨⟨⟨⟨⟨h1, h2⟩, h3⟩, h4⟩, h5⟩, h6⟩, h7⟩, h8⟩, h9⟩, h10⟩ := h
  have hm := mvL_len xs
  have hz := rimV_size xs
  have hf := C5.full_eq (rimV xs)
  rw [h9, C5.fullR, if_pos h8] at hf
  have hf2 := of_decide_eq_true hf.symm
  exact ⟨⟨⟨h1, h2⟩, h3, h4⟩, h5, h6, by omega, h8, h9, by rw [C5.mostV, if_pos h8]; omega, by rw [C5.validE, if_pos h8]; exact h10, hz⟩
theorem com_good {b : Int} {bs : List Int} (hl : bs.length = 7) {m : Int} (h0 : 1 ≤ m) (h1 : m ≤ 6) : GoodO (comV b bs m) := by
  have hn := Int.emod_nonneg b (show m ≠ 0 by omega)
  have hn2 := Int.emod_lt_of_pos b (show (0 : Int) < m by omega)
  have hc : comN b m = 1 + b % m := rfl
  have hu := upL_len (comN b m) (by omega)
  obtain ⟨l, hm, he⟩ := com_ord (comN b m).toNat bs (upL (comN b m)) [] (by omega) (by omega)
  have hcl : comV b bs m = l := by rw [comV, comK, he, List.nil_append]
  rw [hcl]
  refine good_of (good_ord (n := (comN b m).toNat) (by omega) (by omega) ?_)
  rw [Int.toNat_of_nonneg (by omega)]
  exact hm
end Go.Proofs.YtodcppoglpfodaaGreatDoor
