/-
  WHAT IS PROVED HERE: what the statements' functions that are given each order keep: whether an order fits. Conditions stand in each statement.
-/
import Derived.Test.YtjmpojoimcljoaaGd
import Derived.Test.YtjmpojoimcljoaaGc
namespace Go.Proofs.Ytjmpojoimcljoaa
open Go.Wk Go.RowKit

theorem each50 {L : Int} {fs : List (List Int)} {ov : Value} {gi go : Nat} {R : List Ob} (i_L : InK .i64 L) : EachOK Try.prog 50 [] [.pointer (some ⟨gi, 0, none⟩), .pointer (some ⟨go, 0, none⟩)]
    (fun ls ob => ob = Ob.v (tSl (tSl (tI .i64))) fs ov :: .box gi 4 [.bool (ls.any (fitsW fs))] :: .box go 24 [.int .i64 L, ov] :: R) := by
  rintro ls l lv pre ob w0 w O rfl hS hv
  have hP := St.pull (pre := pre) (A := [Ob.v (tSl (tSl (tI .i64))) fs ov, .box gi 4 [.bool (ls.any (fitsW fs))], .box go 24 [.int .i64 L, ov]]) (R := R) hS
  have hV := V.pull (pre := pre) (A := [Ob.v (tSl (tSl (tI .i64))) fs ov, .box gi 4 [.bool (ls.any (fitsW fs))], .box go 24 [.int .i64 L, ov]]) (R := R) hv
  refine (F50 (ob := pre ++ R) i_L hP hV).mono ?_
  rintro e w' ⟨r, he, hr, hS2⟩
  have e2 : (ls ++ [l]).any (fitsW fs) = (ls.any (fitsW fs) || fitsW fs l) := by simp
  refine ⟨r, he, hr, _, rfl, ?_⟩
  rw [e2]
  exact St.pull (pre := [Ob.v (tSl (tSl (tI .i64))) fs ov, .box gi 4 [.bool (ls.any (fitsW fs) || fitsW fs l)], .box go 24 [.int .i64 L, ov]]) (A := pre) (R := R) hS2
end Go.Proofs.Ytjmpojoimcljoaa
