/-
  WHAT IS PROVED HERE: what StyleBeside's function that is given each order keeps: how many fit, and which layers were apart. Conditions stand in each statement.
-/
import Derived.Test.YtjmpojoimcljoaaGj
namespace Go.Proofs.Ytjmpojoimcljoaa
open Go.Wk Go.RowKit

theorem each51 {L n : Int} {fs : List (List Int)} {ov : Value} {gf gc gt : Nat} {R : List Ob} (i_L : InK .i64 L) (p_5 : n ≤ 5) : EachIn Try.prog 51 [] [.pointer (some ⟨gf, 0, none⟩), .pointer (some ⟨gc, 0, none⟩), .pointer (some ⟨gt, 0, none⟩)] n
    (fun ls ob => ob = Ob.v (tSl (tSl (tI .i64))) fs ov :: .box gf 24 [.int .i64 L, ov] :: .box gc 3 [.int .i64 (ls.foldl (stepB fs) (0, List.replicate 25 false)).1] :: .box gt 74 (List.map Value.bool (ls.foldl (stepB fs) (0, List.replicate 25 false)).2) :: R) := by
  rintro ls l lv pre ob w0 w O hl hb rfl hS hv
  have hP := St.pull (pre := pre) (A := [Ob.v (tSl (tSl (tI .i64))) fs ov, .box gf 24 [.int .i64 L, ov], .box gc 3 [.int .i64 (ls.foldl (stepB fs) (0, List.replicate 25 false)).1], .box gt 74 (List.map Value.bool (ls.foldl (stepB fs) (0, List.replicate 25 false)).2)]) (R := R) hS
  have hV := V.pull (pre := pre) (A := [Ob.v (tSl (tSl (tI .i64))) fs ov, .box gf 24 [.int .i64 L, ov], .box gc 3 [.int .i64 (ls.foldl (stepB fs) (0, List.replicate 25 false)).1], .box gt 74 (List.map Value.bool (ls.foldl (stepB fs) (0, List.replicate 25 false)).2)]) (R := R) hv
  refine (F51 (ob := pre ++ R) i_L (stepB_in ls _ (in_i64 (by decide) (by decide))) (stepB_len ls _ (by simp)) (by omega) (fun x hx => by have := hb x hx; omega) hP hV).mono ?_
  rintro e w' ⟨r, he, hr, hS2⟩
  have e2 : (ls ++ [l]).foldl (stepB fs) (0, List.replicate 25 false) = stepB fs ((ls.foldl (stepB fs) (0, List.replicate 25 false)).1, (ls.foldl (stepB fs) (0, List.replicate 25 false)).2) l := by rw [List.foldl_append]; rfl
  refine ⟨r, he, hr, _, rfl, ?_⟩
  rw [e2]
  exact St.pull (pre := [Ob.v (tSl (tSl (tI .i64))) fs ov, .box gf 24 [.int .i64 L, ov], .box gc 3 [.int .i64 (stepB fs ((ls.foldl (stepB fs) (0, List.replicate 25 false)).1, (ls.foldl (stepB fs) (0, List.replicate 25 false)).2) l).1], .box gt 74 (List.map Value.bool (stepB fs ((ls.foldl (stepB fs) (0, List.replicate 25 false)).1, (ls.foldl (stepB fs) (0, List.replicate 25 false)).2) l).2)]) (A := pre) (R := R) hS2
end Go.Proofs.Ytjmpojoimcljoaa
