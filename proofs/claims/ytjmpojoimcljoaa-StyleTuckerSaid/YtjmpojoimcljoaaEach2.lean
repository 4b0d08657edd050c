/-
  WHAT IS PROVED HERE: what StyleTucker's function that is given each order keeps: how many fit, and the first one. Conditions stand in each statement.
-/
import Derived.Test.YtjmpojoimcljoaaGf
namespace Go.Proofs.Ytjmpojoimcljoaa
open Go.Wk Go.RowKit

theorem stepF_in {fs : List (List Int)} {l fl : List Int} {c : Int} (hc : InK .i64 c) : InK .i64 (stepF fs (fl, c) l).2 := by
  rw [stepF]
  split
  · exact wrap_inK .i64 _
  · exact hc
theorem foldF_in (fs : List (List Int)) : ∀ (ls : List (List Int)) (x : List Int × Int), InK .i64 x.2 → InK .i64 (ls.foldl (stepF fs) x).2
  | [], _, h => h
  | l :: ls, x, h => foldF_in fs ls _ (stepF_in (fl := x.1) h)
theorem each45 {L : Int} {fs : List (List Int)} {ov : Value} {gf gc gl : Nat} {R : List Ob} (i_L : InK .i64 L) : EachOK Try.prog 45 [] [.pointer (some ⟨gf, 0, none⟩), .pointer (some ⟨gc, 0, none⟩), .pointer (some ⟨gl, 0, none⟩)]
    (fun ls ob => ∃ flv, ob = Ob.v (tSl (tI .i64)) (ls.foldl (stepF fs) ([], 0)).1 flv :: Ob.v (tSl (tSl (tI .i64))) fs ov :: .box gf 24 [.int .i64 L, ov] :: .box gc 3 [.int .i64 (ls.foldl (stepF fs) ([], 0)).2] :: .box gl 28 [flv] :: R) := by
  rintro ls l lv pre ob w0 w O ⟨flv, rfl⟩ hS hv
  have hP := St.pull (pre := pre) (A := [Ob.v (tSl (tI .i64)) (ls.foldl (stepF fs) ([], 0)).1 flv, Ob.v (tSl (tSl (tI .i64))) fs ov, .box gf 24 [.int .i64 L, ov], .box gc 3 [.int .i64 (ls.foldl (stepF fs) ([], 0)).2], .box gl 28 [flv]]) (R := R) hS
  have hV := V.pull (pre := pre) (A := [Ob.v (tSl (tI .i64)) (ls.foldl (stepF fs) ([], 0)).1 flv, Ob.v (tSl (tSl (tI .i64))) fs ov, .box gf 24 [.int .i64 L, ov], .box gc 3 [.int .i64 (ls.foldl (stepF fs) ([], 0)).2], .box gl 28 [flv]]) (R := R) hv
  refine (F45 (ob := pre ++ R) i_L (foldF_in fs ls ([], 0) (in_i64 (by decide) (by decide))) hP hV).mono ?_
  rintro e w' ⟨r, he, hr, flv', hS2⟩
  have e2 : (ls ++ [l]).foldl (stepF fs) ([], 0) = stepF fs ((ls.foldl (stepF fs) ([], 0)).1, (ls.foldl (stepF fs) ([], 0)).2) l := by rw [List.foldl_append]; rfl
  refine ⟨r, he, hr, _, ⟨flv', rfl⟩, ?_⟩
  rw [e2]
  exact St.pull (pre := [Ob.v (tSl (tI .i64)) (stepF fs ((ls.foldl (stepF fs) ([], 0)).1, (ls.foldl (stepF fs) ([], 0)).2) l).1 flv', Ob.v (tSl (tSl (tI .i64))) fs ov, .box gf 24 [.int .i64 L, ov], .box gc 3 [.int .i64 (stepF fs ((ls.foldl (stepF fs) ([], 0)).1, (ls.foldl (stepF fs) ([], 0)).2) l).2], .box gl 28 [flv']]) (A := pre) (R := R) hS2
end Go.Proofs.Ytjmpojoimcljoaa
