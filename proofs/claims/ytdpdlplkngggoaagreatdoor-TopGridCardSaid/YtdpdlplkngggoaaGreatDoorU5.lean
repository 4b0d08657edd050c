/-
  WHAT IS PROVED HERE, TEXT BY TEXT (several texts of one prover, joined to one file; the conditions stand in each statement):
  * WHAT IS PROVED HERE: what functions hand back, each out of its own code; the conditions stand in each statement.
  * WHAT IS PROVED HERE: what functions hand back, each out of its own code; the conditions stand in each statement.
  * WHAT IS PROVED HERE: what functions hand back, each out of its own code; the conditions stand in each statement.
  * WHAT IS PROVED HERE: what functions hand back, each out of its own code; the conditions stand in each statement.
  * WHAT IS SAID HERE: plain functions: plans of a rim, how many joins a greatest one has, how many greatest ones there are, the first of them. No program in sight.
  * WHAT IS PROVED HERE: plain laws of plans: which lists of joins they are, in which order they stand, how many joins a greatest one has, how many there are, which is the first. No program in sight. Conditions stand in each statement.
  * WHAT IS PROVED HERE: plain laws of plans: a list of joins is among all plans just if its joins fit, ascend, and do not cross; the plans stand in one order. No program in sight. Conditions stand in each statement.
  * WHAT IS SAID HERE: plain functions: the reference's plans of a rim. No program in sight.
  * WHAT IS PROVED HERE: plain laws of plans: the reference's plans are the plans with so many joins, or more, in the one order. No program in sight. Conditions stand in each statement.
  * WHAT IS SAID HERE: plain functions: letters, rims, and whether joins are a plan of a rim, as the program and as the reference ask it. No program in sight.
  * WHAT IS SAID HERE, WITH PLAIN LAWS: lists by their places; whether joins are a plan of a rim, as the program and as the reference ask it. No program in sight.
  * WHAT IS PROVED HERE: plain laws of the table of partners: with which edge each edge is joined. No program in sight. Conditions stand in each statement.
  * WHAT IS PROVED HERE: plain laws of the table of parts: how its numbers are found one after the other, and how great they are. No program in sight. Conditions stand in each statement.
  * WHAT IS SAID HERE: what the program answers of a rim: how many joins, how many plans, the first plan, the joins of all. No program in sight.
  * WHAT IS PROVED HERE: plain laws of the reference's plans: what they are made of, how many there are at most, which are the greatest. No program in sight. Conditions stand in each statement.
  * WHAT IS SAID HERE, WITH PLAIN LAWS: the joins of all greatest plans, as the reference seeks them. No program in sight.
  * WHAT IS SAID HERE, WITH PLAIN LAWS: what is taken away from a rim and what is left, as the program seeks it (from the left to the right) and as the reference does (the first two neighbours that fit, again and again). No program in sight.
  * WHAT IS PROVED HERE: what the library's functions hand back, out of the shelf's contracts, where its tables read as the program's text lays them. Conditions stand in each statement.
  * WHAT IS PROVED HERE: what functions hand back, each out of its own code; the conditions stand in each statement.
  * WHAT IS PROVED HERE: strings.ContainsRune over a string of letters alone: a letter is found just if it stands there; no other rune is. Conditions stand in the statement.
  * WHAT IS PROVED HERE: strings.Builder of the call's own, written byte by byte, beside a list of numbers of the call's own; strings made of a rim's bytes. Conditions stand in each statement. From the shelf's contracts.
  * WHAT IS SAID HERE, WITH PLAIN LAWS: the answers on steps, rests, cores, rims that are turned. No program in sight.
  * WHAT IS PROVED HERE: what functions hand back, each out of its own code; the conditions stand in each statement.
  * WHAT IS PROVED HERE: what functions hand back, each out of its own code; the conditions stand in each statement.
  * WHAT IS PROVED HERE: what functions hand back, each out of its own code; the conditions stand in each statement.
  * WHAT IS PROVED HERE: what functions hand back, each out of its own code; the conditions stand in each statement.
  * WHAT IS PROVED HERE: what functions hand back, each out of its own code; the conditions stand in each statement.
  * WHAT IS PROVED HERE: what functions hand back, each out of its own code; the conditions stand in each statement.
  * WHAT IS PROVED HERE: what functions hand back, each out of its own code; the conditions stand in each statement.
  * WHAT IS PROVED HERE: what functions hand back, each out of its own code; the conditions stand in each statement.
  * WHAT IS PROVED HERE: what functions hand back, each out of its own code; the conditions stand in each statement.
  * WHAT IS PROVED HERE: what functions hand back, each out of its own code; the conditions stand in each statement.
-/
import Derived.Test.YtdpdlplkngggoaaGreatDoorProg
import Derived.Test.YtdpdlplkngggoaaGreatDoorU2
import Derived.Test.YtdpdlplkngggoaaGreatDoorU4
import Derived.Test.YtdpdlplkngggoaaGreatDoorU1
import Derived.Shelf.Strings.BuilderK

set_option linter.unusedVariables false
set_option linter.unusedSimpArgs false

namespace Go.Proofs.YtdpdlplkngggoaaGreatDoor
open Go.Wk Go.RowKit Go.Lib
set_option linter.unusedVariables false
set_option linter.unusedSimpArgs false
theorem foYb_27_1 : fldOff Tryz.prog 27 1 = some 1 := by kernel_rfl
theorem mixedYb_ : Tryz.prog.follows .mixedOrders = true := by kernel_rfl

set_option maxHeartbeats 2000000 in
theorem F48 {R C a : Int} {H : List Int} {hv : Value} {gn gs l : Nat} {Tl Tx : List Int → List Ob → Prop} {ob : List Ob} {w0 w : World} {O : List (Option Nat)} (p_ok : SOK R C H) (p_a : 0 ≤ a ∧ a < (H.length : Int)) (hE : EachY Tryz.prog l (nbW C H.length a) Tl Tx w0 O) (hT : Tl [] ob) (hS : St w0 O w (.box gn 3 [.int .i64 a] :: .box gs 27 [.int .i64 R, .int .i64 C, hv] :: Ob.v (tSl (tI .i64)) H hv :: ob)) : Calls Tryz.prog 48 #[(.func (.yield l) #[] #[]), (.pointer (some ⟨gn, 0, none⟩)), (.pointer (some ⟨gs, 0, none⟩))] w (Bk fun _ w' => ∃ ob', (Tl (nbW C H.length a) ob' ∨ ∃ ls, ls <+: nbW C H.length a ∧ Tx ls ob') ∧ St w0 O w' (.box gn 3 [.int .i64 a] :: .box gs 27 [.int .i64 R, .int .i64 C, hv] :: Ob.v (tSl (tI .i64)) H hv :: ob')) := by
  obtain ⟨⟨r1, r2⟩, ⟨c1_, c2_⟩, hRC, ⟨n1, n36⟩, hCn, hok⟩ := id p_ok
  have a0 := p_a.1
  have a1 := p_a.2
  refine enterB Tryz.func48 rfl Tryz.ntmps48 Tryz.results48 rfl ?_
  refine W.seq ?_
  refine W.seq ?_
  refine W.reg ?_
  refine Wx.rd (v := .int .i64 a) (rd_loadX hS 0 rfl rfl rfl Tryz.isAgg3) rfl ?_
  refine Wx.rd (v := .pointer (some ⟨gs, 1, none⟩)) (rd_fieldAddr rfl foYb_27_1) rfl ?_
  refine Wx.rd (v := .int .i64 C) (rd_loadX hS 1 rfl rfl rfl Tryz.isAgg3) rfl ?_
  refine Wx.rd (v := .int .i64 (a - C)) (rd_sub rfl rfl (in_i64 (by omega) (by omega))) rfl ?_
  refine Wx.rd (v := .int .i64 a) (rd_loadX hS 0 rfl rfl rfl Tryz.isAgg3) rfl ?_
  refine Wx.rd (v := .int .i64 (a - 1)) (rd_sub rfl rfl (in_i64 (by omega) (by omega))) rfl ?_
  refine Wx.rd (v := .int .i64 a) (rd_loadX hS 0 rfl rfl rfl Tryz.isAgg3) rfl ?_
  refine Wx.rd (v := .int .i64 (a + 1)) (rd_add rfl rfl (in_i64 (by omega) (by omega))) rfl ?_
  refine Wx.rd (v := .int .i64 a) (rd_loadX hS 0 rfl rfl rfl Tryz.isAgg3) rfl ?_
  refine Wx.rd (v := .pointer (some ⟨gs, 1, none⟩)) (rd_fieldAddr rfl foYb_27_1) rfl ?_
  refine Wx.rd (v := .int .i64 C) (rd_loadX hS 1 rfl rfl rfl Tryz.isAgg3) rfl ?_
  refine Wx.rd (v := .int .i64 (a + C)) (rd_add rfl rfl (in_i64 (by omega) (by omega))) rfl ?_
  refine Wx.rd (v := .agg #[.int .i64 (a - C), .int .i64 (a - 1), .int .i64 (a + 1), .int .i64 (a + C)]) (rd_build (vs := [(0, .int .i64 (a - C)), (1, .int .i64 (a - 1)), (2, .int .i64 (a + 1)), (3, .int .i64 (a + C))]) rfl (by kernel_rfl)) rfl ?_
  refine Wx.rd (v := .int .i64 0) (rd_move rfl) rfl ?_
  refine Wx.nil ?_
  refine W.block ?_
  refine W.loop [4, 5, 19, 20, 21, 22, 23, 24, 25, 26, 27, 28, 29, 30, 31, 32, 33, 34, 35, 36, 37, 38, 39, 40, 41, 42, 43, 44, 45, 46, 47, 48, 49, 50, 51, 52, 53, 54, 55, 56, 57] (fun x : Int × (List Ob) => match x with | (k, obk) => [(19, .int .i64 k)]) (fun (x : Int × (List Ob)) w' => match x with | (k, obk) => St w0 O w' (.box gn 3 [.int .i64 a] :: .box gs 27 [.int .i64 R, .int .i64 C, hv] :: Ob.v (tSl (tI .i64)) H hv :: obk) ∧ 0 ≤ k ∧ k ≤ 4 ∧ Tl (nbP C H.length a k) obk) (fun x : Int × (List Ob) => match x with | (k, obk) => (4 - k).toNat) (0, ob) ⟨rfl, trivial⟩ ⟨hS, (by first | omega | simp), (by first | omega | simp), (hT)⟩ ?_
  rintro ⟨k, obk⟩ u_2 w_1 ⟨hS, h0, h1, h2⟩
  refine W.seq ?_
  refine W.reg ?_
  refine Wx.rd (v := .bool (decide (k < 4))) (rd_lss rfl rfl) rfl ?_
  refine Wx.nil ?_
  refine W.seq ?_
  refine W.condD rfl (fun c0 => ?_) (fun c0 => ?_)
  · -- yes
    refine W.skip ?_
    refine W.seq ?_
    refine W.block ?_
    refine W.seq ?_
    refine W.reg ?_
    refine Wx.rd (v := .int .i64 k) (rd_move rfl) rfl ?_
    refine Wx.rd (v := .int .i64 (ix 0 [a - C, a - 1, a + 1, a + C] k)) (rd_indexVi (d := (0 : Int)) (f := Value.int .i64) (xs := [a - C, a - 1, a + 1, a + C]) rfl rfl Tryz.underlying95 Tryz.sizeOf3 Tryz.isAgg3 rfl rfl (by omega) (by simp; omega)) rfl ?_
    refine Wx.rd (v := .int .i64 k) (rd_assign rfl) rfl ?_
    refine Wx.rd (v := .int .i64 (ix 0 [a - C, a - 1, a + 1, a + C] k)) (rd_assign rfl) rfl ?_
    refine Wx.nil ?_
    refine W.seq ?_
    refine W.seq ?_
    refine W.reg ?_
    refine Wx.rd (v := .int .i64 (ix 0 [a - C, a - 1, a + 1, a + C] k)) (rd_move rfl) rfl ?_
    refine Wx.rd (v := .bool (decide ((ix 0 [a - C, a - 1, a + 1, a + C] k) < 0))) (rd_lss rfl rfl) rfl ?_
    refine Wx.rd (v := .bool (decide ((ix 0 [a - C, a - 1, a + 1, a + C] k) < 0))) (rd_move rfl) rfl ?_
    refine Wx.cut (X := Unit) 5 [26, 27, 28, 29, 30] (fun _ => [(30, .bool (decide ((ix 0 [a - C, a - 1, a + 1, a + C] k) < 0) || decide ((H.length : Int) ≤ (ix 0 [a - C, a - 1, a + 1, a + C] k))))]) (fun _ w' => St w0 O w' (.box gn 3 [.int .i64 a] :: .box gs 27 [.int .i64 R, .int .i64 C, hv] :: Ob.v (tSl (tI .i64)) H hv :: obk)) ?_ ?_
    · rcases Bool.eq_false_or_eq_true (decide ((ix 0 [a - C, a - 1, a + 1, a + C] k) < 0)) with g_3 | g_3
      · -- True
        have gp_4 := of_decide_eq_true g_3
        refine Wx.gnoB rfl rfl (congrArg Value.bool g_3) rfl rfl ?_
        refine Wx.gnoB rfl rfl (congrArg Value.bool g_3) rfl rfl ?_
        refine Wx.gnoB rfl rfl (congrArg Value.bool g_3) rfl rfl ?_
        refine Wx.gnoB rfl rfl (congrArg Value.bool g_3) rfl rfl ?_
        refine Wx.rd (v := .bool true) (rd_pickT (congrArg Value.bool g_3) rfl) rfl ?_
        refine Wx.nil ⟨(), hS, ⟨?_, trivial⟩, Out.look rfl Out.refl⟩
        show Value.bool true = Value.bool (decide ((ix 0 [a - C, a - 1, a + 1, a + C] k) < 0) || decide ((H.length : Int) ≤ (ix 0 [a - C, a - 1, a + 1, a + C] k)))
        first | rw [g_3, Bool.true_or] | (rw [g_3]; rfl)
      · -- False
        have gp_5 := of_decide_eq_false g_3
        refine Wx.gyes rfl rfl (congrArg Value.bool g_3) ?_
        refine Wx.rd (v := .int .i64 (ix 0 [a - C, a - 1, a + 1, a + C] k)) (rd_move rfl) rfl ?_
        refine Wx.gyes rfl rfl (congrArg Value.bool g_3) ?_
        refine Wx.rd (v := .agg #[.int .i64 R, .int .i64 C, hv]) (rd_loadXs (ds := [.int .i64 R, .int .i64 C, hv]) hS 1 rfl rfl rfl rfl Tryz.isAgg27 Tryz.sizeOf27) rfl ?_
        refine Wx.gyes rfl rfl (congrArg Value.bool g_3) ?_
        refine Wx.callF (run_callF Tryz.call31 rfl) (F31 (in_i64 (by omega) (by omega)) (in_i64 (by omega) (by omega)) (hS.v 2 rfl)) rfl ?_
        rintro r_6 w_7 hx_8 rfl
        have hS := hS.ext hx_8
        refine Wx.gyes rfl rfl (congrArg Value.bool g_3) ?_
        refine Wx.rd (v := .bool (decide ((H.length : Int) ≤ (ix 0 [a - C, a - 1, a + 1, a + C] k)))) (rd_geq rfl rfl) rfl ?_
        refine Wx.rd (v := .bool (decide ((H.length : Int) ≤ (ix 0 [a - C, a - 1, a + 1, a + C] k)))) (rd_pickF (congrArg Value.bool g_3) rfl) rfl ?_
        refine Wx.nil ⟨(), hS, ⟨?_, trivial⟩, Out.look rfl Out.refl⟩
        show Value.bool (decide ((H.length : Int) ≤ (ix 0 [a - C, a - 1, a + 1, a + C] k))) = Value.bool (decide ((ix 0 [a - C, a - 1, a + 1, a + C] k) < 0) || decide ((H.length : Int) ≤ (ix 0 [a - C, a - 1, a + 1, a + C] k)))
        first | rw [g_3, Bool.false_or] | (rw [g_3]; rfl)
    rintro ⟨⟩ u_10 w_9 hS
    refine Wx.rd (v := .bool (decide ((ix 0 [a - C, a - 1, a + 1, a + C] k) < 0) || decide ((H.length : Int) ≤ (ix 0 [a - C, a - 1, a + 1, a + C] k)))) (rd_move rfl) rfl ?_
    refine Wx.cut (X := Unit) 10 [32, 33, 34, 35, 36, 37, 38, 39, 40, 41] (fun _ => [(41, .bool ((decide ((ix 0 [a - C, a - 1, a + 1, a + C] k) < 0) || decide ((H.length : Int) ≤ (ix 0 [a - C, a - 1, a + 1, a + C] k))) || (decide (k = 1) && decide ((a % C) = 0))))]) (fun _ w' => St w0 O w' (.box gn 3 [.int .i64 a] :: .box gs 27 [.int .i64 R, .int .i64 C, hv] :: Ob.v (tSl (tI .i64)) H hv :: obk)) ?_ ?_
    · rcases Bool.eq_false_or_eq_true (decide ((ix 0 [a - C, a - 1, a + 1, a + C] k) < 0) || decide ((H.length : Int) ≤ (ix 0 [a - C, a - 1, a + 1, a + C] k))) with g_11 | g_11
      · -- True
        have gp_12 := g_11
        try simp only [Bool.and_eq_true, Bool.or_eq_true, Bool.not_eq_true', Bool.and_eq_false_iff, Bool.or_eq_false_iff, Bool.not_eq_false', decide_eq_true_eq, decide_eq_false_iff_not, not_or, Bool.false_eq_true, Bool.true_eq_false, false_or, or_false, not_false_eq_true] at gp_12
        refine Wx.gnoB rfl rfl (congrArg Value.bool g_11) rfl rfl ?_
        refine Wx.gnoB rfl rfl (congrArg Value.bool g_11) rfl rfl ?_
        refine Wx.gnoB rfl rfl (congrArg Value.bool g_11) rfl rfl ?_
        refine Wx.gno rfl rfl rfl rfl ?_
        refine Wx.gno rfl rfl rfl rfl ?_
        refine Wx.gno rfl rfl rfl rfl ?_
        refine Wx.gno rfl rfl rfl rfl ?_
        refine Wx.gno rfl rfl rfl rfl ?_
        refine Wx.gnoB rfl rfl (congrArg Value.bool g_11) rfl rfl ?_
        refine Wx.rd (v := .bool true) (rd_pickT (congrArg Value.bool g_11) rfl) rfl ?_
        refine Wx.nil ⟨(), hS, ⟨?_, trivial⟩, Out.look rfl Out.refl⟩
        show Value.bool true = Value.bool ((decide ((ix 0 [a - C, a - 1, a + 1, a + C] k) < 0) || decide ((H.length : Int) ≤ (ix 0 [a - C, a - 1, a + 1, a + C] k))) || (decide (k = 1) && decide ((a % C) = 0)))
        first | rw [g_11, Bool.true_or] | (rw [g_11]; rfl)
      · -- False
        have gp_13 := g_11
        try simp only [Bool.and_eq_true, Bool.or_eq_true, Bool.not_eq_true', Bool.and_eq_false_iff, Bool.or_eq_false_iff, Bool.not_eq_false', decide_eq_true_eq, decide_eq_false_iff_not, not_or, Bool.false_eq_true, Bool.true_eq_false, false_or, or_false, not_false_eq_true] at gp_13
        refine Wx.gyes rfl rfl (congrArg Value.bool g_11) ?_
        refine Wx.rd (v := .int .i64 k) (rd_move rfl) rfl ?_
        refine Wx.gyes rfl rfl (congrArg Value.bool g_11) ?_
        refine Wx.rd (v := .bool (decide (k = 1))) (rd_eql rfl rfl) rfl ?_
        refine Wx.gyes rfl rfl (congrArg Value.bool g_11) ?_
        refine Wx.rd (v := .bool (decide (k = 1))) (rd_move rfl) rfl ?_
        refine Wx.cut (X := Unit) 6 [35, 36, 37, 38, 39, 40] (fun _ => [(40, .bool (decide (k = 1) && decide ((a % C) = 0)))]) (fun _ w' => St w0 O w' (.box gn 3 [.int .i64 a] :: .box gs 27 [.int .i64 R, .int .i64 C, hv] :: Ob.v (tSl (tI .i64)) H hv :: obk)) ?_ ?_
        · rcases Bool.eq_false_or_eq_true (decide (k = 1)) with g_14 | g_14
          · -- True
            have gp_15 := of_decide_eq_true g_14
            refine Wx.gyes rfl rfl (congrArg Value.bool g_14) ?_
            refine Wx.rd (v := .int .i64 a) (rd_loadX hS 0 rfl rfl rfl Tryz.isAgg3) rfl ?_
            refine Wx.gyes rfl rfl (congrArg Value.bool g_14) ?_
            refine Wx.rd (v := .pointer (some ⟨gs, 1, none⟩)) (rd_fieldAddr rfl foYb_27_1) rfl ?_
            refine Wx.gyes rfl rfl (congrArg Value.bool g_14) ?_
            refine Wx.rd (v := .int .i64 C) (rd_loadX hS 1 rfl rfl rfl Tryz.isAgg3) rfl ?_
            refine Wx.gyes rfl rfl (congrArg Value.bool g_14) ?_
            refine Wx.rd (v := .int .i64 (a % C)) (rd_rem rfl rfl (by omega) (by omega)) rfl ?_
            refine Wx.gyes rfl rfl (congrArg Value.bool g_14) ?_
            refine Wx.rd (v := .bool (decide ((a % C) = 0))) (rd_eql rfl rfl) rfl ?_
            refine Wx.gyes rfl rfl (congrArg Value.bool g_11) ?_
            refine Wx.rd (v := .bool (decide ((a % C) = 0))) (rd_pickT (congrArg Value.bool g_14) rfl) rfl ?_
            refine Wx.nil ⟨(), hS, ⟨?_, trivial⟩, Out.look rfl Out.refl⟩
            show Value.bool (decide ((a % C) = 0)) = Value.bool (decide (k = 1) && decide ((a % C) = 0))
            first | rw [g_14, Bool.true_and] | (rw [g_14]; rfl)
          · -- False
            have gp_16 := of_decide_eq_false g_14
            refine Wx.gnoB rfl rfl (congrArg Value.bool g_14) rfl rfl ?_
            refine Wx.gnoB rfl rfl (congrArg Value.bool g_14) rfl rfl ?_
            refine Wx.gnoB rfl rfl (congrArg Value.bool g_14) rfl rfl ?_
            refine Wx.gnoB rfl rfl (congrArg Value.bool g_14) rfl rfl ?_
            refine Wx.gnoB rfl rfl (congrArg Value.bool g_14) rfl rfl ?_
            refine Wx.gyes rfl rfl (congrArg Value.bool g_11) ?_
            refine Wx.rd (v := .bool false) (rd_pickF (congrArg Value.bool g_14) rfl) rfl ?_
            refine Wx.nil ⟨(), hS, ⟨?_, trivial⟩, Out.look rfl Out.refl⟩
            show Value.bool false = Value.bool (decide (k = 1) && decide ((a % C) = 0))
            first | rw [g_14, Bool.false_and] | (rw [g_14]; rfl)
        rintro ⟨⟩ u_18 w_17 hS
        refine Wx.rd (v := .bool (decide (k = 1) && decide ((a % C) = 0))) (rd_pickF (congrArg Value.bool g_11) rfl) rfl ?_
        refine Wx.nil ⟨(), hS, ⟨?_, trivial⟩, Out.look rfl (Out.hav rfl (Out.look rfl Out.refl))⟩
        show Value.bool (decide (k = 1) && decide ((a % C) = 0)) = Value.bool ((decide ((ix 0 [a - C, a - 1, a + 1, a + C] k) < 0) || decide ((H.length : Int) ≤ (ix 0 [a - C, a - 1, a + 1, a + C] k))) || (decide (k = 1) && decide ((a % C) = 0)))
        first | rw [g_11, Bool.false_or] | (rw [g_11]; rfl)
    rintro ⟨⟩ u_20 w_19 hS
    refine Wx.rd (v := .bool ((decide ((ix 0 [a - C, a - 1, a + 1, a + C] k) < 0) || decide ((H.length : Int) ≤ (ix 0 [a - C, a - 1, a + 1, a + C] k))) || (decide (k = 1) && decide ((a % C) = 0)))) (rd_move rfl) rfl ?_
    refine Wx.cut (X := Unit) 10 [43, 44, 45, 46, 47, 48, 49, 50, 51, 52] (fun _ => [(52, .bool (((decide ((ix 0 [a - C, a - 1, a + 1, a + C] k) < 0) || decide ((H.length : Int) ≤ (ix 0 [a - C, a - 1, a + 1, a + C] k))) || (decide (k = 1) && decide ((a % C) = 0))) || (decide (k = 2) && decide (((ix 0 [a - C, a - 1, a + 1, a + C] k) % C) = 0))))]) (fun _ w' => St w0 O w' (.box gn 3 [.int .i64 a] :: .box gs 27 [.int .i64 R, .int .i64 C, hv] :: Ob.v (tSl (tI .i64)) H hv :: obk)) ?_ ?_
    · rcases Bool.eq_false_or_eq_true ((decide ((ix 0 [a - C, a - 1, a + 1, a + C] k) < 0) || decide ((H.length : Int) ≤ (ix 0 [a - C, a - 1, a + 1, a + C] k))) || (decide (k = 1) && decide ((a % C) = 0))) with g_21 | g_21
      · -- True
        have gp_22 := g_21
        try simp only [Bool.and_eq_true, Bool.or_eq_true, Bool.not_eq_true', Bool.and_eq_false_iff, Bool.or_eq_false_iff, Bool.not_eq_false', decide_eq_true_eq, decide_eq_false_iff_not, not_or, Bool.false_eq_true, Bool.true_eq_false, false_or, or_false, not_false_eq_true] at gp_22
        refine Wx.gnoB rfl rfl (congrArg Value.bool g_21) rfl rfl ?_
        refine Wx.gnoB rfl rfl (congrArg Value.bool g_21) rfl rfl ?_
        refine Wx.gnoB rfl rfl (congrArg Value.bool g_21) rfl rfl ?_
        refine Wx.gno rfl rfl rfl rfl ?_
        refine Wx.gno rfl rfl rfl rfl ?_
        refine Wx.gno rfl rfl rfl rfl ?_
        refine Wx.gno rfl rfl rfl rfl ?_
        refine Wx.gno rfl rfl rfl rfl ?_
        refine Wx.gnoB rfl rfl (congrArg Value.bool g_21) rfl rfl ?_
        refine Wx.rd (v := .bool true) (rd_pickT (congrArg Value.bool g_21) rfl) rfl ?_
        refine Wx.nil ⟨(), hS, ⟨?_, trivial⟩, Out.look rfl Out.refl⟩
        show Value.bool true = Value.bool (((decide ((ix 0 [a - C, a - 1, a + 1, a + C] k) < 0) || decide ((H.length : Int) ≤ (ix 0 [a - C, a - 1, a + 1, a + C] k))) || (decide (k = 1) && decide ((a % C) = 0))) || (decide (k = 2) && decide (((ix 0 [a - C, a - 1, a + 1, a + C] k) % C) = 0)))
        first | rw [g_21, Bool.true_or] | (rw [g_21]; rfl)
      · -- False
        have gp_23 := g_21
        try simp only [Bool.and_eq_true, Bool.or_eq_true, Bool.not_eq_true', Bool.and_eq_false_iff, Bool.or_eq_false_iff, Bool.not_eq_false', decide_eq_true_eq, decide_eq_false_iff_not, not_or, Bool.false_eq_true, Bool.true_eq_false, false_or, or_false, not_false_eq_true] at gp_23
        refine Wx.gyes rfl rfl (congrArg Value.bool g_21) ?_
        refine Wx.rd (v := .int .i64 k) (rd_move rfl) rfl ?_
        refine Wx.gyes rfl rfl (congrArg Value.bool g_21) ?_
        refine Wx.rd (v := .bool (decide (k = 2))) (rd_eql rfl rfl) rfl ?_
        refine Wx.gyes rfl rfl (congrArg Value.bool g_21) ?_
        refine Wx.rd (v := .bool (decide (k = 2))) (rd_move rfl) rfl ?_
        refine Wx.cut (X := Unit) 6 [46, 47, 48, 49, 50, 51] (fun _ => [(51, .bool (decide (k = 2) && decide (((ix 0 [a - C, a - 1, a + 1, a + C] k) % C) = 0)))]) (fun _ w' => St w0 O w' (.box gn 3 [.int .i64 a] :: .box gs 27 [.int .i64 R, .int .i64 C, hv] :: Ob.v (tSl (tI .i64)) H hv :: obk)) ?_ ?_
        · rcases Bool.eq_false_or_eq_true (decide (k = 2)) with g_24 | g_24
          · -- True
            have gp_25 := of_decide_eq_true g_24
            refine Wx.gyes rfl rfl (congrArg Value.bool g_24) ?_
            refine Wx.rd (v := .int .i64 (ix 0 [a - C, a - 1, a + 1, a + C] k)) (rd_move rfl) rfl ?_
            refine Wx.gyes rfl rfl (congrArg Value.bool g_24) ?_
            refine Wx.rd (v := .pointer (some ⟨gs, 1, none⟩)) (rd_fieldAddr rfl foYb_27_1) rfl ?_
            refine Wx.gyes rfl rfl (congrArg Value.bool g_24) ?_
            refine Wx.rd (v := .int .i64 C) (rd_loadX hS 1 rfl rfl rfl Tryz.isAgg3) rfl ?_
            refine Wx.gyes rfl rfl (congrArg Value.bool g_24) ?_
            refine Wx.rd (v := .int .i64 ((ix 0 [a - C, a - 1, a + 1, a + C] k) % C)) (rd_rem rfl rfl (by omega) (by omega)) rfl ?_
            refine Wx.gyes rfl rfl (congrArg Value.bool g_24) ?_
            refine Wx.rd (v := .bool (decide (((ix 0 [a - C, a - 1, a + 1, a + C] k) % C) = 0))) (rd_eql rfl rfl) rfl ?_
            refine Wx.gyes rfl rfl (congrArg Value.bool g_21) ?_
            refine Wx.rd (v := .bool (decide (((ix 0 [a - C, a - 1, a + 1, a + C] k) % C) = 0))) (rd_pickT (congrArg Value.bool g_24) rfl) rfl ?_
            refine Wx.nil ⟨(), hS, ⟨?_, trivial⟩, Out.look rfl Out.refl⟩
            show Value.bool (decide (((ix 0 [a - C, a - 1, a + 1, a + C] k) % C) = 0)) = Value.bool (decide (k = 2) && decide (((ix 0 [a - C, a - 1, a + 1, a + C] k) % C) = 0))
            first | rw [g_24, Bool.true_and] | (rw [g_24]; rfl)
          · -- False
            have gp_26 := of_decide_eq_false g_24
            refine Wx.gnoB rfl rfl (congrArg Value.bool g_24) rfl rfl ?_
            refine Wx.gnoB rfl rfl (congrArg Value.bool g_24) rfl rfl ?_
            refine Wx.gnoB rfl rfl (congrArg Value.bool g_24) rfl rfl ?_
            refine Wx.gnoB rfl rfl (congrArg Value.bool g_24) rfl rfl ?_
            refine Wx.gnoB rfl rfl (congrArg Value.bool g_24) rfl rfl ?_
            refine Wx.gyes rfl rfl (congrArg Value.bool g_21) ?_
            refine Wx.rd (v := .bool false) (rd_pickF (congrArg Value.bool g_24) rfl) rfl ?_
            refine Wx.nil ⟨(), hS, ⟨?_, trivial⟩, Out.look rfl Out.refl⟩
            show Value.bool false = Value.bool (decide (k = 2) && decide (((ix 0 [a - C, a - 1, a + 1, a + C] k) % C) = 0))
            first | rw [g_24, Bool.false_and] | (rw [g_24]; rfl)
        rintro ⟨⟩ u_28 w_27 hS
        refine Wx.rd (v := .bool (decide (k = 2) && decide (((ix 0 [a - C, a - 1, a + 1, a + C] k) % C) = 0))) (rd_pickF (congrArg Value.bool g_21) rfl) rfl ?_
        refine Wx.nil ⟨(), hS, ⟨?_, trivial⟩, Out.look rfl (Out.hav rfl (Out.look rfl Out.refl))⟩
        show Value.bool (decide (k = 2) && decide (((ix 0 [a - C, a - 1, a + 1, a + C] k) % C) = 0)) = Value.bool (((decide ((ix 0 [a - C, a - 1, a + 1, a + C] k) < 0) || decide ((H.length : Int) ≤ (ix 0 [a - C, a - 1, a + 1, a + C] k))) || (decide (k = 1) && decide ((a % C) = 0))) || (decide (k = 2) && decide (((ix 0 [a - C, a - 1, a + 1, a + C] k) % C) = 0)))
        first | rw [g_21, Bool.false_or] | (rw [g_21]; rfl)
    rintro ⟨⟩ u_30 w_29 hS
    refine Wx.nil ?_
    refine W.cond rfl (fun c1 => ?_) (fun c1 => ?_)
    · -- yes
      try simp only [Bool.and_eq_true, Bool.or_eq_true, Bool.not_eq_true', Bool.and_eq_false_iff, Bool.or_eq_false_iff, Bool.not_eq_false', decide_eq_true_eq, decide_eq_false_iff_not, not_or, Bool.false_eq_true, Bool.true_eq_false, false_or, or_false, not_false_eq_true] at c1
      refine W.exit rfl ?_
      refine W.reg ?_
      refine Wx.rd (v := .int .i64 (k + 1)) (rd_add rfl rfl (in_i64 (by omega) (by omega))) rfl ?_
      refine Wx.rd (v := .int .i64 (k + 1)) (rd_move rfl) rfl ?_
      refine Wx.nil ?_
      refine ⟨(k + 1, obk), (by show (4 - (k + 1)).toNat < (4 - k).toNat; omega), ?_, ?_, Out.look rfl (Out.hav rfl (Out.look rfl (Out.hav rfl (Out.look rfl (Out.hav rfl (Out.look rfl Out.self))))))⟩
      · exact ⟨hS, (by first | omega | assumption), (by first | omega | assumption), (by rw [nb_skip h0 (outB_iff.2 (by omega))]; exact h2)⟩
      · exact ⟨rfl, trivial⟩
    · -- no
      try simp only [Bool.and_eq_true, Bool.or_eq_true, Bool.not_eq_true', Bool.and_eq_false_iff, Bool.or_eq_false_iff, Bool.not_eq_false', decide_eq_true_eq, decide_eq_false_iff_not, not_or, Bool.false_eq_true, Bool.true_eq_false, false_or, or_false, not_false_eq_true] at c1
      have hout : outB C H.length a k = false := outB_no (by omega)
      have hpy := nb_pre c1_ h0 c0 hout
      refine W.skip ?_
      refine W.seq ?_
      refine W.regYi 2 rfl rfl ?_
      refine Wx.rd (v := (.func (.yield l) #[] #[])) (rd_move rfl) rfl ?_
      refine Wx.rd (v := .int .i64 (ix 0 [a - C, a - 1, a + 1, a + C] k)) (rd_move rfl) rfl ?_
      refine Wx.nil ⟨_, _, rfl, rfl, ?_⟩
      refine YieldR.mono (hE _ _ [.box gn 3 [.int .i64 a], .box gs 27 [.int .i64 R, .int .i64 C, hv], Ob.v (tSl (tI .i64)) H hv] obk _ hpy h2 (St.swap (a := [.box gn 3 [.int .i64 a], .box gs 27 [.int .i64 R, .int .i64 C, hv], Ob.v (tSl (tI .i64)) H hv]) (b := obk) hS)) ?_
      rintro bqy w_31 ⟨oby, hyy, hxy, hS⟩
      have hS : St w0 O w_31 (.box gn 3 [.int .i64 a] :: .box gs 27 [.int .i64 R, .int .i64 C, hv] :: Ob.v (tSl (tI .i64)) H hv :: oby) := St.swap (a := oby) (b := [.box gn 3 [.int .i64 a], .box gs 27 [.int .i64 R, .int .i64 C, hv], Ob.v (tSl (tI .i64)) H hv]) hS
      refine Wx.rd (v := .bool (!bqy)) (rd_not rfl) rfl ?_
      refine Wx.nil ?_
      refine W.cond rfl (fun c2 => ?_) (fun c2 => ?_)
      · -- yes
        try simp only [Bool.and_eq_true, Bool.or_eq_true, Bool.not_eq_true', Bool.and_eq_false_iff, Bool.or_eq_false_iff, Bool.not_eq_false', decide_eq_true_eq, decide_eq_false_iff_not, not_or, Bool.false_eq_true, Bool.true_eq_false, false_or, or_false, not_false_eq_true] at c2
        exact W.ret ⟨.tuple #[], ResIs.zero, _, .inr ⟨_, hpy, hxy (by cases hq : bqy with | false => rfl | true => rw [hq] at c2; cases c2)⟩, hS⟩
      · -- no
        try simp only [Bool.and_eq_true, Bool.or_eq_true, Bool.not_eq_true', Bool.and_eq_false_iff, Bool.or_eq_false_iff, Bool.not_eq_false', decide_eq_true_eq, decide_eq_false_iff_not, not_or, Bool.false_eq_true, Bool.true_eq_false, false_or, or_false, not_false_eq_true] at c2
        refine W.skip ?_
        refine W.reg ?_
        refine Wx.rd (v := .int .i64 (k + 1)) (rd_add rfl rfl (in_i64 (by omega) (by omega))) rfl ?_
        refine Wx.rd (v := .int .i64 (k + 1)) (rd_move rfl) rfl ?_
        refine Wx.nil ?_
        refine ⟨(k + 1, oby), (by show (4 - (k + 1)).toNat < (4 - k).toNat; omega), ?_, ?_, Out.look rfl (Out.look rfl (Out.hav rfl (Out.look rfl (Out.hav rfl (Out.look rfl (Out.hav rfl (Out.look rfl Out.self)))))))⟩
        · exact ⟨hS, (by first | omega | assumption), (by first | omega | assumption), (by rw [nb_take h0 hout]; exact hyy (by cases hq : bqy with | true => rfl | false => rw [hq] at c2; cases c2))⟩
        · exact ⟨rfl, trivial⟩
  · -- no
    refine W.exit rfl ?_
    refine W.seq ?_
    refine W.regQ mixedYb_ (by kernel_rfl) ?_
    refine Wx.rd (v := .int .i64 a) (rd_loadX hS 0 rfl rfl rfl Tryz.isAgg3) rfl ?_
    refine Wx.rd (v := .agg #[.int .i64 R, .int .i64 C, hv]) (rd_loadXs (ds := [.int .i64 R, .int .i64 C, hv]) hS 1 rfl rfl rfl rfl Tryz.isAgg27 Tryz.sizeOf27) rfl ?_
    refine Wx.callV (v := .int .i64 (H.length : Int)) (run_callF Tryz.call31 rfl) (fun w_32 hw_33 => (F31 (in_i64 (by omega) (by omega)) (in_i64 (by omega) (by omega)) ((hS.v 2 rfl).ext hw_33))) rfl ?_
    refine Wx.rd (v := .pointer (some ⟨gs, 1, none⟩)) (rd_fieldAddr rfl foYb_27_1) rfl ?_
    refine Wx.rd (v := .int .i64 C) (rd_loadX hS 1 rfl rfl rfl Tryz.isAgg3) rfl ?_
    refine Wx.rd (v := .int .i64 ((H.length : Int) - C)) (rd_sub rfl rfl (in_i64 (by omega) (by omega))) rfl ?_
    refine Wx.rd (v := .bool (decide (((H.length : Int) - C) ≤ a))) (rd_geq rfl rfl) rfl ?_
    refine Wx.nilQ (fun w_34 hx_35 => ?_)
    have hS := hS.ext hx_35
    refine W.condD rfl (fun c3 => ?_) (fun c3 => ?_)
    · -- yes
      have hpz : (nbP C H.length a k ++ [(H.length : Int)]) <+: nbW C H.length a := by rw [nb_river c1_ (by omega), show k = 4 by omega]; exact List.prefix_refl _
      refine W.regYi 3 rfl rfl ?_
      refine Wx.rd (v := (.func (.yield l) #[] #[])) (rd_move rfl) rfl ?_
      refine Wx.rd (v := .agg #[.int .i64 R, .int .i64 C, hv]) (rd_loadXs (ds := [.int .i64 R, .int .i64 C, hv]) hS 1 rfl rfl rfl rfl Tryz.isAgg27 Tryz.sizeOf27) rfl ?_
      refine Wx.callF (run_callF Tryz.call31 rfl) (F31 (in_i64 (by omega) (by omega)) (in_i64 (by omega) (by omega)) (hS.v 2 rfl)) rfl ?_
      rintro r_36 w_37 hx_38 rfl
      have hS := hS.ext hx_38
      refine Wx.nil ⟨_, _, rfl, rfl, ?_⟩
      refine YieldR.mono (hE _ _ [.box gn 3 [.int .i64 a], .box gs 27 [.int .i64 R, .int .i64 C, hv], Ob.v (tSl (tI .i64)) H hv] obk _ hpz h2 (St.swap (a := [.box gn 3 [.int .i64 a], .box gs 27 [.int .i64 R, .int .i64 C, hv], Ob.v (tSl (tI .i64)) H hv]) (b := obk) hS)) ?_
      rintro bqz w_39 ⟨obz, hyz, hxz, hS⟩
      have hS : St w0 O w_39 (.box gn 3 [.int .i64 a] :: .box gs 27 [.int .i64 R, .int .i64 C, hv] :: Ob.v (tSl (tI .i64)) H hv :: obz) := St.swap (a := obz) (b := [.box gn 3 [.int .i64 a], .box gs 27 [.int .i64 R, .int .i64 C, hv], Ob.v (tSl (tI .i64)) H hv]) hS
      refine Wx.nil ?_
      exact ⟨.tuple #[], ResIs.zero, _, (by cases hq : bqz with | true => exact .inl (by rw [nb_river c1_ (by omega), ← show k = 4 by omega]; exact hyz hq) | false => exact .inr ⟨_, hpz, hxz hq⟩), hS⟩
    · -- no
      refine W.skip ?_
      exact ⟨.tuple #[], ResIs.zero, _, .inl (by rw [nb_dry c1_ (by omega), ← show k = 4 by omega]; exact h2), hS⟩

theorem iter85 {R C a : Int} {H : List Int} {hv : Value} {gn gs : Nat} {w0 : World} {O : List (Option Nat)} (p_ok : SOK R C H) (p_a : 0 ≤ a ∧ a < (H.length : Int)) : Iter Tryz.prog 48 [(.pointer (some ⟨gn, 0, none⟩)), (.pointer (some ⟨gs, 0, none⟩))] [.box gn 3 [.int .i64 a], .box gs 27 [.int .i64 R, .int .i64 C, hv], Ob.v (tSl (tI .i64)) H hv] (nbW C H.length a) w0 O :=
  fun l Tl Tx ob w hE hT hS => F48 p_ok p_a hE hT hS


theorem F38 {R C a : Int} {H : List Int} {hv : Value} {ob : List Ob} {w0 w : World} {O : List (Option Nat)} (hS : St w0 O w ob) (h_hv : V (tSl tInt) H hv (fb ob O) w) : Calls Tryz.prog 38 #[.agg #[.int .i64 R, .int .i64 C, hv], .int .i64 a] w (Bk fun r w' => ∃ gn gs, r = .func (.func 48) #[] #[(.pointer (some ⟨gn, 0, none⟩)), (.pointer (some ⟨gs, 0, none⟩))] ∧ St w0 O w' (.box gn 3 [.int .i64 a] :: .box gs 27 [.int .i64 R, .int .i64 C, hv] :: ob)) := by
  refine enterB Tryz.func38 rfl Tryz.ntmps38 Tryz.results38 rfl ?_
  refine W.seq ?_
  refine W.reg ?_
  refine Wx.box (cs := [.int .i64 R, .int .i64 C, hv]) hS rfl rfl rfl (fun g_1 w_2 hx_4 hb_3 hS => ?_)
  refine Wx.box (cs := [.int .i64 a]) hS rfl rfl rfl (fun g_5 w_6 hx_8 hb_7 hS => ?_)
  refine Wx.rd (v := .nilFunc) (rd_assign rfl) rfl ?_
  refine Wx.nil ?_
  refine W.seq ?_
  refine W.reg ?_
  refine Wx.rd (v := .func (.func 48) #[] #[.pointer (some ⟨g_5, 0, none⟩), .pointer (some ⟨g_1, 0, none⟩)]) (rd_makeFunc (vs := []) (us := [.pointer (some ⟨g_5, 0, none⟩), .pointer (some ⟨g_1, 0, none⟩)]) rfl rfl) rfl ?_
  refine Wx.rd (v := .func (.func 48) #[] #[.pointer (some ⟨g_5, 0, none⟩), .pointer (some ⟨g_1, 0, none⟩)]) (rd_assign rfl) rfl ?_
  refine Wx.nil ?_
  exact W.ret ⟨.func (.func 48) #[] #[.pointer (some ⟨g_5, 0, none⟩), .pointer (some ⟨g_1, 0, none⟩)], ResIs.one, _, _, rfl, hS⟩
end Go.Proofs.YtdpdlplkngggoaaGreatDoor

namespace Go.Proofs.YtdpdlplkngggoaaGreatDoor
open Go.Wk Go.RowKit Go.Lib
set_option linter.unusedVariables false
set_option linter.unusedSimpArgs false
theorem elYc_44 : ElemI Tryz.prog 44 4 (.bool false) 1 1 := ElemI.of Tryz.underlying44 (by kernel_rfl) (by first | rfl | kernel_rfl) (by decide)
theorem mixedYc_ : Tryz.prog.follows .mixedOrders = true := by kernel_rfl
theorem foYc_27_1 : fldOff Tryz.prog 27 1 = some 1 := by kernel_rfl
theorem foYc_27_2 : fldOff Tryz.prog 27 2 = some 2 := by kernel_rfl

set_option maxHeartbeats 4000000 in
theorem F80z {R : Int} {C : Int} {hv : Value} {H : List Int} {O : List (Option Nat)} {w : World} (i_R : InK .i64 R) (i_C : InK .i64 C) (h_hv : V (tSl (tI .i64)) H hv O w) (p_ok : SOK R C H) (hO : ∀ b, some b ∈ O → b < w.heap.size) : Calls Tryz.prog 80 #[.agg #[.int .i64 R, .int .i64 C, hv]] w (Ret w (fun r _ => ∃ ys : List Int, ((ys.length = 37 ∧ ∀ x, 0 ≤ x → x < (H.length : Int) → ix 0 ys x = sillV C H x) ∧ ZT H.length ys) ∧ r = .agg (List.map (Value.int .i64) ys).toArray)) := by
  have b_C := bd_i64 i_C
  have b_R := bd_i64 i_R
  obtain ⟨⟨r1, r2⟩, ⟨c1_, c2_⟩, hRC, ⟨n1, n36⟩, hCn, hok⟩ := id p_ok
  have a_hv := h_hv
  have l_hv := h_hv.len63
  have hS := St.start w O hO
  have hS : St w O w (DOb []) := hS
  refine enterMR (O := O) Tryz.func80 rfl Tryz.ntmps80 Tryz.results80 rfl ?_
  refine WD.seq ?_
  refine WD.ofW ?_
  refine W.reg ?_
  refine Wx.box (cs := [.int .i64 R, .int .i64 C, hv]) hS rfl rfl rfl (fun g_1 w_2 hx_4 hb_3 hS => ?_)
  refine Wx.alloc (cs := List.map (Value.int .i64) (List.replicate 37 (0 : Int))) hS Tryz.zeroValue78 (by kernel_rfl) rfl (fun g_5 w_6 hx_8 hb_7 hS => ?_)
  have hS : St _ _ w_6 (.box g_5 78 (List.map (Value.int .i64) (List.replicate 37 (0 : Int))) :: .box g_1 27 [.int .i64 R, .int .i64 C, hv] :: DOb []) := hS
  refine Wx.nil ?_
  refine WD.seq ?_
  refine WD.ofW ?_
  refine W.reg ?_
  refine Wx.alloc (cs := List.map (Value.int .i64) (List.replicate 37 (0 : Int))) hS Tryz.zeroValue78 (by kernel_rfl) rfl (fun g_9 w_10 hx_12 hb_11 hS => ?_)
  have hS : St _ _ w_10 (.box g_9 78 (List.map (Value.int .i64) (List.replicate 37 (0 : Int))) :: .box g_5 78 (List.map (Value.int .i64) (List.replicate 37 (0 : Int))) :: .box g_1 27 [.int .i64 R, .int .i64 C, hv] :: DOb []) := hS
  refine Wx.nil ?_
  refine WD.seq ?_
  refine WD.ofW ?_
  refine W.reg ?_
  refine Wx.rd (v := .agg #[.int .i64 R, .int .i64 C, hv]) (rd_loadXs (ds := [.int .i64 R, .int .i64 C, hv]) hS 2 rfl rfl rfl rfl Tryz.isAgg27 Tryz.sizeOf27) rfl ?_
  refine Wx.callF (run_callF Tryz.call31 rfl) (F31 i_R i_C (hS.arg a_hv)) rfl ?_
  rintro r_13 w_14 hx_15 rfl
  have hS := hS.ext hx_15
  refine Wx.make (t := tBool) (zy := false) (m := H.length) elYc_44 rfl rfl (fun _ _ => rfl) hS (congrArg (Value.int .i64) rfl) (congrArg (Value.int .i64) rfl) (by omega) (by simp only [maxLen]; omega) rfl (fun v_16 w_17 hx_18 hS => ?_)
  refine Wx.rd (v := v_16) (rd_assign rfl) rfl ?_
  refine Wx.nil ?_
  refine WD.seq ?_
  refine WD.ofW ?_
  refine W.seq ?_
  refine W.reg ?_
  refine Wx.rd (v := v_16) (rd_move rfl) rfl ?_
  refine Wx.rd (v := .int .i64 (H.length : Int)) (Rd.to (v := .int .i64 ((List.replicate H.length false).length : Int)) (rd_lenR hS 0 rfl rfl Tryz.underlying44) (congrArg (Value.int .i64) (show ((H.length : Int) : Int) = (((List.replicate H.length false).length : Int) : Int) from (by simp)).symm)) rfl ?_
  refine Wx.rd (v := .int .i64 0) (rd_move rfl) rfl ?_
  refine Wx.nil ?_
  refine W.block ?_
  refine W.loop [5, 15, 16, 17, 18, 19, 20, 21, 22, 23, 24, 25, 26, 27, 28, 29, 30, 31, 32, 33, 34] (fun x : Int × (List Bool) × (List Int) => match x with | (k, dn0, y1) => [(15, .int .i64 k)]) (fun (x : Int × (List Bool) × (List Int)) w' => match x with | (k, dn0, y1) => St w O w' (.row tBool 4 v_16 dn0 :: .box g_9 78 (List.map (Value.int .i64) y1) :: .box g_5 78 (List.map (Value.int .i64) (List.replicate 37 (0 : Int))) :: .box g_1 27 [.int .i64 R, .int .i64 C, hv] :: DOb []) ∧ 0 ≤ k ∧ k ≤ H.length ∧ IniI C H k y1 ∧ y1.length = 37 ∧ (dn0.length : Int) = H.length ∧ (∀ x, DB dn0 x = false) ∧ ZT H.length y1) (fun x : Int × (List Bool) × (List Int) => match x with | (k, dn0, y1) => (H.length - k).toNat) (0, List.replicate H.length false, (List.replicate 37 (0 : Int))) ⟨rfl, trivial⟩ ⟨hS, (by first | omega | simp), (by omega), (fun x x0 x1 => by omega), (by simp), (by simp), (fun x => db_zero), (zt_zero)⟩ ?_
  rintro ⟨k, dn0, y1⟩ u_22 w_21 ⟨hS, h0, h1, h2, h3, h4, h5, h6⟩
  refine W.seq ?_
  refine W.reg ?_
  refine Wx.rd (v := .bool (decide (k < (H.length : Int)))) (rd_lss rfl rfl) rfl ?_
  refine Wx.nil ?_
  refine W.seq ?_
  refine W.condD rfl (fun c0 => ?_) (fun c0 => ?_)
  · -- yes
    refine W.skip ?_
    refine W.seq ?_
    refine W.block ?_
    refine W.seq ?_
    refine W.reg ?_
    refine Wx.rd (v := .int .i64 k) (rd_move rfl) rfl ?_
    refine Wx.rd (v := .int .i64 k) (rd_assign rfl) rfl ?_
    refine Wx.nil ?_
    refine W.seq ?_
    refine W.reg ?_
    refine Wx.rd (v := .int .i64 k) (rd_move rfl) rfl ?_
    refine Wx.rd (v := .pointer (some ⟨g_9, 0 + k.toNat * 1, none⟩)) (rd_indexArr rfl rfl Tryz.underlying78 Tryz.sizeOf3 (by omega) (by omega)) rfl ?_
    refine Wx.storeXa (j := k) (f := (Value.int .i64)) (u := 31) hS 1 rfl rfl (by omega) rfl rfl rfl Tryz.sizeOf3 (by omega) (by omega) (fun w_23 hz_24 hS => ?_)
    refine Wx.nil ?_
    refine W.seq ?_
    refine W.regQ mixedYc_ (by kernel_rfl) ?_
    refine Wx.rd (v := .int .i64 k) (rd_move rfl) rfl ?_
    refine Wx.rd (v := .agg #[.int .i64 R, .int .i64 C, hv]) (rd_loadXs (ds := [.int .i64 R, .int .i64 C, hv]) hS 3 rfl rfl rfl rfl Tryz.isAgg27 Tryz.sizeOf27) rfl ?_
    refine Wx.callV (v := .int .i64 (H.length : Int)) (run_callF Tryz.call31 rfl) (fun w_25 hw_26 => (F31 i_R i_C ((hS.arg a_hv).ext hw_26))) rfl ?_
    refine Wx.rd (v := .pointer (some ⟨g_1, 1, none⟩)) (rd_fieldAddr rfl foYc_27_1) rfl ?_
    refine Wx.rd (v := .int .i64 C) (rd_loadX hS 3 rfl rfl rfl Tryz.isAgg3) rfl ?_
    refine Wx.rd (v := .int .i64 ((H.length : Int) - C)) (rd_sub rfl rfl (in_i64 (by omega) (by omega))) rfl ?_
    refine Wx.rd (v := .bool (decide (((H.length : Int) - C) ≤ k))) (rd_geq rfl rfl) rfl ?_
    refine Wx.nilQ (fun w_27 hx_28 => ?_)
    have hS := hS.ext hx_28
    refine W.condD rfl (fun c1 => ?_) (fun c1 => ?_)
    · -- yes
      refine W.reg ?_
      refine Wx.rd (v := .int .i64 k) (rd_move rfl) rfl ?_
      refine Wx.rd (v := .pointer (some ⟨g_1, 2, none⟩)) (rd_fieldAddr rfl foYc_27_2) rfl ?_
      refine Wx.rd (v := hv) (rd_loadX hS 3 rfl rfl rfl Tryz.isAgg25) rfl ?_
      refine Wx.rd (v := .int .i64 k) (rd_move rfl) rfl ?_
      refine Wx.ex (rd_index 0 (hS.arg a_hv) rfl rfl Tryz.underlying25 Tryz.sizeOf3 (by first | omega | (simp only [List.length_set, List.length_append, List.length_cons, List.length_nil, List.length_replicate]; omega)) (by first | omega | (simp only [List.length_set, List.length_append, List.length_cons, List.length_nil, List.length_replicate]; omega))) rfl (fun p_29 hp_30 => ?_)
      refine Wx.rd (v := .int .i64 (ix 0 H k)) (rd_loadI hp_30 rfl Tryz.isAgg3 Tryz.sizeOf3) rfl ?_
      have bd_31 := bd_i64 hp_30.inK
      refine Wx.rd (v := .pointer (some ⟨g_9, 0 + k.toNat * 1, none⟩)) (rd_indexArr rfl rfl Tryz.underlying78 Tryz.sizeOf3 (by omega) (by omega)) rfl ?_
      refine Wx.storeXa (j := k) (f := (Value.int .i64)) (u := (ix 0 H k)) hS 1 rfl rfl (by omega) rfl rfl rfl Tryz.sizeOf3 (by omega) (by simp only [List.length_set]; omega) (fun w_32 hz_33 hS => ?_)
      refine Wx.nil ?_
      refine W.reg ?_
      refine Wx.rd (v := .int .i64 (k + 1)) (rd_add rfl rfl (in_i64 (by omega) (by omega))) rfl ?_
      refine Wx.rd (v := .int .i64 (k + 1)) (rd_move rfl) rfl ?_
      refine Wx.nil ?_
      refine ⟨(k + 1, dn0, List.set (List.set y1 k.toNat 31) k.toNat (ix 0 H k)), (by show (H.length - (k + 1)).toNat < (H.length - k).toNat; omega), ?_, ?_, Out.look rfl Out.self⟩
      · exact ⟨hS, (by first | omega | assumption), (by first | omega | assumption), (ini_step2 h2 h0 (by omega) (by rw [iniV, if_pos (show lastB C H k = true from decide_eq_true (by omega))])), (by simp only [List.length_set]; exact h3), (by first | omega | assumption), (by first | omega | assumption), (zt_set (zt_set h6 h0 (by omega)) h0 (by omega))⟩
      · exact ⟨rfl, trivial⟩
    · -- no
      refine W.skip ?_
      refine W.reg ?_
      refine Wx.rd (v := .int .i64 (k + 1)) (rd_add rfl rfl (in_i64 (by omega) (by omega))) rfl ?_
      refine Wx.rd (v := .int .i64 (k + 1)) (rd_move rfl) rfl ?_
      refine Wx.nil ?_
      refine ⟨(k + 1, dn0, List.set y1 k.toNat 31), (by show (H.length - (k + 1)).toNat < (H.length - k).toNat; omega), ?_, ?_, Out.look rfl Out.self⟩
      · exact ⟨hS, (by first | omega | assumption), (by first | omega | assumption), (ini_step h2 h0 (by omega) (by rw [iniV, if_neg (show ¬ lastB C H k = true from fun q => by have := of_decide_eq_true q; omega)])), (by simp only [List.length_set]; exact h3), (by first | omega | assumption), (by first | omega | assumption), (zt_set h6 h0 (by omega))⟩
      · exact ⟨rfl, trivial⟩
  · -- no
    refine W.exit rfl ?_
    refine WD.seq ?_
    refine WD.seq ?_
    refine WD.ofW ?_
    refine W.reg ?_
    refine Wx.rd (v := v_16) (rd_move rfl) rfl ?_
    refine Wx.rd (v := .int .i64 (H.length : Int)) (Rd.to (v := .int .i64 (dn0.length : Int)) (rd_lenR hS 0 rfl rfl Tryz.underlying44) (congrArg (Value.int .i64) (show ((H.length : Int) : Int) = ((dn0.length : Int) : Int) from h4.symm).symm)) rfl ?_
    refine Wx.rd (v := .int .i64 0) (rd_move rfl) rfl ?_
    refine Wx.nil ?_
    refine WD.block ?_
    refine WD.loop [6, 7, 8, 37, 38, 39, 40, 41, 42, 43, 44, 45, 46, 47, 48, 49, 50, 51, 52, 53, 54, 55, 56, 57, 58, 59, 60, 61, 62, 63, 64, 65, 66, 67, 68, 89] (fun x : Int × (List Bool) × (List Int) × (List Nat) => match x with | (i, dn, y2, Ds) => [(37, .int .i64 i)]) (fun (x : Int × (List Bool) × (List Int) × (List Nat)) w' => match x with | (i, dn, y2, Ds) => St w O w' (.row tBool 4 v_16 dn :: .box g_9 78 (List.map (Value.int .i64) y2) :: .box g_5 78 (List.map (Value.int .i64) (List.replicate 37 (0 : Int))) :: .box g_1 27 [.int .i64 R, .int .i64 C, hv] :: DOb Ds) ∧ 0 ≤ i ∧ i ≤ H.length ∧ DjI C H (DB dn) (ix 0 y2) ∧ y2.length = 37 ∧ (dn.length : Int) = H.length ∧ (cntD H dn : Int) = i ∧ ZT H.length y2) (fun x : Int × (List Bool) × (List Int) × (List Nat) => match x with | (i, dn, y2, Ds) => (H.length - i).toNat) (fun x : Int × (List Bool) × (List Int) × (List Nat) => match x with | (i, dn, y2, Ds) => Ds) (0, dn0, y1, []) ⟨rfl, trivial⟩ rfl ⟨hS, (by first | omega | simp), (by omega), (dj_ini hok (by rw [show (H.length : Int) = k by omega]; exact h2) h5), (h3), (h4), (by rw [cnt_zero h5]; rfl), (h6)⟩ ?_
    rintro ⟨i, dn, y2, Ds⟩ u_35 w_34 ⟨hS, i0, i1, i2, i3, i4, i5, i6⟩
    refine WD.seq ?_
    refine WD.ofW ?_
    refine W.reg ?_
    refine Wx.rd (v := .bool (decide (i < (H.length : Int)))) (rd_lss rfl rfl) rfl ?_
    refine Wx.nil ?_
    refine WD.seq ?_
    refine WD.ofW ?_
    refine W.condD rfl (fun c2 => ?_) (fun c2 => ?_)
    · -- yes
      refine W.skip ?_
      refine WD.seq ?_
      refine WD.block ?_
      refine WD.seq ?_
      refine WD.ofW ?_
      refine W.reg ?_
      refine Wx.alloc (cs := [.int .i64 0]) hS Tryz.zeroValue3 rfl rfl (fun g_36 w_37 hx_39 hb_38 hS => ?_)
      refine Wx.storeX (cs' := [.int .i64 (-1)]) (ds := [.int .i64 (-1)]) hS 0 rfl rfl rfl rfl Tryz.sizeOf3 (Nat.le_of_ble_eq_true rfl) (one_cons rfl one_nil) rfl (fun w_40 hz_41 hS => ?_)
      refine Wx.nil ?_
      refine WD.seq ?_
      refine WD.ofW ?_
      refine W.seq ?_
      refine W.reg ?_
      refine Wx.rd (v := v_16) (rd_move rfl) rfl ?_
      refine Wx.rd (v := .int .i64 (H.length : Int)) (Rd.to (v := .int .i64 (dn.length : Int)) (rd_lenR hS 1 rfl rfl Tryz.underlying44) (congrArg (Value.int .i64) (show ((H.length : Int) : Int) = ((dn.length : Int) : Int) from i4.symm).symm)) rfl ?_
      refine Wx.rd (v := .int .i64 0) (rd_move rfl) rfl ?_
      refine Wx.nil ?_
      refine W.block ?_
      refine W.loop [7, 8, 41, 42, 43, 44, 45, 46, 47, 48, 49, 50, 51, 52, 53, 54, 55, 56, 57, 58, 59, 60, 61, 62] (fun x : Int × Int => match x with | (k, nx) => [(41, .int .i64 k)]) (fun (x : Int × Int) w' => match x with | (k, nx) => St w O w' (.box g_36 3 [.int .i64 nx] :: .row tBool 4 v_16 dn :: .box g_9 78 (List.map (Value.int .i64) y2) :: .box g_5 78 (List.map (Value.int .i64) (List.replicate 37 (0 : Int))) :: .box g_1 27 [.int .i64 R, .int .i64 C, hv] :: DOb Ds) ∧ 0 ≤ k ∧ k ≤ H.length ∧ NxI dn y2 k nx ∧ nx < 37 ∧ -1 ≤ nx) (fun x : Int × Int => match x with | (k, nx) => (H.length - k).toNat) (0, -1) ⟨rfl, trivial⟩ ⟨hS, (by first | omega | simp), (by omega), (nx_start), (by first | omega | simp), (by first | omega | simp)⟩ ?_
      rintro ⟨k, nx⟩ u_43 w_42 ⟨hS, k0, k1, k2, k3, k4⟩
      refine W.seq ?_
      refine W.reg ?_
      refine Wx.rd (v := .bool (decide (k < (H.length : Int)))) (rd_lss rfl rfl) rfl ?_
      refine Wx.nil ?_
      refine W.seq ?_
      refine W.condD rfl (fun c3 => ?_) (fun c3 => ?_)
      · -- yes
        refine W.skip ?_
        refine W.seq ?_
        refine W.block ?_
        refine W.seq ?_
        refine W.reg ?_
        refine Wx.rd (v := .int .i64 k) (rd_move rfl) rfl ?_
        refine Wx.indexR hS 1 rfl rfl rfl Tryz.underlying44 Tryz.sizeOf4 (by first | omega | (simp only [List.length_set, List.length_append, List.length_cons, List.length_nil, List.length_replicate]; omega)) (by first | omega | (simp only [List.length_set, List.length_append, List.length_cons, List.length_nil, List.length_replicate]; omega)) rfl (fun g_44 hg_45 => ?_)
        refine Wx.ex (rd_loadR' false hS 1 rfl hg_45 rfl (by first | omega | (simp only [List.length_set, List.length_append, List.length_cons, List.length_nil, List.length_replicate]; omega)) (by first | omega | (simp only [List.length_set, List.length_append, List.length_cons, List.length_nil, List.length_replicate]; omega)) Tryz.isAgg4 Tryz.sizeOf4) rfl (fun v_46 hv_47 => ?_)
        obtain rfl := hv_47.bool
        refine Wx.rd (v := .int .i64 k) (rd_assign rfl) rfl ?_
        refine Wx.rd (v := .bool (ix false dn k)) (rd_assign rfl) rfl ?_
        refine Wx.nil ?_
        refine W.seq ?_
        refine W.regQ mixedYc_ (by kernel_rfl) ?_
        refine Wx.rd (v := .bool (ix false dn k)) (rd_move rfl) rfl ?_
        refine Wx.rd (v := .bool (!(ix false dn k))) (rd_not rfl) rfl ?_
        refine Wx.rd (v := .bool (!(ix false dn k))) (rd_move rfl) rfl ?_
        refine Wx.cutQ (X := Unit) 12 [49, 50, 51, 52, 53, 54, 55, 56, 57, 58, 59, 60] (fun _ => [(60, .bool (!(ix false dn k) && (decide (nx < 0) || decide ((ix 0 y2 k) < (ix 0 y2 nx)))))]) (fun _ => True) ?_ ?_
        · rcases Bool.eq_false_or_eq_true (!(ix false dn k)) with g_48 | g_48
          · -- True
            have gp_49 := g_48
            try simp only [Bool.and_eq_true, Bool.or_eq_true, Bool.not_eq_true', Bool.and_eq_false_iff, Bool.or_eq_false_iff, Bool.not_eq_false', decide_eq_true_eq, decide_eq_false_iff_not, not_or, Bool.false_eq_true, Bool.true_eq_false, false_or, or_false, not_false_eq_true] at gp_49
            refine Wx.gyes rfl rfl (congrArg Value.bool g_48) ?_
            refine Wx.rd (v := .int .i64 nx) (rd_loadX hS 0 rfl rfl rfl Tryz.isAgg3) rfl ?_
            refine Wx.gyes rfl rfl (congrArg Value.bool g_48) ?_
            refine Wx.rd (v := .bool (decide (nx < 0))) (rd_lss rfl rfl) rfl ?_
            refine Wx.gyes rfl rfl (congrArg Value.bool g_48) ?_
            refine Wx.rd (v := .bool (decide (nx < 0))) (rd_move rfl) rfl ?_
            refine Wx.cutQ (X := Unit) 8 [52, 53, 54, 55, 56, 57, 58, 59] (fun _ => [(59, .bool (decide (nx < 0) || decide ((ix 0 y2 k) < (ix 0 y2 nx))))]) (fun _ => True) ?_ ?_
            · rcases Bool.eq_false_or_eq_true (decide (nx < 0)) with g_50 | g_50
              · -- True
                have gp_51 := of_decide_eq_true g_50
                refine Wx.gnoB rfl rfl (congrArg Value.bool g_50) rfl rfl ?_
                refine Wx.gnoB rfl rfl (congrArg Value.bool g_50) rfl rfl ?_
                refine Wx.gnoB rfl rfl (congrArg Value.bool g_50) rfl rfl ?_
                refine Wx.gnoB rfl rfl (congrArg Value.bool g_50) rfl rfl ?_
                refine Wx.gnoB rfl rfl (congrArg Value.bool g_50) rfl rfl ?_
                refine Wx.gnoB rfl rfl (congrArg Value.bool g_50) rfl rfl ?_
                refine Wx.gnoB rfl rfl (congrArg Value.bool g_50) rfl rfl ?_
                refine Wx.gyes rfl rfl (congrArg Value.bool g_48) ?_
                refine Wx.rd (v := .bool true) (rd_pickT (congrArg Value.bool g_50) rfl) rfl ?_
                refine Wx.nilQ (fun _ _ => ⟨(), trivial, ⟨?_, trivial⟩, Out.look rfl Out.refl⟩)
                show Value.bool true = Value.bool (decide (nx < 0) || decide ((ix 0 y2 k) < (ix 0 y2 nx)))
                first | rw [g_50, Bool.true_or] | (rw [g_50]; rfl)
              · -- False
                have gp_52 := of_decide_eq_false g_50
                refine Wx.gyes rfl rfl (congrArg Value.bool g_50) ?_
                refine Wx.rd (v := .int .i64 k) (rd_move rfl) rfl ?_
                refine Wx.gyes rfl rfl (congrArg Value.bool g_50) ?_
                refine Wx.rd (v := .pointer (some ⟨g_9, 0 + k.toNat * 1, none⟩)) (rd_indexArr rfl rfl Tryz.underlying78 Tryz.sizeOf3 (by omega) (by omega)) rfl ?_
                refine Wx.gyes rfl rfl (congrArg Value.bool g_50) ?_
                refine Wx.rd (v := .int .i64 (ix 0 y2 k)) (rd_loadXa (d := 0) (f := (Value.int .i64)) (j := k) hS 2 rfl rfl (by omega) (by omega) (by omega) Tryz.isAgg3) rfl ?_
                refine Wx.gyes rfl rfl (congrArg Value.bool g_50) ?_
                refine Wx.rd (v := .int .i64 nx) (rd_loadX hS 0 rfl rfl rfl Tryz.isAgg3) rfl ?_
                refine Wx.gyes rfl rfl (congrArg Value.bool g_50) ?_
                refine Wx.rd (v := .pointer (some ⟨g_9, 0 + nx.toNat * 1, none⟩)) (rd_indexArr rfl rfl Tryz.underlying78 Tryz.sizeOf3 (by omega) (by omega)) rfl ?_
                refine Wx.gyes rfl rfl (congrArg Value.bool g_50) ?_
                refine Wx.rd (v := .int .i64 (ix 0 y2 nx)) (rd_loadXa (d := 0) (f := (Value.int .i64)) (j := nx) hS 2 rfl rfl (by omega) (by omega) (by omega) Tryz.isAgg3) rfl ?_
                refine Wx.gyes rfl rfl (congrArg Value.bool g_50) ?_
                refine Wx.rd (v := .bool (decide ((ix 0 y2 k) < (ix 0 y2 nx)))) (rd_lss rfl rfl) rfl ?_
                refine Wx.gyes rfl rfl (congrArg Value.bool g_48) ?_
                refine Wx.rd (v := .bool (decide ((ix 0 y2 k) < (ix 0 y2 nx)))) (rd_pickF (congrArg Value.bool g_50) rfl) rfl ?_
                refine Wx.nilQ (fun _ _ => ⟨(), trivial, ⟨?_, trivial⟩, Out.look rfl Out.refl⟩)
                show Value.bool (decide ((ix 0 y2 k) < (ix 0 y2 nx))) = Value.bool (decide (nx < 0) || decide ((ix 0 y2 k) < (ix 0 y2 nx)))
                first | rw [g_50, Bool.false_or] | (rw [g_50]; rfl)
            rintro ⟨⟩ u_54 -
            refine Wx.rd (v := .bool (decide (nx < 0) || decide ((ix 0 y2 k) < (ix 0 y2 nx)))) (rd_pickT (congrArg Value.bool g_48) rfl) rfl ?_
            refine Wx.nilQ (fun _ _ => ⟨(), trivial, ⟨?_, trivial⟩, Out.look rfl (Out.hav rfl (Out.look rfl Out.refl))⟩)
            show Value.bool (decide (nx < 0) || decide ((ix 0 y2 k) < (ix 0 y2 nx))) = Value.bool (!(ix false dn k) && (decide (nx < 0) || decide ((ix 0 y2 k) < (ix 0 y2 nx))))
            first | rw [g_48, Bool.true_and] | (rw [g_48]; rfl)
          · -- False
            have gp_55 := g_48
            try simp only [Bool.and_eq_true, Bool.or_eq_true, Bool.not_eq_true', Bool.and_eq_false_iff, Bool.or_eq_false_iff, Bool.not_eq_false', decide_eq_true_eq, decide_eq_false_iff_not, not_or, Bool.false_eq_true, Bool.true_eq_false, false_or, or_false, not_false_eq_true] at gp_55
            refine Wx.gnoB rfl rfl (congrArg Value.bool g_48) rfl rfl ?_
            refine Wx.gnoB rfl rfl (congrArg Value.bool g_48) rfl rfl ?_
            refine Wx.gnoB rfl rfl (congrArg Value.bool g_48) rfl rfl ?_
            refine Wx.gno rfl rfl rfl rfl ?_
            refine Wx.gno rfl rfl rfl rfl ?_
            refine Wx.gno rfl rfl rfl rfl ?_
            refine Wx.gno rfl rfl rfl rfl ?_
            refine Wx.gno rfl rfl rfl rfl ?_
            refine Wx.gno rfl rfl rfl rfl ?_
            refine Wx.gno rfl rfl rfl rfl ?_
            refine Wx.gnoB rfl rfl (congrArg Value.bool g_48) rfl rfl ?_
            refine Wx.rd (v := .bool false) (rd_pickF (congrArg Value.bool g_48) rfl) rfl ?_
            refine Wx.nilQ (fun _ _ => ⟨(), trivial, ⟨?_, trivial⟩, Out.look rfl Out.refl⟩)
            show Value.bool false = Value.bool (!(ix false dn k) && (decide (nx < 0) || decide ((ix 0 y2 k) < (ix 0 y2 nx))))
            first | rw [g_48, Bool.false_and] | (rw [g_48]; rfl)
        rintro ⟨⟩ u_57 -
        refine Wx.nilQ (fun w_58 hx_59 => ?_)
        have hS := hS.ext hx_59
        refine W.cond rfl (fun c4 => ?_) (fun c4 => ?_)
        · -- yes
          try simp only [Bool.and_eq_true, Bool.or_eq_true, Bool.not_eq_true', Bool.and_eq_false_iff, Bool.or_eq_false_iff, Bool.not_eq_false', decide_eq_true_eq, decide_eq_false_iff_not, not_or, Bool.false_eq_true, Bool.true_eq_false, false_or, or_false, not_false_eq_true] at c4
          refine W.reg ?_
          refine Wx.rd (v := .int .i64 k) (rd_move rfl) rfl ?_
          refine Wx.storeX (cs' := [.int .i64 k]) (ds := [.int .i64 k]) hS 0 rfl rfl rfl rfl Tryz.sizeOf3 (Nat.le_of_ble_eq_true rfl) (one_cons rfl one_nil) rfl (fun w_60 hz_61 hS => ?_)
          refine Wx.nil ?_
          refine W.reg ?_
          refine Wx.rd (v := .int .i64 (k + 1)) (rd_add rfl rfl (in_i64 (by omega) (by omega))) rfl ?_
          refine Wx.rd (v := .int .i64 (k + 1)) (rd_move rfl) rfl ?_
          refine Wx.nil ?_
          refine ⟨(k + 1, k), (by show (H.length - (k + 1)).toNat < (H.length - k).toNat; omega), ?_, ?_, Out.look rfl (Out.hav rfl (Out.look rfl Out.self))⟩
          · exact ⟨hS, (by first | omega | assumption), (by first | omega | assumption), (nx_new k2 k0 c4.1 c4.2), (by first | omega | assumption), (by first | omega | assumption)⟩
          · exact ⟨rfl, trivial⟩
        · -- no
          try simp only [Bool.and_eq_true, Bool.or_eq_true, Bool.not_eq_true', Bool.and_eq_false_iff, Bool.or_eq_false_iff, Bool.not_eq_false', decide_eq_true_eq, decide_eq_false_iff_not, not_or, Bool.false_eq_true, Bool.true_eq_false, false_or, or_false, not_false_eq_true] at c4
          refine W.skip ?_
          refine W.reg ?_
          refine Wx.rd (v := .int .i64 (k + 1)) (rd_add rfl rfl (in_i64 (by omega) (by omega))) rfl ?_
          refine Wx.rd (v := .int .i64 (k + 1)) (rd_move rfl) rfl ?_
          refine Wx.nil ?_
          refine ⟨(k + 1, nx), (by show (H.length - (k + 1)).toNat < (H.length - k).toNat; omega), ?_, ?_, Out.look rfl (Out.hav rfl (Out.look rfl Out.self))⟩
          · exact ⟨hS, (by first | omega | assumption), (by first | omega | assumption), (nx_old k2 k0 (by rcases c4 with c | c; exact .inl c; exact .inr (by omega))), (by first | omega | assumption), (by first | omega | assumption)⟩
          · exact ⟨rfl, trivial⟩
      · -- no
        obtain ⟨hzr, hzd, hzm⟩ := nx_end (H := H) (by rw [show (H.length : Int) = k by omega]; exact k2) (cnt_some (by omega))
        have hz0 := hzr.1
        have hz1 := hzr.2
        refine W.exit rfl ?_
        refine WD.seq ?_
        refine WD.ofW ?_
        refine W.reg ?_
        refine Wx.rd (v := v_16) (rd_move rfl) rfl ?_
        refine Wx.rd (v := .int .i64 nx) (rd_loadX hS 0 rfl rfl rfl Tryz.isAgg3) rfl ?_
        refine Wx.indexR hS 1 rfl rfl rfl Tryz.underlying44 Tryz.sizeOf4 (by first | omega | (simp only [List.length_set, List.length_append, List.length_cons, List.length_nil, List.length_replicate]; omega)) (by first | omega | (simp only [List.length_set, List.length_append, List.length_cons, List.length_nil, List.length_replicate]; omega)) rfl (fun g_62 hg_63 => ?_)
        refine Wx.storeR (j := nx.toNat) (z := true) hS 1 rfl hg_63 rfl (by first | omega | (simp only [List.length_set, List.length_append, List.length_cons, List.length_nil, List.length_replicate]; omega)) rfl ⟨[.bool true], rfl, rfl⟩ Tryz.sizeOf4 (fun w_64 hz_65 hS => ?_)
        refine Wx.nil ?_
        refine WD.seq ?_
        refine WD.ofW ?_
        refine W.reg ?_
        refine Wx.rd (v := .agg #[.int .i64 R, .int .i64 C, hv]) (rd_loadXs (ds := [.int .i64 R, .int .i64 C, hv]) hS 4 rfl rfl rfl rfl Tryz.isAgg27 Tryz.sizeOf27) rfl ?_
        refine Wx.rd (v := .int .i64 nx) (rd_loadX hS 0 rfl rfl rfl Tryz.isAgg3) rfl ?_
        refine Wx.callB (run_callF Tryz.call38 rfl) (F38 hS (hS.arg a_hv)) rfl ?_
        rintro r_66 w_67 ⟨gn_68, gs_69, rfl, hS⟩
        refine Wx.nil ?_
        refine WD.block ?_
        have hS := hS.add (hS.arg a_hv)
        have hS := hS.front 7 rfl
        have hS := hS.front 7 rfl
        have hS := hS.front 7 rfl
        have hS := hS.front 7 rfl
        have hS := hS.front 7 rfl
        have hS := hS.front 5 rfl
        have hS := hS.front 7 rfl
        have hS := hS.front 7 rfl
        have hS : St _ _ w_67 (.box gn_68 3 [.int .i64 nx] :: .box gs_69 27 [.int .i64 R, .int .i64 C, hv] :: Ob.v (tSl (tI .i64)) H hv :: .box g_36 3 [.int .i64 nx] :: .row tBool 4 v_16 (List.set dn nx.toNat true) :: .box g_9 78 (List.map (Value.int .i64) y2) :: .box g_5 78 (List.map (Value.int .i64) (List.replicate 37 (0 : Int))) :: .box g_1 27 [.int .i64 R, .int .i64 C, hv] :: DOb Ds) := hS
        refine WD.range (ob := [.box g_36 3 [.int .i64 nx], .row tBool 4 v_16 (List.set dn nx.toNat true), .box g_9 78 (List.map (Value.int .i64) y2), .box g_5 78 (List.map (Value.int .i64) (List.replicate 37 (0 : Int))), .box g_1 27 [.int .i64 R, .int .i64 C, hv]]) (nbW C H.length nx) (fun ls ob => ∃ (y3 : List Int), (DjP C H (DB dn) nx (fun x => x ∈ ls) (ix 0 y3)) ∧ (y3.length = 37) ∧ (ZT H.length y3) ∧ ob = [.box g_36 3 [.int .i64 nx], .row tBool 4 v_16 (List.set dn nx.toNat true), .box g_9 78 (List.map (Value.int .i64) y3), .box g_5 78 (List.map (Value.int .i64) (List.replicate 37 (0 : Int))), .box g_1 27 [.int .i64 R, .int .i64 C, hv]]) (fun _ _ _ => False) [] rfl Tryz.call48 rfl rfl (iter85 p_ok hzr) hS ⟨y2, (djl_open hok i2 hzr hzd hzm), (i3), (i6), rfl⟩ ?_ ?_ ?_
        · -- a round
          rintro ls m pre_74 _ w_73 hpx ⟨y3, m2, m3, m4, rfl⟩ hS
          have hm := mem_nbW.1 (mem_pre hpx)
          have hm0 : 0 ≤ m ∧ m ≤ (H.length : Int) := by rcases hm with ⟨q, _⟩ | q <;> omega
          refine W.block ?_
          refine W.seq ?_
          refine W.reg ?_
          refine Wx.rd (v := .int .i64 m) (rd_move rfl) rfl ?_
          refine Wx.rd (v := .agg #[.int .i64 R, .int .i64 C, hv]) (rd_loadXs (ds := [.int .i64 R, .int .i64 C, hv]) hS 4 rfl rfl rfl rfl Tryz.isAgg27 Tryz.sizeOf27) rfl ?_
          refine Wx.callF (run_callF Tryz.call31 rfl) (F31 i_R i_C (hS.arg a_hv)) rfl ?_
          rintro r_75 w_76 hx_77 rfl
          have hS := hS.ext hx_77
          refine Wx.rd (v := .bool (decide (m < (H.length : Int)))) (rd_lss rfl rfl) rfl ?_
          refine Wx.nil ?_
          refine W.condD rfl (fun c5 => ?_) (fun c5 => ?_)
          · -- yes
            have hma : adjB C nx m = true := by rcases hm with q | q; exact q.2; omega
            refine W.regT 15 mixedYc_ (by kernel_rfl) ?_
            refine Wx.rd (v := .int .i64 m) (rd_move rfl) rfl ?_
            refine Wx.rd (v := .int .i64 m) (rd_move rfl) rfl ?_
            refine Wx.rd (v := .pointer (some ⟨g_9, 0 + m.toNat * 1, none⟩)) (rd_indexArr rfl rfl Tryz.underlying78 Tryz.sizeOf3 (by omega) (by omega)) rfl ?_
            refine Wx.rd (v := .int .i64 (ix 0 y3 m)) (rd_loadXa (d := 0) (f := (Value.int .i64)) (j := m) hS 2 rfl rfl (by omega) (by omega) (by omega) Tryz.isAgg3) rfl ?_
            refine Wx.rd (v := .int .i64 nx) (rd_loadX hS 0 rfl rfl rfl Tryz.isAgg3) rfl ?_
            refine Wx.rd (v := .pointer (some ⟨g_9, 0 + nx.toNat * 1, none⟩)) (rd_indexArr rfl rfl Tryz.underlying78 Tryz.sizeOf3 (by omega) (by omega)) rfl ?_
            refine Wx.rd (v := .int .i64 (ix 0 y3 nx)) (rd_loadXa (d := 0) (f := (Value.int .i64)) (j := nx) hS 2 rfl rfl (by omega) (by omega) (by omega) Tryz.isAgg3) rfl ?_
            refine Wx.rd (v := .pointer (some ⟨g_1, 2, none⟩)) (rd_fieldAddr rfl foYc_27_2) rfl ?_
            refine Wx.rd (v := hv) (rd_loadX hS 4 rfl rfl rfl Tryz.isAgg25) rfl ?_
            refine Wx.rd (v := .int .i64 m) (rd_move rfl) rfl ?_
            refine Wx.ex (rd_index 0 (hS.arg a_hv) rfl rfl Tryz.underlying25 Tryz.sizeOf3 (by first | omega | (simp only [List.length_set, List.length_append, List.length_cons, List.length_nil, List.length_replicate]; omega)) (by first | omega | (simp only [List.length_set, List.length_append, List.length_cons, List.length_nil, List.length_replicate]; omega))) rfl (fun p_78 hp_79 => ?_)
            refine Wx.rd (v := .int .i64 (ix 0 H m)) (rd_loadI hp_79 rfl Tryz.isAgg3 Tryz.sizeOf3) rfl ?_
            have bd_80 := bd_i64 hp_79.inK
            refine Wx.rd (v := .int .i64 (max (ix 0 y3 nx) (ix 0 H m))) (rd_max rfl rfl) rfl ?_
            refine Wx.rd (v := .int .i64 (min (ix 0 y3 m) (max (ix 0 y3 nx) (ix 0 H m)))) (rd_min rfl rfl) rfl ?_
            refine Wx.rd (v := .pointer (some ⟨g_9, 0 + m.toNat * 1, none⟩)) (rd_indexArr rfl rfl Tryz.underlying78 Tryz.sizeOf3 (by omega) (by omega)) rfl ?_
            refine Wx.nilQ (fun w_81 hx_82 => ?_)
            have hS := hS.ext hx_82
            refine Wx.storeXa (j := m) (f := (Value.int .i64)) (u := (min (ix 0 y3 m) (max (ix 0 y3 nx) (ix 0 H m)))) hS 2 rfl rfl (by omega) rfl rfl rfl Tryz.sizeOf3 (by omega) (by omega) (fun w_83 hz_84 hS => ?_)
            refine Wx.nil ?_
            have hS := hS.front 4 rfl
            have hS := hS.front 4 rfl
            have hS := hS.front 4 rfl
            have hS := hS.front 4 rfl
            have hS := hS.front 4 rfl
            have hS : St _ _ w_83 (.box g_36 3 [.int .i64 nx] :: .row tBool 4 v_16 (List.set dn nx.toNat true) :: .box g_9 78 (List.map (Value.int .i64) (List.set y3 m.toNat (min (ix 0 y3 m) (max (ix 0 y3 nx) (ix 0 H m))))) :: .box g_5 78 (List.map (Value.int .i64) (List.replicate 37 (0 : Int))) :: .box g_1 27 [.int .i64 R, .int .i64 C, hv] :: pre_74) := hS
            exact ⟨_, ⟨List.set y3 m.toNat (min (ix 0 y3 m) (max (ix 0 y3 nx) (ix 0 H m))), (djl_look hok hzr m2 (by omega) ⟨hm0.1, c5⟩ hma), (by simp only [List.length_set]; exact m3), (zt_set m4 (by omega) (by omega)), rfl⟩, hS⟩
          · -- no
            refine W.skip ?_
            have hS := hS.front 4 rfl
            have hS := hS.front 4 rfl
            have hS := hS.front 4 rfl
            have hS := hS.front 4 rfl
            have hS := hS.front 4 rfl
            have hS : St _ _ w_76 (.box g_36 3 [.int .i64 nx] :: .row tBool 4 v_16 (List.set dn nx.toNat true) :: .box g_9 78 (List.map (Value.int .i64) y3) :: .box g_5 78 (List.map (Value.int .i64) (List.replicate 37 (0 : Int))) :: .box g_1 27 [.int .i64 R, .int .i64 C, hv] :: pre_74) := hS
            exact ⟨_, ⟨y3, (djl_river m2 (by omega)), (by first | omega | assumption), (by first | omega | assumption), rfl⟩, hS⟩
        · -- all have come
          rintro _ D_85 w_86 ⟨y3, m2, m3, m4, rfl⟩ hS
          have hS : St _ _ w_86 (.box g_36 3 [.int .i64 nx] :: .row tBool 4 v_16 (List.set dn nx.toNat true) :: .box g_9 78 (List.map (Value.int .i64) y3) :: .box g_5 78 (List.map (Value.int .i64) (List.replicate 37 (0 : Int))) :: .box g_1 27 [.int .i64 R, .int .i64 C, hv] :: DOb (D_85 :: Ds)) := hS
          refine WD.ofW ?_
          refine W.reg ?_
          refine Wx.rd (v := .int .i64 (i + 1)) (rd_add rfl rfl (in_i64 (by omega) (by omega))) rfl ?_
          refine Wx.rd (v := .int .i64 (i + 1)) (rd_move rfl) rfl ?_
          refine Wx.nil ?_
          refine ⟨(i + 1, List.set dn nx.toNat true, y3, (D_85 :: Ds)), (by show (H.length - (i + 1)).toNat < (H.length - i).toNat; omega), rfl, ?_, ?_, Out.look rfl (Out.hav rfl (Out.look rfl Out.self))⟩
          · exact ⟨hS.tl, (by first | omega | assumption), (by first | omega | assumption), (djl_close hzr i4 m2), (m3), (by simp only [List.length_set]; exact i4), (by rw [cnt_set hzr i4 hzd]; omega), (m4)⟩
          · exact ⟨rfl, trivial⟩
        · exact fun _ _ _ _ _ h => h.elim
    · -- no
      refine W.exit rfl ?_
      refine WD.ofW ?_
      refine W.seq ?_
      refine W.reg ?_
      refine Wx.rd (v := .agg (List.map (Value.int .i64) y2).toArray) (rd_loadXs (ds := List.map (Value.int .i64) y2) hS 1 rfl rfl (by rw [List.drop_zero, List.take_of_length_le (by simp; omega)]) (by simp; omega) Tryz.isAgg78 Tryz.sizeOf78) rfl ?_
      refine Wx.storeX (cs' := List.map (Value.int .i64) y2) (ds := List.map (Value.int .i64) y2) hS 2 rfl rfl rfl rfl (fun w' => by rw [List.length_map, show List.length y2 = 37 by first | omega | (simp; omega) | simp]; exact Tryz.sizeOf78 w') (by first | (simp; omega) | simp) (by intro u hu; obtain ⟨_, _, rfl⟩ := List.mem_map.1 hu; rfl) (by rw [List.take_zero, List.nil_append, List.drop_of_length_le (by first | (simp; omega) | simp), List.append_nil]) (fun w_87 hz_88 hS => ?_)
      refine Wx.nil ?_
      have hS : St _ _ w_87 (.row tBool 4 v_16 dn :: .box g_9 78 (List.map (Value.int .i64) y2) :: .box g_5 78 (List.map (Value.int .i64) y2) :: .box g_1 27 [.int .i64 R, .int .i64 C, hv] :: DOb Ds) := hS
      refine W.ret ⟨[.row tBool 4 v_16 dn, .box g_9 78 (List.map (Value.int .i64) y2), .box g_5 78 (List.map (Value.int .i64) y2), .box g_1 27 [.int .i64 R, .int .i64 C, hv]], hS, fun w_89 hS => ?_⟩
      exact ⟨.agg (List.map (Value.int .i64) y2).toArray, (ResIs.cell1 hS 2 rfl rfl Tryz.isAgg78 (fun w' => by rw [List.length_map, show List.length y2 = 37 by first | omega | (simp; omega) | simp]; exact Tryz.sizeOf78 w')), hS.bel, ⟨y2, (by exact ⟨⟨i3, fun x x0 x1 => dj_end i2 (cnt_all (by omega)) x ⟨x0, x1⟩⟩, i6⟩), rfl⟩⟩

theorem F80 {R : Int} {C : Int} {hv : Value} {H : List Int} {O : List (Option Nat)} {w : World} (i_R : InK .i64 R) (i_C : InK .i64 C) (h_hv : V (tSl (tI .i64)) H hv O w) (p_ok : SOK R C H) (hO : ∀ b, some b ∈ O → b < w.heap.size) : Calls Tryz.prog 80 #[.agg #[.int .i64 R, .int .i64 C, hv]] w (Ret w (fun r _ => ∃ ys : List Int, (ys.length = 37 ∧ ∀ x, 0 ≤ x → x < (H.length : Int) → ix 0 ys x = sillV C H x) ∧ r = .agg (List.map (Value.int .i64) ys).toArray)) :=
  (F80z i_R i_C h_hv p_ok hO).mono fun _ _ ⟨r, he, hx, ys, ⟨h1, _⟩, h2⟩ => ⟨r, he, hx, ys, h1, h2⟩
end Go.Proofs.YtdpdlplkngggoaaGreatDoor

namespace Go.Proofs.YtdpdlplkngggoaaGreatDoor
open Go.Wk Go.RowKit Go.Lib
set_option linter.unusedVariables false
set_option linter.unusedSimpArgs false
theorem elYd_25 : ElemI Tryz.prog 25 3 (.int .i64 0) 1 8 := ElemI.of Tryz.underlying25 (by kernel_rfl) (by first | rfl | kernel_rfl) (by decide)

theorem F81 {xv : Value} {xs : List Int} {Fr_xv : List (Option Nat)} {w : World} (h_xv : V (tSl (tI .i64)) xs xv Fr_xv w) (p_1000 : (xs.length : Int) ≤ 1000) : Calls Tryz.prog 81 #[xv] w (Ret w (fun r w' => ∃ rv, r = rv ∧ Fresh (tI .i64) 3 xs rv w.heap.size w')) := by
  have a_xv := h_xv.any
  have l_xv := h_xv.len63
  have hS := St.start0 w
  refine enterR Tryz.func81 rfl Tryz.ntmps81 Tryz.results81 rfl ?_
  refine W.seq ?_
  refine W.reg ?_
  refine Wx.rd (v := (.slice none 0 0)) (rd_assign rfl) rfl ?_
  refine Wx.nil ?_
  refine W.seq ?_
  refine W.seq ?_
  refine W.reg ?_
  refine Wx.rd (v := xv) (rd_move rfl) rfl ?_
  refine Wx.ex (rd_eqlNilV (hS.arg a_xv) rfl rfl Tryz.underlying25) rfl (fun u_1 hu_u_1 => ?_)
  obtain ⟨b_2, rfl, hb_3⟩ := hu_u_1
  refine Wx.nil ?_
  refine W.cond rfl (fun c0 => ?_) (fun c0 => ?_)
  · -- yes
    try simp only [Bool.and_eq_true, Bool.or_eq_true, Bool.not_eq_true', Bool.and_eq_false_iff, Bool.or_eq_false_iff, Bool.not_eq_false', decide_eq_true_eq, decide_eq_false_iff_not, not_or, Bool.false_eq_true, Bool.true_eq_false, false_or, or_false, not_false_eq_true] at c0
    refine W.seq ?_
    refine W.reg ?_
    refine Wx.rd (v := (.slice none 0 0)) (rd_assign rfl) rfl ?_
    refine Wx.nil ?_
    have e0_0 : xs = [] := by solve_by_elim
    exact W.ret ⟨(.slice none 0 0), ResIs.one, hS.bel, ⟨(.slice none 0 0), rfl, (by rw [e0_0]; exact ((hS.addNil (tI .i64) 3).fr 0 rfl flat_int))⟩⟩
  · -- no
    try simp only [Bool.and_eq_true, Bool.or_eq_true, Bool.not_eq_true', Bool.and_eq_false_iff, Bool.or_eq_false_iff, Bool.not_eq_false', decide_eq_true_eq, decide_eq_false_iff_not, not_or, Bool.false_eq_true, Bool.true_eq_false, false_or, or_false, not_false_eq_true] at c0
    refine W.skip ?_
    refine W.seq ?_
    refine W.reg ?_
    refine Wx.lit (t := (tI .i64)) (ys := []) (vs := []) elYd_25 hS rfl rfl trivial (by decide) rfl (fun v_4 w_5 hx_6 hS => ?_)
    refine Wx.rd (v := xv) (rd_move rfl) rfl ?_
    refine Wx.append elYd_25 hS 0 rfl rfl rfl (Src.ofV (hS.arg a_xv)) (by simp only [maxLen]; first | omega | (simp; omega) | simp) (by first | omega | (simp; omega) | simp) rfl (fun v_7 w_8 hz_9 hS => ?_)
    refine Wx.rd (v := v_7) (rd_assign rfl) rfl ?_
    refine Wx.nil ?_
    have e1_0 : xs = [] ++ xs := by first | rfl | omega
    exact W.ret ⟨v_7, ResIs.one, hS.bel, ⟨v_7, rfl, (by rw [e1_0]; exact (hS.fr 0 rfl flat_int))⟩⟩

theorem F61 {R : Int} {C : Int} {hv : Value} {H : List Int} {O : List (Option Nat)} {w : World} (i_R : InK .i64 R) (i_C : InK .i64 C) (h_hv : V (tSl (tI .i64)) H hv O w) (hO : ∀ b, some b ∈ O → b < w.heap.size) : Calls Tryz.prog 61 #[.agg #[.int .i64 R, .int .i64 C, hv]] w (Ret w (fun r w' => ∃ rv, r = .tuple #[rv, .int .i64 (checkS R C H)] ∧ Fresh (tI .i64) 3 (sillsE R C H) rv w.heap.size w')) := by
  have b_C := bd_i64 i_C
  have b_R := bd_i64 i_R
  have a_hv := h_hv
  have l_hv := h_hv.len63
  have hS := St.start w O hO
  refine enterR Tryz.func61 rfl Tryz.ntmps61 Tryz.results61 rfl ?_
  refine W.seq ?_
  refine W.reg ?_
  refine Wx.box (cs := [.int .i64 R, .int .i64 C, hv]) hS rfl rfl rfl (fun g_1 w_2 hx_4 hb_3 hS => ?_)
  refine Wx.rd (v := (.slice none 0 0)) (rd_assign rfl) rfl ?_
  refine Wx.rd (v := .int .i64 0) (rd_assign rfl) rfl ?_
  refine Wx.nil ?_
  refine W.seq ?_
  refine W.seq ?_
  refine W.reg ?_
  refine Wx.rd (v := .agg #[.int .i64 R, .int .i64 C, hv]) (rd_loadXs (ds := [.int .i64 R, .int .i64 C, hv]) hS 0 rfl rfl rfl rfl Tryz.isAgg27 Tryz.sizeOf27) rfl ?_
  refine Wx.callF (run_callF Tryz.call21 rfl) (F21 i_R i_C (hS.arg a_hv)) rfl ?_
  rintro r_5 w_6 hx_7 rfl
  have hS := hS.ext hx_7
  refine Wx.rd (v := .int .i64 (checkS R C H)) (rd_assign rfl) rfl ?_
  refine Wx.nil ?_
  refine W.seq ?_
  refine W.reg ?_
  refine Wx.rd (v := .int .i64 (checkS R C H)) (rd_move rfl) rfl ?_
  refine Wx.rd (v := .bool (decide ((checkS R C H) ≠ 0))) (rd_neq rfl rfl) rfl ?_
  refine Wx.nil ?_
  refine W.condD rfl (fun c0 => ?_) (fun c0 => ?_)
  · -- yes
    refine W.seq ?_
    refine W.reg ?_
    refine Wx.rd (v := .int .i64 (checkS R C H)) (rd_move rfl) rfl ?_
    refine Wx.rd (v := (.slice none 0 0)) (rd_assign rfl) rfl ?_
    refine Wx.rd (v := .int .i64 (checkS R C H)) (rd_assign rfl) rfl ?_
    refine Wx.nil ?_
    have e0_0 : sillsE R C H = [] := by rw [sillsE, if_neg c0]
    exact W.ret ⟨.tuple #[(.slice none 0 0), .int .i64 (checkS R C H)], ResIs.two, hS.bel, ⟨(.slice none 0 0), rfl, (by rw [e0_0]; exact ((hS.addNil (tI .i64) 3).fr 0 rfl flat_int))⟩⟩
  · -- no
    have h0c : checkS R C H = 0 := by omega
    have p_ok := SOK.of h0c
    obtain ⟨⟨r1, r2⟩, ⟨c1_, c2_⟩, hRC, ⟨n1, n36⟩, hCn, hok⟩ := id p_ok
    refine W.skip ?_
    refine W.seq ?_
    refine W.reg ?_
    refine Wx.rd (v := .agg #[.int .i64 R, .int .i64 C, hv]) (rd_loadXs (ds := [.int .i64 R, .int .i64 C, hv]) hS 0 rfl rfl rfl rfl Tryz.isAgg27 Tryz.sizeOf27) rfl ?_
    refine Wx.callF (run_callF Tryz.call80 rfl) (F80 i_R i_C (hS.arg a_hv) p_ok hS.fb_lt) rfl ?_
    rintro r_9 w_10 hx_11 ⟨l_8, hex, rfl⟩
    have hS := hS.ext hx_11
    refine Wx.alloc (cs := List.map (Value.int .i64) (List.replicate 37 (0 : Int))) hS Tryz.zeroValue78 (by kernel_rfl) rfl (fun g_12 w_13 hx_15 hb_14 hS => ?_)
    have hS : St _ _ w_13 [.box g_12 78 (List.map (Value.int .i64) (List.replicate 37 (0 : Int))), .box g_1 27 [.int .i64 R, .int .i64 C, hv]] := hS
    refine Wx.storeX (cs' := List.map (Value.int .i64) l_8) (ds := List.map (Value.int .i64) l_8) hS 0 rfl rfl rfl rfl (fun w' => by rw [List.length_map, show List.length l_8 = 37 by first | omega | (simp; omega) | simp]; exact Tryz.sizeOf78 w') (by first | (simp; omega) | simp) (by intro u hu; obtain ⟨_, _, rfl⟩ := List.mem_map.1 hu; rfl) (by rw [List.take_zero, List.nil_append, List.drop_of_length_le (by first | (simp; omega) | simp), List.append_nil]) (fun w_16 hz_17 hS => ?_)
    refine Wx.nil ?_
    refine W.seq ?_
    refine W.reg ?_
    refine Wx.rd (v := .agg #[.int .i64 R, .int .i64 C, hv]) (rd_loadXs (ds := [.int .i64 R, .int .i64 C, hv]) hS 1 rfl rfl rfl rfl Tryz.isAgg27 Tryz.sizeOf27) rfl ?_
    refine Wx.callF (run_callF Tryz.call31 rfl) (F31 i_R i_C (hS.arg a_hv)) rfl ?_
    rintro r_18 w_19 hx_20 rfl
    have hS := hS.ext hx_20
    refine Wx.rd (v := (.slice (some ⟨g_12, 0, none⟩) (H.length : Int).toNat 37)) (rd_sliceArrH (m := 37) Tryz.underlying78 Tryz.sizeOf3 rfl rfl (by omega) (by omega)) rfl ?_
    have hS := hS.sliceBox (o := 0) (k := .i64) (m := (H.length : Int).toNat) (xs := List.take (H.length : Int).toNat l_8) (cap := 37) 0 rfl (by exact take_map_take (Value.int .i64) l_8 _) (kn_in (f := sillV C H) (by omega) hex.2 (fun x x0 x1 => by have := p_ok.sill x0 x1; omega)) (by simp; omega) (by omega) (by decide)
    have hS := hS.add (t := tSl (tI .i64)) (x := sillsL C H) (v := .slice (some ⟨g_12, 0, none⟩) (H.length : Int).toNat 37) (by have q := (hS.v 0 rfl); rw [show List.take (H.length : Int).toNat l_8 = sillsL C H from take_map (by omega) (by omega) hex.2] at q; exact q)
    refine Wx.callF (run_callF Tryz.call81 rfl) (F81 (hS.v 0 rfl) (by have := rng_length (i := 0) (n := H.length) (by omega); simp [sillsL]; omega)) rfl ?_
    rintro r_22 w_23 hx_24 ⟨_, rfl, hv_25⟩
    have hS := hS.pushFr hx_24 hv_25
    refine Wx.rd (v := r_22) (rd_assign rfl) rfl ?_
    refine Wx.rd (v := .int .i64 0) (rd_assign rfl) rfl ?_
    refine Wx.nil ?_
    have e1_0 : sillsE R C H = (sillsL C H) := by rw [sillsE, if_pos h0c]
    have e1_1 : (checkS R C H) = (0 : Int) := by exact h0c
    exact W.ret ⟨.tuple #[r_22, .int .i64 0], ResIs.two, hS.bel, ⟨r_22, (by rw [e1_1]), (by rw [e1_0]; exact (hS.fr 0 rfl flat_int))⟩⟩
end Go.Proofs.YtdpdlplkngggoaaGreatDoor

namespace Go.Proofs.YtdpdlplkngggoaaGreatDoor
open Go.Wk Go.RowKit Go.Lib
set_option linter.unusedVariables false
set_option linter.unusedSimpArgs false
theorem elVb_25 : ElemI Tryz.prog 25 3 (.int .i64 0) 1 8 := ElemI.of Tryz.underlying25 (by kernel_rfl) (by first | rfl | kernel_rfl) (by decide)
theorem elVb_30 : ElemI Tryz.prog 30 25 ((.slice none 0 0)) 1 24 := ElemI.of Tryz.underlying30 (by kernel_rfl) (by first | rfl | kernel_rfl) (by decide)

set_option maxHeartbeats 2000000 in
theorem C3.F47  {w : World}  : Calls Tryz.prog 47 #[] w (Ret w (fun r _ => r = .bool true)) := by
  have hS := St.start0 w
  refine enterR Tryz.func47 rfl Tryz.ntmps47 Tryz.results47 rfl ?_
  refine W.seq ?_
  refine W.reg ?_
  refine Wx.rd (v := .bool false) (rd_assign rfl) rfl ?_
  refine Wx.nil ?_
  refine W.seq ?_
  refine W.reg ?_
  refine Wx.lit (t := (tI .i64)) (ys := [9, 3, 6, 1]) (vs := [.int .i64 9, .int .i64 3, .int .i64 6, .int .i64 1]) elVb_25 hS rfl rfl ⟨(V.mkInt (in_i64 (by omega) (by omega))), ⟨(V.mkInt (in_i64 (by omega) (by omega))), ⟨(V.mkInt (in_i64 (by omega) (by omega))), ⟨(V.mkInt (in_i64 (by omega) (by omega))), trivial⟩⟩⟩⟩ (by decide) rfl (fun v_1 w_2 hx_3 hS => ?_)
  have hS := hS.freeze 0 rfl
  refine Wx.callF (run_callF Tryz.call35 rfl) (F35 (hS.v 0 rfl) hS.fb_lt) rfl ?_
  rintro r_5 w_6 hx_7 ⟨_, rfl, hv_8⟩
  have ln_10 := hv_8.len63
  have hS := hS.ext hx_7
  have hS := hS.add hv_8
  refine Wx.rd (v := .agg #[.int .i64 4, .int .i64 1, r_5]) (rd_buildC (vs := [(0, .int .i64 4), (1, .int .i64 1), (2, r_5)]) (us := [(0, .agg #[.int .i64 4]), (1, .agg #[.int .i64 1]), (2, .agg #[r_5])]) rfl (parts_cons rfl (parts_cons rfl (parts_cons (Go.Wk.cells_one (V.oneC (hS.v 0 rfl))) parts_nil))) (by kernel_rfl)) rfl ?_
  refine Wx.alloc (cs := [.int .i64 0, .int .i64 0, (.slice none 0 0)]) hS Tryz.zeroValue27 rfl rfl (fun g_11 w_12 hx_14 hb_13 hS => ?_)
  refine Wx.storeX (cs' := [.int .i64 4, .int .i64 1, r_5]) (ds := [.int .i64 4, .int .i64 1, r_5]) hS 0 rfl rfl rfl rfl Tryz.sizeOf27 (Nat.le_of_ble_eq_true rfl) (one_cons rfl (one_cons rfl (one_cons (V.oneC (hS.v 1 rfl)) one_nil))) rfl (fun w_15 hz_16 hS => ?_)
  refine Wx.nil ?_
  refine W.seq ?_
  refine W.reg ?_
  refine Wx.rd (v := .agg #[.int .i64 4, .int .i64 1, r_5]) (rd_loadXs (ds := [.int .i64 4, .int .i64 1, r_5]) hS 0 rfl rfl rfl rfl Tryz.isAgg27 Tryz.sizeOf27) rfl ?_
  refine Wx.callF (run_callF Tryz.call61 rfl) (F61 (in_i64 (by omega) (by omega)) (in_i64 (by omega) (by omega)) (hS.v 1 rfl) hS.fb_lt) rfl ?_
  rintro r_17 w_18 hx_19 ⟨v_20, rfl, hv_21⟩
  have hS := hS.pushFr hx_19 hv_21
  refine Wx.rd (v := .tuple #[v_20, .int .i64 (checkS 4 1 [9, 3, 6, 1])]) (rd_move rfl) rfl ?_
  refine Wx.rd (v := v_20) (rd_extract rfl rfl) rfl ?_
  refine Wx.rd (v := .int .i64 0) (Rd.to (v := .int .i64 (checkS 4 1 [9, 3, 6, 1])) (rd_extract rfl rfl) (congrArg (Value.int .i64) (show (0 : Int) = (checkS 4 1 [9, 3, 6, 1] : Int) from (by decide +kernel)).symm)) rfl ?_
  refine Wx.rd (v := v_20) (rd_assign rfl) rfl ?_
  refine Wx.rd (v := .int .i64 0) (rd_assign rfl) rfl ?_
  refine Wx.nil ?_
  refine W.seq ?_
  refine W.reg ?_
  refine Wx.lit (t := (tI .i64)) (ys := [0, 1]) (vs := [.int .i64 0, .int .i64 1]) elVb_25 hS rfl rfl ⟨(V.mkInt (in_i64 (by omega) (by omega))), ⟨(V.mkInt (in_i64 (by omega) (by omega))), trivial⟩⟩ (by decide) rfl (fun v_23 w_24 hx_25 hS => ?_)
  refine Wx.lit (t := (tI .i64)) (ys := [1, 2]) (vs := [.int .i64 1, .int .i64 2]) elVb_25 hS rfl rfl ⟨(V.mkInt (in_i64 (by omega) (by omega))), ⟨(V.mkInt (in_i64 (by omega) (by omega))), trivial⟩⟩ (by decide) rfl (fun v_26 w_27 hx_28 hS => ?_)
  refine Wx.lit (t := (tI .i64)) (ys := [2, 3]) (vs := [.int .i64 2, .int .i64 3]) elVb_25 hS rfl rfl ⟨(V.mkInt (in_i64 (by omega) (by omega))), ⟨(V.mkInt (in_i64 (by omega) (by omega))), trivial⟩⟩ (by decide) rfl (fun v_29 w_30 hx_31 hS => ?_)
  have hS := hS.freeze 2 rfl
  have hS := hS.freeze 2 rfl
  have hS := hS.freeze 2 rfl
  refine Wx.lit (t := (tSl (tI .i64))) (ys := [[0, 1], [1, 2], [2, 3]]) (vs := [v_23, v_26, v_29]) elVb_30 hS rfl rfl ⟨(hS.v 2 rfl), ⟨(hS.v 1 rfl), ⟨(hS.v 0 rfl), trivial⟩⟩⟩ (by decide) rfl (fun v_35 w_36 hx_37 hS => ?_)
  refine Wx.rd (v := .agg #[.int .i64 4, v_35]) (rd_buildC (vs := [(0, .int .i64 4), (1, v_35)]) (us := [(0, .agg #[.int .i64 4]), (1, .agg #[v_35])]) rfl (parts_cons rfl (parts_cons (Go.Wk.cells_one (hS.rowOne 0 rfl)) parts_nil)) (by kernel_rfl)) rfl ?_
  refine Wx.callF (run_callF Tryz.call62 rfl) (C3.F62 (in_i64 (by omega) (by omega)) (hS.lend 0 rfl)) rfl ?_
  rintro r_38 w_39 hx_40 ⟨v_41, rfl, hv_42⟩
  have hS := hS.pushFr hx_40 hv_42
  refine Wx.rd (v := .tuple #[v_41, .int .i64 (firstE 4 [[0, 1], [1, 2], [2, 3]])]) (rd_move rfl) rfl ?_
  refine Wx.rd (v := v_41) (rd_extract rfl rfl) rfl ?_
  refine Wx.rd (v := .int .i64 0) (Rd.to (v := .int .i64 (firstE 4 [[0, 1], [1, 2], [2, 3]])) (rd_extract rfl rfl) (congrArg (Value.int .i64) (show (0 : Int) = (firstE 4 [[0, 1], [1, 2], [2, 3]] : Int) from (by decide +kernel)).symm)) rfl ?_
  refine Wx.rd (v := v_41) (rd_assign rfl) rfl ?_
  refine Wx.rd (v := .int .i64 0) (rd_assign rfl) rfl ?_
  refine Wx.nil ?_
  refine W.seq ?_
  refine W.reg ?_
  refine Wx.rd (v := .int .i64 0) (rd_move rfl) rfl ?_
  refine Wx.rd (v := .bool true) (Rd.to (v := .bool (decide ((0 : Int) = 0))) (rd_eql rfl rfl) rfl) rfl ?_
  refine Wx.rd (v := .bool true) (rd_move rfl) rfl ?_
  refine Wx.gyes rfl rfl rfl ?_
  refine Wx.rd (v := .int .i64 0) (rd_move rfl) rfl ?_
  refine Wx.gyes rfl rfl rfl ?_
  refine Wx.rd (v := .bool true) (Rd.to (v := .bool (decide ((0 : Int) = 0))) (rd_eql rfl rfl) rfl) rfl ?_
  refine Wx.rd (v := .bool true) (rd_pickT rfl rfl) rfl ?_
  refine Wx.rd (v := .bool true) (rd_move rfl) rfl ?_
  refine Wx.gyes rfl rfl rfl ?_
  refine Wx.rd (v := v_20) (rd_move rfl) rfl ?_
  refine Wx.gyes rfl rfl rfl ?_
  refine Wx.lit (t := (tI .i64)) (ys := [9, 6, 6, 1]) (vs := [.int .i64 9, .int .i64 6, .int .i64 6, .int .i64 1]) elVb_25 hS rfl rfl ⟨(V.mkInt (in_i64 (by omega) (by omega))), ⟨(V.mkInt (in_i64 (by omega) (by omega))), ⟨(V.mkInt (in_i64 (by omega) (by omega))), ⟨(V.mkInt (in_i64 (by omega) (by omega))), trivial⟩⟩⟩⟩ (by decide) rfl (fun v_44 w_45 hx_46 hS => ?_)
  refine Wx.gyes rfl rfl rfl ?_
  have hS := hS.freeze 0 rfl
  refine Wx.callF (run_callF Tryz.call35 rfl) (F35 (hS.v 0 rfl) hS.fb_lt) rfl ?_
  rintro r_48 w_49 hx_50 ⟨_, rfl, hv_51⟩
  have ln_53 := hv_51.len63
  have hS := hS.ext hx_50
  have hS := hS.add hv_51
  refine Wx.gyes rfl rfl rfl ?_
  refine Wx.callF (run_callF Tryz.call34 rfl) (F34 (hS.lend 7 rfl) (hS.v 0 rfl)) rfl ?_
  rintro r_54 w_55 hx_56 rfl
  have hS := hS.ext hx_56
  rw [show (decide ((sillsE 4 1 [9, 3, 6, 1]) = [9, 6, 6, 1]) : Bool) = true from (by decide +kernel)]
  refine Wx.rd (v := .bool true) (rd_pickT rfl rfl) rfl ?_
  refine Wx.rd (v := .bool true) (rd_move rfl) rfl ?_
  refine Wx.gyes rfl rfl rfl ?_
  refine Wx.rd (v := v_41) (rd_move rfl) rfl ?_
  refine Wx.gyes rfl rfl rfl ?_
  refine Wx.lit (t := (tI .i64)) (ys := [0, 1, 2, 3]) (vs := [.int .i64 0, .int .i64 1, .int .i64 2, .int .i64 3]) elVb_25 hS rfl rfl ⟨(V.mkInt (in_i64 (by omega) (by omega))), ⟨(V.mkInt (in_i64 (by omega) (by omega))), ⟨(V.mkInt (in_i64 (by omega) (by omega))), ⟨(V.mkInt (in_i64 (by omega) (by omega))), trivial⟩⟩⟩⟩ (by decide) rfl (fun v_57 w_58 hx_59 hS => ?_)
  refine Wx.gyes rfl rfl rfl ?_
  have hS := hS.freeze 0 rfl
  refine Wx.callF (run_callF Tryz.call35 rfl) (F35 (hS.v 0 rfl) hS.fb_lt) rfl ?_
  rintro r_61 w_62 hx_63 ⟨_, rfl, hv_64⟩
  have ln_66 := hv_64.len63
  have hS := hS.ext hx_63
  have hS := hS.add hv_64
  refine Wx.gyes rfl rfl rfl ?_
  refine Wx.callF (run_callF Tryz.call34 rfl) (F34 (hS.lend 4 rfl) (hS.v 0 rfl)) rfl ?_
  rintro r_67 w_68 hx_69 rfl
  have hS := hS.ext hx_69
  rw [show (decide ((firstL 4 [[0, 1], [1, 2], [2, 3]]) = [0, 1, 2, 3]) : Bool) = true from (by decide +kernel)]
  refine Wx.rd (v := .bool true) (rd_pickT rfl rfl) rfl ?_
  refine Wx.rd (v := .bool true) (rd_assign rfl) rfl ?_
  refine Wx.nil ?_
  exact W.ret ⟨.bool true, ResIs.one, hS.bel, rfl⟩
end Go.Proofs.YtdpdlplkngggoaaGreatDoor

namespace Go.Proofs.YtdpdlplkngggoaaGreatDoor.C5
open Go.Wk

def rng (i n : Int) : List Int := (List.range (n - i).toNat).map fun (k : Nat) => i + k
theorem rng_mem {i n x : Int} : x ∈ rng i n ↔ i ≤ x ∧ x < n := by
  rw [rng, List.mem_map]
  constructor
  · rintro ⟨k, hk, rfl⟩
    rw [List.mem_range] at hk
    omega
  · intro h
    exact ⟨(x - i).toNat, List.mem_range.2 (by omega), by omega⟩
theorem rng_nil {i n : Int} (h : n ≤ i) : rng i n = [] := by rw [rng, show (n - i).toNat = 0 by omega]; rfl
theorem rng_cons {i n : Int} (h : i < n) : rng i n = i :: rng (i + 1) n := by
  rw [rng, show (n - i).toNat = (n - (i + 1)).toNat + 1 by omega, List.range_succ_eq_map, List.map_cons, List.map_map, rng]
  simp only [List.cons.injEq]
  refine ⟨by omega, List.map_congr_left fun k _ => ?_⟩
  show i + ((k + 1 : Nat) : Int) = i + 1 + (k : Int)
  omega
theorem rng_snoc {i n : Int} (h : i ≤ n) : rng i (n + 1) = rng i n ++ [n] := by
  rw [rng, show (n + 1 - i).toNat = (n - i).toNat + 1 by omega, List.range_succ, List.map_append, rng]
  simp only [List.map_cons, List.map_nil, List.append_cancel_left_eq, List.cons.injEq, and_true]
  omega
theorem rng_asc (i n : Int) : (rng i n).Pairwise (· < ·) := by
  rw [rng, List.pairwise_map]
  exact List.pairwise_lt_range.imp fun h => by omega

abbrev Join := Int × Int
def cmb (x y : Int × Int) : Int × Int := if x.1 < y.1 then y else if y.1 = x.1 then (x.1, x.2 + y.2) else x
def joinP (a b : Int × Int) : Int × Int := (a.1 + b.1 + 1, a.2 * b.2)
def partT (F : Int → Int → Bool) : Nat → Int → Int → Int × Int
  | 0, _, _ => (0, 1)
  | m + 1, i, n => if n ≤ i then (0, 1) else (rng (i + 1) n).foldl (fun best j => if F i j = true then cmb best (joinP (partT F m (i + 1) j) (partT F m (j + 1) n)) else best) (partT F m (i + 1) n)
def partP (F : Int → Int → Bool) (i n : Int) : Int × Int := partT F (n - i).toNat i n
end Go.Proofs.YtdpdlplkngggoaaGreatDoor.C5

namespace Go.Proofs.YtdpdlplkngggoaaGreatDoor.C5
open Go.Wk

variable {F : Int → Int → Bool}

/-! ### how deep a recursion goes does not matter -/
/-! ### how many joins, and how many plans -/
/-! ### the first greatest plan -/
end Go.Proofs.YtdpdlplkngggoaaGreatDoor.C5

namespace Go.Proofs.YtdpdlplkngggoaaGreatDoor.C5
open Go.Wk

variable {F : Int → Int → Bool}

/-! ### the order of plans -/
end Go.Proofs.YtdpdlplkngggoaaGreatDoor.C5

namespace Go.Proofs.YtdpdlplkngggoaaGreatDoor.C5
open Go.Wk

def usedB (l : List Join) (i : Int) : Bool := l.any fun x => decide (x.1 = i) || decide (x.2 = i)
def crossB (y x : Join) : Bool := ((decide (x.1 < y.1) && decide (y.1 < x.2)) && decide (x.2 < y.2)) || ((decide (y.1 < x.1) && decide (x.1 < y.2)) && decide (y.2 < x.2))
def crossesB (l : List Join) (x : Join) : Bool := l.any fun y => crossB y x
def goesB (F : Int → Int → Bool) (l : List Join) (i j : Int) : Bool := (F i j && !usedB l j) && !crossesB l (i, j)
def plansR (F : Int → Int → Bool) (n least : Int) : Nat → List Join → Int → List (List Join)
  | 0, begun, frm => if (begun.length : Int) + (n - frm) / 2 < least then [] else if least ≤ begun.length then [begun] else []
  | m + 1, begun, frm => if (begun.length : Int) + (n - frm) / 2 < least then [] else
    ((rng frm n).flatMap fun i => if usedB begun i = true then [] else (rng (i + 1) n).flatMap fun j => if goesB F begun i j = true then plansR F n least m (begun ++ [(i, j)]) (i + 1) else []) ++ (if least ≤ begun.length then [begun] else [])
end Go.Proofs.YtdpdlplkngggoaaGreatDoor.C5

namespace Go.Proofs.YtdpdlplkngggoaaGreatDoor.C5
open Go.Wk

variable {F : Int → Int → Bool}

end Go.Proofs.YtdpdlplkngggoaaGreatDoor.C5

namespace Go.Proofs.YtdpdlplkngggoaaGreatDoor.C5
open Go.Wk

/-! ### letters -/
def isLet (c : Int) : Bool := decide (97 ≤ c ∧ c ≤ 106) || decide (65 ≤ c ∧ c ≤ 74)
def letS : ByteArray := { data := #[97, 98, 99, 100, 101, 102, 103, 104, 105, 106, 65, 66, 67, 68, 69, 70, 71, 72, 73, 74] }
def letsB (s : ByteArray) : Bool := (List.range s.size).all fun (p : Nat) => isLet (tabAt s p)
def rimE (s : ByteArray) : Int := if 12 < (s.size : Int) then 3 else if letsB s = true then 0 else 10
def Lets (s : ByteArray) : Prop := ∀ p : Int, 0 ≤ p → p < s.size → isLet (tabAt s p) = true
theorem letsB_iff {s : ByteArray} : letsB s = true ↔ Lets s := by
  rw [letsB, List.all_eq_true]
  constructor
  · intro h p h0 h1
    have := h p.toNat (List.mem_range.2 (by omega))
    rwa [Int.toNat_of_nonneg h0] at this
  · intro h p hp
    exact h p (by omega) (by have := List.mem_range.1 hp; omega)
theorem rimE_ok {s : ByteArray} (h : rimE s = 0) : (s.size : Int) ≤ 12 ∧ Lets s := by
  rw [rimE] at h
  split at h
  · cases h
  · split at h
    · rename_i h1 h2; exact ⟨by omega, letsB_iff.1 h2⟩
    · cases h
theorem isLet_bd {c : Int} (h : isLet c = true) : 65 ≤ c ∧ c ≤ 106 := by
  simp only [isLet, Bool.or_eq_true, decide_eq_true_eq] at h; omega
def fitC (x y : Int) : Bool := decide (x = y + 32 ∨ y = x + 32)
def fitR (s : ByteArray) (i j : Int) : Bool := fitC (tabAt s i) (tabAt s j)
theorem rimE_bad {s : ByteArray} {p : Int} (hs : (s.size : Int) ≤ 12) (h0 : 0 ≤ p) (h1 : p < s.size) (h : isLet (tabAt s p) = false) : rimE s = 10 := by
  rw [rimE, if_neg (by omega), if_neg]
  intro hb
  rw [letsB_iff.1 hb p h0 h1] at h
  cases h
theorem rimE_good {s : ByteArray} (hs : (s.size : Int) ≤ 12) (h : Lets s) : rimE s = 0 := by
  rw [rimE, if_neg (by omega), if_pos (letsB_iff.2 h)]
end Go.Proofs.YtdpdlplkngggoaaGreatDoor.C5

namespace Go.Proofs.YtdpdlplkngggoaaGreatDoor.C5
open Go.Wk

/-! ### lists by their places -/
theorem ix_mem {α : Type} {d : α} {xs : List α} {j : Int} (h0 : 0 ≤ j) (h : j < xs.length) : ix d xs j ∈ xs := List.mem_of_getElem? (ix_get h h0)
theorem take_ix {α : Type} {d : α} {xs : List α} {j : Int} (h0 : 0 ≤ j) (h : j < xs.length) : xs.take (j + 1).toNat = xs.take j.toNat ++ [ix d xs j] := by
  rw [show (j + 1).toNat = j.toNat + 1 by omega, List.take_add_one, ix_get h h0 (d := d)]; rfl

/-! ### joins in use, joins that cross -/
/-! ### is it a plan? -/
variable {s : ByteArray} {pre : List Join} {x : Join} (hin : (0 ≤ x.1 ∧ x.1 ≤ (s.size : Int) - 1) ∧ (0 ≤ x.2 ∧ x.2 ≤ (s.size : Int) - 1))
include hin
variable (h1 : x.1 < x.2) (h2 : usedB pre x.1 = false) (h3 : usedB pre x.2 = false)
include h1 h2 h3
variable (h4 : fitR s x.1 x.2 = true)
include h4
variable (h5 : crossesB pre x = false)
include h5
end Go.Proofs.YtdpdlplkngggoaaGreatDoor.C5

namespace Go.Proofs.YtdpdlplkngggoaaGreatDoor.C5
open Go.Wk
set_option linter.unusedVariables false

structure ToOK (pre : List Join) (tq : List Int) : Prop where
  len : tq.length = 12
  bd : ∀ q, 0 ≤ q → q < 12 → 0 ≤ ix 0 tq q ∧ ix 0 tq q ≤ 12
  at1 : ∀ x ∈ pre, 0 ≤ x.1 ∧ x.1 < x.2 ∧ x.2 < 12 ∧ ix 0 tq x.1 = x.2 + 1 ∧ ix 0 tq x.2 = x.1 + 1
  of : ∀ q, 0 ≤ q → q < 12 → 0 < ix 0 tq q → ∃ x ∈ pre, x.1 = q ∨ x.2 = q
variable {pre : List Join} {tq : List Int}
end Go.Proofs.YtdpdlplkngggoaaGreatDoor.C5

namespace Go.Proofs.YtdpdlplkngggoaaGreatDoor.C5
open Go.Wk Go

variable {F : Int → Int → Bool}
def stepP (F : Int → Int → Bool) (i n : Int) (best : Int × Int) (j : Int) : Int × Int := if F i j = true then cmb best (joinP (partP F (i + 1) j) (partP F (j + 1) n)) else best
def foldP (F : Int → Int → Bool) (i n j : Int) : Int × Int := (rng (i + 1) j).foldl (stepP F i n) (partP F (i + 1) n)
section
variable {i n j bm bc A B : Int} (k0 : i + 1 ≤ j) (k2 : bm = (foldP F i n j).1) (k3 : bc = (foldP F i n j).2)
include k0 k2 k3
variable (h : F i j = true) (hj : joinP (partP F (i + 1) j) (partP F (j + 1) n) = (A, B))
include h hj
end

/-! ### the first greatest plan, as it is sought -/
theorem find_rng {p : Int → Bool} {j : Int} : ∀ (m : Nat) (i n : Int), (n - i).toNat = m → i ≤ j → j < n → (∀ q, i ≤ q → q < j → p q = false) → p j = true → (rng i n).find? p = some j
  | 0, i, n, h, h1, h2, _, _ => by omega
  | m + 1, i, n, h, h1, h2, hq, hj => by
    rw [rng_cons (by omega), List.find?_cons]
    by_cases e : i = j
    · subst e; rw [hj]
    · rw [hq i (Int.le_refl _) (by omega)]
      exact find_rng m (i + 1) n (by omega) (by omega) h2 (fun q q1 q2 => hq q (by omega) q2) hj
end Go.Proofs.YtdpdlplkngggoaaGreatDoor.C5

namespace Go.Proofs.YtdpdlplkngggoaaGreatDoor.C5
open Go.Wk Go

end Go.Proofs.YtdpdlplkngggoaaGreatDoor.C5

namespace Go.Proofs.YtdpdlplkngggoaaGreatDoor.C5
open Go.Wk Go

variable {F : Int → Int → Bool}
def PR (F : Int → Int → Bool) (n least : Int) (begun : List Join) (frm : Int) : List (List Join) := plansR F n least (n - frm).toNat begun frm
def inR (F : Int → Int → Bool) (n least : Int) (begun : List Join) (i j0 : Int) : List (List Join) := (rng j0 n).flatMap fun j => if goesB F begun i j = true then PR F n least (begun ++ [(i, j)]) (i + 1) else []
section
variable {n least : Int} {begun : List Join}
end
/-! ### the greatest ones -/
end Go.Proofs.YtdpdlplkngggoaaGreatDoor.C5

namespace Go.Proofs.YtdpdlplkngggoaaGreatDoor.C5
open Go.Wk Go

section
variable {l : List Join} {k : Int} {x : Join} (h0 : 0 ≤ k)
include h0
end
end Go.Proofs.YtdpdlplkngggoaaGreatDoor.C5

namespace Go.Proofs.YtdpdlplkngggoaaGreatDoor.C5
open Go.Wk Go

abbrev Tk := List Join × List Int
def topI (l : List Int) : Int := ix 0 l (l.length - 1)
def stepS (s : ByteArray) (a : Tk) (j : Int) : Tk := if 0 < a.2.length ∧ fitR s (topI a.2) j = true then (a.1 ++ [(topI a.2, j)], a.2.take ((a.2.length : Int) - 1).toNat) else (a.1, a.2 ++ [j])
def runS (s : ByteArray) (a : Tk) (rest : List Int) : Tk := rest.foldl (stepS s) a
def takS (s : ByteArray) : Tk := runS s ([], []) (rng 0 s.size)
variable {s : ByteArray} {st : List Join} {lf : List Int}
theorem runS_cons {a : Tk} {j : Int} {r : List Int} : runS s a (j :: r) = runS s (stepS s a j) r := rfl
theorem stepS_yes {j : Int} (h : 0 < (lf.length : Int)) (hf : fitR s (ix 0 lf ((lf.length : Int) - 1)) j = true) : stepS s (st, lf) j = (st ++ [(ix 0 lf ((lf.length : Int) - 1), j)], lf.take ((lf.length : Int) - 1).toNat) :=
  if_pos ⟨by show 0 < lf.length; omega, hf⟩
theorem stepS_no {j : Int} (h : ¬ 0 < (lf.length : Int) ∨ fitR s (ix 0 lf ((lf.length : Int) - 1)) j = false) : stepS s (st, lf) j = (st, lf ++ [j]) := by
  refine if_neg ?_
  rintro ⟨h1, h2⟩
  rcases h with h | h
  · have : 0 < lf.length := h1; omega
  · have h2 : fitR s (ix 0 lf ((lf.length : Int) - 1)) j = true := h2
    rw [h2] at h; cases h

/-! ### the reference's way -/
theorem runS_bd {s : ByteArray} {n : Int} : ∀ (rest : List Int) (st : List Join) (lf : List Int), (∀ x ∈ lf, 0 ≤ x ∧ x < n) → (∀ x ∈ rest, 0 ≤ x ∧ x < n) →
    (∀ x ∈ (runS s (st, lf) rest).2, 0 ≤ x ∧ x < n) ∧ 2 * ((runS s (st, lf) rest).1.length : Int) + (runS s (st, lf) rest).2.length = 2 * (st.length : Int) + lf.length + rest.length
  | [], st, lf, h, _ => ⟨h, by show 2 * (st.length : Int) + lf.length = 2 * (st.length : Int) + lf.length + ((0 : Nat) : Int); omega⟩
  | j :: r, st, lf, h, hr => by
    have hj := hr j (List.mem_cons_self ..)
    have hr2 : ∀ x ∈ r, 0 ≤ x ∧ x < n := fun x hx => hr x (List.mem_cons_of_mem _ hx)
    rw [runS_cons]
    by_cases hc : 0 < lf.length ∧ fitR s (topI lf) j = true
    · rw [stepS, if_pos hc]
      have := runS_bd (s := s) r (st ++ [(topI lf, j)]) (lf.take ((lf.length : Int) - 1).toNat) (fun x hx => h x (List.mem_of_mem_take hx)) hr2
      refine ⟨this.1, this.2.trans ?_⟩
      have h0 := hc.1
      simp only [List.length_append, List.length_take, List.length_cons, List.length_nil]
      omega
    · rw [stepS, if_neg hc]
      have := runS_bd (s := s) r st (lf ++ [j]) (fun x hx => by
        rcases List.mem_append.1 hx with hx | hx
        · exact h x hx
        · rw [List.mem_singleton] at hx; subst hx; exact hj) hr2
      refine ⟨this.1, this.2.trans ?_⟩
      simp only [List.length_append, List.length_cons, List.length_nil]
      omega
theorem rng_len {i n : Int} (h : i ≤ n) : ((rng i n).length : Int) = n - i := by rw [rng, List.length_map, List.length_range]; omega
theorem takS_bd {s : ByteArray} : (∀ x ∈ (takS s).2, 0 ≤ x ∧ x < s.size) ∧ 2 * ((takS s).1.length : Int) + (takS s).2.length = s.size := by
  have := runS_bd (s := s) (n := s.size) (rng 0 s.size) [] [] (by simp) (fun x hx => by rw [rng_mem] at hx; exact hx)
  refine ⟨this.1, this.2.trans ?_⟩
  rw [rng_len (by omega)]
  simp
end Go.Proofs.YtdpdlplkngggoaaGreatDoor.C5

namespace Go.Proofs.YtdpdlplkngggoaaGreatDoor.C5
set_option linter.unusedVariables false
open Go.Wk Go.RowKit Go.Lib

def otherU (r : Int) : Int := if isUpperU r = true then toLowerU r else toUpperU r
theorem ret_of_same {P : Program} {f : FuncId} {args : Array Value} {w : World} {v : Value} (h : Calls P f args w fun e w' => e = .returned v ∧ w' = w) : Calls P f args w (Ret w fun r _ => r = v) :=
  h.mono fun e w' ⟨he, hw⟩ => ⟨v, he, by rw [hw]; exact Ext.refl _, rfl⟩
theorem ret_of_below {P : Program} {f : FuncId} {args : Array Value} {w : World} {v : Value} (h : Calls P f args w fun e w' => e = .returned v ∧ Below w.heap.size w w') : Calls P f args w (Ret w fun r _ => r = v) :=
  h.mono fun e w' ⟨he, hw⟩ => ⟨v, he, hw, rfl⟩
theorem F109 {r : Int} {w : World} (i_r : InK .i32 r) (hG : Laid w) : Calls Tryz.prog 109 #[.int .i32 r] w (Ret w fun q _ => q = .bool (isUpperU r)) :=
  ret_of_below (Tryz.unicode_IsUpper_all r w i_r.1 i_r.2 hG.props hG.upper)
theorem F110 {r : Int} {w : World} (_ : InK .i32 r) (hG : Laid w) : Calls Tryz.prog 110 #[.int .i32 r] w (Ret w fun q _ => q = .int .i32 (toLowerU r)) :=
  (Tryz.unicode_ToLower_laid r w hG.cases).mono fun e w' hh => by
    obtain ⟨he, hw⟩ := hh
    exact ⟨_, he, by first | exact hw | (rw [hw]; exact Ext.refl _) | (obtain ⟨q, hq⟩ := hw; rw [hq]; exact below_drewNs w q), rfl⟩
theorem F111 {r : Int} {w : World} (_ : InK .i32 r) (hG : Laid w) : Calls Tryz.prog 111 #[.int .i32 r] w (Ret w fun q _ => q = .int .i32 (toUpperU r)) :=
  (Tryz.unicode_ToUpper_laid r w hG.cases).mono fun e w' hh => by
    obtain ⟨he, hw⟩ := hh
    exact ⟨_, he, by first | exact hw | (rw [hw]; exact Ext.refl _) | (obtain ⟨q, hq⟩ := hw; rw [hq]; exact below_drewNs w q), rfl⟩
theorem F101 {s : ByteArray} {c : Int} {w : World} (_ : s.size ≤ maxLen) (_ : InK .u8 c) : Calls Tryz.prog 101 #[.string s, .int .u8 c] w (Ret w fun q _ => q = .int .i64 (indexByte s.data.toList c.toNat.toUInt8)) :=
  ret_of_same (Tryz.strings_IndexByte s c w)
theorem F102 {r : Int} {w : World} (_ : InK .i32 r) : Calls Tryz.prog 102 #[.int .i32 r] w (Ret w fun q _ => q = .bool (validRune r)) := ret_of_same (Tryz.utf8_ValidRune r w)
/-! ### letters, by the library -/
theorem otherU_let {y : Int} (h : isLet y = true) : otherU y = if y ≤ 90 then y + 32 else y - 32 := by
  simp only [isLet, Bool.or_eq_true, decide_eq_true_eq] at h
  have hl : latin1 y = true := by rw [latin1]; exact decide_eq_true (by omega)
  rw [otherU, isUpperU, if_pos hl, isUpperL]
  by_cases hu : y ≤ 90
  · rw [if_pos (decide_eq_true (by omega)), if_pos hu, toLowerU, if_pos (by omega), if_pos (by omega)]
  · rw [if_neg (by rw [decide_eq_true_eq]; omega), if_neg hu, toUpperU, if_pos (by omega), if_pos (by omega)]
theorem fit_other {x y : Int} (hx : isLet x = true) (hy : isLet y = true) : decide (x = otherU y) = fitC x y := by
  rw [otherU_let hy, fitC]
  simp only [isLet, Bool.or_eq_true, decide_eq_true_eq] at hx hy
  congr 1
  simp only [eq_iff_iff]
  split <;> omega
def hasRune (s : ByteArray) (r : Int) : Bool := decide (0 ≤ r ∧ r < 128) && decide (0 ≤ indexByte s.data.toList r.toNat.toUInt8)
theorem letS_table : ∀ c < 128, decide (0 ≤ indexByte letS.data.toList (c : Nat).toUInt8) = isLet (c : Nat) := by decide +kernel
theorem hasRune_let {r : Int} (h0 : 0 ≤ r) : hasRune letS r = isLet r := by
  rw [hasRune]
  by_cases h : r < 128
  · rw [decide_eq_true ⟨h0, h⟩, Bool.true_and]
    have := letS_table r.toNat (by omega)
    rwa [Int.toNat_of_nonneg h0] at this
  · rw [decide_eq_false (by omega), Bool.false_and]
    symm
    rw [isLet, Bool.or_eq_false_iff, decide_eq_false_iff_not, decide_eq_false_iff_not]
    omega
theorem rune_let {s : ByteArray} {p : Int} (h0 : 0 ≤ p) (h : hasRune letS (runeAt s p) = true) : runeW s p = 1 ∧ isLet (tabAt s p) = true := by
  rw [hasRune_let (runeAt_bd s p).1] at h
  have hb := isLet_bd h
  by_cases ha : tabAt s p < 128
  · have := runeAt_ascii h0 ha
    rw [this.1] at h
    exact ⟨this.2, h⟩
  · have := runeAt_other h0 (by omega : 128 ≤ tabAt s p)
    omega
theorem rune_not {s : ByteArray} {p : Int} (h0 : 0 ≤ p) (h : hasRune letS (runeAt s p) = false) : isLet (tabAt s p) = false := by
  rw [hasRune_let (runeAt_bd s p).1] at h
  cases hl : isLet (tabAt s p) with
  | false => rfl
  | true =>
    have hb := isLet_bd hl
    rw [(runeAt_ascii h0 (by omega)).1, hl] at h
    exact h
theorem index_not : ∀ (l : List UInt8) (c : UInt8), (∀ b ∈ l, b.toNat < 128) → 128 ≤ c.toNat → indexByte l c = -1
  | [], _, _, _ => rfl
  | b :: l, c, h, hc => by
    have hb := h b (List.mem_cons_self ..)
    have hne : (b == c) = false := by
      cases hq : b == c with
      | false => rfl
      | true => rw [eq_of_beq hq] at hb; omega
    rw [indexByte, hne, index_not l c (fun x hx => h x (List.mem_cons_of_mem _ hx)) hc]; rfl
theorem letS_asc : ∀ q : Int, 0 ≤ q → q < letS.size → tabAt letS q < 128 := by
  intro q h0 h1
  have h : ∀ k < 20, tabAt letS (k : Nat) < 128 := by decide +kernel
  have hs : letS.size = 20 := by decide
  have := h q.toNat (by omega)
  rwa [Int.toNat_of_nonneg h0] at this
theorem index_asc {s : ByteArray} {a b : Nat} {c : Int} (h : ∀ q : Int, 0 ≤ q → q < s.size → tabAt s q < 128) (h1 : 128 ≤ c) (h2 : c ≤ 255) : indexByte (s.extract a b).data.toList c.toNat.toUInt8 = -1 := by
  refine index_not _ _ (fun x hx => ?_) ?_
  · have hx2 : x ∈ s.data.toList := by
      rw [ByteArray.data_extract, Array.toList_extract] at hx
      exact List.mem_of_mem_drop (List.mem_of_mem_take hx)
    obtain ⟨k, hk, rfl⟩ := List.mem_iff_getElem.1 hx2
    have := h (k : Int) (by omega) (by have e : s.size = s.data.toList.length := (by simp); omega)
    rw [tabAt, Int.toNat_natCast, List.getD_eq_getElem?_getD, List.getElem?_eq_getElem hk] at this
    simp only [Option.getD_some] at this
    omega
  · rw [Nat.toUInt8, UInt8.toNat_ofNat']; omega
end Go.Proofs.YtdpdlplkngggoaaGreatDoor.C5

namespace Go.Proofs.YtdpdlplkngggoaaGreatDoor
open Go.Wk Go.RowKit Go.Lib
set_option linter.unusedVariables false
set_option linter.unusedSimpArgs false
theorem mixedHa_ : Tryz.prog.follows .mixedOrders = true := by kernel_rfl

theorem C5.F105 {c : Int} {w : World} (i_c : InK .i32 c) (hG : Laid w) : Calls Tryz.prog 105 #[.int .i32 c] w (Ret w (fun r _ => r = .int .i32 (otherU c))) := by
  have b_c := bd_i32 i_c
  have hS := St.start0 w
  refine enterR Tryz.func105 rfl Tryz.ntmps105 Tryz.results105 rfl ?_
  refine W.seq ?_
  refine W.reg ?_
  refine Wx.rd (v := .int .i32 0) (rd_assign rfl) rfl ?_
  refine Wx.nil ?_
  refine W.seq ?_
  refine W.seq ?_
  refine W.reg ?_
  refine Wx.rd (v := .int .i32 c) (rd_move rfl) rfl ?_
  refine Wx.callF (run_callF Tryz.call109 rfl) (C5.F109 i_c (hG.ext hS.bel)) rfl ?_
  rintro r_1 w_2 hx_3 rfl
  have hS := hS.ext hx_3
  refine Wx.nil ?_
  refine W.cond rfl (fun c0 => ?_) (fun c0 => ?_)
  · -- yes
    try simp only [Bool.and_eq_true, Bool.or_eq_true, Bool.not_eq_true', Bool.and_eq_false_iff, Bool.or_eq_false_iff, Bool.not_eq_false', decide_eq_true_eq, decide_eq_false_iff_not, not_or, Bool.false_eq_true, Bool.true_eq_false, false_or, or_false, not_false_eq_true] at c0
    refine W.seq ?_
    refine W.reg ?_
    refine Wx.rd (v := .int .i32 c) (rd_move rfl) rfl ?_
    refine Wx.callF (run_callF Tryz.call110 rfl) (C5.F110 i_c (hG.ext hS.bel)) rfl ?_
    rintro r_4 w_5 hx_6 rfl
    have hS := hS.ext hx_6
    refine Wx.rd (v := .int .i32 (toLowerU c)) (rd_assign rfl) rfl ?_
    refine Wx.nil ?_
    have e0_0 : (otherU c) = (toLowerU c : Int) := by rw [otherU, if_pos c0]
    exact W.ret ⟨.int .i32 (toLowerU c), ResIs.one, hS.bel, (by rw [e0_0])⟩
  · -- no
    try simp only [Bool.and_eq_true, Bool.or_eq_true, Bool.not_eq_true', Bool.and_eq_false_iff, Bool.or_eq_false_iff, Bool.not_eq_false', decide_eq_true_eq, decide_eq_false_iff_not, not_or, Bool.false_eq_true, Bool.true_eq_false, false_or, or_false, not_false_eq_true] at c0
    refine W.skip ?_
    refine W.seq ?_
    refine W.reg ?_
    refine Wx.rd (v := .int .i32 c) (rd_move rfl) rfl ?_
    refine Wx.callF (run_callF Tryz.call111 rfl) (C5.F111 i_c (hG.ext hS.bel)) rfl ?_
    rintro r_7 w_8 hx_9 rfl
    have hS := hS.ext hx_9
    refine Wx.rd (v := .int .i32 (toUpperU c)) (rd_assign rfl) rfl ?_
    refine Wx.nil ?_
    have e1_0 : (otherU c) = (toUpperU c : Int) := by rw [otherU, if_neg (by rw [c0]; decide)]
    exact W.ret ⟨.int .i32 (toUpperU c), ResIs.one, hS.bel, (by rw [e1_0])⟩

theorem C5.F95 {rim : ByteArray} {i : Int} {j : Int} {w : World} (s_rim : rim.size ≤ maxLen) (i_i : InK .i64 i) (i_j : InK .i64 j) (p_i : 0 ≤ i) (p_i2 : i < rim.size) (p_j : 0 ≤ j) (p_j2 : j < rim.size) (p_l : Lets rim) (hG : Laid w) : Calls Tryz.prog 95 #[.string rim, .int .i64 i, .int .i64 j] w (Ret w (fun r _ => r = .bool (fitR rim i j))) := by
  have b_j := bd_i64 i_j
  have b_i := bd_i64 i_i
  have hS := St.start0 w
  refine enterR Tryz.func95 rfl Tryz.ntmps95 Tryz.results95 rfl ?_
  refine W.seq ?_
  refine W.reg ?_
  refine Wx.rd (v := .bool false) (rd_assign rfl) rfl ?_
  refine Wx.nil ?_
  refine W.seq ?_
  refine W.regQ mixedHa_ (by kernel_rfl) ?_
  refine Wx.rd (v := .string rim) (rd_move rfl) rfl ?_
  refine Wx.rd (v := .int .i64 i) (rd_move rfl) rfl ?_
  refine Wx.rd (v := .int .u8 (tabAt rim i)) (rd_indexS' (by kernel_rfl) rfl Tryz.underlying9 (by omega) (by omega)) rfl ?_
  have bd_1 := tabAt_bd rim i
  refine Wx.rd (v := .int .i32 (tabAt rim i)) (rd_convIn rfl Tryz.underlying5 Tryz.underlying21 (in_i32 (by omega) (by omega))) rfl ?_
  refine Wx.rd (v := .string rim) (rd_move rfl) rfl ?_
  refine Wx.rd (v := .int .i64 j) (rd_move rfl) rfl ?_
  refine Wx.rd (v := .int .u8 (tabAt rim j)) (rd_indexS' (by kernel_rfl) rfl Tryz.underlying9 (by omega) (by omega)) rfl ?_
  have bd_2 := tabAt_bd rim j
  refine Wx.rd (v := .int .i32 (tabAt rim j)) (rd_convIn rfl Tryz.underlying5 Tryz.underlying21 (in_i32 (by omega) (by omega))) rfl ?_
  refine Wx.callV (v := .int .i32 (otherU (tabAt rim j))) (run_callF Tryz.call105 rfl) (fun w_3 hw_4 => (C5.F105 (in_i32 (by omega) (by omega)) (hG.ext (Ext.trans hS.bel hw_4)))) rfl ?_
  refine Wx.rd (v := .bool (decide ((tabAt rim i) = (otherU (tabAt rim j))))) (rd_eql rfl rfl) rfl ?_
  refine Wx.rd (v := .bool (decide ((tabAt rim i) = (otherU (tabAt rim j))))) (rd_assign rfl) rfl ?_
  refine Wx.nilQ (fun w_5 hx_6 => ?_)
  have hS := hS.ext hx_6
  have e0_0 : (fitR rim i j) = (decide ((tabAt rim i) = (otherU (tabAt rim j)))) := by exact (fit_other (p_l i p_i p_i2) (p_l j p_j p_j2)).symm
  exact W.ret ⟨.bool (decide ((tabAt rim i) = (otherU (tabAt rim j)))), ResIs.one, hS.bel, (by rw [e0_0])⟩

theorem C5.F94w {s : ByteArray} {r : Int} {w : World} (s_s : s.size ≤ maxLen) (i_r : InK .i32 r) (p_a : ∀ q : Int, 0 ≤ q → q < s.size → tabAt s q < 128) (p_4 : 4 ≤ s.size) (p_r : 128 ≤ r) : Calls Tryz.prog 94 #[.string s, .int .i32 r] w (Ret w (fun r _ => r = .int .i64 (-1))) := by
  have b_r := bd_i32 i_r
  have hen := encode_last p_r
  have hS := St.start0 w
  refine enterR Tryz.func94 rfl Tryz.ntmps94 Tryz.results94 rfl ?_
  refine W.seq ?_
  refine W.reg ?_
  refine Wx.rd (v := .int .i64 0) (rd_assign rfl) rfl ?_
  refine Wx.nil ?_
  refine W.block ?_
  refine W.seq ?_
  refine W.reg ?_
  refine Wx.rd (v := .int .i32 r) (rd_move rfl) rfl ?_
  refine Wx.rd (v := .bool (decide (0 ≤ r))) (rd_leq rfl rfl) rfl ?_
  refine Wx.rd (v := .bool (decide (0 ≤ r))) (rd_move rfl) rfl ?_
  refine Wx.cut (X := Unit) 3 [164, 165, 166] (fun _ => [(166, .bool (decide (0 ≤ r) && decide (r < 128)))]) (fun _ w' => St w [] w' []) ?_ ?_
  · rcases Bool.eq_false_or_eq_true (decide (0 ≤ r)) with g_1 | g_1
    · -- True
      have gp_2 := of_decide_eq_true g_1
      refine Wx.gyes rfl rfl (congrArg Value.bool g_1) ?_
      refine Wx.rd (v := .int .i32 r) (rd_move rfl) rfl ?_
      refine Wx.gyes rfl rfl (congrArg Value.bool g_1) ?_
      refine Wx.rd (v := .bool (decide (r < 128))) (rd_lss rfl rfl) rfl ?_
      refine Wx.rd (v := .bool (decide (r < 128))) (rd_pickT (congrArg Value.bool g_1) rfl) rfl ?_
      refine Wx.nil ⟨(), hS, ⟨?_, trivial⟩, Out.look rfl Out.refl⟩
      show Value.bool (decide (r < 128)) = Value.bool (decide (0 ≤ r) && decide (r < 128))
      first | rw [g_1, Bool.true_and] | (rw [g_1]; rfl)
    · -- False
      have gp_3 := of_decide_eq_false g_1
      refine Wx.gnoB rfl rfl (congrArg Value.bool g_1) rfl rfl ?_
      refine Wx.gnoB rfl rfl (congrArg Value.bool g_1) rfl rfl ?_
      refine Wx.rd (v := .bool false) (rd_pickF (congrArg Value.bool g_1) rfl) rfl ?_
      refine Wx.nil ⟨(), hS, ⟨?_, trivial⟩, Out.look rfl Out.refl⟩
      show Value.bool false = Value.bool (decide (0 ≤ r) && decide (r < 128))
      first | rw [g_1, Bool.false_and] | (rw [g_1]; rfl)
  rintro ⟨⟩ u_5 w_4 hS
  refine Wx.rd (v := .bool (decide (0 ≤ r) && decide (r < 128))) (rd_assign rfl) rfl ?_
  refine Wx.nil ?_
  refine W.condF rfl (by rw [decide_eq_false (show ¬ r < 128 by omega), Bool.and_false]) ?_
  refine W.seq ?_
  refine W.reg ?_
  refine Wx.rd (v := .int .i32 r) (rd_move rfl) rfl ?_
  refine Wx.rd (v := .bool (decide (r = 65533))) (rd_eql rfl rfl) rfl ?_
  refine Wx.rd (v := .bool (decide (r = 65533))) (rd_assign rfl) rfl ?_
  refine Wx.nil ?_
  refine W.condD rfl (fun c1 => ?_) (fun c1 => ?_)
  · -- yes
    refine W.seq ?_
    refine W.seq ?_
    refine W.reg ?_
    refine Wx.rd (v := .string s) (rd_move rfl) rfl ?_
    refine Wx.rangeS (s := s) hS rfl Tryz.underlying9 rfl (fun g_6 w_7 hx_8 hS => ?_)
    refine Wx.nil ?_
    refine W.block ?_
    refine W.loop [4, 5, 6, 176, 177, 178, 179, 180, 181, 182] (fun (q : Nat) => []) (fun (q : Nat) w' => St w [] w' [.raw g_6 (.stringIter s q)]) (fun (q : Nat) => s.size - q) 0 trivial hS ?_
    rintro q u_10 w_9 hS
    refine W.seq ?_
    refine W.reg ?_
    refine Wx.nextS hS 0 rfl rfl rfl (fun hn w_11 hz_12 hS => ?_) (fun hn => ?_)
    · -- a rune
      have hS : St _ _ w_11 [.raw g_6 (.stringIter s (q + (runeW s (q : Int)).toNat))] := hS
      have hq := p_a (q : Int) (by omega) hn
      refine Wx.rd (v := .bool true) (rd_extract rfl rfl) rfl ?_
      refine Wx.nil ?_
      refine W.seq ?_
      refine W.condT rfl rfl ?_
      refine W.skip ?_
      refine W.block ?_
      refine W.seq ?_
      refine W.reg ?_
      refine Wx.rd (v := .int .i64 (q : Int)) (rd_extract rfl rfl) rfl ?_
      refine Wx.rd (v := .int .i32 (runeAt s (q : Int))) (rd_extract rfl rfl) rfl ?_
      refine Wx.rd (v := .int .i64 (q : Int)) (rd_assign rfl) rfl ?_
      refine Wx.rd (v := .int .i32 (runeAt s (q : Int))) (rd_assign rfl) rfl ?_
      refine Wx.nil ?_
      refine W.seq ?_
      refine W.reg ?_
      refine Wx.rd (v := .int .i32 (runeAt s (q : Int))) (rd_move rfl) rfl ?_
      refine Wx.rd (v := .bool (decide ((runeAt s (q : Int)) = 65533))) (rd_eql rfl rfl) rfl ?_
      refine Wx.nil ?_
      refine W.condF rfl (decide_eq_false (by rw [(runeAt_ascii (by omega) hq).1]; omega)) ?_
      refine W.skip ?_
      refine ⟨q + (runeW s (q : Int)).toNat, (by show s.size - (q + (runeW s (q : Int)).toNat) < s.size - q; have := (runeAt_ascii (by omega) hq).2; omega), ?_, ?_, Out.look rfl Out.self⟩
      · exact hS
      · exact trivial
    · -- the end
      refine Wx.rd (v := .bool false) (rd_extract rfl rfl) rfl ?_
      refine Wx.nil ?_
      refine W.seq ?_
      refine W.condF rfl rfl ?_
      refine W.exit rfl ?_
      refine W.seq ?_
      refine W.reg ?_
      refine Wx.rd (v := .int .i64 (-1)) (rd_assign rfl) rfl ?_
      refine Wx.nil ?_
      exact W.ret ⟨.int .i64 (-1), ResIs.one, hS.bel, rfl⟩
  · -- no
    refine W.seq ?_
    refine W.reg ?_
    refine Wx.rd (v := .int .i32 r) (rd_move rfl) rfl ?_
    refine Wx.callF (run_callF Tryz.call102 rfl) (C5.F102 i_r) rfl ?_
    rintro r_14 w_15 hx_16 rfl
    have hS := hS.ext hx_16
    refine Wx.rd (v := .bool (!(validRune r))) (rd_not rfl) rfl ?_
    refine Wx.rd (v := .bool (!(validRune r))) (rd_assign rfl) rfl ?_
    refine Wx.nil ?_
    refine W.cond rfl (fun c4 => ?_) (fun c4 => ?_)
    · -- yes
      try simp only [Bool.and_eq_true, Bool.or_eq_true, Bool.not_eq_true', Bool.and_eq_false_iff, Bool.or_eq_false_iff, Bool.not_eq_false', decide_eq_true_eq, decide_eq_false_iff_not, not_or, Bool.false_eq_true, Bool.true_eq_false, false_or, or_false, not_false_eq_true] at c4
      refine W.seq ?_
      refine W.reg ?_
      refine Wx.rd (v := .int .i64 (-1)) (rd_assign rfl) rfl ?_
      refine Wx.nil ?_
      exact W.ret ⟨.int .i64 (-1), ResIs.one, hS.bel, rfl⟩
    · -- no
      try simp only [Bool.and_eq_true, Bool.or_eq_true, Bool.not_eq_true', Bool.and_eq_false_iff, Bool.or_eq_false_iff, Bool.not_eq_false', decide_eq_true_eq, decide_eq_false_iff_not, not_or, Bool.false_eq_true, Bool.true_eq_false, false_or, or_false, not_false_eq_true] at c4
      refine W.scope ?_
      refine W.seq ?_
      refine W.reg ?_
      refine Wx.rd (v := .int .i32 r) (rd_move rfl) rfl ?_
      refine Wx.rd (v := .string (Utf8.encode r)) (rd_convRS rfl Tryz.underlying21 Tryz.underlying9) rfl ?_
      refine Wx.rd (v := .string (Utf8.encode r)) (rd_assign rfl) rfl ?_
      refine Wx.nil ?_
      refine W.seq ?_
      refine W.reg ?_
      refine Wx.rd (v := .string (Utf8.encode r)) (rd_move rfl) rfl ?_
      refine Wx.rd (v := .int .i64 ((Utf8.encode r).size : Int)) (rd_lenS rfl Tryz.underlying9) rfl ?_
      refine Wx.rd (v := .int .i64 (((Utf8.encode r).size : Int) - 1)) (rd_sub rfl rfl (in_i64 (by omega) (by omega))) rfl ?_
      refine Wx.rd (v := .int .i64 (((Utf8.encode r).size : Int) - 1)) (rd_assign rfl) rfl ?_
      refine Wx.nil ?_
      refine W.seq ?_
      refine W.reg ?_
      refine Wx.rd (v := .int .i64 (((Utf8.encode r).size : Int) - 1)) (rd_move rfl) rfl ?_
      refine Wx.rd (v := .int .i64 (((Utf8.encode r).size : Int) - 1)) (rd_assign rfl) rfl ?_
      refine Wx.nil ?_
      refine W.seq ?_
      refine W.reg ?_
      refine Wx.rd (v := .int .i64 0) (rd_assign rfl) rfl ?_
      refine Wx.nil ?_
      refine W.seq ?_
      refine W.block ?_
      refine W.loop [4, 9, 10, 11, 12, 23, 24, 25, 26, 27, 28, 29, 30, 31, 32, 33, 34, 35, 36, 37, 38, 39, 40, 41, 42, 43, 44, 45, 46, 47, 48, 49, 50, 51, 52, 53, 54, 55, 56, 57, 58, 59, 60, 61, 62, 63, 64, 65, 66, 67, 68, 69, 70, 71, 72, 73, 74, 75, 76, 77, 78, 79, 80, 81, 82, 83, 84, 85, 86, 87, 88, 89, 90, 91, 92, 93, 94, 95, 96, 97, 98] (fun x : Int × Int => match x with | (i, fails) => [(9, .int .i64 i), (10, .int .i64 fails)]) (fun (x : Int × Int) w' => match x with | (i, fails) => St w [] w' [] ∧ i = (Utf8.encode r).size - 1) (fun x : Int × Int => match x with | (i, fails) => 0) (((Utf8.encode r).size : Int) - 1, 0) ⟨rfl, rfl, trivial⟩ ⟨hS, (by first | omega | simp)⟩ ?_
      rintro ⟨i, fails⟩ u_18 w_17 ⟨hS, h0⟩
      refine W.seq ?_
      refine W.seq ?_
      refine W.reg ?_
      refine Wx.rd (v := .int .i64 i) (rd_move rfl) rfl ?_
      refine Wx.rd (v := .string s) (rd_move rfl) rfl ?_
      refine Wx.rd (v := .int .i64 (s.size : Int)) (rd_lenS rfl Tryz.underlying9) rfl ?_
      refine Wx.rd (v := .bool (decide (i < (s.size : Int)))) (rd_lss rfl rfl) rfl ?_
      refine Wx.nil ?_
      refine W.condT rfl (decide_eq_true (by omega)) ?_
      refine W.skip ?_
      refine W.block ?_
      refine W.scope ?_
      refine W.seq ?_
      refine W.seq ?_
      refine W.regQ mixedHa_ (by kernel_rfl) ?_
      refine Wx.rd (v := .string s) (rd_move rfl) rfl ?_
      refine Wx.rd (v := .int .i64 i) (rd_move rfl) rfl ?_
      refine Wx.rd (v := .int .u8 (tabAt s i)) (rd_indexS' (by kernel_rfl) rfl Tryz.underlying9 (by omega) (by omega)) rfl ?_
      have bd_19 := tabAt_bd s i
      refine Wx.rd (v := .string (Utf8.encode r)) (rd_move rfl) rfl ?_
      refine Wx.rd (v := .int .i64 (((Utf8.encode r).size : Int) - 1)) (rd_move rfl) rfl ?_
      refine Wx.rd (v := .int .u8 (tabAt (Utf8.encode r) (((Utf8.encode r).size : Int) - 1))) (rd_indexS' (by kernel_rfl) rfl Tryz.underlying9 (by omega) (by omega)) rfl ?_
      have bd_20 := tabAt_bd (Utf8.encode r) (((Utf8.encode r).size : Int) - 1)
      refine Wx.rd (v := .bool (decide ((tabAt s i) ≠ (tabAt (Utf8.encode r) (((Utf8.encode r).size : Int) - 1))))) (rd_neq rfl rfl) rfl ?_
      refine Wx.nilQ (fun w_21 hx_22 => ?_)
      have hS := hS.ext hx_22
      refine W.condT rfl (decide_eq_true (by have := p_a i (by omega) (by omega); omega)) ?_
      refine W.seq ?_
      refine W.regQ mixedHa_ (by kernel_rfl) ?_
      refine Wx.rd (v := .string s) (rd_move rfl) rfl ?_
      refine Wx.rd (v := .int .i64 i) (rd_move rfl) rfl ?_
      refine Wx.rd (v := .int .i64 (i + 1)) (rd_add rfl rfl (in_i64 (by omega) (by omega))) rfl ?_
      refine Wx.rd (v := .string ((s).extract (i + 1).toNat s.size)) (rd_sliceS_L Tryz.underlying9 rfl rfl (by omega) (by omega)) rfl ?_
      refine Wx.rd (v := .string (Utf8.encode r)) (rd_move rfl) rfl ?_
      refine Wx.rd (v := .int .i64 (((Utf8.encode r).size : Int) - 1)) (rd_move rfl) rfl ?_
      refine Wx.rd (v := .int .u8 (tabAt (Utf8.encode r) (((Utf8.encode r).size : Int) - 1))) (rd_indexS' (by kernel_rfl) rfl Tryz.underlying9 (by omega) (by omega)) rfl ?_
      have bd_23 := tabAt_bd (Utf8.encode r) (((Utf8.encode r).size : Int) - 1)
      refine Wx.callV (v := .int .i64 (indexByte ((s).extract (i + 1).toNat s.size).data.toList (tabAt (Utf8.encode r) (((Utf8.encode r).size : Int) - 1)).toNat.toUInt8)) (run_callF Tryz.call101 rfl) (fun w_24 hw_25 => (C5.F101 (by first | assumption | (simp only [maxLen]; omega) | (simp only [ByteArray.size_extract, ByteArray.size_append, maxLen] at *; omega) | decide) (in_u8 (by omega) (by omega)))) rfl ?_
      refine Wx.rd (v := .int .i64 (indexByte ((s).extract (i + 1).toNat s.size).data.toList (tabAt (Utf8.encode r) (((Utf8.encode r).size : Int) - 1)).toNat.toUInt8)) (rd_assign rfl) rfl ?_
      refine Wx.nilQ (fun w_26 hx_27 => ?_)
      have hS := hS.ext hx_27
      refine W.seq ?_
      refine W.seq ?_
      refine W.reg ?_
      refine Wx.rd (v := .int .i64 (indexByte ((s).extract (i + 1).toNat s.size).data.toList (tabAt (Utf8.encode r) (((Utf8.encode r).size : Int) - 1)).toNat.toUInt8)) (rd_move rfl) rfl ?_
      refine Wx.rd (v := .bool (decide ((indexByte ((s).extract (i + 1).toNat s.size).data.toList (tabAt (Utf8.encode r) (((Utf8.encode r).size : Int) - 1)).toNat.toUInt8) < 0))) (rd_lss rfl rfl) rfl ?_
      refine Wx.nil ?_
      refine W.condT rfl (decide_eq_true (by rw [index_asc p_a hen.2.2 (tab_le _ _).2]; decide)) ?_
      refine W.seq ?_
      refine W.reg ?_
      refine Wx.rd (v := .int .i64 (-1)) (rd_assign rfl) rfl ?_
      refine Wx.nil ?_
      exact W.ret ⟨.int .i64 (-1), ResIs.one, hS.bel, rfl⟩

theorem C5.F76w {s : ByteArray} {r : Int} {w : World} (s_s : s.size ≤ maxLen) (i_r : InK .i32 r) (p_a : ∀ q : Int, 0 ≤ q → q < s.size → tabAt s q < 128) (p_4 : 4 ≤ s.size) (p_r : 128 ≤ r) : Calls Tryz.prog 76 #[.string s, .int .i32 r] w (Ret w (fun r _ => r = .bool false)) := by
  have b_r := bd_i32 i_r
  have hS := St.start0 w
  refine enterR Tryz.func76 rfl Tryz.ntmps76 Tryz.results76 rfl ?_
  refine W.seq ?_
  refine W.reg ?_
  refine Wx.rd (v := .bool false) (rd_assign rfl) rfl ?_
  refine Wx.nil ?_
  refine W.seq ?_
  refine W.reg ?_
  refine Wx.rd (v := .string s) (rd_move rfl) rfl ?_
  refine Wx.rd (v := .int .i32 r) (rd_move rfl) rfl ?_
  refine Wx.callF (run_callF Tryz.call94 rfl) (C5.F94w (by first | assumption | (simp only [maxLen]; omega) | (simp only [ByteArray.size_extract, ByteArray.size_append, maxLen] at *; omega) | decide) i_r (by omega) (by omega) (by omega)) rfl ?_
  rintro r_1 w_2 hx_3 rfl
  have hS := hS.ext hx_3
  refine Wx.rd (v := .bool false) (Rd.to (v := .bool (decide (0 ≤ ((-1 : Int))))) (rd_geq rfl rfl) rfl) rfl ?_
  refine Wx.rd (v := .bool false) (rd_assign rfl) rfl ?_
  refine Wx.nil ?_
  exact W.ret ⟨.bool false, ResIs.one, hS.bel, rfl⟩
end Go.Proofs.YtdpdlplkngggoaaGreatDoor

namespace Go.Proofs.YtdpdlplkngggoaaGreatDoor.C5
open Go.Wk Go.RowKit Go.Lib

theorem F76 {s : ByteArray} {r : Int} {w : World} (h1 : s.size ≤ maxLen) (h2 : InK .i32 r) (p_a : ∀ q : Int, 0 ≤ q → q < s.size → tabAt s q < 128) (p_4 : 4 ≤ s.size) (p_0 : 0 ≤ r) :
    Calls Tryz.prog 76 #[.string s, .int .i32 r] w (Ret w fun q _ => q = .bool (hasRune s r)) := by
  by_cases h : r < 128
  · have := ret_of_same (Tryz.strings_ContainsRune_ascii s r w p_0 h)
    rw [hasRune, decide_eq_true (And.intro p_0 h), Bool.true_and]
    exact this
  · have := F76w (w := w) h1 h2 p_a p_4 (by omega)
    rw [hasRune, decide_eq_false (fun q => h q.2), Bool.false_and]
    exact this
end Go.Proofs.YtdpdlplkngggoaaGreatDoor.C5

namespace Go.Proofs.YtdpdlplkngggoaaGreatDoor.C5
open Go.Wk Go.RowKit Go.Lib Go
set_option linter.unusedVariables false

/-! ### strings by their bytes -/
def byteAt (s : ByteArray) (i : Int) : UInt8 := s.data.toList.getD i.toNat 0
def mkB (l : List UInt8) : ByteArray := ⟨l.toArray⟩
def restV (s : ByteArray) : ByteArray := mkB ((takS s).2.map (byteAt s))
/-! ### the builder -/
theorem bld_start {w0 w : World} {O : List (Option Nat)} {obs : List Ob} {g : Nat} (hS : St w0 O w obs) (i : Nat) (hi : obs[i]? = some (.box g 127 [.pointer none, .slice none 0 0])) : IsBuilderF 127 5 w0.heap.size g (byteCells []) w :=
  .inl ⟨(hS.get i hi).1, .slice none 0 0, (hS.get i hi).2, ⟨rfl, .inl ⟨rfl, rfl⟩⟩, by simp [Value.ownBlock]⟩
theorem bld_block {B b : Nat} {bs : List Value} {w : World} (h : IsBuilderF 127 5 B b bs w) : ∃ cs, w.heap[b]? = some (.cells cs 127 (0, 0)) := by
  rcases h with ⟨_, v, h, _⟩ | ⟨_, v, h, _⟩ <;> exact ⟨_, h⟩
theorem bld_keep {w0 w w' : World} {O : List (Option Nat)} {b : Nat} {bs : List Value} {v : Value} {ys : List Int} (hS : St w0 O w [.row (tI .i64) 3 v ys]) (h : IsBuilderF 127 5 w0.heap.size b bs w) (hB : Below w0.heap.size w w') (hK : OthersKept 5 (some b) w w') : St w0 O w' [.row (tI .i64) 3 v ys] := by
  obtain ⟨cb, hcb⟩ := bld_block h
  obtain ⟨cs, h1, h2⟩ := hS.get 0 rfl
  refine ⟨Below.trans hS.bel hB, hS.olt, fun ob ho => ?_, hS.sep⟩
  rw [List.mem_singleton] at ho
  subst ho
  refine ⟨cs, ⟨h1.1, ?_⟩, h2⟩
  rcases h1.2 with hn | ⟨g, cap, cur, e1, e2, e3, e4⟩
  · exact .inl hn
  · refine .inr ⟨g, cap, cur, e1, e2, hK g _ e3 ?_ ?_, e4⟩
    · intro e
      injection e with e
      rw [e, hcb] at e3
      simp at e3
    · intro c fz e
      simp at e
theorem F78 {B b : Nat} {l : List UInt8} {c : Int} {u : UInt8} {w : World} (h : IsBuilderF 127 5 B b (byteCells l) w) (hc : c = (u.toNat : Int)) (hl : (l.length : Int) ≤ 1000) (hB : B ≤ w.heap.size) :
    Calls Tryz.prog 78 #[.pointer (some ⟨b, 0, none⟩), .int .u8 c] w (Bk fun r w' => r = .nilIface ∧ IsBuilderF 127 5 B b (byteCells (l ++ [u])) w' ∧ Below B w w' ∧ OthersKept 5 (some b) w w') := by
  have := Tryz.Builder_WriteByte_k B b (byteCells l) c w h (by rw [byteCells, List.length_map]; omega) hB
  refine this.mono fun e w' hh => ?_
  obtain ⟨he, h1, h2, h3⟩ := hh
  refine ⟨_, he, rfl, .inr ?_, h2, h3⟩
  subst hc
  have e : byteCells (l ++ [u]) = byteCells l ++ [.int .u8 (u.toNat : Int)] := by simp [byteCells]
  rw [e]; exact h1
theorem F79 {B b : Nat} {l : List UInt8} {w : World} (h : IsBuilderF 127 5 B b (byteCells l) w) (hB : B ≤ w.heap.size) :
    Calls Tryz.prog 79 #[.pointer (some ⟨b, 0, none⟩)] w (Bk fun r w' => r = .string (mkB l) ∧ Below B w w') :=
  (Tryz.Builder_String_any_f B b l w h hB).mono fun e w' hh => ⟨_, hh.1, rfl, hh.2.2⟩
end Go.Proofs.YtdpdlplkngggoaaGreatDoor.C5

namespace Go.Proofs.YtdpdlplkngggoaaGreatDoor.C5
open Go.Wk Go

def restE (s : ByteArray) : ByteArray := if rimE s = 0 then restV s else ByteArray.empty
end Go.Proofs.YtdpdlplkngggoaaGreatDoor.C5

namespace Go.Proofs.YtdpdlplkngggoaaGreatDoor
open Go.Wk Go.RowKit Go.Lib
set_option linter.unusedVariables false
set_option linter.unusedSimpArgs false
theorem elHb_24 : ElemI Tryz.prog 24 23 (.agg #[.int .i64 0, .int .i64 0]) 2 16 := ElemI.of Tryz.underlying24 (by kernel_rfl) (by first | rfl | kernel_rfl) (by decide)
theorem elHb_25 : ElemI Tryz.prog 25 3 (.int .i64 0) 1 8 := ElemI.of Tryz.underlying25 (by kernel_rfl) (by first | rfl | kernel_rfl) (by decide)

theorem C5.F59 {rim : ByteArray} {w : World} (s_rim : rim.size ≤ maxLen) : Calls Tryz.prog 59 #[.string rim] w (Ret w (fun r _ => r = .int .i64 (rimE rim))) := by
  have hS := St.start0 w
  refine enterR Tryz.func59 rfl Tryz.ntmps59 Tryz.results59 rfl ?_
  refine W.seq ?_
  refine W.reg ?_
  refine Wx.rd (v := .int .i64 0) (rd_assign rfl) rfl ?_
  refine Wx.nil ?_
  refine W.seq ?_
  refine W.seq ?_
  refine W.reg ?_
  refine Wx.rd (v := .string rim) (rd_move rfl) rfl ?_
  refine Wx.rd (v := .int .i64 (rim.size : Int)) (rd_lenS rfl Tryz.underlying9) rfl ?_
  refine Wx.rd (v := .bool (decide (12 < (rim.size : Int)))) (rd_gtr rfl rfl) rfl ?_
  refine Wx.nil ?_
  refine W.condD rfl (fun c0 => ?_) (fun c0 => ?_)
  · -- yes
    refine W.seq ?_
    refine W.reg ?_
    refine Wx.rd (v := .int .i64 3) (rd_assign rfl) rfl ?_
    refine Wx.nil ?_
    have e0_0 : (rimE rim) = (3 : Int) := by rw [rimE, if_pos c0]
    exact W.ret ⟨.int .i64 3, ResIs.one, hS.bel, (by rw [e0_0])⟩
  · -- no
    refine W.skip ?_
    refine W.seq ?_
    refine W.seq ?_
    refine W.reg ?_
    refine Wx.rd (v := .string rim) (rd_move rfl) rfl ?_
    refine Wx.rangeS (s := rim) hS rfl Tryz.underlying9 rfl (fun g_1 w_2 hx_3 hS => ?_)
    refine Wx.nil ?_
    refine W.block ?_
    refine W.loop [2, 4, 10, 11, 12, 13, 14, 15] (fun (p : Nat) => []) (fun (p : Nat) w' => St w [] w' [.raw g_1 (.stringIter rim p)] ∧ p ≤ rim.size ∧ (∀ q : Int, 0 ≤ q → q < p → isLet (tabAt rim q) = true)) (fun (p : Nat) => rim.size - p) 0 trivial ⟨hS, (Nat.zero_le _), (fun q q0 q1 => by omega)⟩ ?_
    rintro p u_5 w_4 ⟨hS, h1, h2⟩
    refine W.seq ?_
    refine W.reg ?_
    refine Wx.nextS hS 0 rfl rfl rfl (fun hn w_6 hz_7 hS => ?_) (fun hn => ?_)
    · -- a rune
      have hS : St _ _ w_6 [.raw g_1 (.stringIter rim (p + (runeW rim (p : Int)).toNat))] := hS
      have hrb := runeAt_bd rim (p : Int)
      refine Wx.rd (v := .bool true) (rd_extract rfl rfl) rfl ?_
      refine Wx.nil ?_
      refine W.seq ?_
      refine W.condT rfl rfl ?_
      refine W.skip ?_
      refine W.block ?_
      refine W.seq ?_
      refine W.reg ?_
      refine Wx.rd (v := .int .i32 (runeAt rim (p : Int))) (rd_extract rfl rfl) rfl ?_
      refine Wx.rd (v := .int .i32 (runeAt rim (p : Int))) (rd_assign rfl) rfl ?_
      refine Wx.nil ?_
      refine W.seq ?_
      refine W.reg ?_
      refine Wx.rd (v := .int .i32 (runeAt rim (p : Int))) (rd_move rfl) rfl ?_
      refine Wx.callF (run_callF Tryz.call76 rfl) (C5.F76 (by first | assumption | (simp only [maxLen]; omega) | (simp only [ByteArray.size_extract, ByteArray.size_append, maxLen] at *; omega) | decide) (in_i32 (by omega) (by omega)) letS_asc (by decide) (by omega)) rfl ?_
      rintro r_9 w_10 hx_11 rfl
      have hS := hS.ext hx_11
      refine Wx.rd (v := .bool (!(hasRune letS (runeAt rim (p : Int))))) (rd_not rfl) rfl ?_
      refine Wx.nil ?_
      refine W.cond rfl (fun c2 => ?_) (fun c2 => ?_)
      · -- yes
        try simp only [Bool.and_eq_true, Bool.or_eq_true, Bool.not_eq_true', Bool.and_eq_false_iff, Bool.or_eq_false_iff, Bool.not_eq_false', decide_eq_true_eq, decide_eq_false_iff_not, not_or, Bool.false_eq_true, Bool.true_eq_false, false_or, or_false, not_false_eq_true] at c2
        have hnl := rune_not (s := rim) (p := (p : Int)) (by omega) c2
        refine W.seq ?_
        refine W.reg ?_
        refine Wx.rd (v := .int .i64 10) (rd_assign rfl) rfl ?_
        refine Wx.nil ?_
        have e1_0 : (rimE rim) = (10 : Int) := by exact rimE_bad (by omega) (by omega) hn hnl
        exact W.ret ⟨.int .i64 10, ResIs.one, hS.bel, (by rw [e1_0])⟩
      · -- no
        try simp only [Bool.and_eq_true, Bool.or_eq_true, Bool.not_eq_true', Bool.and_eq_false_iff, Bool.or_eq_false_iff, Bool.not_eq_false', decide_eq_true_eq, decide_eq_false_iff_not, not_or, Bool.false_eq_true, Bool.true_eq_false, false_or, or_false, not_false_eq_true] at c2
        have hle := rune_let (s := rim) (p := (p : Int)) (by omega) c2
        refine W.skip ?_
        refine ⟨p + (runeW rim (p : Int)).toNat, (by show rim.size - (p + (runeW rim (p : Int)).toNat) < rim.size - p; omega), ?_, ?_, Out.look rfl Out.self⟩
        · exact ⟨hS, (by omega), (fun q q0 q1 => by by_cases hq : q = (p : Int); (subst hq; exact hle.2); exact h2 q q0 (by omega))⟩
        · exact trivial
    · -- the end
      refine Wx.rd (v := .bool false) (rd_extract rfl rfl) rfl ?_
      refine Wx.nil ?_
      refine W.seq ?_
      refine W.condF rfl rfl ?_
      refine W.exit rfl ?_
      refine W.seq ?_
      refine W.reg ?_
      refine Wx.rd (v := .int .i64 0) (rd_assign rfl) rfl ?_
      refine Wx.nil ?_
      have e2_0 : (rimE rim) = (0 : Int) := by exact rimE_good (by omega) (fun q q0 q1 => h2 q q0 (by omega))
      exact W.ret ⟨.int .i64 0, ResIs.one, hS.bel, (by rw [e2_0])⟩

theorem C5.F77b {rim : ByteArray} {O : List (Option Nat)} {w : World} (s_rim : rim.size ≤ maxLen) (p_12 : (rim.size : Int) ≤ 12) (p_l : Lets rim) (hO : ∀ b, some b ∈ O → b < w.heap.size) (hG : Laid w) : Calls Tryz.prog 77 #[.string rim] w (Ret w (fun r w' => ∃ sv lv, r = .tuple #[sv, lv] ∧ V (tSl (tP (tI .i64) (tI .i64))) ((takS rim).1) sv O w' ∧ Fresh (tI .i64) 3 ((takS rim).2) lv w.heap.size w')) := by
  have hS := St.start w O hO
  refine enterR Tryz.func77 rfl Tryz.ntmps77 Tryz.results77 rfl ?_
  refine W.seq ?_
  refine W.reg ?_
  refine Wx.rd (v := (.slice none 0 0)) (rd_assign rfl) rfl ?_
  refine Wx.rd (v := (.slice none 0 0)) (rd_assign rfl) rfl ?_
  refine Wx.nil ?_
  refine W.seq ?_
  refine W.seq ?_
  refine W.reg ?_
  refine Wx.rd (v := .string rim) (rd_move rfl) rfl ?_
  refine Wx.rangeS (s := rim) hS rfl Tryz.underlying9 rfl (fun g_1 w_2 hx_3 hS => ?_)
  refine Wx.nil ?_
  refine W.block ?_
  have hS := hS.addNil (tP (tI .i64) (tI .i64)) 23
  have hS := hS.addNil (tI .i64) 3
  refine W.loop [2, 3, 4, 5, 8, 9, 10, 11, 12, 13, 14, 15, 16, 17, 18, 19, 20, 21, 22, 23, 24, 25, 26, 27, 28, 29, 30, 31, 32, 33, 34, 35, 36, 37, 38, 39, 40, 41, 42] (fun x : Value × (List (Int × Int)) × Value × (List Int) × Nat => match x with | (tv, st, lw, lf, p) => [(2, tv), (3, lw)]) (fun (x : Value × (List (Int × Int)) × Value × (List Int) × Nat) w' => match x with | (tv, st, lw, lf, p) => St w O w' [.row (tI .i64) 3 lw lf, .row (tP (tI .i64) (tI .i64)) 23 tv st, .raw g_1 (.stringIter rim p)] ∧ p ≤ rim.size ∧ runS rim (st, lf) (rng p rim.size) = takS rim ∧ (∀ x ∈ lf, 0 ≤ x ∧ x < p) ∧ 2 * (st.length : Int) + lf.length = p) (fun x : Value × (List (Int × Int)) × Value × (List Int) × Nat => match x with | (tv, st, lw, lf, p) => rim.size - p) ((.slice none 0 0), [], (.slice none 0 0), [], 0) ⟨rfl, rfl, trivial⟩ ⟨hS, (Nat.zero_le _), (rfl), (by simp), (rfl)⟩ ?_
  rintro ⟨tv, st, lw, lf, p⟩ u_5 w_4 ⟨hS, h1, h2, h3, h4⟩
  refine W.seq ?_
  refine W.reg ?_
  refine Wx.nextS hS 2 rfl rfl rfl (fun hn w_6 hz_7 hS => ?_) (fun hn => ?_)
  · -- a rune
    have hS : St _ _ w_6 [.row (tI .i64) 3 lw lf, .row (tP (tI .i64) (tI .i64)) 23 tv st, .raw g_1 (.stringIter rim (p + (runeW rim (p : Int)).toNat))] := hS
    have hra := (runeAt_ascii (s := rim) (p := (p : Int)) (by omega) (by have := isLet_bd (p_l p (by omega) (by omega)); omega)).2
    refine Wx.rd (v := .bool true) (rd_extract rfl rfl) rfl ?_
    refine Wx.nil ?_
    refine W.seq ?_
    refine W.condT rfl rfl ?_
    refine W.skip ?_
    refine W.block ?_
    refine W.seq ?_
    refine W.reg ?_
    refine Wx.rd (v := .int .i64 (p : Int)) (rd_extract rfl rfl) rfl ?_
    refine Wx.rd (v := .int .i64 (p : Int)) (rd_assign rfl) rfl ?_
    refine Wx.nil ?_
    refine W.seq ?_
    refine W.reg ?_
    refine Wx.rd (v := lw) (rd_move rfl) rfl ?_
    refine Wx.rd (v := .int .i64 (lf.length : Int)) (rd_lenR hS 0 rfl rfl Tryz.underlying25) rfl ?_
    refine Wx.rd (v := .int .i64 (lf.length : Int)) (rd_assign rfl) rfl ?_
    refine Wx.nil ?_
    refine W.seq ?_
    refine W.seq ?_
    refine W.reg ?_
    refine Wx.rd (v := .int .i64 (lf.length : Int)) (rd_move rfl) rfl ?_
    refine Wx.rd (v := .bool (decide (0 < (lf.length : Int)))) (rd_gtr rfl rfl) rfl ?_
    refine Wx.rd (v := .bool (decide (0 < (lf.length : Int)))) (rd_move rfl) rfl ?_
    refine Wx.cut (X := Unit) 9 [16, 17, 18, 19, 20, 21, 22, 23, 24] (fun _ => [(24, .bool (decide (0 < (lf.length : Int)) && fitR rim (ix 0 lf ((lf.length : Int) - 1)) (p : Int)))]) (fun _ w' => St w O w' [.row (tI .i64) 3 lw lf, .row (tP (tI .i64) (tI .i64)) 23 tv st, .raw g_1 (.stringIter rim (p + (runeW rim (p : Int)).toNat))]) ?_ ?_
    · rcases Bool.eq_false_or_eq_true (decide (0 < (lf.length : Int))) with g_9 | g_9
      · -- True
        have gp_10 := of_decide_eq_true g_9
        refine Wx.gyes rfl rfl (congrArg Value.bool g_9) ?_
        refine Wx.rd (v := .string rim) (rd_move rfl) rfl ?_
        refine Wx.gyes rfl rfl (congrArg Value.bool g_9) ?_
        refine Wx.rd (v := lw) (rd_move rfl) rfl ?_
        refine Wx.gyes rfl rfl (congrArg Value.bool g_9) ?_
        refine Wx.rd (v := .int .i64 (lf.length : Int)) (rd_move rfl) rfl ?_
        refine Wx.gyes rfl rfl (congrArg Value.bool g_9) ?_
        refine Wx.rd (v := .int .i64 ((lf.length : Int) - 1)) (rd_sub rfl rfl (in_i64 (by omega) (by omega))) rfl ?_
        refine Wx.gyes rfl rfl (congrArg Value.bool g_9) ?_
        refine Wx.indexR hS 0 rfl rfl rfl Tryz.underlying25 Tryz.sizeOf3 (by first | omega | (simp only [List.length_set, List.length_append, List.length_cons, List.length_nil, List.length_replicate]; omega)) (by first | omega | (simp only [List.length_set, List.length_append, List.length_cons, List.length_nil, List.length_replicate]; omega)) rfl (fun g_11 hg_12 => ?_)
        refine Wx.gyes rfl rfl (congrArg Value.bool g_9) ?_
        refine Wx.rd (v := .int .i64 (ix 0 lf ((lf.length : Int) - 1))) (rd_loadRI' hS 0 rfl hg_12 rfl (by first | omega | (simp only [List.length_set, List.length_append, List.length_cons, List.length_nil, List.length_replicate]; omega)) (by first | omega | (simp only [List.length_set, List.length_append, List.length_cons, List.length_nil, List.length_replicate]; omega)) Tryz.isAgg3 Tryz.sizeOf3) rfl ?_
        have bd_13 := bd_i64 (hS.rowInK' 0 rfl (by first | omega | (simp only [List.length_set, List.length_append, List.length_cons, List.length_nil, List.length_replicate]; omega)) (by first | omega | (simp only [List.length_set, List.length_append, List.length_cons, List.length_nil, List.length_replicate]; omega)) : InK .i64 (ix 0 lf ((lf.length : Int) - 1)))
        refine Wx.gyes rfl rfl (congrArg Value.bool g_9) ?_
        refine Wx.rd (v := .int .i64 (p : Int)) (rd_move rfl) rfl ?_
        refine Wx.gyes rfl rfl (congrArg Value.bool g_9) ?_
        have hlm := h3 (ix 0 lf ((lf.length : Int) - 1)) (ix_mem (by omega) (by omega))
        refine Wx.callF (run_callF Tryz.call95 rfl) (C5.F95 (by first | assumption | (simp only [maxLen]; omega) | (simp only [ByteArray.size_extract, ByteArray.size_append, maxLen] at *; omega) | decide) (in_i64 (by omega) (by omega)) (in_i64 (by omega) (by omega)) (by omega) (by omega) (by omega) (by omega) (by omega) (hG.ext hS.bel)) rfl ?_
        rintro r_14 w_15 hx_16 rfl
        have hS := hS.ext hx_16
        refine Wx.rd (v := .bool (fitR rim (ix 0 lf ((lf.length : Int) - 1)) (p : Int))) (rd_pickT (congrArg Value.bool g_9) rfl) rfl ?_
        refine Wx.nil ⟨(), hS, ⟨?_, trivial⟩, Out.look rfl Out.refl⟩
        show Value.bool (fitR rim (ix 0 lf ((lf.length : Int) - 1)) (p : Int)) = Value.bool (decide (0 < (lf.length : Int)) && fitR rim (ix 0 lf ((lf.length : Int) - 1)) (p : Int))
        first | rw [g_9, Bool.true_and] | (rw [g_9]; rfl)
      · -- False
        have gp_17 := of_decide_eq_false g_9
        refine Wx.gnoB rfl rfl (congrArg Value.bool g_9) rfl rfl ?_
        refine Wx.gnoB rfl rfl (congrArg Value.bool g_9) rfl rfl ?_
        refine Wx.gnoB rfl rfl (congrArg Value.bool g_9) rfl rfl ?_
        refine Wx.gnoB rfl rfl (congrArg Value.bool g_9) rfl rfl ?_
        refine Wx.gnoB rfl rfl (congrArg Value.bool g_9) rfl rfl ?_
        refine Wx.gnoB rfl rfl (congrArg Value.bool g_9) rfl rfl ?_
        refine Wx.gnoB rfl rfl (congrArg Value.bool g_9) rfl rfl ?_
        refine Wx.gnoB rfl rfl (congrArg Value.bool g_9) rfl rfl ?_
        refine Wx.rd (v := .bool false) (rd_pickF (congrArg Value.bool g_9) rfl) rfl ?_
        refine Wx.nil ⟨(), hS, ⟨?_, trivial⟩, Out.look rfl Out.refl⟩
        show Value.bool false = Value.bool (decide (0 < (lf.length : Int)) && fitR rim (ix 0 lf ((lf.length : Int) - 1)) (p : Int))
        first | rw [g_9, Bool.false_and] | (rw [g_9]; rfl)
    rintro ⟨⟩ u_19 w_18 hS
    refine Wx.nil ?_
    refine W.cond rfl (fun c1 => ?_) (fun c1 => ?_)
    · -- yes
      try simp only [Bool.and_eq_true, Bool.or_eq_true, Bool.not_eq_true', Bool.and_eq_false_iff, Bool.or_eq_false_iff, Bool.not_eq_false', decide_eq_true_eq, decide_eq_false_iff_not, not_or, Bool.false_eq_true, Bool.true_eq_false, false_or, or_false, not_false_eq_true] at c1
      refine W.seq ?_
      refine W.reg ?_
      refine Wx.rd (v := tv) (rd_move rfl) rfl ?_
      refine Wx.rd (v := lw) (rd_move rfl) rfl ?_
      refine Wx.rd (v := .int .i64 (lf.length : Int)) (rd_move rfl) rfl ?_
      refine Wx.rd (v := .int .i64 ((lf.length : Int) - 1)) (rd_sub rfl rfl (in_i64 (by omega) (by omega))) rfl ?_
      refine Wx.indexR hS 0 rfl rfl rfl Tryz.underlying25 Tryz.sizeOf3 (by first | omega | (simp only [List.length_set, List.length_append, List.length_cons, List.length_nil, List.length_replicate]; omega)) (by first | omega | (simp only [List.length_set, List.length_append, List.length_cons, List.length_nil, List.length_replicate]; omega)) rfl (fun g_20 hg_21 => ?_)
      refine Wx.rd (v := .int .i64 (ix 0 lf ((lf.length : Int) - 1))) (rd_loadRI' hS 0 rfl hg_21 rfl (by first | omega | (simp only [List.length_set, List.length_append, List.length_cons, List.length_nil, List.length_replicate]; omega)) (by first | omega | (simp only [List.length_set, List.length_append, List.length_cons, List.length_nil, List.length_replicate]; omega)) Tryz.isAgg3 Tryz.sizeOf3) rfl ?_
      have bd_22 := bd_i64 (hS.rowInK' 0 rfl (by first | omega | (simp only [List.length_set, List.length_append, List.length_cons, List.length_nil, List.length_replicate]; omega)) (by first | omega | (simp only [List.length_set, List.length_append, List.length_cons, List.length_nil, List.length_replicate]; omega)) : InK .i64 (ix 0 lf ((lf.length : Int) - 1)))
      refine Wx.rd (v := .int .i64 (p : Int)) (rd_move rfl) rfl ?_
      refine Wx.rd (v := .agg #[.int .i64 (ix 0 lf ((lf.length : Int) - 1)), .int .i64 (p : Int)]) (rd_build (vs := [(0, .int .i64 (ix 0 lf ((lf.length : Int) - 1))), (1, .int .i64 (p : Int))]) rfl (by kernel_rfl)) rfl ?_
      refine Wx.lit (t := (tP (tI .i64) (tI .i64))) (ys := [(ix 0 lf ((lf.length : Int) - 1), (p : Int))]) (vs := [.agg #[.int .i64 (ix 0 lf ((lf.length : Int) - 1)), .int .i64 (p : Int)]]) elHb_24 hS rfl rfl ⟨(V.mk2 (in_i64 (by omega) (by omega)) (in_i64 (by omega) (by omega))), trivial⟩ (by decide) rfl (fun v_23 w_24 hx_25 hS => ?_)
      refine Wx.append elHb_24 hS 2 rfl rfl rfl (Src.ofR hS 0 rfl) (by simp only [maxLen]; first | omega | (simp; omega) | simp) (by first | omega | (simp; omega) | simp) rfl (fun v_26 w_27 hz_28 hS => ?_)
      refine Wx.rd (v := v_26) (rd_assign rfl) rfl ?_
      refine Wx.nil ?_
      refine W.seq ?_
      refine W.reg ?_
      refine Wx.rd (v := lw) (rd_move rfl) rfl ?_
      refine Wx.rd (v := .int .i64 (lf.length : Int)) (rd_move rfl) rfl ?_
      refine Wx.rd (v := .int .i64 ((lf.length : Int) - 1)) (rd_sub rfl rfl (in_i64 (by omega) (by omega))) rfl ?_
      obtain ⟨g_29, c_30, rfl, hc_31⟩ := hS.rowForm 1 rfl (by omega)
      refine Wx.rd (v := (.slice (some ⟨g_29, 0, none⟩) ((lf.length : Int) - 1).toNat c_30)) (rd_headO Tryz.underlying25 Tryz.sizeOf3 rfl rfl (by omega) (by omega)) rfl ?_
      have hS : St _ _ _ [.row (tP (tI .i64) (tI .i64)) 23 v_23 [(ix 0 lf ((lf.length : Int) - 1), (p : Int))], .row (tI .i64) 3 (.slice (some ⟨g_29, 0, none⟩) ((lf.length : Int) - 1).toNat c_30) (List.take ((lf.length : Int) - 1).toNat lf), .row (tP (tI .i64) (tI .i64)) 23 v_26 (st ++ [(ix 0 lf ((lf.length : Int) - 1), (p : Int))]), .raw g_1 (.stringIter rim (p + (runeW rim (p : Int)).toNat))] := hS.shrink (m := ((lf.length : Int) - 1).toNat) 1 rfl (by omega)
      refine Wx.rd (v := (.slice (some ⟨g_29, 0, none⟩) ((lf.length : Int) - 1).toNat c_30)) (rd_assign rfl) rfl ?_
      refine Wx.nil ?_
      refine W.exit rfl ?_
      refine ⟨(v_26, st ++ [(ix 0 lf ((lf.length : Int) - 1), (p : Int))], (.slice (some ⟨g_29, 0, none⟩) ((lf.length : Int) - 1).toNat c_30), List.take ((lf.length : Int) - 1).toNat lf, p + (runeW rim (p : Int)).toNat), (by show rim.size - (p + (runeW rim (p : Int)).toNat) < rim.size - p; omega), ?_, ?_, Out.look rfl (Out.hav rfl (Out.look rfl Out.self))⟩
      · exact ⟨hS.tl, (by omega), (by rw [← h2, rng_cons (i := (p : Int)) (by omega), runS_cons, show ((p + (runeW rim (p : Int)).toNat : Nat) : Int) = (p : Int) + 1 by omega]; first | rw [stepS_yes c1.1 c1.2] | rw [stepS_no c1]), (fun x hx => by first | (have := h3 x (List.mem_of_mem_take hx); omega) | (rcases List.mem_append.1 hx with hx | hx; (have := h3 x hx; omega); (rw [List.mem_singleton] at hx; omega))), (by simp only [List.length_append, List.length_take, List.length_cons, List.length_nil]; omega)⟩
      · exact ⟨rfl, rfl, trivial⟩
    · -- no
      try simp only [Bool.and_eq_true, Bool.or_eq_true, Bool.not_eq_true', Bool.and_eq_false_iff, Bool.or_eq_false_iff, Bool.not_eq_false', decide_eq_true_eq, decide_eq_false_iff_not, not_or, Bool.false_eq_true, Bool.true_eq_false, false_or, or_false, not_false_eq_true] at c1
      refine W.skip ?_
      refine W.reg ?_
      refine Wx.rd (v := lw) (rd_move rfl) rfl ?_
      refine Wx.rd (v := .int .i64 (p : Int)) (rd_move rfl) rfl ?_
      refine Wx.lit (t := (tI .i64)) (ys := [(p : Int)]) (vs := [.int .i64 (p : Int)]) elHb_25 hS rfl rfl ⟨(V.mkInt (in_i64 (by omega) (by omega))), trivial⟩ (by decide) rfl (fun v_32 w_33 hx_34 hS => ?_)
      refine Wx.append elHb_25 hS 1 rfl rfl rfl (Src.ofR hS 0 rfl) (by simp only [maxLen]; first | omega | (simp; omega) | simp) (by first | omega | (simp; omega) | simp) rfl (fun v_35 w_36 hz_37 hS => ?_)
      refine Wx.rd (v := v_35) (rd_assign rfl) rfl ?_
      refine Wx.nil ?_
      refine ⟨(tv, st, v_35, lf ++ [(p : Int)], p + (runeW rim (p : Int)).toNat), (by show rim.size - (p + (runeW rim (p : Int)).toNat) < rim.size - p; omega), ?_, ?_, Out.look rfl (Out.hav rfl (Out.look rfl Out.self))⟩
      · exact ⟨hS.tl, (by omega), (by rw [← h2, rng_cons (i := (p : Int)) (by omega), runS_cons, show ((p + (runeW rim (p : Int)).toNat : Nat) : Int) = (p : Int) + 1 by omega]; first | rw [stepS_yes c1.1 c1.2] | rw [stepS_no c1]), (fun x hx => by first | (have := h3 x (List.mem_of_mem_take hx); omega) | (rcases List.mem_append.1 hx with hx | hx; (have := h3 x hx; omega); (rw [List.mem_singleton] at hx; omega))), (by simp only [List.length_append, List.length_take, List.length_cons, List.length_nil]; omega)⟩
      · exact ⟨rfl, rfl, trivial⟩
  · -- the end
    refine Wx.rd (v := .bool false) (rd_extract rfl rfl) rfl ?_
    refine Wx.nil ?_
    refine W.seq ?_
    refine W.condF rfl rfl ?_
    refine W.exit rfl ?_
    refine W.seq ?_
    refine W.reg ?_
    refine Wx.rd (v := tv) (rd_move rfl) rfl ?_
    refine Wx.rd (v := lw) (rd_move rfl) rfl ?_
    refine Wx.rd (v := tv) (rd_assign rfl) rfl ?_
    refine Wx.rd (v := lw) (rd_assign rfl) rfl ?_
    refine Wx.nil ?_
    have e0_0 : (takS rim).1 = st := by rw [← h2, rng_nil (by omega)]; rfl
    have e0_1 : (takS rim).2 = lf := by rw [← h2, rng_nil (by omega)]; rfl
    exact W.ret ⟨.tuple #[tv, lw], ResIs.two, hS.bel, ⟨tv, lw, rfl, (by rw [e0_0]; exact ((hS.lend 1 rfl).mv (.less (fun _ h => List.mem_append.2 (.inr h))))), (by rw [e0_1]; exact (hS.fr 0 rfl flat_int))⟩⟩

end Go.Proofs.YtdpdlplkngggoaaGreatDoor

namespace Go.Proofs.YtdpdlplkngggoaaGreatDoor
open Go.Wk Go.RowKit Go.Lib
set_option linter.unusedVariables false
set_option linter.unusedSimpArgs false


theorem C5.F60 {rim : ByteArray} {w : World} (s_rim : rim.size ≤ maxLen) (p_12 : (rim.size : Int) ≤ 12) (p_l : Lets rim) (hG : Laid w) : Calls Tryz.prog 60 #[.string rim] w (Ret w (fun r _ => r = .string (restV rim))) := by
  have hlb := takS_bd (s := rim)
  have hS := St.start0 w
  refine enterR Tryz.func60 rfl Tryz.ntmps60 Tryz.results60 rfl ?_
  refine W.seq ?_
  refine W.reg ?_
  refine Wx.rd (v := .string ({ data := #[] } : ByteArray)) (rd_assign rfl) rfl ?_
  refine Wx.nil ?_
  refine W.seq ?_
  refine W.reg ?_
  refine Wx.alloc (cs := [(.pointer none), (.slice none 0 0)]) hS Tryz.zeroValue127 rfl rfl (fun g_1 w_2 hx_4 hb_3 hS => ?_)
  refine Wx.nil ?_
  refine W.seq ?_
  refine W.reg ?_
  refine Wx.rd (v := .string rim) (rd_move rfl) rfl ?_
  refine Wx.callF (run_callF Tryz.call77 rfl) (C5.F77b (by first | assumption | (simp only [maxLen]; omega) | (simp only [ByteArray.size_extract, ByteArray.size_append, maxLen] at *; omega) | decide) (by omega) (by omega) hS.fb_lt (hG.ext hS.bel)) rfl ?_
  rintro r_5 w_6 hx_7 ⟨v_8, v_9, rfl, hv_10, hv_11⟩
  have hS := hS.pushFr hx_7 hv_11
  refine Wx.rd (v := .tuple #[v_8, v_9]) (rd_move rfl) rfl ?_
  refine Wx.rd (v := v_8) (rd_extract rfl rfl) rfl ?_
  refine Wx.rd (v := v_9) (rd_extract rfl rfl) rfl ?_
  refine Wx.rd (v := v_8) (rd_assign rfl) rfl ?_
  refine Wx.rd (v := v_9) (rd_assign rfl) rfl ?_
  refine Wx.nil ?_
  refine W.seq ?_
  refine W.seq ?_
  refine W.reg ?_
  refine Wx.rd (v := v_9) (rd_move rfl) rfl ?_
  refine Wx.rd (v := .int .i64 (((takS rim).2).length : Int)) (rd_lenR hS 0 rfl rfl Tryz.underlying25) rfl ?_
  refine Wx.rd (v := .int .i64 0) (rd_move rfl) rfl ?_
  refine Wx.nil ?_
  refine W.block ?_
  have hbd := bld_start hS 1 rfl
  have hS := (hS.front 1 rfl).tl
  refine W.loop [7, 15, 16, 17, 18, 19, 20, 21, 22, 23] (fun (k : Int) => [(15, .int .i64 k)]) (fun (k : Int) w' => St w [] w' [.row (tI .i64) 3 v_9 ((takS rim).2)] ∧ 0 ≤ k ∧ k ≤ (takS rim).2.length ∧ Lib.IsBuilderF 127 5 w.heap.size g_1 (Lib.byteCells (((takS rim).2.take k.toNat).map (byteAt rim))) w') (fun (k : Int) => ((takS rim).2.length - k).toNat) 0 ⟨rfl, trivial⟩ ⟨hS, (by first | omega | simp), (by first | omega | simp), (hbd)⟩ ?_
  rintro k u_15 w_14 ⟨hS, h0, h1, hbd⟩
  refine W.seq ?_
  refine W.reg ?_
  refine Wx.rd (v := .bool (decide (k < (((takS rim).2).length : Int)))) (rd_lss rfl rfl) rfl ?_
  refine Wx.nil ?_
  refine W.seq ?_
  refine W.condD rfl (fun c0 => ?_) (fun c0 => ?_)
  · -- yes
    have hkb := hlb.1 (ix 0 (takS rim).2 k) (ix_mem h0 c0)
    refine W.skip ?_
    refine W.seq ?_
    refine W.block ?_
    refine W.seq ?_
    refine W.reg ?_
    refine Wx.indexR hS 0 rfl rfl rfl Tryz.underlying25 Tryz.sizeOf3 (by first | omega | (simp only [List.length_set, List.length_append, List.length_cons, List.length_nil, List.length_replicate]; omega)) (by first | omega | (simp only [List.length_set, List.length_append, List.length_cons, List.length_nil, List.length_replicate]; omega)) rfl (fun g_16 hg_17 => ?_)
    refine Wx.rd (v := .int .i64 (ix 0 ((takS rim).2) k)) (rd_loadRI' hS 0 rfl hg_17 rfl (by first | omega | (simp only [List.length_set, List.length_append, List.length_cons, List.length_nil, List.length_replicate]; omega)) (by first | omega | (simp only [List.length_set, List.length_append, List.length_cons, List.length_nil, List.length_replicate]; omega)) Tryz.isAgg3 Tryz.sizeOf3) rfl ?_
    have bd_18 := bd_i64 (hS.rowInK' 0 rfl (by first | omega | (simp only [List.length_set, List.length_append, List.length_cons, List.length_nil, List.length_replicate]; omega)) (by first | omega | (simp only [List.length_set, List.length_append, List.length_cons, List.length_nil, List.length_replicate]; omega)) : InK .i64 (ix 0 ((takS rim).2) k))
    refine Wx.rd (v := .int .i64 (ix 0 ((takS rim).2) k)) (rd_assign rfl) rfl ?_
    refine Wx.nil ?_
    refine W.reg ?_
    refine Wx.rd (v := .string rim) (rd_move rfl) rfl ?_
    refine Wx.rd (v := .int .i64 (ix 0 ((takS rim).2) k)) (rd_move rfl) rfl ?_
    refine Wx.rd (v := .int .u8 (tabAt rim (ix 0 ((takS rim).2) k))) (rd_indexS' (by kernel_rfl) rfl Tryz.underlying9 (by omega) (by omega)) rfl ?_
    have bd_19 := tabAt_bd rim (ix 0 ((takS rim).2) k)
    refine Wx.callB (run_callF Tryz.call78 rfl) (F78 hbd rfl (by rw [List.length_map, List.length_take]; omega) hS.bel.size) rfl ?_
    rintro r_20 w_21 ⟨rfl, hbd2, hBe, hBk⟩
    have hS := bld_keep hS hbd hBe hBk
    have hbd := hbd2
    refine Wx.nil ?_
    refine W.reg ?_
    refine Wx.rd (v := .int .i64 (k + 1)) (rd_add rfl rfl (in_i64 (by omega) (by omega))) rfl ?_
    refine Wx.rd (v := .int .i64 (k + 1)) (rd_move rfl) rfl ?_
    refine Wx.nil ?_
    refine ⟨k + 1, (by show ((takS rim).2.length - (k + 1)).toNat < ((takS rim).2.length - k).toNat; omega), ?_, ?_, Out.look rfl Out.self⟩
    · exact ⟨hS, (by first | omega | assumption), (by first | omega | assumption), (by rw [take_ix (d := 0) h0 c0, List.map_append]; exact hbd)⟩
    · exact ⟨rfl, trivial⟩
  · -- no
    refine W.exit rfl ?_
    refine W.seq ?_
    refine W.reg ?_
    refine Wx.callB (run_callF Tryz.call79 rfl) (F79 hbd hS.bel.size) rfl ?_
    rintro r_22 w_23 ⟨rfl, hBe⟩
    have hS := (St.start0 w).ext (Below.trans hS.bel hBe)
    refine Wx.rd (v := .string (mkB (((takS rim).2.take k.toNat).map (byteAt rim)))) (rd_assign rfl) rfl ?_
    refine Wx.nil ?_
    have e0_0 : (restV rim) = (mkB (((takS rim).2.take k.toNat).map (byteAt rim))) := by rw [restV, List.take_of_length_le (by omega)]
    exact W.ret ⟨.string (mkB (((takS rim).2.take k.toNat).map (byteAt rim))), ResIs.one, hS.bel, (by rw [e0_0])⟩
end Go.Proofs.YtdpdlplkngggoaaGreatDoor

namespace Go.Proofs.YtdpdlplkngggoaaGreatDoor
open Go.Wk Go.RowKit Go.Lib
set_option linter.unusedVariables false
set_option linter.unusedSimpArgs false


theorem C5.F46 {rim : ByteArray} {w : World} (s_rim : rim.size ≤ maxLen) (hG : Laid w) : Calls Tryz.prog 46 #[.string rim] w (Ret w (fun r _ => r = .tuple #[.string (restE rim), .int .i64 (rimE rim)])) := by
  have hS := St.start0 w
  refine enterR Tryz.func46 rfl Tryz.ntmps46 Tryz.results46 rfl ?_
  refine W.seq ?_
  refine W.reg ?_
  refine Wx.rd (v := .string ({ data := #[] } : ByteArray)) (rd_assign rfl) rfl ?_
  refine Wx.rd (v := .int .i64 0) (rd_assign rfl) rfl ?_
  refine Wx.nil ?_
  refine W.seq ?_
  refine W.seq ?_
  refine W.reg ?_
  refine Wx.rd (v := .string rim) (rd_move rfl) rfl ?_
  refine Wx.callF (run_callF Tryz.call59 rfl) (C5.F59 (by first | assumption | (simp only [maxLen]; omega) | (simp only [ByteArray.size_extract, ByteArray.size_append, maxLen] at *; omega) | decide)) rfl ?_
  rintro r_1 w_2 hx_3 rfl
  have hS := hS.ext hx_3
  refine Wx.rd (v := .int .i64 (rimE rim)) (rd_assign rfl) rfl ?_
  refine Wx.nil ?_
  refine W.seq ?_
  refine W.reg ?_
  refine Wx.rd (v := .int .i64 (rimE rim)) (rd_move rfl) rfl ?_
  refine Wx.rd (v := .bool (decide ((rimE rim) ≠ 0))) (rd_neq rfl rfl) rfl ?_
  refine Wx.nil ?_
  refine W.condD rfl (fun c0 => ?_) (fun c0 => ?_)
  · -- yes
    refine W.seq ?_
    refine W.reg ?_
    refine Wx.rd (v := .int .i64 (rimE rim)) (rd_move rfl) rfl ?_
    refine Wx.rd (v := .string ({ data := #[] } : ByteArray)) (rd_assign rfl) rfl ?_
    refine Wx.rd (v := .int .i64 (rimE rim)) (rd_assign rfl) rfl ?_
    refine Wx.nil ?_
    have e0_0 : (restE rim) = ({ data := #[] } : ByteArray) := by rw [restE, if_neg c0]; rfl
    exact W.ret ⟨.tuple #[.string ({ data := #[] } : ByteArray), .int .i64 (rimE rim)], ResIs.two, hS.bel, (by rw [e0_0])⟩
  · -- no
    have hr0 : rimE rim = 0 := by omega
    obtain ⟨hr1, hr2⟩ := rimE_ok hr0
    refine W.skip ?_
    refine W.seq ?_
    refine W.reg ?_
    refine Wx.rd (v := .string rim) (rd_move rfl) rfl ?_
    refine Wx.callF (run_callF Tryz.call60 rfl) (C5.F60 (by first | assumption | (simp only [maxLen]; omega) | (simp only [ByteArray.size_extract, ByteArray.size_append, maxLen] at *; omega) | decide) (by omega) hr2 (hG.ext hS.bel)) rfl ?_
    rintro r_4 w_5 hx_6 rfl
    have hS := hS.ext hx_6
    refine Wx.rd (v := .string (restV rim)) (rd_assign rfl) rfl ?_
    refine Wx.rd (v := .int .i64 0) (rd_assign rfl) rfl ?_
    refine Wx.nil ?_
    have e1_0 : (restE rim) = (restV rim) := by rw [restE, if_pos hr0]
    have e1_1 : (rimE rim) = (0 : Int) := by exact hr0
    exact W.ret ⟨.tuple #[.string (restV rim), .int .i64 0], ResIs.two, hS.bel, (by rw [e1_0, e1_1])⟩
end Go.Proofs.YtdpdlplkngggoaaGreatDoor

namespace Go.Proofs.YtdpdlplkngggoaaGreatDoor
open Go.Wk Go.RowKit Go.Lib
set_option linter.unusedVariables false
set_option linter.unusedSimpArgs false


set_option maxHeartbeats 2000000 in
theorem C5.F36  {w : World} (hG : Laid w) : Calls Tryz.prog 36 #[] w (Ret w (fun r _ => r = .bool true)) := by
  have hS := St.start0 w
  refine enterR Tryz.func36 rfl Tryz.ntmps36 Tryz.results36 rfl ?_
  refine W.seq ?_
  refine W.reg ?_
  refine Wx.rd (v := .bool false) (rd_assign rfl) rfl ?_
  refine Wx.nil ?_
  refine W.seq ?_
  refine W.reg ?_
  refine Wx.callF (run_callF Tryz.call46 rfl) (C5.F46 (by first | assumption | (simp only [maxLen]; omega) | (simp only [ByteArray.size_extract, ByteArray.size_append, maxLen] at *; omega) | decide) (hG.ext hS.bel)) rfl ?_
  rintro r_1 w_2 hx_3 rfl
  have hS := hS.ext hx_3
  refine Wx.rd (v := .tuple #[.string (restE ({ data := #[97, 98, 66, 99] } : ByteArray)), .int .i64 (rimE ({ data := #[97, 98, 66, 99] } : ByteArray))]) (rd_move rfl) rfl ?_
  refine Wx.rd (v := .string (restE ({ data := #[97, 98, 66, 99] } : ByteArray))) (rd_extract rfl rfl) rfl ?_
  refine Wx.rd (v := .int .i64 (rimE ({ data := #[97, 98, 66, 99] } : ByteArray))) (rd_extract rfl rfl) rfl ?_
  refine Wx.rd (v := .string (restE ({ data := #[97, 98, 66, 99] } : ByteArray))) (rd_assign rfl) rfl ?_
  refine Wx.rd (v := .int .i64 0) (Rd.to (v := .int .i64 (rimE ({ data := #[97, 98, 66, 99] } : ByteArray))) (rd_assign rfl) (congrArg (Value.int .i64) (show (0 : Int) = (rimE ({ data := #[97, 98, 66, 99] } : ByteArray) : Int) from (by decide +kernel)).symm)) rfl ?_
  refine Wx.nil ?_
  refine W.seq ?_
  refine W.reg ?_
  refine Wx.rd (v := .int .i64 0) (rd_move rfl) rfl ?_
  refine Wx.rd (v := .bool true) (Rd.to (v := .bool (decide ((0 : Int) = 0))) (rd_eql rfl rfl) rfl) rfl ?_
  refine Wx.rd (v := .bool true) (rd_move rfl) rfl ?_
  refine Wx.gyes rfl rfl rfl ?_
  refine Wx.rd (v := .string (restE ({ data := #[97, 98, 66, 99] } : ByteArray))) (rd_move rfl) rfl ?_
  refine Wx.gyes rfl rfl rfl ?_
  refine Wx.rd (v := .bool true) (Rd.to (v := .bool ((restE ({ data := #[97, 98, 66, 99] } : ByteArray)) == ({ data := #[97, 99] } : ByteArray))) (rd_eqlS rfl rfl) (congrArg (Value.bool) (show (true : Bool) = ((restE ({ data := #[97, 98, 66, 99] } : ByteArray)) == ({ data := #[97, 99] } : ByteArray) : Bool) from (by decide +kernel)).symm)) rfl ?_
  refine Wx.rd (v := .bool true) (rd_pickT rfl rfl) rfl ?_
  refine Wx.rd (v := .bool true) (rd_move rfl) rfl ?_
  refine Wx.gyes rfl rfl rfl ?_
  refine Wx.callF (run_callF Tryz.call47 rfl) (C3.F47) rfl ?_
  rintro r_4 w_5 hx_6 rfl
  have hS := hS.ext hx_6
  refine Wx.rd (v := .bool true) (rd_pickT rfl rfl) rfl ?_
  refine Wx.rd (v := .bool true) (rd_assign rfl) rfl ?_
  refine Wx.nil ?_
  exact W.ret ⟨.bool true, ResIs.one, hS.bel, rfl⟩
end Go.Proofs.YtdpdlplkngggoaaGreatDoor

namespace Go.Proofs.YtdpdlplkngggoaaGreatDoor
open Go.Wk Go.RowKit Go.Lib
set_option linter.unusedVariables false
set_option linter.unusedSimpArgs false
theorem elZa_25 : ElemI Tryz.prog 25 3 (.int .i64 0) 1 8 := ElemI.of Tryz.underlying25 (by kernel_rfl) (by first | rfl | kernel_rfl) (by decide)
theorem mixedZa_ : Tryz.prog.follows .mixedOrders = true := by kernel_rfl

theorem F92 {y : Int} {w : World} (i_y : InK .u64 y) (q1 : 1 ≤ y) (q7 : y ≤ 40) : Calls Tryz.prog 92 #[.int .u64 1, .int .u64 y] w (Ret w (fun r _ => r = .tuple #[.int .u64 0, .int .u64 y])) := by
  have b_y := bd_u64 i_y
  have hm := and_mask q1 q7
  have hS := St.start0 w
  refine enterR Tryz.func92 rfl Tryz.ntmps92 Tryz.results92 rfl ?_
  refine W.seq ?_
  refine W.reg ?_
  refine Wx.rd (v := .int .u64 0) (rd_assign rfl) rfl ?_
  refine Wx.rd (v := .int .u64 0) (rd_assign rfl) rfl ?_
  refine Wx.nil ?_
  refine W.seq ?_
  refine W.reg ?_
  refine Wx.rd (v := .int .u64 1) (rd_move rfl) rfl ?_
  refine Wx.rd (v := .int .u64 1) (Rd.to (v := .int .u64 (bits .and .u64 1 4294967295)) (rd_and rfl rfl) (congrArg (Value.int .u64) (show (1 : Int) = (bits .and .u64 1 4294967295 : Int) from (by decide +kernel)).symm)) rfl ?_
  have bd_1 := bd_u64 (bits_in .and .u64 1 4294967295)
  refine Wx.rd (v := .int .u64 1) (rd_assign rfl) rfl ?_
  refine Wx.nil ?_
  refine W.seq ?_
  refine W.reg ?_
  refine Wx.rd (v := .int .u64 1) (rd_move rfl) rfl ?_
  refine Wx.rd (v := .int .u64 0) (Rd.to (v := .int .u64 (1 / 2 ^ min (32 : Int).toNat (IntKind.u64).bits)) (rd_shr rfl rfl (by omega)) (congrArg (Value.int .u64) (show (0 : Int) = (1 / 2 ^ min (32 : Int).toNat (IntKind.u64).bits : Int) from (by decide +kernel)).symm)) rfl ?_
  refine Wx.rd (v := .int .u64 0) (rd_assign rfl) rfl ?_
  refine Wx.nil ?_
  refine W.seq ?_
  refine W.reg ?_
  refine Wx.rd (v := .int .u64 y) (rd_move rfl) rfl ?_
  refine Wx.rd (v := .int .u64 y) (Rd.to (v := .int .u64 (bits .and .u64 y 4294967295)) (rd_and rfl rfl) (congrArg (Value.int .u64) (show (y : Int) = (bits .and .u64 y 4294967295 : Int) from hm.1.symm).symm)) rfl ?_
  have bd_2 := bd_u64 (bits_in .and .u64 y 4294967295)
  refine Wx.rd (v := .int .u64 y) (rd_assign rfl) rfl ?_
  refine Wx.nil ?_
  refine W.seq ?_
  refine W.reg ?_
  refine Wx.rd (v := .int .u64 y) (rd_move rfl) rfl ?_
  refine Wx.rd (v := .int .u64 0) (Rd.to (v := .int .u64 (y / 2 ^ min (32 : Int).toNat (IntKind.u64).bits)) (rd_shr rfl rfl (by omega)) (congrArg (Value.int .u64) (show (0 : Int) = (y / 2 ^ min (32 : Int).toNat (IntKind.u64).bits : Int) from hm.2.symm).symm)) rfl ?_
  refine Wx.rd (v := .int .u64 0) (rd_assign rfl) rfl ?_
  refine Wx.nil ?_
  refine W.seq ?_
  refine W.reg ?_
  refine Wx.rd (v := .int .u64 1) (rd_move rfl) rfl ?_
  refine Wx.rd (v := .int .u64 y) (rd_move rfl) rfl ?_
  refine Wx.rd (v := .int .u64 y) (Rd.to (v := .int .u64 (1 * y)) (rd_mul rfl rfl (in_u64 (by omega) (by omega))) (congrArg (Value.int .u64) (show (y : Int) = (1 * y : Int) from (by omega)).symm)) rfl ?_
  refine Wx.rd (v := .int .u64 y) (rd_assign rfl) rfl ?_
  refine Wx.nil ?_
  refine W.seq ?_
  refine W.reg ?_
  refine Wx.rd (v := .int .u64 0) (rd_move rfl) rfl ?_
  refine Wx.rd (v := .int .u64 y) (rd_move rfl) rfl ?_
  refine Wx.rd (v := .int .u64 0) (Rd.to (v := .int .u64 (0 * y)) (rd_mul rfl rfl (in_u64 (by omega) (by omega))) (congrArg (Value.int .u64) (show (0 : Int) = (0 * y : Int) from (by omega)).symm)) rfl ?_
  refine Wx.rd (v := .int .u64 y) (rd_move rfl) rfl ?_
  refine Wx.rd (v := .int .u64 0) (Rd.to (v := .int .u64 (y / 2 ^ min (32 : Int).toNat (IntKind.u64).bits)) (rd_shr rfl rfl (by omega)) (congrArg (Value.int .u64) (show (0 : Int) = (y / 2 ^ min (32 : Int).toNat (IntKind.u64).bits : Int) from hm.2.symm).symm)) rfl ?_
  refine Wx.rd (v := .int .u64 0) (rd_add (a := 0) (b := 0) rfl rfl (in_u64 (by omega) (by omega))) rfl ?_
  refine Wx.rd (v := .int .u64 0) (rd_assign rfl) rfl ?_
  refine Wx.nil ?_
  refine W.seq ?_
  refine W.reg ?_
  refine Wx.rd (v := .int .u64 0) (rd_move rfl) rfl ?_
  refine Wx.rd (v := .int .u64 0) (Rd.to (v := .int .u64 (bits .and .u64 0 4294967295)) (rd_and rfl rfl) (congrArg (Value.int .u64) (show (0 : Int) = (bits .and .u64 0 4294967295 : Int) from (by decide +kernel)).symm)) rfl ?_
  have bd_3 := bd_u64 (bits_in .and .u64 0 4294967295)
  refine Wx.rd (v := .int .u64 0) (rd_assign rfl) rfl ?_
  refine Wx.nil ?_
  refine W.seq ?_
  refine W.reg ?_
  refine Wx.rd (v := .int .u64 0) (rd_move rfl) rfl ?_
  refine Wx.rd (v := .int .u64 0) (Rd.to (v := .int .u64 (0 / 2 ^ min (32 : Int).toNat (IntKind.u64).bits)) (rd_shr rfl rfl (by omega)) (congrArg (Value.int .u64) (show (0 : Int) = (0 / 2 ^ min (32 : Int).toNat (IntKind.u64).bits : Int) from (by decide +kernel)).symm)) rfl ?_
  refine Wx.rd (v := .int .u64 0) (rd_assign rfl) rfl ?_
  refine Wx.nil ?_
  refine W.seq ?_
  refine W.reg ?_
  refine Wx.rd (v := .int .u64 0) (rd_move rfl) rfl ?_
  refine Wx.rd (v := .int .u64 1) (rd_move rfl) rfl ?_
  refine Wx.rd (v := .int .u64 0) (rd_move rfl) rfl ?_
  refine Wx.rd (v := .int .u64 0) (rd_mul (a := 1) (b := 0) rfl rfl (in_u64 (by omega) (by omega))) rfl ?_
  refine Wx.rd (v := .int .u64 0) (rd_add (a := 0) (b := 0) rfl rfl (in_u64 (by omega) (by omega))) rfl ?_
  refine Wx.rd (v := .int .u64 0) (rd_assign rfl) rfl ?_
  refine Wx.nil ?_
  refine W.seq ?_
  refine W.reg ?_
  refine Wx.rd (v := .int .u64 0) (rd_move rfl) rfl ?_
  refine Wx.rd (v := .int .u64 0) (rd_move rfl) rfl ?_
  refine Wx.rd (v := .int .u64 0) (rd_mul (a := 0) (b := 0) rfl rfl (in_u64 (by omega) (by omega))) rfl ?_
  refine Wx.rd (v := .int .u64 0) (rd_move rfl) rfl ?_
  refine Wx.rd (v := .int .u64 0) (rd_add (a := 0) (b := 0) rfl rfl (in_u64 (by omega) (by omega))) rfl ?_
  refine Wx.rd (v := .int .u64 0) (rd_move rfl) rfl ?_
  refine Wx.rd (v := .int .u64 0) (Rd.to (v := .int .u64 (0 / 2 ^ min (32 : Int).toNat (IntKind.u64).bits)) (rd_shr rfl rfl (by omega)) (congrArg (Value.int .u64) (show (0 : Int) = (0 / 2 ^ min (32 : Int).toNat (IntKind.u64).bits : Int) from (by decide +kernel)).symm)) rfl ?_
  refine Wx.rd (v := .int .u64 0) (rd_add (a := 0) (b := 0) rfl rfl (in_u64 (by omega) (by omega))) rfl ?_
  refine Wx.rd (v := .int .u64 0) (rd_assign rfl) rfl ?_
  refine Wx.nil ?_
  refine W.seq ?_
  refine W.reg ?_
  refine Wx.rd (v := .int .u64 1) (rd_move rfl) rfl ?_
  refine Wx.rd (v := .int .u64 y) (rd_move rfl) rfl ?_
  refine Wx.rd (v := .int .u64 y) (Rd.to (v := .int .u64 (1 * y)) (rd_mul rfl rfl (in_u64 (by omega) (by omega))) (congrArg (Value.int .u64) (show (y : Int) = (1 * y : Int) from (by omega)).symm)) rfl ?_
  refine Wx.rd (v := .int .u64 y) (rd_assign rfl) rfl ?_
  refine Wx.nil ?_
  exact W.ret ⟨.tuple #[.int .u64 0, .int .u64 y], ResIs.two, hS.bel, rfl⟩

theorem F74 {y : Int} {w : World} (i_y : InK .u64 y) (q1 : 1 ≤ y) (q7 : y ≤ 40) : Calls Tryz.prog 74 #[.int .u64 1, .int .u64 y] w (Ret w (fun r _ => r = .tuple #[.int .u64 0, .int .u64 y])) := by
  have b_y := bd_u64 i_y
  have hS := St.start0 w
  refine enterR Tryz.func74 rfl Tryz.ntmps74 Tryz.results74 rfl ?_
  refine W.seq ?_
  refine W.reg ?_
  refine Wx.rd (v := .int .u64 0) (rd_assign rfl) rfl ?_
  refine Wx.rd (v := .int .u64 0) (rd_assign rfl) rfl ?_
  refine Wx.nil ?_
  refine W.seq ?_
  refine W.condF rfl rfl ?_
  refine W.skip ?_
  refine W.seq ?_
  refine W.reg ?_
  refine Wx.rd (v := .int .u64 1) (rd_move rfl) rfl ?_
  refine Wx.rd (v := .int .u64 y) (rd_move rfl) rfl ?_
  refine Wx.callF (run_callF Tryz.call92 rfl) (F92 i_y (by omega) (by omega)) rfl ?_
  rintro r_1 w_2 hx_3 rfl
  have hS := hS.ext hx_3
  refine Wx.rd (v := .tuple #[.int .u64 0, .int .u64 y]) (rd_move rfl) rfl ?_
  refine Wx.rd (v := .int .u64 0) (rd_extract rfl rfl) rfl ?_
  refine Wx.rd (v := .int .u64 y) (rd_extract rfl rfl) rfl ?_
  refine Wx.rd (v := .int .u64 0) (rd_assign rfl) rfl ?_
  refine Wx.rd (v := .int .u64 y) (rd_assign rfl) rfl ?_
  refine Wx.nil ?_
  refine W.seq ?_
  refine W.reg ?_
  refine Wx.rd (v := .int .u64 0) (rd_move rfl) rfl ?_
  refine Wx.rd (v := .int .u64 y) (rd_move rfl) rfl ?_
  refine Wx.rd (v := .int .u64 0) (rd_assign rfl) rfl ?_
  refine Wx.rd (v := .int .u64 y) (rd_assign rfl) rfl ?_
  refine Wx.nil ?_
  exact W.ret ⟨.tuple #[.int .u64 0, .int .u64 y], ResIs.two, hS.bel, rfl⟩

theorem F55 {xv : Value} {Fr_xv : List (Option Nat)} {n : Int} {a : Int} {w : World} (h_xv : V (tSl (tI .i64)) [a] xv Fr_xv w) (i_n : InK .i64 n) (q1 : 1 ≤ n) (q7 : n ≤ 40) : Calls Tryz.prog 55 #[xv, .int .i64 n] w (Ret w (fun r w' => ∃ rv, r = rv ∧ Fresh (tI .i64) 3 (List.replicate n.toNat a) rv w.heap.size w')) := by
  have b_n := bd_i64 i_n
  have a_xv := h_xv.any
  have l_xv := h_xv.len63
  have hS := St.start0 w
  refine enterR Tryz.func55 rfl Tryz.ntmps55 Tryz.results55 rfl ?_
  refine W.seq ?_
  refine W.reg ?_
  refine Wx.rd (v := (.slice none 0 0)) (rd_assign rfl) rfl ?_
  refine Wx.nil ?_
  refine W.seq ?_
  refine W.seq ?_
  refine W.reg ?_
  refine Wx.rd (v := .int .i64 n) (rd_move rfl) rfl ?_
  refine Wx.rd (v := .bool (decide (n < 0))) (rd_lss rfl rfl) rfl ?_
  refine Wx.nil ?_
  refine W.condF rfl (decide_eq_false (by omega)) ?_
  refine W.skip ?_
  refine W.seq ?_
  refine W.reg ?_
  refine Wx.rd (v := xv) (rd_move rfl) rfl ?_
  refine Wx.rd (v := .int .i64 1) (Rd.to (v := .int .i64 ([a].length : Int)) (rd_lenV rfl (hS.arg a_xv) Tryz.underlying25) (congrArg (Value.int .i64) (show (1 : Int) = (([a].length : Int) : Int) from rfl).symm)) rfl ?_
  refine Wx.rd (v := .int .u64 1) (rd_convIn rfl Tryz.underlying3 Tryz.underlying98 (in_u64 (by omega) (by omega))) rfl ?_
  refine Wx.rd (v := .int .i64 n) (rd_move rfl) rfl ?_
  refine Wx.rd (v := .int .u64 n) (rd_convIn rfl Tryz.underlying3 Tryz.underlying98 (in_u64 (by omega) (by omega))) rfl ?_
  refine Wx.callF (run_callF Tryz.call74 rfl) (F74 (in_u64 (by omega) (by omega)) (by omega) (by omega)) rfl ?_
  rintro r_1 w_2 hx_3 rfl
  have hS := hS.ext hx_3
  refine Wx.rd (v := .tuple #[.int .u64 0, .int .u64 n]) (rd_move rfl) rfl ?_
  refine Wx.rd (v := .int .u64 0) (rd_extract rfl rfl) rfl ?_
  refine Wx.rd (v := .int .u64 n) (rd_extract rfl rfl) rfl ?_
  refine Wx.rd (v := .int .u64 0) (rd_assign rfl) rfl ?_
  refine Wx.rd (v := .int .u64 n) (rd_assign rfl) rfl ?_
  refine Wx.nil ?_
  refine W.seq ?_
  refine W.seq ?_
  refine W.reg ?_
  refine Wx.rd (v := .int .u64 0) (rd_move rfl) rfl ?_
  refine Wx.rd (v := .bool false) (Rd.to (v := .bool (decide ((0 : Int) < 0))) (rd_gtr rfl rfl) rfl) rfl ?_
  refine Wx.rd (v := .bool false) (rd_move rfl) rfl ?_
  refine Wx.gyes rfl rfl rfl ?_
  refine Wx.rd (v := .int .u64 n) (rd_move rfl) rfl ?_
  refine Wx.gyes rfl rfl rfl ?_
  refine Wx.rd (v := .bool (decide (9223372036854775807 < n))) (rd_gtr rfl rfl) rfl ?_
  refine Wx.rd (v := .bool (decide (9223372036854775807 < n))) (rd_pickF rfl rfl) rfl ?_
  refine Wx.nil ?_
  refine W.condF rfl (by simp; omega) ?_
  refine W.skip ?_
  refine W.seq ?_
  refine W.reg ?_
  refine Wx.rd (v := .int .u64 n) (rd_move rfl) rfl ?_
  refine Wx.rd (v := .int .i64 n) (rd_convIn rfl Tryz.underlying98 Tryz.underlying3 (in_i64 (by omega) (by omega))) rfl ?_
  refine Wx.make (t := (tI .i64)) (zy := (0 : Int)) (m := n.toNat) elZa_25 rfl rfl (fun _ _ => ⟨rfl, by decide, by decide⟩) hS (congrArg (Value.int .i64) (by omega)) (congrArg (Value.int .i64) (by omega)) (by omega) (by simp only [maxLen]; omega) rfl (fun v_4 w_5 hx_6 hS => ?_)
  refine Wx.rd (v := v_4) (rd_assign rfl) rfl ?_
  refine Wx.nil ?_
  refine W.seq ?_
  refine W.reg ?_
  refine Wx.rd (v := v_4) (rd_move rfl) rfl ?_
  refine Wx.rd (v := xv) (rd_move rfl) rfl ?_
  have hrl : (List.replicate n.toNat (0 : Int)).length = n.toNat := by simp
  refine Wx.copyW (c := 1) (yn := List.replicate 1 a ++ List.replicate (n.toNat - 1) 0) rfl Tryz.underlying25 Tryz.sizeOf3 hS 0 rfl rfl (by simp; omega) rfl (Src.ofV (hS.arg a_xv)) rfl (by simp; omega) (rep_first (by omega)) (fun w_9 hz_10 hS => ?_)
  refine Wx.rd (v := .int .i64 1) (rd_assign rfl) rfl ?_
  refine Wx.nil ?_
  refine W.seq ?_
  refine W.block ?_
  refine W.loop [8, 34, 35, 36, 37, 38, 39, 40, 41, 42, 43, 44, 45, 46] (fun x : Int × (List Int) => match x with | (b, out) => [(8, .int .i64 b)]) (fun (x : Int × (List Int)) w' => match x with | (b, out) => St w [] w' [.row (tI .i64) 3 v_4 out] ∧ 1 ≤ b ∧ b ≤ n ∧ out = List.replicate b.toNat a ++ List.replicate (n.toNat - b.toNat) 0 ∧ (out.length : Int) = n) (fun x : Int × (List Int) => match x with | (b, out) => (n - b).toNat) (1, List.replicate 1 a ++ List.replicate (n.toNat - 1) 0) ⟨rfl, trivial⟩ ⟨hS, (by first | omega | simp), (by first | omega | simp), (rfl), (by simp; omega)⟩ ?_
  rintro ⟨b, out⟩ u_12 w_11 ⟨hS, h0, h1, h2, h3⟩
  refine W.seq ?_
  refine W.seq ?_
  refine W.reg ?_
  refine Wx.rd (v := .int .i64 b) (rd_move rfl) rfl ?_
  refine Wx.rd (v := v_4) (rd_move rfl) rfl ?_
  refine Wx.rd (v := .int .i64 (out.length : Int)) (rd_lenR hS 0 rfl rfl Tryz.underlying25) rfl ?_
  refine Wx.rd (v := .bool (decide (b < (out.length : Int)))) (rd_lss rfl rfl) rfl ?_
  refine Wx.nil ?_
  refine W.condD rfl (fun c2 => ?_) (fun c2 => ?_)
  · -- yes
    refine W.skip ?_
    refine W.block ?_
    refine W.regP mixedZa_ (fun w_13 hx_14 => ?_)
    have hS := hS.ext hx_14
    refine Wp.rd (v := .int .i64 b) 0 rfl (by kernel_rfl) (fun _ => (rd_move rfl)) rfl ?_
    refine Wp.rd (v := v_4) 1 rfl (by kernel_rfl) (fun _ => (rd_move rfl)) rfl ?_
    refine Wp.rd (v := .int .i64 b) 2 rfl (by kernel_rfl) (fun _ => (rd_move rfl)) rfl ?_
    refine Wp.ex2 3 rfl (by kernel_rfl) (rd_tailR hS 0 rfl Tryz.underlying25 Tryz.sizeOf3 rfl rfl (by omega) (by omega)) rfl (fun g_15 c_16 hg_17 => ?_)
    refine Wp.rd (v := v_4) 4 rfl (by kernel_rfl) (fun _ => (rd_move rfl)) rfl ?_
    refine Wp.rd (v := .int .i64 b) 5 rfl (by kernel_rfl) (fun _ => (rd_move rfl)) rfl ?_
    refine Wp.ex2 6 rfl (by kernel_rfl) (rd_headR hS 0 rfl Tryz.underlying25 Tryz.sizeOf3 rfl rfl (by omega) (by omega)) rfl (fun g_18 c_19 hg_20 => ?_)
    refine Wp.br [7] (by kernel_rfl) (by decide) ⟨⟨_, rfl, ?_⟩, trivial⟩
    refine Wx.copyR (c := min (b + b) n - b) (yn := List.replicate (min (b + b) n).toNat a ++ List.replicate (n.toNat - (min (b + b) n).toNat) 0) rfl Tryz.underlying25 Tryz.sizeOf3 hS 0 rfl hg_17 rfl (by show b.toNat * 1 + (out.length - b.toNat) ≤ out.length; omega) rfl (Src.headR hS 0 rfl hg_20 (by omega)) rfl (by rw [List.length_take, Nat.min_eq_left (show b.toNat ≤ out.length by omega), Nat.min_def, Int.min_def]; split <;> split <;> omega) (by rw [h2]; exact rep_next (by omega) (by omega)) (fun w_21 hz_22 hS => ?_)
    refine Wx.nil ?_
    refine Wp.rd (v := .int .i64 (b + (min (b + b) n - b))) 8 rfl (by kernel_rfl) (fun _ => (rd_add rfl rfl (in_i64 (by omega) (by omega)))) rfl ?_
    refine Wp.rd (v := .int .i64 (b + (min (b + b) n - b))) 9 rfl (by kernel_rfl) (fun _ => (rd_assign rfl)) rfl ?_
    refine Wp.done (by kernel_rfl) ?_
    refine ⟨(b + (min (b + b) n - b), List.replicate (min (b + b) n).toNat a ++ List.replicate (n.toNat - (min (b + b) n).toNat) 0), (by show (n - (b + (min (b + b) n - b))).toNat < (n - b).toNat; omega), ?_, ?_, Out.look rfl Out.self⟩
    · exact ⟨hS, (by first | omega | assumption), (by first | omega | assumption), (by rw [show b + (min (b + b) n - b) = min (b + b) n by omega]), (by simp; omega)⟩
    · exact ⟨rfl, trivial⟩
  · -- no
    refine W.exit rfl ?_
    refine W.seq ?_
    refine W.reg ?_
    refine Wx.rd (v := v_4) (rd_move rfl) rfl ?_
    refine Wx.rd (v := v_4) (rd_assign rfl) rfl ?_
    refine Wx.nil ?_
    have e0_0 : List.replicate n.toNat a = out := by rw [h2, show n.toNat - b.toNat = 0 by omega, show b = n by omega]; simp
    exact W.ret ⟨v_4, ResIs.one, hS.bel, ⟨v_4, rfl, (by rw [e0_0]; exact (hS.fr 0 rfl flat_int))⟩⟩
end Go.Proofs.YtdpdlplkngggoaaGreatDoor

namespace Go.Proofs.YtdpdlplkngggoaaGreatDoor
open Go.Wk Go.RowKit Go.Lib
set_option linter.unusedVariables false
set_option linter.unusedSimpArgs false


theorem F58 {xv : Value} {xs : List Int} {Fr_xv : List (Option Nat)} {n : Int} {w : World} (h_xv : V (tSl (tI .i64)) xs xv Fr_xv w) (i_n : InK .i64 n) : Calls Tryz.prog 58 #[xv, .int .i64 n] w (Ret w (fun r _ => r = .int .i64 (idxP (fun y => decide (y = n)) 0 xs))) := by
  have b_n := bd_i64 i_n
  have a_xv := h_xv.any
  have l_xv := h_xv.len63
  have hS := St.start0 w
  refine enterR Tryz.func58 rfl Tryz.ntmps58 Tryz.results58 rfl ?_
  refine W.seq ?_
  refine W.reg ?_
  refine Wx.rd (v := .int .i64 0) (rd_assign rfl) rfl ?_
  refine Wx.nil ?_
  refine W.seq ?_
  refine W.seq ?_
  refine W.reg ?_
  refine Wx.rd (v := xv) (rd_move rfl) rfl ?_
  refine Wx.rd (v := .int .i64 (xs.length : Int)) (rd_lenV rfl (hS.arg a_xv) Tryz.underlying25) rfl ?_
  refine Wx.rd (v := .int .i64 0) (rd_move rfl) rfl ?_
  refine Wx.nil ?_
  refine W.block ?_
  refine W.loop [4, 5, 8, 9, 10, 11, 12, 13, 14, 15, 16, 17, 18] (fun (k : Int) => [(8, .int .i64 k)]) (fun (k : Int) w' => St w [] w' [] ∧ 0 ≤ k ∧ k ≤ xs.length ∧ idxP (fun y => decide (y = n)) k (xs.drop k.toNat) = idxP (fun y => decide (y = n)) 0 xs) (fun (k : Int) => (xs.length - k).toNat) 0 ⟨rfl, trivial⟩ ⟨hS, (by first | omega | simp), (by first | omega | simp), (by simp)⟩ ?_
  rintro k u_2 w_1 ⟨hS, h0, h1, h2⟩
  refine W.seq ?_
  refine W.reg ?_
  refine Wx.rd (v := .bool (decide (k < (xs.length : Int)))) (rd_lss rfl rfl) rfl ?_
  refine Wx.nil ?_
  refine W.seq ?_
  refine W.condD rfl (fun c0 => ?_) (fun c0 => ?_)
  · -- yes
    refine W.skip ?_
    refine W.seq ?_
    refine W.block ?_
    refine W.seq ?_
    refine W.reg ?_
    refine Wx.rd (v := .int .i64 k) (rd_move rfl) rfl ?_
    refine Wx.rd (v := .int .i64 k) (rd_assign rfl) rfl ?_
    refine Wx.nil ?_
    refine W.seq ?_
    refine W.reg ?_
    refine Wx.rd (v := .int .i64 n) (rd_move rfl) rfl ?_
    refine Wx.rd (v := xv) (rd_move rfl) rfl ?_
    refine Wx.rd (v := .int .i64 k) (rd_move rfl) rfl ?_
    refine Wx.ex (rd_index 0 (hS.arg a_xv) rfl rfl Tryz.underlying25 Tryz.sizeOf3 (by first | omega | (simp only [List.length_set, List.length_append, List.length_cons, List.length_nil, List.length_replicate]; omega)) (by first | omega | (simp only [List.length_set, List.length_append, List.length_cons, List.length_nil, List.length_replicate]; omega))) rfl (fun p_3 hp_4 => ?_)
    refine Wx.rd (v := .int .i64 (ix 0 xs k)) (rd_loadI hp_4 rfl Tryz.isAgg3 Tryz.sizeOf3) rfl ?_
    have bd_5 := bd_i64 hp_4.inK
    refine Wx.rd (v := .bool (decide (n = (ix 0 xs k)))) (rd_eql rfl rfl) rfl ?_
    refine Wx.nil ?_
    refine W.condD rfl (fun c1 => ?_) (fun c1 => ?_)
    · -- yes
      refine W.seq ?_
      refine W.reg ?_
      refine Wx.rd (v := .int .i64 k) (rd_move rfl) rfl ?_
      refine Wx.rd (v := .int .i64 k) (rd_assign rfl) rfl ?_
      refine Wx.nil ?_
      have e0_0 : (idxP (fun y => decide (y = n)) 0 xs) = (k : Int) := by exact idxP_here h0 c0 h2 (decide_eq_true c1.symm)
      exact W.ret ⟨.int .i64 k, ResIs.one, hS.bel, (by rw [e0_0])⟩
    · -- no
      refine W.skip ?_
      refine W.reg ?_
      refine Wx.rd (v := .int .i64 (k + 1)) (rd_add rfl rfl (in_i64 (by omega) (by omega))) rfl ?_
      refine Wx.rd (v := .int .i64 (k + 1)) (rd_move rfl) rfl ?_
      refine Wx.nil ?_
      refine ⟨k + 1, (by show (xs.length - (k + 1)).toNat < (xs.length - k).toNat; omega), ?_, ?_, Out.look rfl Out.self⟩
      · exact ⟨hS, (by first | omega | assumption), (by first | omega | assumption), (idxP_step h0 c0 h2 (decide_eq_false fun q => c1 q.symm))⟩
      · exact ⟨rfl, trivial⟩
  · -- no
    refine W.exit rfl ?_
    refine W.seq ?_
    refine W.reg ?_
    refine Wx.rd (v := .int .i64 (-1)) (rd_assign rfl) rfl ?_
    refine Wx.nil ?_
    have e1_0 : (idxP (fun y => decide (y = n)) 0 xs) = (-1 : Int) := by exact idxP_out (by omega) h2
    exact W.ret ⟨.int .i64 (-1), ResIs.one, hS.bel, (by rw [e1_0])⟩

theorem F57 {xv : Value} {xs : List Int} {Fr_xv : List (Option Nat)} {n : Int} {w : World} (h_xv : V (tSl (tI .i64)) xs xv Fr_xv w) (i_n : InK .i64 n) : Calls Tryz.prog 57 #[xv, .int .i64 n] w (Ret w (fun r _ => r = .bool (hasL xs n))) := by
  have b_n := bd_i64 i_n
  have a_xv := h_xv.any
  have l_xv := h_xv.len63
  have hS := St.start0 w
  refine enterR Tryz.func57 rfl Tryz.ntmps57 Tryz.results57 rfl ?_
  refine W.seq ?_
  refine W.reg ?_
  refine Wx.rd (v := .bool false) (rd_assign rfl) rfl ?_
  refine Wx.nil ?_
  refine W.seq ?_
  refine W.reg ?_
  refine Wx.rd (v := xv) (rd_move rfl) rfl ?_
  refine Wx.rd (v := .int .i64 n) (rd_move rfl) rfl ?_
  refine Wx.callF (run_callF Tryz.call58 rfl) (F58 (hS.arg a_xv) i_n) rfl ?_
  rintro r_1 w_2 hx_3 rfl
  have hS := hS.ext hx_3
  have ib_4 := idxP_bd (fun y => decide (y = n)) xs 0 (Int.le_refl 0)
  refine Wx.rd (v := .bool (decide (0 ≤ (idxP (fun y => decide (y = n)) 0 xs)))) (rd_geq rfl rfl) rfl ?_
  refine Wx.rd (v := .bool (decide (0 ≤ (idxP (fun y => decide (y = n)) 0 xs)))) (rd_assign rfl) rfl ?_
  refine Wx.nil ?_
  have e0_0 : (hasL xs n) = (decide (0 ≤ (idxP (fun y => decide (y = n)) 0 xs))) := by exact (idxP_any (fun y => decide (y = n)) xs 0 (Int.le_refl 0)).symm
  exact W.ret ⟨.bool (decide (0 ≤ (idxP (fun y => decide (y = n)) 0 xs))), ResIs.one, hS.bel, (by rw [e0_0])⟩
end Go.Proofs.YtdpdlplkngggoaaGreatDoor

namespace Go.Proofs.YtdpdlplkngggoaaGreatDoor
open Go.Wk Go.RowKit Go.Lib
set_option linter.unusedVariables false
set_option linter.unusedSimpArgs false
theorem elUa_25 : ElemI Tryz.prog 25 3 (.int .i64 0) 1 8 := ElemI.of Tryz.underlying25 (by kernel_rfl) (by first | rfl | kernel_rfl) (by decide)

theorem F54 {n : Int} {lo : Int} {hi : Int} {w : World} (i_n : InK .i64 n) (i_lo : InK .i64 lo) (i_hi : InK .i64 hi) : Calls Tryz.prog 54 #[.int .i64 n, .int .i64 lo, .int .i64 hi] w (Ret w (fun r _ => r = .bool (decide (lo ≤ n) && decide (n ≤ hi)))) := by
  have b_hi := bd_i64 i_hi
  have b_lo := bd_i64 i_lo
  have b_n := bd_i64 i_n
  have hS := St.start0 w
  refine enterR Tryz.func54 rfl Tryz.ntmps54 Tryz.results54 rfl ?_
  refine W.seq ?_
  refine W.reg ?_
  refine Wx.rd (v := .bool false) (rd_assign rfl) rfl ?_
  refine Wx.nil ?_
  refine W.seq ?_
  refine W.reg ?_
  refine Wx.rd (v := .int .i64 lo) (rd_move rfl) rfl ?_
  refine Wx.rd (v := .int .i64 n) (rd_move rfl) rfl ?_
  refine Wx.rd (v := .bool (decide (lo ≤ n))) (rd_leq rfl rfl) rfl ?_
  refine Wx.rd (v := .bool (decide (lo ≤ n))) (rd_move rfl) rfl ?_
  refine Wx.cut (X := Unit) 4 [11, 12, 13, 14] (fun _ => [(14, .bool (decide (lo ≤ n) && decide (n ≤ hi)))]) (fun _ w' => St w [] w' []) ?_ ?_
  · rcases Bool.eq_false_or_eq_true (decide (lo ≤ n)) with g_1 | g_1
    · -- True
      have gp_2 := of_decide_eq_true g_1
      refine Wx.gyes rfl rfl (congrArg Value.bool g_1) ?_
      refine Wx.rd (v := .int .i64 n) (rd_move rfl) rfl ?_
      refine Wx.gyes rfl rfl (congrArg Value.bool g_1) ?_
      refine Wx.rd (v := .int .i64 hi) (rd_move rfl) rfl ?_
      refine Wx.gyes rfl rfl (congrArg Value.bool g_1) ?_
      refine Wx.rd (v := .bool (decide (n ≤ hi))) (rd_leq rfl rfl) rfl ?_
      refine Wx.rd (v := .bool (decide (n ≤ hi))) (rd_pickT (congrArg Value.bool g_1) rfl) rfl ?_
      refine Wx.nil ⟨(), hS, ⟨?_, trivial⟩, Out.look rfl Out.refl⟩
      show Value.bool (decide (n ≤ hi)) = Value.bool (decide (lo ≤ n) && decide (n ≤ hi))
      first | rw [g_1, Bool.true_and] | (rw [g_1]; rfl)
    · -- False
      have gp_3 := of_decide_eq_false g_1
      refine Wx.gnoB rfl rfl (congrArg Value.bool g_1) rfl rfl ?_
      refine Wx.gnoB rfl rfl (congrArg Value.bool g_1) rfl rfl ?_
      refine Wx.gnoB rfl rfl (congrArg Value.bool g_1) rfl rfl ?_
      refine Wx.rd (v := .bool false) (rd_pickF (congrArg Value.bool g_1) rfl) rfl ?_
      refine Wx.nil ⟨(), hS, ⟨?_, trivial⟩, Out.look rfl Out.refl⟩
      show Value.bool false = Value.bool (decide (lo ≤ n) && decide (n ≤ hi))
      first | rw [g_1, Bool.false_and] | (rw [g_1]; rfl)
  rintro ⟨⟩ u_5 w_4 hS
  refine Wx.rd (v := .bool (decide (lo ≤ n) && decide (n ≤ hi))) (rd_assign rfl) rfl ?_
  refine Wx.nil ?_
  exact W.ret ⟨.bool (decide (lo ≤ n) && decide (n ≤ hi)), ResIs.one, hS.bel, rfl⟩

theorem F53 {z : Int} {w : World} (i_z : InK .i64 z) : Calls Tryz.prog 53 #[.int .i64 z] w (Ret w (fun r _ => r = .bool (!(decide (0 ≤ z) && decide (z ≤ 20))))) := by
  have b_z := bd_i64 i_z
  have hS := St.start0 w
  refine enterR Tryz.func53 rfl Tryz.ntmps53 Tryz.results53 rfl ?_
  refine W.seq ?_
  refine W.reg ?_
  refine Wx.rd (v := .bool false) (rd_assign rfl) rfl ?_
  refine Wx.nil ?_
  refine W.seq ?_
  refine W.reg ?_
  refine Wx.rd (v := .int .i64 z) (rd_move rfl) rfl ?_
  refine Wx.callF (run_callF Tryz.call54 rfl) (F54 i_z (in_i64 (by omega) (by omega)) (in_i64 (by omega) (by omega))) rfl ?_
  rintro r_1 w_2 hx_3 rfl
  have hS := hS.ext hx_3
  refine Wx.rd (v := .bool (!(decide (0 ≤ z) && decide (z ≤ 20)))) (rd_not rfl) rfl ?_
  refine Wx.rd (v := .bool (!(decide (0 ≤ z) && decide (z ≤ 20)))) (rd_assign rfl) rfl ?_
  refine Wx.nil ?_
  exact W.ret ⟨.bool (!(decide (0 ≤ z) && decide (z ≤ 20))), ResIs.one, hS.bel, rfl⟩

theorem F52 {xv : Value} {xs : List Int} {Fr_xv : List (Option Nat)} {w : World} (h_xv : V (tSl (tI .i64)) xs xv Fr_xv w) (p_b : ∀ z ∈ xs, 0 ≤ z ∧ z ≤ 20) : Calls Tryz.prog 52 #[.func (.func 53) #[] #[], xv] w (Ret w (fun r _ => r = .bool false)) := by
  have a_xv := h_xv.any
  have l_xv := h_xv.len63
  have hS := St.start0 w
  refine enterR Tryz.func52 rfl Tryz.ntmps52 Tryz.results52 rfl ?_
  refine W.seq ?_
  refine W.reg ?_
  refine Wx.rd (v := .bool false) (rd_assign rfl) rfl ?_
  refine Wx.nil ?_
  refine W.seq ?_
  refine W.seq ?_
  refine W.reg ?_
  refine Wx.rd (v := xv) (rd_move rfl) rfl ?_
  refine Wx.rd (v := .int .i64 (xs.length : Int)) (rd_lenV rfl (hS.arg a_xv) Tryz.underlying25) rfl ?_
  refine Wx.rd (v := .int .i64 0) (rd_move rfl) rfl ?_
  refine Wx.nil ?_
  refine W.block ?_
  refine W.loop [4, 6, 9, 10, 11, 12, 13, 14, 15, 16] (fun (k : Int) => [(9, .int .i64 k)]) (fun (k : Int) w' => St w [] w' [] ∧ 0 ≤ k ∧ k ≤ xs.length) (fun (k : Int) => (xs.length - k).toNat) 0 ⟨rfl, trivial⟩ ⟨hS, (by first | omega | simp), (by first | omega | simp)⟩ ?_
  rintro k u_2 w_1 ⟨hS, h0, h1⟩
  refine W.seq ?_
  refine W.reg ?_
  refine Wx.rd (v := .bool (decide (k < (xs.length : Int)))) (rd_lss rfl rfl) rfl ?_
  refine Wx.nil ?_
  refine W.seq ?_
  refine W.condD rfl (fun c0 => ?_) (fun c0 => ?_)
  · -- yes
    refine W.skip ?_
    refine W.seq ?_
    refine W.block ?_
    refine W.seq ?_
    refine W.reg ?_
    refine Wx.ex (rd_index 0 (hS.arg a_xv) rfl rfl Tryz.underlying25 Tryz.sizeOf3 (by first | omega | (simp only [List.length_set, List.length_append, List.length_cons, List.length_nil, List.length_replicate]; omega)) (by first | omega | (simp only [List.length_set, List.length_append, List.length_cons, List.length_nil, List.length_replicate]; omega))) rfl (fun p_3 hp_4 => ?_)
    refine Wx.rd (v := .int .i64 (ix 0 xs k)) (rd_loadI hp_4 rfl Tryz.isAgg3 Tryz.sizeOf3) rfl ?_
    have bd_5 := bd_i64 hp_4.inK
    refine Wx.rd (v := .int .i64 (ix 0 xs k)) (rd_assign rfl) rfl ?_
    refine Wx.nil ?_
    refine W.seq ?_
    refine W.reg ?_
    refine Wx.rd (v := .func (.func 53) #[] #[]) (rd_move rfl) rfl ?_
    refine Wx.rd (v := .int .i64 (ix 0 xs k)) (rd_move rfl) rfl ?_
    refine Wx.callF (run_callC (fs := []) (cs := []) (vs := [.int .i64 (ix 0 xs k)]) Tryz.call53 rfl rfl) (F53 (in_i64 (by omega) (by omega))) rfl ?_
    rintro r_6 w_7 hx_8 rfl
    have hS := hS.ext hx_8
    refine Wx.nil ?_
    refine W.condF rfl (by have := p_b _ (ix_inl h0 c0); simp; omega) ?_
    refine W.skip ?_
    refine W.reg ?_
    refine Wx.rd (v := .int .i64 (k + 1)) (rd_add rfl rfl (in_i64 (by omega) (by omega))) rfl ?_
    refine Wx.rd (v := .int .i64 (k + 1)) (rd_move rfl) rfl ?_
    refine Wx.nil ?_
    refine ⟨k + 1, (by show (xs.length - (k + 1)).toNat < (xs.length - k).toNat; omega), ?_, ?_, Out.look rfl Out.self⟩
    · exact ⟨hS, (by first | omega | assumption), (by first | omega | assumption)⟩
    · exact ⟨rfl, trivial⟩
  · -- no
    refine W.exit rfl ?_
    refine W.seq ?_
    refine W.reg ?_
    refine Wx.rd (v := .bool false) (rd_assign rfl) rfl ?_
    refine Wx.nil ?_
    exact W.ret ⟨.bool false, ResIs.one, hS.bel, rfl⟩

theorem F42 {vv : Value} {vs : List (List Int)} {Fr_vv : List (Option Nat)} {m : Int} {w : World} (h_vv : V (tSl (tSl (tI .i64))) vs vv Fr_vv w) (p_dv : DvOK vs m) : Calls Tryz.prog 42 #[vv] w (Ret w (fun r _ => r = .int .i64 0)) := by
  have hr0 := p_dv.l _ (row_mem p_dv (Int.le_refl 0) (by have := p_dv.n; omega))
  have hvn := p_dv.n
  have hm6 := p_dv.m6
  have a_vv := h_vv.any
  have l_vv := h_vv.len63
  have hS := St.start0 w
  refine enterR Tryz.func42 rfl Tryz.ntmps42 Tryz.results42 rfl ?_
  refine W.seq ?_
  refine W.reg ?_
  refine Wx.rd (v := .int .i64 0) (rd_assign rfl) rfl ?_
  refine Wx.nil ?_
  refine W.seq ?_
  refine W.block ?_
  refine W.seq ?_
  refine W.reg ?_
  refine Wx.rd (v := vv) (rd_move rfl) rfl ?_
  refine Wx.rd (v := .int .i64 (vs.length : Int)) (rd_lenV rfl (hS.arg a_vv) Tryz.underlying30) rfl ?_
  refine Wx.rd (v := .bool (decide ((vs.length : Int) = 0))) (rd_eql rfl rfl) rfl ?_
  refine Wx.rd (v := .bool (decide ((vs.length : Int) = 0))) (rd_assign rfl) rfl ?_
  refine Wx.nil ?_
  refine W.condF rfl (decide_eq_false (by omega)) ?_
  refine W.seq ?_
  refine W.reg ?_
  refine Wx.rd (v := vv) (rd_move rfl) rfl ?_
  refine Wx.rd (v := .int .i64 (vs.length : Int)) (rd_lenV rfl (hS.arg a_vv) Tryz.underlying30) rfl ?_
  refine Wx.rd (v := .bool (decide (4 < (vs.length : Int)))) (rd_gtr rfl rfl) rfl ?_
  refine Wx.rd (v := .bool (decide (4 < (vs.length : Int)))) (rd_move rfl) rfl ?_
  refine Wx.cut (X := Unit) 6 [14, 15, 16, 17, 18, 19] (fun _ => [(19, .bool (decide (4 < (vs.length : Int)) || decide (6 < ((ix [] vs 0).length : Int))))]) (fun _ w' => St w [] w' []) ?_ ?_
  · rcases Bool.eq_false_or_eq_true (decide (4 < (vs.length : Int))) with g_1 | g_1
    · -- True
      have gp_2 := of_decide_eq_true g_1
      refine Wx.gnoB rfl rfl (congrArg Value.bool g_1) rfl rfl ?_
      refine Wx.gnoB rfl rfl (congrArg Value.bool g_1) rfl rfl ?_
      refine Wx.gnoB rfl rfl (congrArg Value.bool g_1) rfl rfl ?_
      refine Wx.gnoB rfl rfl (congrArg Value.bool g_1) rfl rfl ?_
      refine Wx.gnoB rfl rfl (congrArg Value.bool g_1) rfl rfl ?_
      refine Wx.rd (v := .bool true) (rd_pickT (congrArg Value.bool g_1) rfl) rfl ?_
      refine Wx.nil ⟨(), hS, ⟨?_, trivial⟩, Out.look rfl Out.refl⟩
      show Value.bool true = Value.bool (decide (4 < (vs.length : Int)) || decide (6 < ((ix [] vs 0).length : Int)))
      first | rw [g_1, Bool.true_or] | (rw [g_1]; rfl)
    · -- False
      have gp_3 := of_decide_eq_false g_1
      refine Wx.gyes rfl rfl (congrArg Value.bool g_1) ?_
      refine Wx.rd (v := vv) (rd_move rfl) rfl ?_
      refine Wx.gyes rfl rfl (congrArg Value.bool g_1) ?_
      refine Wx.ex (rd_index [] (hS.arg a_vv) rfl rfl Tryz.underlying30 Tryz.sizeOf25 (by first | omega | (simp only [List.length_set, List.length_append, List.length_cons, List.length_nil, List.length_replicate]; omega)) (by first | omega | (simp only [List.length_set, List.length_append, List.length_cons, List.length_nil, List.length_replicate]; omega))) rfl (fun p_4 hp_5 => ?_)
      refine Wx.gyes rfl rfl (congrArg Value.bool g_1) ?_
      refine Wx.ex (rd_load hp_5 rfl Tryz.isAgg25 Tryz.sizeOf25) rfl (fun v_6 hv_7 => ?_)
      have ln_8 := hv_7.len63
      have hS := hS.add hv_7
      refine Wx.gyes rfl rfl (congrArg Value.bool g_1) ?_
      refine Wx.rd (v := .int .i64 ((ix [] vs 0).length : Int)) (rd_lenV rfl (hS.v 0 rfl) Tryz.underlying25) rfl ?_
      refine Wx.gyes rfl rfl (congrArg Value.bool g_1) ?_
      refine Wx.rd (v := .bool (decide (6 < ((ix [] vs 0).length : Int)))) (rd_gtr rfl rfl) rfl ?_
      refine Wx.rd (v := .bool (decide (6 < ((ix [] vs 0).length : Int)))) (rd_pickF (congrArg Value.bool g_1) rfl) rfl ?_
      refine Wx.nil ⟨(), hS.tl, ⟨?_, trivial⟩, Out.look rfl Out.refl⟩
      show Value.bool (decide (6 < ((ix [] vs 0).length : Int))) = Value.bool (decide (4 < (vs.length : Int)) || decide (6 < ((ix [] vs 0).length : Int)))
      first | rw [g_1, Bool.false_or] | (rw [g_1]; rfl)
  rintro ⟨⟩ u_11 w_10 hS
  refine Wx.rd (v := .bool (decide (4 < (vs.length : Int)) || decide (6 < ((ix [] vs 0).length : Int)))) (rd_assign rfl) rfl ?_
  refine Wx.nil ?_
  refine W.condF rfl (by simp; omega) ?_
  refine W.skip ?_
  refine W.seq ?_
  refine W.seq ?_
  refine W.reg ?_
  refine Wx.rd (v := vv) (rd_move rfl) rfl ?_
  refine Wx.rd (v := .int .i64 (vs.length : Int)) (rd_lenV rfl (hS.arg a_vv) Tryz.underlying30) rfl ?_
  refine Wx.rd (v := .int .i64 0) (rd_move rfl) rfl ?_
  refine Wx.nil ?_
  refine W.block ?_
  refine W.loop [2, 4, 22, 23, 24, 25, 26, 27, 28, 29, 30, 31, 32, 33, 34, 35, 36, 37] (fun (k : Int) => [(22, .int .i64 k)]) (fun (k : Int) w' => St w [] w' [] ∧ 0 ≤ k ∧ k ≤ vs.length) (fun (k : Int) => (vs.length - k).toNat) 0 ⟨rfl, trivial⟩ ⟨hS, (by first | omega | simp), (by first | omega | simp)⟩ ?_
  rintro k u_13 w_12 ⟨hS, h0, h1⟩
  refine W.seq ?_
  refine W.reg ?_
  refine Wx.rd (v := .bool (decide (k < (vs.length : Int)))) (rd_lss rfl rfl) rfl ?_
  refine Wx.nil ?_
  refine W.seq ?_
  refine W.condD rfl (fun c2 => ?_) (fun c2 => ?_)
  · -- yes
    have hkm := row_mem p_dv h0 c2
    have hkl := p_dv.l _ hkm
    refine W.skip ?_
    refine W.seq ?_
    refine W.block ?_
    refine W.seq ?_
    refine W.reg ?_
    refine Wx.ex (rd_index [] (hS.arg a_vv) rfl rfl Tryz.underlying30 Tryz.sizeOf25 (by first | omega | (simp only [List.length_set, List.length_append, List.length_cons, List.length_nil, List.length_replicate]; omega)) (by first | omega | (simp only [List.length_set, List.length_append, List.length_cons, List.length_nil, List.length_replicate]; omega))) rfl (fun p_14 hp_15 => ?_)
    refine Wx.ex (rd_load hp_15 rfl Tryz.isAgg25 Tryz.sizeOf25) rfl (fun v_16 hv_17 => ?_)
    have ln_18 := hv_17.len63
    have hS := hS.add hv_17
    refine Wx.rd (v := v_16) (rd_assign rfl) rfl ?_
    refine Wx.nil ?_
    refine W.block ?_
    refine W.seq ?_
    refine W.reg ?_
    refine Wx.rd (v := v_16) (rd_move rfl) rfl ?_
    refine Wx.rd (v := .int .i64 ((ix [] vs k).length : Int)) (rd_lenV rfl (hS.v 0 rfl) Tryz.underlying25) rfl ?_
    refine Wx.rd (v := vv) (rd_move rfl) rfl ?_
    refine Wx.ex (rd_index [] (hS.arg a_vv) rfl rfl Tryz.underlying30 Tryz.sizeOf25 (by first | omega | (simp only [List.length_set, List.length_append, List.length_cons, List.length_nil, List.length_replicate]; omega)) (by first | omega | (simp only [List.length_set, List.length_append, List.length_cons, List.length_nil, List.length_replicate]; omega))) rfl (fun p_20 hp_21 => ?_)
    refine Wx.ex (rd_load hp_21 rfl Tryz.isAgg25 Tryz.sizeOf25) rfl (fun v_22 hv_23 => ?_)
    have ln_24 := hv_23.len63
    have hS := hS.add hv_23
    refine Wx.rd (v := .int .i64 ((ix [] vs 0).length : Int)) (rd_lenV rfl (hS.v 0 rfl) Tryz.underlying25) rfl ?_
    refine Wx.rd (v := .bool (decide (((ix [] vs k).length : Int) ≠ ((ix [] vs 0).length : Int)))) (rd_neq rfl rfl) rfl ?_
    refine Wx.rd (v := .bool (decide (((ix [] vs k).length : Int) ≠ ((ix [] vs 0).length : Int)))) (rd_assign rfl) rfl ?_
    refine Wx.nil ?_
    refine W.condF rfl (decide_eq_false (by omega)) ?_
    refine W.seq ?_
    refine W.reg ?_
    refine Wx.rd (v := v_16) (rd_move rfl) rfl ?_
    refine Wx.callF (run_callF Tryz.call52 rfl) (F52 (hS.v 1 rfl) (p_dv.b _ hkm)) rfl ?_
    rintro r_26 w_27 hx_28 rfl
    have hS := hS.ext hx_28
    refine Wx.rd (v := .bool false) (rd_assign rfl) rfl ?_
    refine Wx.nil ?_
    refine W.condF rfl rfl ?_
    refine W.skip ?_
    refine W.reg ?_
    refine Wx.rd (v := .int .i64 (k + 1)) (rd_add rfl rfl (in_i64 (by omega) (by omega))) rfl ?_
    refine Wx.rd (v := .int .i64 (k + 1)) (rd_move rfl) rfl ?_
    refine Wx.nil ?_
    refine ⟨k + 1, (by show (vs.length - (k + 1)).toNat < (vs.length - k).toNat; omega), ?_, ?_, Out.look rfl Out.self⟩
    · exact ⟨St.tl (hS.tl), (by first | omega | assumption), (by first | omega | assumption)⟩
    · exact ⟨rfl, trivial⟩
  · -- no
    refine W.exit rfl ?_
    refine W.seq ?_
    refine W.reg ?_
    refine Wx.rd (v := .int .i64 0) (rd_assign rfl) rfl ?_
    refine Wx.nil ?_
    exact W.ret ⟨.int .i64 0, ResIs.one, hS.bel, rfl⟩

theorem F43 {vv : Value} {vs : List (List Int)} {m : Int} {O : List (Option Nat)} {w : World} (h_vv : V (tSl (tSl (tI .i64))) vs vv O w) (p_dv : DvOK vs m) (p_m : 1 ≤ m) (hO : ∀ b, some b ∈ O → b < w.heap.size) : Calls Tryz.prog 43 #[vv] w (Ret w (fun r w' => ∃ ov, r = .agg #[vv, ov] ∧ Fresh (tI .i64) 3 (List.replicate m.toNat (-1)) ov w.heap.size w')) := by
  have hr0 := p_dv.l _ (row_mem p_dv (Int.le_refl 0) (by have := p_dv.n; omega))
  have hvn := p_dv.n
  have hm6 := p_dv.m6
  have a_vv := h_vv
  have l_vv := h_vv.len63
  have hS := St.start w O hO
  refine enterR Tryz.func43 rfl Tryz.ntmps43 Tryz.results43 rfl ?_
  refine W.seq ?_
  refine W.reg ?_
  refine Wx.alloc (cs := [(.slice none 0 0), (.slice none 0 0)]) hS Tryz.zeroValue91 rfl rfl (fun g_1 w_2 hx_4 hb_3 hS => ?_)
  refine Wx.nil ?_
  refine W.seq ?_
  refine W.reg ?_
  refine Wx.rd (v := vv) (rd_move rfl) rfl ?_
  refine Wx.lit (t := (tI .i64)) (ys := [-1]) (vs := [.int .i64 (-1)]) elUa_25 hS rfl rfl ⟨(V.mkInt (in_i64 (by omega) (by omega))), trivial⟩ (by decide) rfl (fun v_5 w_6 hx_7 hS => ?_)
  refine Wx.rd (v := vv) (rd_move rfl) rfl ?_
  refine Wx.ex (rd_index [] (hS.arg a_vv) rfl rfl Tryz.underlying30 Tryz.sizeOf25 (by first | omega | (simp only [List.length_set, List.length_append, List.length_cons, List.length_nil, List.length_replicate]; omega)) (by first | omega | (simp only [List.length_set, List.length_append, List.length_cons, List.length_nil, List.length_replicate]; omega))) rfl (fun p_8 hp_9 => ?_)
  refine Wx.ex (rd_load hp_9 rfl Tryz.isAgg25 Tryz.sizeOf25) rfl (fun v_10 hv_11 => ?_)
  have ln_12 := hv_11.len63
  have hS := hS.add hv_11
  refine Wx.rd (v := .int .i64 ((ix [] vs 0).length : Int)) (rd_lenV rfl (hS.v 0 rfl) Tryz.underlying25) rfl ?_
  refine Wx.callF (run_callF Tryz.call55 rfl) (F55 (a := -1) (hS.lend 1 rfl) (in_i64 (by omega) (by omega)) (by omega) (by omega)) rfl ?_
  rintro r_14 w_15 hx_16 ⟨_, rfl, hv_17⟩
  have hS := hS.pushFr hx_16 hv_17
  refine Wx.rd (v := .agg #[vv, r_14]) (rd_buildC (vs := [(0, vv), (1, r_14)]) (us := [(0, .agg #[vv]), (1, .agg #[r_14])]) rfl (parts_cons (Go.Wk.cells_one (V.oneC (hS.arg a_vv))) (parts_cons (Go.Wk.cells_one (hS.rowOne 0 rfl)) parts_nil)) (by kernel_rfl)) rfl ?_
  refine Wx.storeX (cs' := [vv, r_14]) (ds := [vv, r_14]) hS 3 rfl rfl rfl rfl Tryz.sizeOf91 (Nat.le_of_ble_eq_true rfl) (one_cons (V.oneC (hS.arg a_vv)) (one_cons (hS.rowOne 0 rfl) one_nil)) rfl (fun w_19 hz_20 hS => ?_)
  refine Wx.nil ?_
  have e0_0 : List.replicate m.toNat (-1) = List.replicate ((ix [] vs 0).length : Int).toNat (-1) := by rw [hr0]
  exact W.ret ⟨.agg #[vv, r_14], (ResIs.cell1 hS 3 rfl rfl Tryz.isAgg91 Tryz.sizeOf91), hS.bel, ⟨r_14, rfl, (by rw [e0_0]; exact (hS.fr 0 rfl flat_int))⟩⟩
end Go.Proofs.YtdpdlplkngggoaaGreatDoor

namespace Go.Proofs.YtdpdlplkngggoaaGreatDoor
open Go.Wk Go.RowKit Go.Lib
set_option linter.unusedVariables false
set_option linter.unusedSimpArgs false
theorem foUb_91_1 : fldOff Tryz.prog 91 1 = some 1 := by kernel_rfl
theorem foUb_91_0 : fldOff Tryz.prog 91 0 = some 0 := by kernel_rfl

set_option maxHeartbeats 1000000 in
theorem F93 {vv : Value} {vs : List (List Int)} {Fr_vv : List (Option Nat)} {ov : Value} {ow : List Int} {Fr_ov : List (Option Nat)} {i : Int} {h : Int} {w : World} (h_vv : V (tSl (tSl (tI .i64))) vs vv Fr_vv w) (h_ov : V (tSl (tI .i64)) ow ov Fr_ov w) (i_i : InK .i64 i) (i_h : InK .i64 h) (p_dv : DvOK vs ow.length) (p_i : 0 ≤ i ∧ i < vs.length) : Calls Tryz.prog 93 #[.agg #[vv, ov], .int .i64 i, .int .i64 h] w (Ret w (fun r _ => r = .tuple #[.int .i64 ((shV vs ow i h).1), .int .i64 ((shV vs ow i h).2)])) := by
  have b_h := bd_i64 i_h
  have b_i := bd_i64 i_i
  have hrm := row_mem p_dv p_i.1 p_i.2
  have hrl := p_dv.l _ hrm
  have hm6 := p_dv.m6
  have a_vv := h_vv.any
  have l_vv := h_vv.len63
  have a_ov := h_ov.any
  have l_ov := h_ov.len63
  have hS := St.start0 w
  refine enterR Tryz.func93 rfl Tryz.ntmps93 Tryz.results93 rfl ?_
  refine W.seq ?_
  refine W.reg ?_
  refine Wx.box (cs := [vv, ov]) hS rfl rfl rfl (fun g_1 w_2 hx_4 hb_3 hS => ?_)
  refine Wx.rd (v := .int .i64 0) (rd_assign rfl) rfl ?_
  refine Wx.rd (v := .int .i64 0) (rd_assign rfl) rfl ?_
  refine Wx.nil ?_
  refine W.seq ?_
  refine W.seq ?_
  refine W.reg ?_
  refine Wx.rd (v := .pointer (some ⟨g_1, 1, none⟩)) (rd_fieldAddr rfl foUb_91_1) rfl ?_
  refine Wx.rd (v := ov) (rd_loadX hS 0 rfl rfl rfl Tryz.isAgg25) rfl ?_
  refine Wx.rd (v := .int .i64 (ow.length : Int)) (rd_lenV rfl (hS.arg a_ov) Tryz.underlying25) rfl ?_
  refine Wx.rd (v := .int .i64 0) (rd_move rfl) rfl ?_
  refine Wx.nil ?_
  refine W.block ?_
  refine W.loop [6, 7, 8, 9, 13, 14, 15, 16, 17, 18, 19, 20, 21, 22, 23, 24, 25, 26, 27, 28, 29, 30, 31, 32, 33, 34, 35, 36, 37, 38, 39, 40, 41] (fun x : Int × Int × Int => match x with | (s, mx, k) => [(6, .int .i64 s), (7, .int .i64 mx), (13, .int .i64 k)]) (fun (x : Int × Int × Int) w' => match x with | (s, mx, k) => St w [] w' [.box g_1 91 [vv, ov]] ∧ 0 ≤ k ∧ k ≤ ow.length ∧ (s, mx) = shK (ix [] vs i) ow h k) (fun x : Int × Int × Int => match x with | (s, mx, k) => (ow.length - k).toNat) (0, 0, 0) ⟨rfl, rfl, rfl, trivial⟩ ⟨hS, (by first | omega | simp), (by first | omega | simp), (rfl)⟩ ?_
  rintro ⟨s, mx, k⟩ u_6 w_5 ⟨hS, h0, h1, h2⟩
  refine W.seq ?_
  refine W.reg ?_
  refine Wx.rd (v := .bool (decide (k < (ow.length : Int)))) (rd_lss rfl rfl) rfl ?_
  refine Wx.nil ?_
  refine W.seq ?_
  refine W.condD rfl (fun c0 => ?_) (fun c0 => ?_)
  · -- yes
    have hsb := shk_bd (ow := ow) (h := h) (p_dv.b _ hrm) h0 (by omega)
    have hzb := p_dv.b _ hrm _ (List.mem_of_getElem? (ix_get (d := 0) (xs := ix [] vs i) (n := k) (by omega) h0))
    rw [← h2] at hsb
    simp only at hsb
    refine W.skip ?_
    refine W.seq ?_
    refine W.block ?_
    refine W.seq ?_
    refine W.reg ?_
    refine Wx.rd (v := .int .i64 k) (rd_move rfl) rfl ?_
    refine Wx.ex (rd_index 0 (hS.arg a_ov) rfl rfl Tryz.underlying25 Tryz.sizeOf3 (by first | omega | (simp only [List.length_set, List.length_append, List.length_cons, List.length_nil, List.length_replicate]; omega)) (by first | omega | (simp only [List.length_set, List.length_append, List.length_cons, List.length_nil, List.length_replicate]; omega))) rfl (fun p_7 hp_8 => ?_)
    refine Wx.rd (v := .int .i64 (ix 0 ow k)) (rd_loadI hp_8 rfl Tryz.isAgg3 Tryz.sizeOf3) rfl ?_
    have bd_9 := bd_i64 hp_8.inK
    refine Wx.rd (v := .int .i64 k) (rd_assign rfl) rfl ?_
    refine Wx.rd (v := .int .i64 (ix 0 ow k)) (rd_assign rfl) rfl ?_
    refine Wx.nil ?_
    refine W.seq ?_
    refine W.reg ?_
    refine Wx.rd (v := .int .i64 (ix 0 ow k)) (rd_move rfl) rfl ?_
    refine Wx.rd (v := .int .i64 h) (rd_move rfl) rfl ?_
    refine Wx.rd (v := .bool (decide ((ix 0 ow k) = h))) (rd_eql rfl rfl) rfl ?_
    refine Wx.nil ?_
    refine W.condD rfl (fun c1 => ?_) (fun c1 => ?_)
    · -- yes
      refine W.seq ?_
      refine W.reg ?_
      refine Wx.rd (v := .int .i64 s) (rd_move rfl) rfl ?_
      refine Wx.rd (v := .pointer (some ⟨g_1, 0, none⟩)) (rd_fieldAddr rfl foUb_91_0) rfl ?_
      refine Wx.rd (v := vv) (rd_loadX hS 0 rfl rfl rfl Tryz.isAgg30) rfl ?_
      refine Wx.rd (v := .int .i64 i) (rd_move rfl) rfl ?_
      refine Wx.ex (rd_index [] (hS.arg a_vv) rfl rfl Tryz.underlying30 Tryz.sizeOf25 (by first | omega | (simp only [List.length_set, List.length_append, List.length_cons, List.length_nil, List.length_replicate]; omega)) (by first | omega | (simp only [List.length_set, List.length_append, List.length_cons, List.length_nil, List.length_replicate]; omega))) rfl (fun p_10 hp_11 => ?_)
      refine Wx.ex (rd_load hp_11 rfl Tryz.isAgg25 Tryz.sizeOf25) rfl (fun v_12 hv_13 => ?_)
      have ln_14 := hv_13.len63
      have hS := hS.add hv_13
      refine Wx.rd (v := .int .i64 k) (rd_move rfl) rfl ?_
      refine Wx.ex (rd_index 0 (hS.v 0 rfl) rfl rfl Tryz.underlying25 Tryz.sizeOf3 (by first | omega | (simp only [List.length_set, List.length_append, List.length_cons, List.length_nil, List.length_replicate]; omega)) (by first | omega | (simp only [List.length_set, List.length_append, List.length_cons, List.length_nil, List.length_replicate]; omega))) rfl (fun p_16 hp_17 => ?_)
      refine Wx.rd (v := .int .i64 (ix 0 (ix [] vs i) k)) (rd_loadI hp_17 rfl Tryz.isAgg3 Tryz.sizeOf3) rfl ?_
      have bd_18 := bd_i64 hp_17.inK
      refine Wx.rd (v := .int .i64 (s + (ix 0 (ix [] vs i) k))) (rd_add rfl rfl (in_i64 (by omega) (by omega))) rfl ?_
      refine Wx.rd (v := .int .i64 (s + (ix 0 (ix [] vs i) k))) (rd_assign rfl) rfl ?_
      refine Wx.nil ?_
      refine W.reg ?_
      refine Wx.rd (v := .int .i64 mx) (rd_move rfl) rfl ?_
      refine Wx.rd (v := .pointer (some ⟨g_1, 0, none⟩)) (rd_fieldAddr rfl foUb_91_0) rfl ?_
      refine Wx.rd (v := vv) (rd_loadX hS 1 rfl rfl rfl Tryz.isAgg30) rfl ?_
      refine Wx.rd (v := .int .i64 i) (rd_move rfl) rfl ?_
      refine Wx.ex (rd_index [] (hS.arg a_vv) rfl rfl Tryz.underlying30 Tryz.sizeOf25 (by first | omega | (simp only [List.length_set, List.length_append, List.length_cons, List.length_nil, List.length_replicate]; omega)) (by first | omega | (simp only [List.length_set, List.length_append, List.length_cons, List.length_nil, List.length_replicate]; omega))) rfl (fun p_19 hp_20 => ?_)
      refine Wx.ex (rd_load hp_20 rfl Tryz.isAgg25 Tryz.sizeOf25) rfl (fun v_21 hv_22 => ?_)
      have ln_23 := hv_22.len63
      have hS := hS.add hv_22
      refine Wx.rd (v := .int .i64 k) (rd_move rfl) rfl ?_
      refine Wx.ex (rd_index 0 (hS.v 0 rfl) rfl rfl Tryz.underlying25 Tryz.sizeOf3 (by first | omega | (simp only [List.length_set, List.length_append, List.length_cons, List.length_nil, List.length_replicate]; omega)) (by first | omega | (simp only [List.length_set, List.length_append, List.length_cons, List.length_nil, List.length_replicate]; omega))) rfl (fun p_25 hp_26 => ?_)
      refine Wx.rd (v := .int .i64 (ix 0 (ix [] vs i) k)) (rd_loadI hp_26 rfl Tryz.isAgg3 Tryz.sizeOf3) rfl ?_
      have bd_27 := bd_i64 hp_26.inK
      refine Wx.rd (v := .int .i64 (max mx (ix 0 (ix [] vs i) k))) (rd_max rfl rfl) rfl ?_
      refine Wx.rd (v := .int .i64 (max mx (ix 0 (ix [] vs i) k))) (rd_assign rfl) rfl ?_
      refine Wx.nil ?_
      refine W.reg ?_
      refine Wx.rd (v := .int .i64 (k + 1)) (rd_add rfl rfl (in_i64 (by omega) (by omega))) rfl ?_
      refine Wx.rd (v := .int .i64 (k + 1)) (rd_move rfl) rfl ?_
      refine Wx.nil ?_
      refine ⟨(s + (ix 0 (ix [] vs i) k), max mx (ix 0 (ix [] vs i) k), k + 1), (by show (ow.length - (k + 1)).toNat < (ow.length - k).toNat; omega), ?_, ?_, Out.look rfl Out.self⟩
      · exact ⟨St.tl (hS.tl), (by first | omega | assumption), (by first | omega | assumption), (by rw [sh_next h0, ← h2, shS, if_pos c1])⟩
      · exact ⟨rfl, rfl, rfl, trivial⟩
    · -- no
      refine W.skip ?_
      refine W.reg ?_
      refine Wx.rd (v := .int .i64 (k + 1)) (rd_add rfl rfl (in_i64 (by omega) (by omega))) rfl ?_
      refine Wx.rd (v := .int .i64 (k + 1)) (rd_move rfl) rfl ?_
      refine Wx.nil ?_
      refine ⟨(s, mx, k + 1), (by show (ow.length - (k + 1)).toNat < (ow.length - k).toNat; omega), ?_, ?_, Out.look rfl Out.self⟩
      · exact ⟨hS, (by first | omega | assumption), (by first | omega | assumption), (by rw [sh_next h0, ← h2, shS, if_neg c1])⟩
      · exact ⟨rfl, rfl, rfl, trivial⟩
  · -- no
    refine W.exit rfl ?_
    refine W.seq ?_
    refine W.reg ?_
    refine Wx.rd (v := .int .i64 s) (rd_move rfl) rfl ?_
    refine Wx.rd (v := .int .i64 mx) (rd_move rfl) rfl ?_
    refine Wx.rd (v := .int .i64 s) (rd_assign rfl) rfl ?_
    refine Wx.rd (v := .int .i64 mx) (rd_assign rfl) rfl ?_
    refine Wx.nil ?_
    have he : shV vs ow i h = (s, mx) := by rw [shV, h2, show k = (ow.length : Int) by omega]
    have e0_0 : ((shV vs ow i h).1) = (s : Int) := by rw [he]
    have e0_1 : ((shV vs ow i h).2) = (mx : Int) := by rw [he]
    exact W.ret ⟨.tuple #[.int .i64 s, .int .i64 mx], ResIs.two, hS.bel, (by rw [e0_0, e0_1])⟩

set_option maxHeartbeats 1000000 in
theorem F75 {vv : Value} {vs : List (List Int)} {Fr_vv : List (Option Nat)} {ov : Value} {ow : List Int} {Fr_ov : List (Option Nat)} {i : Int} {h : Int} {w : World} (h_vv : V (tSl (tSl (tI .i64))) vs vv Fr_vv w) (h_ov : V (tSl (tI .i64)) ow ov Fr_ov w) (i_i : InK .i64 i) (i_h : InK .i64 h) (p_dv : DvOK vs ow.length) (p_i : 0 ≤ i ∧ i < vs.length) : Calls Tryz.prog 75 #[.agg #[vv, ov], .int .i64 i, .int .i64 h] w (Ret w (fun r _ => r = .tuple #[.int .i64 (envV vs ow i h), .int .i64 ((shV vs ow i h).1 - (shV vs ow i h).2 - (shV vs ow i i).1)])) := by
  have b_h := bd_i64 i_h
  have b_i := bd_i64 i_i
  have hb1 := shv_bd p_dv p_i.1 p_i.2 h
  have hb2 := shv_bd p_dv p_i.1 p_i.2 i
  have a_vv := h_vv.any
  have l_vv := h_vv.len63
  have a_ov := h_ov.any
  have l_ov := h_ov.len63
  have hS := St.start0 w
  refine enterR Tryz.func75 rfl Tryz.ntmps75 Tryz.results75 rfl ?_
  refine W.seq ?_
  refine W.reg ?_
  refine Wx.box (cs := [vv, ov]) hS rfl rfl rfl (fun g_1 w_2 hx_4 hb_3 hS => ?_)
  refine Wx.rd (v := .int .i64 0) (rd_assign rfl) rfl ?_
  refine Wx.rd (v := .int .i64 0) (rd_assign rfl) rfl ?_
  refine Wx.nil ?_
  refine W.seq ?_
  refine W.reg ?_
  refine Wx.rd (v := .agg #[vv, ov]) (rd_loadXs (ds := [vv, ov]) hS 0 rfl rfl rfl rfl Tryz.isAgg91 Tryz.sizeOf91) rfl ?_
  refine Wx.rd (v := .int .i64 i) (rd_move rfl) rfl ?_
  refine Wx.rd (v := .int .i64 i) (rd_move rfl) rfl ?_
  refine Wx.callF (run_callF Tryz.call93 rfl) (F93 (hS.arg a_vv) (hS.arg a_ov) i_i i_i (by omega) (by omega)) rfl ?_
  rintro r_5 w_6 hx_7 rfl
  have hS := hS.ext hx_7
  refine Wx.rd (v := .tuple #[.int .i64 ((shV vs ow i i).1), .int .i64 ((shV vs ow i i).2)]) (rd_move rfl) rfl ?_
  refine Wx.rd (v := .int .i64 ((shV vs ow i i).1)) (rd_extract rfl rfl) rfl ?_
  refine Wx.rd (v := .int .i64 ((shV vs ow i i).2)) (rd_extract rfl rfl) rfl ?_
  refine Wx.rd (v := .int .i64 ((shV vs ow i i).1)) (rd_assign rfl) rfl ?_
  refine Wx.rd (v := .int .i64 ((shV vs ow i i).2)) (rd_assign rfl) rfl ?_
  refine Wx.nil ?_
  refine W.seq ?_
  refine W.reg ?_
  refine Wx.rd (v := .agg #[vv, ov]) (rd_loadXs (ds := [vv, ov]) hS 0 rfl rfl rfl rfl Tryz.isAgg91 Tryz.sizeOf91) rfl ?_
  refine Wx.rd (v := .int .i64 i) (rd_move rfl) rfl ?_
  refine Wx.rd (v := .int .i64 h) (rd_move rfl) rfl ?_
  refine Wx.callF (run_callF Tryz.call93 rfl) (F93 (hS.arg a_vv) (hS.arg a_ov) i_i i_h (by omega) (by omega)) rfl ?_
  rintro r_8 w_9 hx_10 rfl
  have hS := hS.ext hx_10
  refine Wx.rd (v := .tuple #[.int .i64 ((shV vs ow i h).1), .int .i64 ((shV vs ow i h).2)]) (rd_move rfl) rfl ?_
  refine Wx.rd (v := .int .i64 ((shV vs ow i h).1)) (rd_extract rfl rfl) rfl ?_
  refine Wx.rd (v := .int .i64 ((shV vs ow i h).2)) (rd_extract rfl rfl) rfl ?_
  refine Wx.rd (v := .int .i64 ((shV vs ow i h).1)) (rd_assign rfl) rfl ?_
  refine Wx.rd (v := .int .i64 ((shV vs ow i h).2)) (rd_assign rfl) rfl ?_
  refine Wx.nil ?_
  refine W.seq ?_
  refine W.reg ?_
  refine Wx.rd (v := .int .i64 ((shV vs ow i h).1)) (rd_move rfl) rfl ?_
  refine Wx.rd (v := .int .i64 ((shV vs ow i i).1)) (rd_move rfl) rfl ?_
  refine Wx.rd (v := .int .i64 (((shV vs ow i h).1) - ((shV vs ow i i).1))) (rd_sub rfl rfl (in_i64 (by omega) (by omega))) rfl ?_
  refine Wx.rd (v := .int .i64 ((shV vs ow i h).1)) (rd_move rfl) rfl ?_
  refine Wx.rd (v := .int .i64 ((shV vs ow i h).2)) (rd_move rfl) rfl ?_
  refine Wx.rd (v := .int .i64 (((shV vs ow i h).1) - ((shV vs ow i h).2))) (rd_sub rfl rfl (in_i64 (by omega) (by omega))) rfl ?_
  refine Wx.rd (v := .int .i64 ((shV vs ow i i).1)) (rd_move rfl) rfl ?_
  refine Wx.rd (v := .int .i64 ((((shV vs ow i h).1) - ((shV vs ow i h).2)) - ((shV vs ow i i).1))) (rd_sub rfl rfl (in_i64 (by omega) (by omega))) rfl ?_
  refine Wx.rd (v := .int .i64 (((shV vs ow i h).1) - ((shV vs ow i i).1))) (rd_assign rfl) rfl ?_
  refine Wx.rd (v := .int .i64 ((((shV vs ow i h).1) - ((shV vs ow i h).2)) - ((shV vs ow i i).1))) (rd_assign rfl) rfl ?_
  refine Wx.nil ?_
  have e0_0 : (envV vs ow i h) = (((shV vs ow i h).1) - ((shV vs ow i i).1) : Int) := by rfl
  have e0_1 : ((shV vs ow i h).1 - (shV vs ow i h).2 - (shV vs ow i i).1) = ((((shV vs ow i h).1) - ((shV vs ow i h).2)) - ((shV vs ow i i).1) : Int) := by rfl
  exact W.ret ⟨.tuple #[.int .i64 (((shV vs ow i h).1) - ((shV vs ow i i).1)), .int .i64 ((((shV vs ow i h).1) - ((shV vs ow i h).2)) - ((shV vs ow i i).1))], ResIs.two, hS.bel, (by rw [e0_0, e0_1])⟩

set_option maxHeartbeats 1000000 in
theorem F56 {vv : Value} {vs : List (List Int)} {Fr_vv : List (Option Nat)} {ov : Value} {ow : List Int} {Fr_ov : List (Option Nat)} {h : Int} {w : World} (h_vv : V (tSl (tSl (tI .i64))) vs vv Fr_vv w) (h_ov : V (tSl (tI .i64)) ow ov Fr_ov w) (i_h : InK .i64 h) (p_dv : DvOK vs ow.length) : Calls Tryz.prog 56 #[.agg #[vv, ov], .int .i64 h] w (Ret w (fun r _ => r = .int .i64 (enmV vs ow h))) := by
  have b_h := bd_i64 i_h
  have a_vv := h_vv.any
  have l_vv := h_vv.len63
  have a_ov := h_ov.any
  have l_ov := h_ov.len63
  have hS := St.start0 w
  refine enterR Tryz.func56 rfl Tryz.ntmps56 Tryz.results56 rfl ?_
  refine W.seq ?_
  refine W.reg ?_
  refine Wx.box (cs := [vv, ov]) hS rfl rfl rfl (fun g_1 w_2 hx_4 hb_3 hS => ?_)
  refine Wx.rd (v := .int .i64 0) (rd_assign rfl) rfl ?_
  refine Wx.nil ?_
  refine W.seq ?_
  refine W.seq ?_
  refine W.reg ?_
  refine Wx.rd (v := .pointer (some ⟨g_1, 0, none⟩)) (rd_fieldAddr rfl foUb_91_0) rfl ?_
  refine Wx.rd (v := vv) (rd_loadX hS 0 rfl rfl rfl Tryz.isAgg30) rfl ?_
  refine Wx.rd (v := .int .i64 (vs.length : Int)) (rd_lenV rfl (hS.arg a_vv) Tryz.underlying30) rfl ?_
  refine Wx.rd (v := .int .i64 0) (rd_move rfl) rfl ?_
  refine Wx.nil ?_
  refine W.block ?_
  refine W.loop [4, 5, 6, 7, 11, 12, 13, 14, 15, 16, 17, 18, 19, 20, 21, 22, 23, 24] (fun (k : Int) => [(11, .int .i64 k)]) (fun (k : Int) w' => St w [] w' [.box g_1 91 [vv, ov]] ∧ 0 ≤ k ∧ k ≤ vs.length ∧ (rng 0 k).find? (fun j => decide (0 < envV vs ow j h)) = none) (fun (k : Int) => (vs.length - k).toNat) 0 ⟨rfl, trivial⟩ ⟨hS, (by first | omega | simp), (by first | omega | simp), (rfl)⟩ ?_
  rintro k u_6 w_5 ⟨hS, h0, h1, h2⟩
  refine W.seq ?_
  refine W.reg ?_
  refine Wx.rd (v := .bool (decide (k < (vs.length : Int)))) (rd_lss rfl rfl) rfl ?_
  refine Wx.nil ?_
  refine W.seq ?_
  refine W.condD rfl (fun c0 => ?_) (fun c0 => ?_)
  · -- yes
    have hkk : 0 ≤ k ∧ k < vs.length := ⟨h0, by omega⟩
    refine W.skip ?_
    refine W.seq ?_
    refine W.block ?_
    refine W.seq ?_
    refine W.reg ?_
    refine Wx.rd (v := .int .i64 k) (rd_move rfl) rfl ?_
    refine Wx.rd (v := .int .i64 k) (rd_assign rfl) rfl ?_
    refine Wx.nil ?_
    refine W.seq ?_
    refine W.reg ?_
    refine Wx.rd (v := .agg #[vv, ov]) (rd_loadXs (ds := [vv, ov]) hS 0 rfl rfl rfl rfl Tryz.isAgg91 Tryz.sizeOf91) rfl ?_
    refine Wx.rd (v := .int .i64 k) (rd_move rfl) rfl ?_
    refine Wx.rd (v := .int .i64 h) (rd_move rfl) rfl ?_
    refine Wx.callF (run_callF Tryz.call75 rfl) (F75 (hS.arg a_vv) (hS.arg a_ov) (in_i64 (by omega) (by omega)) i_h p_dv hkk) rfl ?_
    rintro r_7 w_8 hx_9 rfl
    have hS := hS.ext hx_9
    refine Wx.rd (v := .tuple #[.int .i64 (envV vs ow k h), .int .i64 ((shV vs ow k h).1 - (shV vs ow k h).2 - (shV vs ow k k).1)]) (rd_move rfl) rfl ?_
    refine Wx.rd (v := .int .i64 (envV vs ow k h)) (rd_extract rfl rfl) rfl ?_
    refine Wx.rd (v := .int .i64 ((shV vs ow k h).1 - (shV vs ow k h).2 - (shV vs ow k k).1)) (rd_extract rfl rfl) rfl ?_
    refine Wx.rd (v := .int .i64 (envV vs ow k h)) (rd_assign rfl) rfl ?_
    refine Wx.rd (v := .int .i64 ((shV vs ow k h).1 - (shV vs ow k h).2 - (shV vs ow k k).1)) (rd_assign rfl) rfl ?_
    refine Wx.nil ?_
    refine W.seq ?_
    refine W.reg ?_
    refine Wx.rd (v := .int .i64 (envV vs ow k h)) (rd_move rfl) rfl ?_
    refine Wx.rd (v := .bool (decide (0 < (envV vs ow k h)))) (rd_gtr rfl rfl) rfl ?_
    refine Wx.nil ?_
    refine W.condD rfl (fun c1 => ?_) (fun c1 => ?_)
    · -- yes
      refine W.seq ?_
      refine W.reg ?_
      refine Wx.rd (v := .int .i64 k) (rd_move rfl) rfl ?_
      refine Wx.rd (v := .int .i64 k) (rd_assign rfl) rfl ?_
      refine Wx.nil ?_
      have e0_0 : (enmV vs ow h) = (k : Int) := by exact fnd_hit h0 (by omega) h2 (decide_eq_true (by omega))
      exact W.ret ⟨.int .i64 k, ResIs.one, hS.bel, (by rw [e0_0])⟩
    · -- no
      refine W.skip ?_
      refine W.reg ?_
      refine Wx.rd (v := .int .i64 (k + 1)) (rd_add rfl rfl (in_i64 (by omega) (by omega))) rfl ?_
      refine Wx.rd (v := .int .i64 (k + 1)) (rd_move rfl) rfl ?_
      refine Wx.nil ?_
      refine ⟨k + 1, (by show (vs.length - (k + 1)).toNat < (vs.length - k).toNat; omega), ?_, ?_, Out.look rfl Out.self⟩
      · exact ⟨hS, (by first | omega | assumption), (by first | omega | assumption), (fnd_next h0 h2 (decide_eq_false (by omega)))⟩
      · exact ⟨rfl, trivial⟩
  · -- no
    refine W.exit rfl ?_
    refine W.seq ?_
    refine W.reg ?_
    refine Wx.rd (v := .int .i64 (-1)) (rd_assign rfl) rfl ?_
    refine Wx.nil ?_
    have e1_0 : (enmV vs ow h) = (-1 : Int) := by exact fnd_none h2 (by omega)
    exact W.ret ⟨.int .i64 (-1), ResIs.one, hS.bel, (by rw [e1_0])⟩

set_option maxHeartbeats 1000000 in
theorem F44 {vv : Value} {vs : List (List Int)} {Fr_vv : List (Option Nat)} {ov : Value} {ow : List Int} {Fr_ov : List (Option Nat)} {w : World} (h_vv : V (tSl (tSl (tI .i64))) vs vv Fr_vv w) (h_ov : V (tSl (tI .i64)) ow ov Fr_ov w) (p_dv : DvOK vs ow.length) : Calls Tryz.prog 44 #[.agg #[vv, ov]] w (Ret w (fun r _ => r = .int .i64 (calV vs ow))) := by
  have a_vv := h_vv.any
  have l_vv := h_vv.len63
  have a_ov := h_ov.any
  have l_ov := h_ov.len63
  have hS := St.start0 w
  refine enterR Tryz.func44 rfl Tryz.ntmps44 Tryz.results44 rfl ?_
  refine W.seq ?_
  refine W.reg ?_
  refine Wx.box (cs := [vv, ov]) hS rfl rfl rfl (fun g_1 w_2 hx_4 hb_3 hS => ?_)
  refine Wx.rd (v := .int .i64 0) (rd_assign rfl) rfl ?_
  refine Wx.nil ?_
  refine W.seq ?_
  refine W.seq ?_
  refine W.reg ?_
  refine Wx.rd (v := .pointer (some ⟨g_1, 0, none⟩)) (rd_fieldAddr rfl foUb_91_0) rfl ?_
  refine Wx.rd (v := vv) (rd_loadX hS 0 rfl rfl rfl Tryz.isAgg30) rfl ?_
  refine Wx.rd (v := .int .i64 (vs.length : Int)) (rd_lenV rfl (hS.arg a_vv) Tryz.underlying30) rfl ?_
  refine Wx.rd (v := .int .i64 0) (rd_move rfl) rfl ?_
  refine Wx.nil ?_
  refine W.block ?_
  refine W.loop [2, 3, 7, 8, 9, 10, 11, 12, 13, 14, 15] (fun (k : Int) => [(7, .int .i64 k)]) (fun (k : Int) w' => St w [] w' [.box g_1 91 [vv, ov]] ∧ 0 ≤ k ∧ k ≤ vs.length ∧ (rng 0 k).find? (fun i => decide (enmV vs ow i = -1)) = none) (fun (k : Int) => (vs.length - k).toNat) 0 ⟨rfl, trivial⟩ ⟨hS, (by first | omega | simp), (by first | omega | simp), (rfl)⟩ ?_
  rintro k u_6 w_5 ⟨hS, h0, h1, h2⟩
  refine W.seq ?_
  refine W.reg ?_
  refine Wx.rd (v := .bool (decide (k < (vs.length : Int)))) (rd_lss rfl rfl) rfl ?_
  refine Wx.nil ?_
  refine W.seq ?_
  refine W.condD rfl (fun c0 => ?_) (fun c0 => ?_)
  · -- yes
    refine W.skip ?_
    refine W.seq ?_
    refine W.block ?_
    refine W.seq ?_
    refine W.reg ?_
    refine Wx.rd (v := .int .i64 k) (rd_move rfl) rfl ?_
    refine Wx.rd (v := .int .i64 k) (rd_assign rfl) rfl ?_
    refine Wx.nil ?_
    refine W.seq ?_
    refine W.reg ?_
    refine Wx.rd (v := .agg #[vv, ov]) (rd_loadXs (ds := [vv, ov]) hS 0 rfl rfl rfl rfl Tryz.isAgg91 Tryz.sizeOf91) rfl ?_
    refine Wx.rd (v := .int .i64 k) (rd_move rfl) rfl ?_
    refine Wx.callF (run_callF Tryz.call56 rfl) (F56 (hS.arg a_vv) (hS.arg a_ov) (in_i64 (by omega) (by omega)) (by omega)) rfl ?_
    rintro r_7 w_8 hx_9 rfl
    have hS := hS.ext hx_9
    refine Wx.rd (v := .bool (decide ((enmV vs ow k) = (-1)))) (rd_eql rfl rfl) rfl ?_
    refine Wx.nil ?_
    refine W.condD rfl (fun c1 => ?_) (fun c1 => ?_)
    · -- yes
      refine W.seq ?_
      refine W.reg ?_
      refine Wx.rd (v := .int .i64 k) (rd_move rfl) rfl ?_
      refine Wx.rd (v := .int .i64 k) (rd_assign rfl) rfl ?_
      refine Wx.nil ?_
      have e0_0 : (calV vs ow) = (k : Int) := by exact fnd_hit h0 (by omega) h2 (decide_eq_true c1)
      exact W.ret ⟨.int .i64 k, ResIs.one, hS.bel, (by rw [e0_0])⟩
    · -- no
      refine W.skip ?_
      refine W.reg ?_
      refine Wx.rd (v := .int .i64 (k + 1)) (rd_add rfl rfl (in_i64 (by omega) (by omega))) rfl ?_
      refine Wx.rd (v := .int .i64 (k + 1)) (rd_move rfl) rfl ?_
      refine Wx.nil ?_
      refine ⟨k + 1, (by show (vs.length - (k + 1)).toNat < (vs.length - k).toNat; omega), ?_, ?_, Out.look rfl Out.self⟩
      · exact ⟨hS, (by first | omega | assumption), (by first | omega | assumption), (fnd_next h0 h2 (decide_eq_false c1))⟩
      · exact ⟨rfl, trivial⟩
  · -- no
    refine W.exit rfl ?_
    refine W.seq ?_
    refine W.reg ?_
    refine Wx.rd (v := .int .i64 (-1)) (rd_assign rfl) rfl ?_
    refine Wx.nil ?_
    have e1_0 : (calV vs ow) = (-1 : Int) := by exact fnd_none h2 (by omega)
    exact W.ret ⟨.int .i64 (-1), ResIs.one, hS.bel, (by rw [e1_0])⟩
end Go.Proofs.YtdpdlplkngggoaaGreatDoor

namespace Go.Proofs.YtdpdlplkngggoaaGreatDoor
open Go.Wk Go.RowKit Go.Lib
set_option linter.unusedVariables false
set_option linter.unusedSimpArgs false
theorem elUc_25 : ElemI Tryz.prog 25 3 (.int .i64 0) 1 8 := ElemI.of Tryz.underlying25 (by kernel_rfl) (by first | rfl | kernel_rfl) (by decide)
theorem mixedUc_ : Tryz.prog.follows .mixedOrders = true := by kernel_rfl
theorem foUc_91_1 : fldOff Tryz.prog 91 1 = some 1 := by kernel_rfl

set_option maxHeartbeats 2000000 in
theorem F45 {vv ov : Value} {vs : List (List Int)} {ow l : List Int} {ob : List Ob} {w0 w : World} {O : List (Option Nat)} (p_dv : DvOK vs ow.length) (p_l : wlkR vs ow 9 [] 0 = some l) (p_k : 0 ≤ idxP (eqI (enmV vs ow (ix 0 l (l.length - 1)))) 0 l) (hS : St w0 O w (Ob.v (tSl (tSl (tI .i64))) vs vv :: .row (tI .i64) 3 ov ow :: ob)) : Calls Tryz.prog 45 #[.agg #[vv, ov]] w (Bk fun r w' => r = .tuple #[] ∧ St w0 O w' (Ob.v (tSl (tSl (tI .i64))) vs vv :: .row (tI .i64) 3 ov (turV vs ow l) :: ob)) := by
  have hm6 := p_dv.m6
  refine enterB Tryz.func45 rfl Tryz.ntmps45 Tryz.results45 rfl ?_
  refine W.seq ?_
  refine W.reg ?_
  refine Wx.box (cs := [vv, ov]) hS rfl rfl rfl (fun g_1 w_2 hx_4 hb_3 hS => ?_)
  refine Wx.nil ?_
  refine W.seq ?_
  refine W.reg ?_
  refine Wx.rd (v := (.slice none 0 0)) (rd_assign rfl) rfl ?_
  refine Wx.nil ?_
  refine W.seq ?_
  refine W.seq ?_
  refine W.reg ?_
  refine Wx.rd (v := .int .i64 0) (rd_assign rfl) rfl ?_
  refine Wx.nil ?_
  refine W.block ?_
  have hS := hS.addNil (tI .i64) 3
  refine W.loop [2, 3, 9, 10, 11, 12, 13, 14, 15, 16, 17, 18, 19] (fun x : Int × Value × (List Int) × Nat => match x with | (i, lv, l2, n) => [(3, .int .i64 i), (2, lv)]) (fun (x : Int × Value × (List Int) × Nat) w' => match x with | (i, lv, l2, n) => St w0 O w' (.row (tI .i64) 3 lv l2 :: .box g_1 91 [vv, ov] :: Ob.v (tSl (tSl (tI .i64))) vs vv :: .row (tI .i64) 3 ov ow :: ob) ∧ wlkR vs ow n l2 i = some l ∧ (l2.length : Int) + n ≤ 9 ∧ -1 ≤ i ∧ i ≤ 4) (fun x : Int × Value × (List Int) × Nat => match x with | (i, lv, l2, n) => n) (0, (.slice none 0 0), [], 9) ⟨rfl, rfl, trivial⟩ ⟨hS, (p_l), (by decide), (by decide)⟩ ?_
  rintro ⟨i, lv, l2, n⟩ u_6 w_5 ⟨hS, h1, h3, h4⟩
  refine W.seq ?_
  refine W.seq ?_
  refine W.reg ?_
  refine Wx.rd (v := lv) (rd_move rfl) rfl ?_
  refine Wx.rd (v := .int .i64 i) (rd_move rfl) rfl ?_
  refine Wx.callF (run_callF Tryz.call57 rfl) (F57 (hS.lend 0 rfl) (in_i64 (by omega) (by omega))) rfl ?_
  rintro r_7 w_8 hx_9 rfl
  have hS := hS.ext hx_9
  refine Wx.rd (v := .bool (!(hasL l2 i))) (rd_not rfl) rfl ?_
  refine Wx.nil ?_
  refine W.cond rfl (fun c0 => ?_) (fun c0 => ?_)
  · -- yes
    try simp only [Bool.and_eq_true, Bool.or_eq_true, Bool.not_eq_true', Bool.and_eq_false_iff, Bool.or_eq_false_iff, Bool.not_eq_false', decide_eq_true_eq, decide_eq_false_iff_not, not_or, Bool.false_eq_true, Bool.true_eq_false, false_or, or_false, not_false_eq_true] at c0
    refine W.skip ?_
    refine W.seq ?_
    refine W.block ?_
    refine W.reg ?_
    refine Wx.rd (v := lv) (rd_move rfl) rfl ?_
    refine Wx.rd (v := .int .i64 i) (rd_move rfl) rfl ?_
    refine Wx.lit (t := (tI .i64)) (ys := [i]) (vs := [.int .i64 i]) elUc_25 hS rfl rfl ⟨(V.mkInt (in_i64 (by omega) (by omega))), trivial⟩ (by decide) rfl (fun v_10 w_11 hx_12 hS => ?_)
    refine Wx.append elUc_25 hS 1 rfl rfl rfl (Src.ofR hS 0 rfl) (by simp only [maxLen]; first | omega | (simp; omega) | simp) (by first | omega | (simp; omega) | simp) rfl (fun v_13 w_14 hz_15 hS => ?_)
    refine Wx.rd (v := v_13) (rd_assign rfl) rfl ?_
    refine Wx.nil ?_
    refine W.reg ?_
    refine Wx.rd (v := .agg #[vv, ov]) (rd_loadXs (ds := [vv, ov]) hS 2 rfl rfl rfl rfl Tryz.isAgg91 Tryz.sizeOf91) rfl ?_
    refine Wx.rd (v := .int .i64 i) (rd_move rfl) rfl ?_
    refine Wx.callF (run_callF Tryz.call56 rfl) (F56 (hS.v 3 rfl) (hS.lend 4 rfl) (in_i64 (by omega) (by omega)) p_dv) rfl ?_
    rintro r_16 w_17 hx_18 rfl
    have hS := hS.ext hx_18
    refine Wx.rd (v := .int .i64 (enmV vs ow i)) (rd_assign rfl) rfl ?_
    refine Wx.nil ?_
    refine ⟨(enmV vs ow i, v_13, l2 ++ [i], n - 1), (by have := (wlk_next h1 c0).2; show n - 1 < n; omega), ?_, ?_, Out.look rfl Out.self⟩
    · exact ⟨hS.tl, ((wlk_next h1 c0).1), (by have := (wlk_next h1 c0).2; simp only [List.length_append, List.length_cons, List.length_nil]; omega), (enm_bd p_dv _)⟩
    · exact ⟨rfl, rfl, trivial⟩
  · -- no
    try simp only [Bool.and_eq_true, Bool.or_eq_true, Bool.not_eq_true', Bool.and_eq_false_iff, Bool.or_eq_false_iff, Bool.not_eq_false', decide_eq_true_eq, decide_eq_false_iff_not, not_or, Bool.false_eq_true, Bool.true_eq_false, false_or, or_false, not_false_eq_true] at c0
    have hll : l2.length = l.length := congrArg List.length (wlk_end h1 c0)
    have hsay : l2 = l := wlk_end h1 c0
    rw [hsay] at hS
    have hS := hS.freeze 0 rfl
    have hlp : 0 < l.length := wlk_pos p_l
    have hen := enm_bd (ow := ow) p_dv (ix 0 l (l.length - 1))
    refine W.exit rfl ?_
    refine W.seq ?_
    refine W.regQ mixedUc_ (by kernel_rfl) ?_
    refine Wx.rd (v := .agg #[vv, ov]) (rd_loadXs (ds := [vv, ov]) hS 1 rfl rfl rfl rfl Tryz.isAgg91 Tryz.sizeOf91) rfl ?_
    refine Wx.rd (v := lv) (rd_move rfl) rfl ?_
    refine Wx.rd (v := lv) (rd_move rfl) rfl ?_
    refine Wx.rd (v := .int .i64 (l.length : Int)) (rd_lenV rfl (hS.v 0 rfl) Tryz.underlying25) rfl ?_
    refine Wx.rd (v := .int .i64 ((l.length : Int) - 1)) (rd_sub rfl rfl (in_i64 (by omega) (by omega))) rfl ?_
    refine Wx.ex (rd_index 0 (hS.v 0 rfl) rfl rfl Tryz.underlying25 Tryz.sizeOf3 (by first | omega | (simp only [List.length_set, List.length_append, List.length_cons, List.length_nil, List.length_replicate]; omega)) (by first | omega | (simp only [List.length_set, List.length_append, List.length_cons, List.length_nil, List.length_replicate]; omega))) rfl (fun p_20 hp_21 => ?_)
    refine Wx.rd (v := .int .i64 (ix 0 l ((l.length : Int) - 1))) (rd_loadI hp_21 rfl Tryz.isAgg3 Tryz.sizeOf3) rfl ?_
    have bd_22 := bd_i64 hp_21.inK
    refine Wx.callV (v := .int .i64 (enmV vs ow (ix 0 l ((l.length : Int) - 1)))) (run_callF Tryz.call56 rfl) (fun w_23 hw_24 => (F56 ((hS.v 2 rfl).ext hw_24) ((hS.lend 3 rfl).ext hw_24) (in_i64 (by omega) (by omega)) p_dv)) rfl ?_
    refine Wx.rd (v := .int .i64 (enmV vs ow (ix 0 l ((l.length : Int) - 1)))) (rd_assign rfl) rfl ?_
    refine Wx.nilQ (fun w_25 hx_26 => ?_)
    have hS := hS.ext hx_26
    refine W.seq ?_
    refine W.reg ?_
    refine Wx.rd (v := lv) (rd_move rfl) rfl ?_
    refine Wx.rd (v := lv) (rd_move rfl) rfl ?_
    refine Wx.rd (v := .int .i64 (enmV vs ow (ix 0 l ((l.length : Int) - 1)))) (rd_move rfl) rfl ?_
    refine Wx.callF (run_callF Tryz.call58 rfl) (F58 (hS.v 0 rfl) (in_i64 (by omega) (by omega))) rfl ?_
    rintro r_27 w_28 hx_29 rfl
    have hS := hS.ext hx_29
    rw [show (idxP (fun y => decide (y = (enmV vs ow (ix 0 l ((l.length : Int) - 1))))) 0 l : Int) = idxP (eqI (enmV vs ow (ix 0 l (l.length - 1)))) 0 l from rfl]
    have ib_30 := idxP_bd (fun y => decide (y = (enmV vs ow (ix 0 l ((l.length : Int) - 1))))) l 0 (Int.le_refl 0)
    have hik := idx_lt p_k
    have hdl : ((l.drop (idxP (eqI (enmV vs ow (ix 0 l (l.length - 1)))) 0 l).toNat).length : Int) = l.length - idxP (eqI (enmV vs ow (ix 0 l (l.length - 1)))) 0 l := by rw [List.length_drop]; omega
    have hrn : (((rinV vs ow l)).length : Int) = (l.drop (idxP (eqI (enmV vs ow (ix 0 l (l.length - 1)))) 0 l).toNat).length := rfl
    refine Wx.ex (rd_sliceL (hS.v 0 rfl) Tryz.underlying25 Tryz.sizeOf3 rfl rfl (by omega) (by omega)) rfl (fun u_31 hu_32 => ?_)
    have ln_33 := hu_32.len63
    have hS := hS.add hu_32
    refine Wx.rd (v := u_31) (rd_assign rfl) rfl ?_
    refine Wx.nil ?_
    refine W.seq ?_
    refine W.reg ?_
    refine Wx.rd (v := .pointer (some ⟨g_1, 1, none⟩)) (rd_fieldAddr rfl foUc_91_1) rfl ?_
    refine Wx.rd (v := ov) (rd_loadX hS 2 rfl rfl rfl Tryz.isAgg25) rfl ?_
    refine Wx.rd (v := .int .i64 (ow.length : Int)) (rd_lenR hS 4 rfl rfl Tryz.underlying25) rfl ?_
    refine Wx.rd (v := .int .i64 0) (rd_move rfl) rfl ?_
    refine Wx.nil ?_
    refine W.block ?_
    refine W.loop [6, 7, 8, 36, 37, 38, 39, 40, 41, 42, 43, 44, 45, 46, 47, 48, 49, 50, 51, 52, 53, 54, 55, 56, 57, 58] (fun x : Int × (List Int) => match x with | (k, o2) => [(36, .int .i64 k)]) (fun (x : Int × (List Int)) w' => match x with | (k, o2) => St w0 O w' (Ob.v (tSl (tI .i64)) (l.drop (idxP (eqI (enmV vs ow (ix 0 l (l.length - 1)))) 0 l).toNat) u_31 :: Ob.v (tSl (tI .i64)) l lv :: .box g_1 91 [vv, ov] :: Ob.v (tSl (tSl (tI .i64))) vs vv :: .row (tI .i64) 3 ov o2 :: ob) ∧ 0 ≤ k ∧ k ≤ ow.length ∧ o2 = mpK (turM (rinV vs ow l)) ow k) (fun x : Int × (List Int) => match x with | (k, o2) => (ow.length - k).toNat) (0, ow) ⟨rfl, trivial⟩ ⟨hS, (by first | omega | simp), (by first | omega | simp), (rfl)⟩ ?_
    rintro ⟨k, o2⟩ u_36 w_35 ⟨hS, k0, k1, k2⟩
    refine W.seq ?_
    refine W.reg ?_
    refine Wx.rd (v := .bool (decide (k < (ow.length : Int)))) (rd_lss rfl rfl) rfl ?_
    refine Wx.nil ?_
    refine W.seq ?_
    refine W.condD rfl (fun c1 => ?_) (fun c1 => ?_)
    · -- yes
      have hkk : k < ow.length := by omega
      have hml := mp_len (turM (rinV vs ow l)) ow k
      have hma := mp_at (f := turM (rinV vs ow l)) k0 hkk
      rw [← k2] at hml hma
      refine W.skip ?_
      refine W.seq ?_
      refine W.block ?_
      refine W.seq ?_
      refine W.reg ?_
      refine Wx.rd (v := .int .i64 k) (rd_move rfl) rfl ?_
      refine Wx.indexR hS 4 rfl rfl rfl Tryz.underlying25 Tryz.sizeOf3 (by first | omega | (simp only [List.length_set, List.length_append, List.length_cons, List.length_nil, List.length_replicate]; omega)) (by first | omega | (simp only [List.length_set, List.length_append, List.length_cons, List.length_nil, List.length_replicate]; omega)) rfl (fun g_37 hg_38 => ?_)
      refine Wx.rd (v := .int .i64 (ix 0 o2 k)) (rd_loadRI' hS 4 rfl hg_38 rfl (by first | omega | (simp only [List.length_set, List.length_append, List.length_cons, List.length_nil, List.length_replicate]; omega)) (by first | omega | (simp only [List.length_set, List.length_append, List.length_cons, List.length_nil, List.length_replicate]; omega)) Tryz.isAgg3 Tryz.sizeOf3) rfl ?_
      have bd_39 := bd_i64 (hS.rowInK' 4 rfl (by first | omega | (simp only [List.length_set, List.length_append, List.length_cons, List.length_nil, List.length_replicate]; omega)) (by first | omega | (simp only [List.length_set, List.length_append, List.length_cons, List.length_nil, List.length_replicate]; omega)) : InK .i64 (ix 0 o2 k))
      refine Wx.rd (v := .int .i64 k) (rd_assign rfl) rfl ?_
      refine Wx.rd (v := .int .i64 (ix 0 o2 k)) (rd_assign rfl) rfl ?_
      refine Wx.nil ?_
      refine W.seq ?_
      refine W.reg ?_
      refine Wx.rd (v := u_31) (rd_move rfl) rfl ?_
      refine Wx.rd (v := .int .i64 (ix 0 o2 k)) (rd_move rfl) rfl ?_
      refine Wx.callF (run_callF Tryz.call58 rfl) (F58 (hS.v 0 rfl) (in_i64 (by omega) (by omega))) rfl ?_
      rintro r_40 w_41 hx_42 rfl
      have hS := hS.ext hx_42
      rw [show (idxP (fun y => decide (y = (ix 0 o2 k))) 0 (l.drop (idxP (eqI (enmV vs ow (ix 0 l (l.length - 1)))) 0 l).toNat) : Int) = idxP (eqI (ix 0 ow k)) 0 (rinV vs ow l) from (by rw [← hma]; rfl)]
      have ib_43 := idxP_bd (fun y => decide (y = (ix 0 o2 k))) (l.drop (idxP (eqI (enmV vs ow (ix 0 l (l.length - 1)))) 0 l).toNat) 0 (Int.le_refl 0)
      refine Wx.rd (v := .int .i64 (idxP (eqI (ix 0 ow k)) 0 (rinV vs ow l))) (rd_assign rfl) rfl ?_
      refine Wx.nil ?_
      refine W.seq ?_
      refine W.reg ?_
      refine Wx.rd (v := .int .i64 (idxP (eqI (ix 0 ow k)) 0 (rinV vs ow l))) (rd_move rfl) rfl ?_
      refine Wx.rd (v := .bool (decide (0 ≤ (idxP (eqI (ix 0 ow k)) 0 (rinV vs ow l))))) (rd_geq rfl rfl) rfl ?_
      refine Wx.nil ?_
      refine W.condD rfl (fun c2 => ?_) (fun c2 => ?_)
      · -- yes
        have hjl := idx_lt c2
        have hm0 := Int.emod_nonneg (idxP (eqI (ix 0 ow k)) 0 (rinV vs ow l) + 1) (show ((l.drop (idxP (eqI (enmV vs ow (ix 0 l (l.length - 1)))) 0 l).toNat).length : Int) ≠ 0 by omega)
        have hm1 := Int.emod_lt_of_pos (idxP (eqI (ix 0 ow k)) 0 (rinV vs ow l) + 1) (show 0 < ((l.drop (idxP (eqI (enmV vs ow (ix 0 l (l.length - 1)))) 0 l).toNat).length : Int) by omega)
        refine W.regT 12 mixedUc_ (by kernel_rfl) ?_
        refine Wx.rd (v := .pointer (some ⟨g_1, 1, none⟩)) (rd_fieldAddr rfl foUc_91_1) rfl ?_
        refine Wx.rd (v := ov) (rd_loadX hS 2 rfl rfl rfl Tryz.isAgg25) rfl ?_
        refine Wx.rd (v := .int .i64 k) (rd_move rfl) rfl ?_
        refine Wx.rd (v := u_31) (rd_move rfl) rfl ?_
        refine Wx.rd (v := .int .i64 (idxP (eqI (ix 0 ow k)) 0 (rinV vs ow l))) (rd_move rfl) rfl ?_
        refine Wx.rd (v := .int .i64 ((idxP (eqI (ix 0 ow k)) 0 (rinV vs ow l)) + 1)) (rd_add rfl rfl (in_i64 (by omega) (by omega))) rfl ?_
        refine Wx.rd (v := u_31) (rd_move rfl) rfl ?_
        refine Wx.rd (v := .int .i64 ((l.drop (idxP (eqI (enmV vs ow (ix 0 l (l.length - 1)))) 0 l).toNat).length : Int)) (rd_lenV rfl (hS.v 0 rfl) Tryz.underlying25) rfl ?_
        refine Wx.rd (v := .int .i64 (((idxP (eqI (ix 0 ow k)) 0 (rinV vs ow l)) + 1) % ((l.drop (idxP (eqI (enmV vs ow (ix 0 l (l.length - 1)))) 0 l).toNat).length : Int))) (rd_rem rfl rfl (by omega) (by omega)) rfl ?_
        refine Wx.ex (rd_index 0 (hS.v 0 rfl) rfl rfl Tryz.underlying25 Tryz.sizeOf3 (by first | omega | (simp only [List.length_set, List.length_append, List.length_cons, List.length_nil, List.length_replicate]; omega)) (by first | omega | (simp only [List.length_set, List.length_append, List.length_cons, List.length_nil, List.length_replicate]; omega))) rfl (fun p_44 hp_45 => ?_)
        refine Wx.rd (v := .int .i64 (ix 0 (l.drop (idxP (eqI (enmV vs ow (ix 0 l (l.length - 1)))) 0 l).toNat) (((idxP (eqI (ix 0 ow k)) 0 (rinV vs ow l)) + 1) % ((l.drop (idxP (eqI (enmV vs ow (ix 0 l (l.length - 1)))) 0 l).toNat).length : Int)))) (rd_loadI hp_45 rfl Tryz.isAgg3 Tryz.sizeOf3) rfl ?_
        have bd_46 := bd_i64 hp_45.inK
        refine Wx.indexR hS 4 rfl rfl rfl Tryz.underlying25 Tryz.sizeOf3 (by first | omega | (simp only [List.length_set, List.length_append, List.length_cons, List.length_nil, List.length_replicate]; omega)) (by first | omega | (simp only [List.length_set, List.length_append, List.length_cons, List.length_nil, List.length_replicate]; omega)) rfl (fun g_47 hg_48 => ?_)
        refine Wx.nilQ (fun w_49 hx_50 => ?_)
        have hS := hS.ext hx_50
        refine Wx.storeR (j := k.toNat) (z := ix 0 (l.drop (idxP (eqI (enmV vs ow (ix 0 l (l.length - 1)))) 0 l).toNat) (((idxP (eqI (ix 0 ow k)) 0 (rinV vs ow l)) + 1) % ((l.drop (idxP (eqI (enmV vs ow (ix 0 l (l.length - 1)))) 0 l).toNat).length : Int))) hS 4 rfl hg_48 rfl (by first | omega | (simp only [List.length_set, List.length_append, List.length_cons, List.length_nil, List.length_replicate]; omega)) rfl (V.mkInt (in_i64 (by omega) (by omega))) Tryz.sizeOf3 (fun w_51 hz_52 hS => ?_)
        refine Wx.nil ?_
        refine W.reg ?_
        refine Wx.rd (v := .int .i64 (k + 1)) (rd_add rfl rfl (in_i64 (by omega) (by omega))) rfl ?_
        refine Wx.rd (v := .int .i64 (k + 1)) (rd_move rfl) rfl ?_
        refine Wx.nil ?_
        refine ⟨(k + 1, List.set o2 k.toNat (ix 0 (l.drop (idxP (eqI (enmV vs ow (ix 0 l (l.length - 1)))) 0 l).toNat) (((idxP (eqI (ix 0 ow k)) 0 (rinV vs ow l)) + 1) % ((l.drop (idxP (eqI (enmV vs ow (ix 0 l (l.length - 1)))) 0 l).toNat).length : Int)))), (by show (ow.length - (k + 1)).toNat < (ow.length - k).toNat; omega), ?_, ?_, Out.look rfl Out.self⟩
        · exact ⟨hS, (by first | omega | assumption), (by first | omega | assumption), (by rw [k2, ← mp_set k0 hkk, turM, if_pos c2]; rfl)⟩
        · exact ⟨rfl, trivial⟩
      · -- no
        refine W.skip ?_
        refine W.reg ?_
        refine Wx.rd (v := .int .i64 (k + 1)) (rd_add rfl rfl (in_i64 (by omega) (by omega))) rfl ?_
        refine Wx.rd (v := .int .i64 (k + 1)) (rd_move rfl) rfl ?_
        refine Wx.nil ?_
        refine ⟨(k + 1, o2), (by show (ow.length - (k + 1)).toNat < (ow.length - k).toNat; omega), ?_, ?_, Out.look rfl Out.self⟩
        · exact ⟨hS, (by first | omega | assumption), (by first | omega | assumption), (by rw [k2]; exact mp_keep k0 hkk (by rw [turM, if_neg c2]))⟩
        · exact ⟨rfl, trivial⟩
    · -- no
      have hsay : o2 = (turV vs ow l) := by rw [k2, mp_end (by omega)]; rfl
      rw [hsay] at hS
      refine W.exit rfl ?_
      exact ⟨.tuple #[], ResIs.zero, rfl, (St.tl (St.tl (St.tl hS)))⟩
end Go.Proofs.YtdpdlplkngggoaaGreatDoor

namespace Go.Proofs.YtdpdlplkngggoaaGreatDoor
open Go.Wk Go.RowKit Go.Lib
set_option linter.unusedVariables false
set_option linter.unusedSimpArgs false
theorem foUd_91_1 : fldOff Tryz.prog 91 1 = some 1 := by kernel_rfl

set_option maxHeartbeats 2000000 in
theorem F33 {vv : Value} {vs : List (List Int)} {m : Int} {res : List Int} {O : List (Option Nat)} {w : World} (h_vv : V (tSl (tSl (tI .i64))) vs vv O w) (p_dv : DvOK vs m) (p_m : 1 ≤ m) (p_r : rgR vs m 50 0 (List.replicate m.toNat (-1)) = some res) (hO : ∀ b, some b ∈ O → b < w.heap.size) : Calls Tryz.prog 33 #[vv] w (Ret w (fun r w' => ∃ rv, r = .tuple #[rv, .int .i64 0] ∧ Fresh (tI .i64) 3 res rv w.heap.size w')) := by
  have hm6 := p_dv.m6
  have hrl : (List.replicate m.toNat (-1 : Int)).length = m.toNat := List.length_replicate
  have a_vv := h_vv
  have l_vv := h_vv.len63
  have hS := St.start w O hO
  refine enterR Tryz.func33 rfl Tryz.ntmps33 Tryz.results33 rfl ?_
  refine W.seq ?_
  refine W.reg ?_
  refine Wx.rd (v := (.slice none 0 0)) (rd_assign rfl) rfl ?_
  refine Wx.rd (v := .int .i64 0) (rd_assign rfl) rfl ?_
  refine Wx.nil ?_
  refine W.seq ?_
  refine W.seq ?_
  refine W.reg ?_
  refine Wx.rd (v := vv) (rd_move rfl) rfl ?_
  refine Wx.callF (run_callF Tryz.call42 rfl) (F42 (m := m) (hS.arg a_vv) p_dv) rfl ?_
  rintro r_1 w_2 hx_3 rfl
  have hS := hS.ext hx_3
  refine Wx.rd (v := .int .i64 0) (rd_assign rfl) rfl ?_
  refine Wx.nil ?_
  refine W.seq ?_
  refine W.reg ?_
  refine Wx.rd (v := .int .i64 0) (rd_move rfl) rfl ?_
  refine Wx.rd (v := .bool false) (Rd.to (v := .bool (decide ((0 : Int) ≠ 0))) (rd_neq rfl rfl) rfl) rfl ?_
  refine Wx.nil ?_
  refine W.condF rfl rfl ?_
  refine W.skip ?_
  refine W.seq ?_
  refine W.reg ?_
  refine Wx.rd (v := vv) (rd_move rfl) rfl ?_
  refine Wx.callF (run_callF Tryz.call43 rfl) (F43 (m := m) (hS.arg a_vv) p_dv p_m hS.fb_lt) rfl ?_
  rintro r_4 w_5 hx_6 ⟨v_7, rfl, hv_8⟩
  have hS := hS.pushFr hx_6 hv_8
  refine Wx.alloc (cs := [(.slice none 0 0), (.slice none 0 0)]) hS Tryz.zeroValue91 rfl rfl (fun g_10 w_11 hx_13 hb_12 hS => ?_)
  refine Wx.storeX (cs' := [vv, v_7]) (ds := [vv, v_7]) hS 0 rfl rfl rfl rfl Tryz.sizeOf91 (Nat.le_of_ble_eq_true rfl) (one_cons (V.oneC (hS.arg a_vv)) (one_cons (hS.rowOne 1 rfl) one_nil)) rfl (fun w_14 hz_15 hS => ?_)
  have hS := hS.add (hS.arg a_vv)
  refine Wx.nil ?_
  refine W.seq ?_
  refine W.seq ?_
  refine W.reg ?_
  refine Wx.rd (v := .pointer (some ⟨g_10, 1, none⟩)) (rd_fieldAddr rfl foUd_91_1) rfl ?_
  refine Wx.rd (v := v_7) (rd_loadX hS 1 rfl rfl rfl Tryz.isAgg25) rfl ?_
  refine Wx.rd (v := .int .i64 ((List.replicate m.toNat (-1)).length : Int)) (rd_lenR hS 2 rfl rfl Tryz.underlying25) rfl ?_
  refine Wx.rd (v := .int .i64 0) (rd_move rfl) rfl ?_
  refine Wx.nil ?_
  refine W.block ?_
  refine W.loop [6, 7, 18, 19, 20, 21, 22, 23, 24, 25, 26, 27, 28, 29, 30, 31, 32, 33, 34] (fun x : Int × Value × (List Int) × Nat => match x with | (q, ov, ow, n) => [(18, .int .i64 q)]) (fun (x : Int × Value × (List Int) × Nat) w' => match x with | (q, ov, ow, n) => St w O w' [Ob.v (tSl (tSl (tI .i64))) vs vv, .box g_10 91 [vv, ov], .row (tI .i64) 3 ov ow] ∧ 0 ≤ q ∧ q ≤ m ∧ rgR vs m n q ow = some res ∧ (ow.length : Int) = m) (fun x : Int × Value × (List Int) × Nat => match x with | (q, ov, ow, n) => (m - q).toNat) (0, v_7, List.replicate m.toNat (-1), 50) ⟨rfl, trivial⟩ ⟨hS, (by first | omega | simp), (by first | omega | simp), (p_r), (by omega)⟩ ?_
  rintro ⟨q, ov, ow, n⟩ u_17 w_16 ⟨hS, h0, h1, h2, h3⟩
  refine W.seq ?_
  refine W.reg ?_
  refine Wx.rd (v := .bool (decide (q < ((List.replicate m.toNat (-1)).length : Int)))) (rd_lss rfl rfl) rfl ?_
  refine Wx.nil ?_
  refine W.seq ?_
  refine W.condD rfl (fun c1 => ?_) (fun c1 => ?_)
  · -- yes
    have hdo : DvOK vs ow.length := by rw [h3]; exact p_dv
    have hxm : q < m := by omega
    refine W.skip ?_
    refine W.seq ?_
    refine W.block ?_
    refine W.seq ?_
    refine W.reg ?_
    refine Wx.rd (v := .int .i64 q) (rd_move rfl) rfl ?_
    refine Wx.rd (v := .int .i64 q) (rd_assign rfl) rfl ?_
    refine Wx.nil ?_
    refine W.seq ?_
    refine W.reg ?_
    refine Wx.rd (v := .agg #[vv, ov]) (rd_loadXs (ds := [vv, ov]) hS 1 rfl rfl rfl rfl Tryz.isAgg91 Tryz.sizeOf91) rfl ?_
    refine Wx.callF (run_callF Tryz.call44 rfl) (F44 (hS.v 0 rfl) (hS.lend 2 rfl) hdo) rfl ?_
    rintro r_18 w_19 hx_20 rfl
    have hS := hS.ext hx_20
    refine Wx.rd (v := .int .i64 (calV vs ow)) (rd_assign rfl) rfl ?_
    refine Wx.nil ?_
    refine W.seq ?_
    refine W.block ?_
    refine W.loop [7, 23, 24, 25, 26, 27, 28] (fun x : Int × Value × (List Int) × Nat => match x with | (c, ov2, ow2, n2) => [(7, .int .i64 c)]) (fun (x : Int × Value × (List Int) × Nat) w' => match x with | (c, ov2, ow2, n2) => St w O w' [Ob.v (tSl (tSl (tI .i64))) vs vv, .box g_10 91 [vv, ov2], .row (tI .i64) 3 ov2 ow2] ∧ rgR vs m n2 q ow2 = some res ∧ c = calV vs ow2 ∧ (ow2.length : Int) = m) (fun x : Int × Value × (List Int) × Nat => match x with | (c, ov2, ow2, n2) => n2) (calV vs ow, ov, ow, n) ⟨rfl, trivial⟩ ⟨hS, (h2), (rfl), (h3)⟩ ?_
    rintro ⟨c, ov2, ow2, n2⟩ u_22 w_21 ⟨hS, g2, g3, g4⟩
    have hdo2 : DvOK vs ow2.length := by rw [g4]; exact p_dv
    refine W.seq ?_
    refine W.seq ?_
    refine W.reg ?_
    refine Wx.rd (v := .int .i64 c) (rd_move rfl) rfl ?_
    refine Wx.rd (v := .bool (decide (c = (-1)))) (rd_eql rfl rfl) rfl ?_
    refine Wx.nil ?_
    refine W.condD rfl (fun c2 => ?_) (fun c2 => ?_)
    · -- yes
      obtain ⟨lw, hw1, hw2, hw3, hw4⟩ := rg_turn g2 hxm (by rw [← g3]; exact c2)
      refine W.skip ?_
      refine W.block ?_
      refine W.seq ?_
      refine W.reg ?_
      refine Wx.rd (v := .agg #[vv, ov2]) (rd_loadXs (ds := [vv, ov2]) hS 1 rfl rfl rfl rfl Tryz.isAgg91 Tryz.sizeOf91) rfl ?_
      have hS := hS.front 1 rfl
      have hS := hS.front 2 rfl
      have hS := hS.front 2 rfl
      have hS : St _ _ w_21 [Ob.v (tSl (tSl (tI .i64))) vs vv, .row (tI .i64) 3 ov2 ow2, .box g_10 91 [vv, ov2]] := hS
      refine Wx.callB (run_callF Tryz.call45 rfl) (F45 (ob := [.box g_10 91 [vv, ov2]]) hdo2 hw1 hw2 hS) rfl ?_
      rintro r_23 w_24 ⟨rfl, hS⟩
      have hS : St _ _ w_24 [Ob.v (tSl (tSl (tI .i64))) vs vv, .row (tI .i64) 3 ov2 (turV vs ow2 lw), .box g_10 91 [vv, ov2]] := hS
      have hS := hS.front 1 rfl
      have hS := hS.front 2 rfl
      have hS := hS.front 2 rfl
      have hS : St _ _ w_24 [Ob.v (tSl (tSl (tI .i64))) vs vv, .box g_10 91 [vv, ov2], .row (tI .i64) 3 ov2 (turV vs ow2 lw)] := hS
      refine Wx.nil ?_
      refine W.reg ?_
      refine Wx.rd (v := .agg #[vv, ov2]) (rd_loadXs (ds := [vv, ov2]) hS 1 rfl rfl rfl rfl Tryz.isAgg91 Tryz.sizeOf91) rfl ?_
      refine Wx.callF (run_callF Tryz.call44 rfl) (F44 (hS.v 0 rfl) (hS.lend 2 rfl) (by rw [tur_len]; exact hdo2)) rfl ?_
      rintro r_25 w_26 hx_27 rfl
      have hS := hS.ext hx_27
      refine Wx.rd (v := .int .i64 (calV vs (turV vs ow2 lw))) (rd_assign rfl) rfl ?_
      refine Wx.nil ?_
      refine ⟨(calV vs (turV vs ow2 lw), ov2, turV vs ow2 lw, n2 - 1), (by show n2 - 1 < n2; omega), ?_, ?_, Out.look rfl Out.self⟩
      · exact ⟨hS, (hw3), (rfl), (by rw [tur_len]; exact g4)⟩
      · exact ⟨rfl, trivial⟩
    · -- no
      have hpt := rg_put g2 hxm (by rw [← g3]; exact c2)
      rw [← g3] at hpt
      have hcb := cal_bd (ow := ow2) p_dv
      refine W.exit rfl ?_
      refine W.reg ?_
      refine Wx.rd (v := .pointer (some ⟨g_10, 1, none⟩)) (rd_fieldAddr rfl foUd_91_1) rfl ?_
      refine Wx.rd (v := ov2) (rd_loadX hS 1 rfl rfl rfl Tryz.isAgg25) rfl ?_
      refine Wx.rd (v := .int .i64 q) (rd_move rfl) rfl ?_
      refine Wx.rd (v := .int .i64 c) (rd_move rfl) rfl ?_
      refine Wx.indexR hS 2 rfl rfl rfl Tryz.underlying25 Tryz.sizeOf3 (by first | omega | (simp only [List.length_set, List.length_append, List.length_cons, List.length_nil, List.length_replicate]; omega)) (by first | omega | (simp only [List.length_set, List.length_append, List.length_cons, List.length_nil, List.length_replicate]; omega)) rfl (fun g_28 hg_29 => ?_)
      refine Wx.storeR (j := q.toNat) (z := c) hS 2 rfl hg_29 rfl (by first | omega | (simp only [List.length_set, List.length_append, List.length_cons, List.length_nil, List.length_replicate]; omega)) rfl (V.mkInt (in_i64 (by omega) (by omega))) Tryz.sizeOf3 (fun w_30 hz_31 hS => ?_)
      refine Wx.nil ?_
      refine W.reg ?_
      refine Wx.rd (v := .int .i64 (q + 1)) (rd_add rfl rfl (in_i64 (by omega) (by omega))) rfl ?_
      refine Wx.rd (v := .int .i64 (q + 1)) (rd_move rfl) rfl ?_
      refine Wx.nil ?_
      refine ⟨(q + 1, ov2, List.set ow2 q.toNat c, n2 - 1), (by show (m - (q + 1)).toNat < (m - q).toNat; omega), ?_, ?_, Out.look rfl (Out.hav rfl (Out.look rfl Out.self))⟩
      · exact ⟨hS, (by first | omega | assumption), (by first | omega | assumption), (hpt.1), (by rw [List.length_set]; exact g4)⟩
      · exact ⟨rfl, trivial⟩
  · -- no
    refine W.exit rfl ?_
    refine W.seq ?_
    refine W.reg ?_
    refine Wx.rd (v := .pointer (some ⟨g_10, 1, none⟩)) (rd_fieldAddr rfl foUd_91_1) rfl ?_
    refine Wx.rd (v := ov) (rd_loadX hS 1 rfl rfl rfl Tryz.isAgg25) rfl ?_
    refine Wx.rd (v := ov) (rd_assign rfl) rfl ?_
    refine Wx.rd (v := .int .i64 0) (rd_assign rfl) rfl ?_
    refine Wx.nil ?_
    have e0_0 : res = ow := by exact (rg_end h2 (by omega)).symm
    exact W.ret ⟨.tuple #[ov, .int .i64 0], ResIs.two, hS.bel, ⟨ov, rfl, (by rw [e0_0]; exact (hS.fr 2 rfl flat_int))⟩⟩
end Go.Proofs.YtdpdlplkngggoaaGreatDoor
