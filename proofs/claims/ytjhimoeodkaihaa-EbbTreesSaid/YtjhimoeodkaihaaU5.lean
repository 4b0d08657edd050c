/-
  WHAT IS PROVED HERE, TEXT BY TEXT (several texts of one prover, joined to one file; the conditions stand in each statement):
  * WHAT IS PROVED HERE: what functions of layer 1 hand back, each out of its own code; the conditions stand in each statement.
  * WHAT IS PROVED HERE: what functions of layer 1 hand back, each out of its own code; the conditions stand in each statement.
  * WHAT IS PROVED HERE: what functions of layer 1 hand back, each out of its own code; the conditions stand in each statement.
  * WHAT IS PROVED HERE: what functions of layer 1 hand back, each out of its own code; the conditions stand in each statement.
  * WHAT IS PROVED HERE: an argument that reads as data is, in the world at the start, a value that stands for a plain list, number, or pair (V of Wk2). Conditions: the types' closed facts, as hypotheses.
  * WHAT IS PROVED HERE: the given statement of EbbTrees: for every input it returns true, and each argument reads as it did. Conditions: none.
-/
import Derived.Test.YtjhimoeodkaihaaProg
import Derived.Test.YtjhimoeodkaihaaU2
import Derived.Test.YtjhimoeodkaihaaU4
import Derived.Test.YtjhimoeodkaihaaU1
import Derived.Deep.Slices
import Derived.Deep.Strs
import Derived.Lib.SmallJoins
import Derived.OpenShut
import Derived.Carry
import Derived.ProofKit
import Derived.Test.YtjhimoeodkaihaaRows
import Derived.WalkKit

set_option linter.unusedVariables false
set_option linter.unusedSimpArgs false

namespace Go.Proofs.Ytjhimoeodkaihaa
open Go.Wk Go.RowKit Go.Lib
set_option linter.unusedVariables false
set_option linter.unusedSimpArgs false
theorem foKi_27_2 : fldOff Try.prog 27 2 = some 2 := by kernel_rfl
theorem elKi_22 : ElemI Try.prog 22 3 (.int .i64 0) 1 8 := ElemI.of Try.underlying22 (by kernel_rfl) (by first | rfl | kernel_rfl) (by decide)
theorem mixedKi_ : Try.prog.follows .mixedOrders = true := by kernel_rfl
theorem elKi_52 : ElemI Try.prog 52 74 (.agg #[.int .i64 0, .int .i64 0]) 2 16 := ElemI.of Try.underlying52 (by kernel_rfl) (by first | rfl | kernel_rfl) (by decide)

theorem F79 {R : Int} {C : Int} {hv : Value} {H : List Int} {Fr_hv : List (Option Nat)} {x : Int} {w : World} (i_R : InK .i64 R) (i_C : InK .i64 C) (h_hv : V (tSl (tI .i64)) H hv Fr_hv w) (i_x : InK .i64 x) (p_x : 0 ≤ x ∧ x ≤ (H.length : Int)) : Calls Try.prog 79 #[.agg #[.int .i64 R, .int .i64 C, hv], .int .i64 x] w (Ret w (fun r _ => r = .int .i64 (highV H x))) := by
  have b_x := bd_i64 i_x
  have b_C := bd_i64 i_C
  have b_R := bd_i64 i_R
  have a_hv := h_hv.any
  have l_hv := h_hv.len63
  have hS := St.start0 w
  refine enterR Try.func79 rfl Try.ntmps79 Try.results79 rfl ?_
  refine W.seq ?_
  refine W.reg ?_
  refine Wx.box (cs := [.int .i64 R, .int .i64 C, hv]) hS rfl rfl rfl (fun g_1 w_2 hx_4 hb_3 hS => ?_)
  refine Wx.rd (v := .int .i64 0) (rd_assign rfl) rfl ?_
  refine Wx.nil ?_
  refine W.seq ?_
  refine W.seq ?_
  refine W.reg ?_
  refine Wx.rd (v := .int .i64 x) (rd_move rfl) rfl ?_
  refine Wx.rd (v := .pointer (some ⟨g_1, 2, none⟩)) (rd_fieldAddr rfl foKi_27_2) rfl ?_
  refine Wx.rd (v := hv) (rd_loadX hS 0 rfl rfl rfl Try.isAgg22) rfl ?_
  refine Wx.rd (v := .int .i64 (H.length : Int)) (rd_lenV rfl (hS.arg a_hv) Try.underlying22) rfl ?_
  refine Wx.rd (v := .bool (decide (x = (H.length : Int)))) (rd_eql rfl rfl) rfl ?_
  refine Wx.nil ?_
  refine W.condD rfl (fun c0 => ?_) (fun c0 => ?_)
  · -- yes
    refine W.seq ?_
    refine W.reg ?_
    refine Wx.rd (v := .int .i64 0) (rd_assign rfl) rfl ?_
    refine Wx.nil ?_
    have e0_0 : (highV H x) = (0 : Int) := by rw [highV, if_pos c0]
    exact W.ret ⟨.int .i64 0, ResIs.one, hS.bel, (by rw [e0_0])⟩
  · -- no
    refine W.skip ?_
    refine W.seq ?_
    refine W.reg ?_
    refine Wx.rd (v := .pointer (some ⟨g_1, 2, none⟩)) (rd_fieldAddr rfl foKi_27_2) rfl ?_
    refine Wx.rd (v := hv) (rd_loadX hS 0 rfl rfl rfl Try.isAgg22) rfl ?_
    refine Wx.rd (v := .int .i64 x) (rd_move rfl) rfl ?_
    refine Wx.ex (rd_index 0 (hS.arg a_hv) rfl rfl Try.underlying22 Try.sizeOf3 (by first | omega | (simp only [List.length_set, List.length_append, List.length_cons, List.length_nil, List.length_replicate]; omega)) (by first | omega | (simp only [List.length_set, List.length_append, List.length_cons, List.length_nil, List.length_replicate]; omega))) rfl (fun p_5 hp_6 => ?_)
    refine Wx.rd (v := .int .i64 (ix 0 H x)) (rd_loadI hp_6 rfl Try.isAgg3 Try.sizeOf3) rfl ?_
    have bd_7 := bd_i64 hp_6.inK
    refine Wx.rd (v := .int .i64 (ix 0 H x)) (rd_assign rfl) rfl ?_
    refine Wx.nil ?_
    have e1_0 : (highV H x) = (ix 0 H x : Int) := by rw [highV, if_neg c0]
    exact W.ret ⟨.int .i64 (ix 0 H x), ResIs.one, hS.bel, (by rw [e1_0])⟩

theorem F80 {R : Int} {C : Int} {hv : Value} {H : List Int} {Fr_hv : List (Option Nat)} {a : Int} {b : Int} {w : World} (i_R : InK .i64 R) (i_C : InK .i64 C) (h_hv : V (tSl (tI .i64)) H hv Fr_hv w) (i_a : InK .i64 a) (i_b : InK .i64 b) (p_ok : SOK R C H) (p_a : 0 ≤ a ∧ a ≤ (H.length : Int)) (p_b : 0 ≤ b ∧ b ≤ (H.length : Int)) : Calls Try.prog 80 #[.agg #[.int .i64 R, .int .i64 C, hv], .int .i64 a, .int .i64 b] w (Ret w (fun r _ => r = .bool (nearB C H.length a b))) := by
  have b_b := bd_i64 i_b
  have b_a := bd_i64 i_a
  have b_C := bd_i64 i_C
  have b_R := bd_i64 i_R
  obtain ⟨⟨r1, r2⟩, ⟨c1_, c2_⟩, hRC, ⟨n1, n36⟩, hCn, hok⟩ := id p_ok
  have a_hv := h_hv.any
  have l_hv := h_hv.len63
  have hS := St.start0 w
  refine enterR Try.func80 rfl Try.ntmps80 Try.results80 rfl ?_
  refine W.seq ?_
  refine W.reg ?_
  refine Wx.box (cs := [.int .i64 R, .int .i64 C, hv]) hS rfl rfl rfl (fun g_1 w_2 hx_4 hb_3 hS => ?_)
  refine Wx.rd (v := .bool false) (rd_assign rfl) rfl ?_
  refine Wx.nil ?_
  refine W.seq ?_
  refine W.reg ?_
  refine Wx.rd (v := .pointer (some ⟨g_1, 2, none⟩)) (rd_fieldAddr rfl foKi_27_2) rfl ?_
  refine Wx.rd (v := hv) (rd_loadX hS 0 rfl rfl rfl Try.isAgg22) rfl ?_
  refine Wx.rd (v := .int .i64 (H.length : Int)) (rd_lenV rfl (hS.arg a_hv) Try.underlying22) rfl ?_
  refine Wx.rd (v := .int .i64 (H.length : Int)) (rd_assign rfl) rfl ?_
  refine Wx.nil ?_
  refine W.seq ?_
  refine W.seq ?_
  refine W.reg ?_
  refine Wx.rd (v := .int .i64 a) (rd_move rfl) rfl ?_
  refine Wx.rd (v := .int .i64 (H.length : Int)) (rd_move rfl) rfl ?_
  refine Wx.rd (v := .bool (decide (a = (H.length : Int)))) (rd_eql rfl rfl) rfl ?_
  refine Wx.rd (v := .bool (decide (a = (H.length : Int)))) (rd_move rfl) rfl ?_
  refine Wx.cut (X := Unit) 4 [15, 16, 17, 18] (fun _ => [(18, .bool (decide (a = (H.length : Int)) || decide (b = (H.length : Int))))]) (fun _ w' => St w [] w' [.box g_1 27 [.int .i64 R, .int .i64 C, hv]]) ?_ ?_
  · rcases Bool.eq_false_or_eq_true (decide (a = (H.length : Int))) with g_5 | g_5
    · -- True
      have gp_6 := of_decide_eq_true g_5
      refine Wx.gnoB rfl rfl (congrArg Value.bool g_5) rfl rfl ?_
      refine Wx.gnoB rfl rfl (congrArg Value.bool g_5) rfl rfl ?_
      refine Wx.gnoB rfl rfl (congrArg Value.bool g_5) rfl rfl ?_
      refine Wx.rd (v := .bool true) (rd_pickT (congrArg Value.bool g_5) rfl) rfl ?_
      refine Wx.nil ⟨(), hS, ⟨?_, trivial⟩, Out.look rfl Out.refl⟩
      show Value.bool true = Value.bool (decide (a = (H.length : Int)) || decide (b = (H.length : Int)))
      first | rw [g_5, Bool.true_or] | (rw [g_5]; rfl)
    · -- False
      have gp_7 := of_decide_eq_false g_5
      refine Wx.gyes rfl rfl (congrArg Value.bool g_5) ?_
      refine Wx.rd (v := .int .i64 b) (rd_move rfl) rfl ?_
      refine Wx.gyes rfl rfl (congrArg Value.bool g_5) ?_
      refine Wx.rd (v := .int .i64 (H.length : Int)) (rd_move rfl) rfl ?_
      refine Wx.gyes rfl rfl (congrArg Value.bool g_5) ?_
      refine Wx.rd (v := .bool (decide (b = (H.length : Int)))) (rd_eql rfl rfl) rfl ?_
      refine Wx.rd (v := .bool (decide (b = (H.length : Int)))) (rd_pickF (congrArg Value.bool g_5) rfl) rfl ?_
      refine Wx.nil ⟨(), hS, ⟨?_, trivial⟩, Out.look rfl Out.refl⟩
      show Value.bool (decide (b = (H.length : Int))) = Value.bool (decide (a = (H.length : Int)) || decide (b = (H.length : Int)))
      first | rw [g_5, Bool.false_or] | (rw [g_5]; rfl)
  rintro ⟨⟩ u_9 w_8 hS
  refine Wx.nil ?_
  refine W.cond rfl (fun c0 => ?_) (fun c0 => ?_)
  · -- yes
    try simp only [Bool.and_eq_true, Bool.or_eq_true, Bool.not_eq_true', Bool.and_eq_false_iff, Bool.or_eq_false_iff, Bool.not_eq_false', decide_eq_true_eq, decide_eq_false_iff_not, not_or, Bool.false_eq_true, Bool.true_eq_false, false_or, or_false, not_false_eq_true] at c0
    refine W.seq ?_
    refine W.reg ?_
    refine Wx.rd (v := .int .i64 a) (rd_move rfl) rfl ?_
    refine Wx.rd (v := .int .i64 b) (rd_move rfl) rfl ?_
    refine Wx.rd (v := .bool (decide (a ≠ b))) (rd_neq rfl rfl) rfl ?_
    refine Wx.rd (v := .bool (decide (a ≠ b))) (rd_move rfl) rfl ?_
    refine Wx.cut (X := Unit) 6 [23, 24, 25, 26, 27, 28] (fun _ => [(28, .bool (decide (a ≠ b) && decide ((min a b) / C = R - 1)))]) (fun _ w' => St w [] w' [.box g_1 27 [.int .i64 R, .int .i64 C, hv]]) ?_ ?_
    · rcases Bool.eq_false_or_eq_true (decide (a ≠ b)) with g_10 | g_10
      · -- True
        have gp_11 := of_decide_eq_true g_10
        refine Wx.gyes rfl rfl (congrArg Value.bool g_10) ?_
        refine Wx.rd (v := .agg #[.int .i64 R, .int .i64 C, hv]) (rd_loadXs (ds := [.int .i64 R, .int .i64 C, hv]) hS 0 rfl rfl rfl rfl Try.isAgg27 Try.sizeOf27) rfl ?_
        refine Wx.gyes rfl rfl (congrArg Value.bool g_10) ?_
        refine Wx.rd (v := .int .i64 a) (rd_move rfl) rfl ?_
        refine Wx.gyes rfl rfl (congrArg Value.bool g_10) ?_
        refine Wx.rd (v := .int .i64 b) (rd_move rfl) rfl ?_
        refine Wx.gyes rfl rfl (congrArg Value.bool g_10) ?_
        refine Wx.rd (v := .int .i64 (min a b)) (rd_min rfl rfl) rfl ?_
        refine Wx.gyes rfl rfl (congrArg Value.bool g_10) ?_
        refine Wx.callF (run_callF Try.call77 rfl) (F77 i_R i_C (hS.arg a_hv) (in_i64 (by omega) (by omega)) (by omega) (by omega) (by omega)) rfl ?_
        rintro r_12 w_13 hx_14 rfl
        have hS := hS.ext hx_14
        refine Wx.rd (v := .bool (decide ((min a b) / C = R - 1))) (rd_pickT (congrArg Value.bool g_10) rfl) rfl ?_
        refine Wx.nil ⟨(), hS, ⟨?_, trivial⟩, Out.look rfl Out.refl⟩
        show Value.bool (decide ((min a b) / C = R - 1)) = Value.bool (decide (a ≠ b) && decide ((min a b) / C = R - 1))
        first | rw [g_10, Bool.true_and] | (rw [g_10]; rfl)
      · -- False
        have gp_15 := of_decide_eq_false g_10
        refine Wx.gnoB rfl rfl (congrArg Value.bool g_10) rfl rfl ?_
        refine Wx.gnoB rfl rfl (congrArg Value.bool g_10) rfl rfl ?_
        refine Wx.gnoB rfl rfl (congrArg Value.bool g_10) rfl rfl ?_
        refine Wx.gnoB rfl rfl (congrArg Value.bool g_10) rfl rfl ?_
        refine Wx.gnoB rfl rfl (congrArg Value.bool g_10) rfl rfl ?_
        refine Wx.rd (v := .bool false) (rd_pickF (congrArg Value.bool g_10) rfl) rfl ?_
        refine Wx.nil ⟨(), hS, ⟨?_, trivial⟩, Out.look rfl Out.refl⟩
        show Value.bool false = Value.bool (decide (a ≠ b) && decide ((min a b) / C = R - 1))
        first | rw [g_10, Bool.false_and] | (rw [g_10]; rfl)
    rintro ⟨⟩ u_17 w_16 hS
    refine Wx.rd (v := .bool (decide (a ≠ b) && decide ((min a b) / C = R - 1))) (rd_assign rfl) rfl ?_
    refine Wx.nil ?_
    have e0_0 : (nearB C H.length a b) = (decide (a ≠ b) && decide ((min a b) / C = R - 1)) := by rw [nearB, if_pos c0]; by_cases e : a = b; (rw [decide_eq_false (not_not_intro e)]; rfl); rw [p_ok.last (show 0 ≤ min a b by omega) (by omega)]; rfl
    exact W.ret ⟨.bool (decide (a ≠ b) && decide ((min a b) / C = R - 1)), ResIs.one, hS.bel, (by rw [e0_0])⟩
  · -- no
    try simp only [Bool.and_eq_true, Bool.or_eq_true, Bool.not_eq_true', Bool.and_eq_false_iff, Bool.or_eq_false_iff, Bool.not_eq_false', decide_eq_true_eq, decide_eq_false_iff_not, not_or, Bool.false_eq_true, Bool.true_eq_false, false_or, or_false, not_false_eq_true] at c0
    refine W.skip ?_
    refine W.seq ?_
    refine W.reg ?_
    refine Wx.rd (v := .agg #[.int .i64 R, .int .i64 C, hv]) (rd_loadXs (ds := [.int .i64 R, .int .i64 C, hv]) hS 0 rfl rfl rfl rfl Try.isAgg27 Try.sizeOf27) rfl ?_
    refine Wx.rd (v := .int .i64 a) (rd_move rfl) rfl ?_
    refine Wx.rd (v := .int .i64 b) (rd_move rfl) rfl ?_
    refine Wx.callF (run_callF Try.call67 rfl) (F67 i_R i_C (hS.arg a_hv) i_a i_b (by omega) (by omega) (by omega)) rfl ?_
    rintro r_18 w_19 hx_20 rfl
    have hS := hS.ext hx_20
    refine Wx.rd (v := .bool (adjB C a b)) (rd_assign rfl) rfl ?_
    refine Wx.nil ?_
    have e1_0 : (nearB C H.length a b) = (adjB C a b) := by rw [nearB, if_neg (by omega)]
    exact W.ret ⟨.bool (adjB C a b), ResIs.one, hS.bel, (by rw [e1_0])⟩

set_option maxHeartbeats 4000000 in
theorem F38 {R : Int} {C : Int} {hv : Value} {H : List Int} {a : Int} {b : Int} {O : List (Option Nat)} {w : World} (i_R : InK .i64 R) (i_C : InK .i64 C) (h_hv : V (tSl (tI .i64)) H hv O w) (i_a : InK .i64 a) (i_b : InK .i64 b) (hO : ∀ b, some b ∈ O → b < w.heap.size) : Calls Try.prog 38 #[.agg #[.int .i64 R, .int .i64 C, hv], .int .i64 a, .int .i64 b] w (Ret w (fun r _ => r = .tuple #[.int .i64 (betwE R C H a b), .int .i64 (betwX R C H a b)])) := by
  have b_b := bd_i64 i_b
  have b_a := bd_i64 i_a
  have b_C := bd_i64 i_C
  have b_R := bd_i64 i_R
  have a_hv := h_hv
  have l_hv := h_hv.len63
  have hS := St.start w O hO
  refine enterR Try.func38 rfl Try.ntmps38 Try.results38 rfl ?_
  refine W.seq ?_
  refine W.reg ?_
  refine Wx.box (cs := [.int .i64 R, .int .i64 C, hv]) hS rfl rfl rfl (fun g_1 w_2 hx_4 hb_3 hS => ?_)
  refine Wx.rd (v := .int .i64 0) (rd_assign rfl) rfl ?_
  refine Wx.rd (v := .int .i64 0) (rd_assign rfl) rfl ?_
  refine Wx.nil ?_
  refine W.seq ?_
  refine W.reg ?_
  refine Wx.rd (v := .agg #[.int .i64 R, .int .i64 C, hv]) (rd_loadXs (ds := [.int .i64 R, .int .i64 C, hv]) hS 0 rfl rfl rfl rfl Try.isAgg27 Try.sizeOf27) rfl ?_
  refine Wx.callF (run_callF Try.call23 rfl) (F23 i_R i_C (hS.arg a_hv)) rfl ?_
  rintro r_5 w_6 hx_7 rfl
  have hS := hS.ext hx_7
  refine Wx.rd (v := .int .i64 (checkS R C H)) (rd_assign rfl) rfl ?_
  refine Wx.nil ?_
  refine W.seq ?_
  refine W.reg ?_
  refine Wx.rd (v := .pointer (some ⟨g_1, 2, none⟩)) (rd_fieldAddr rfl foKi_27_2) rfl ?_
  refine Wx.rd (v := hv) (rd_loadX hS 0 rfl rfl rfl Try.isAgg22) rfl ?_
  refine Wx.rd (v := .int .i64 (H.length : Int)) (rd_lenV rfl (hS.arg a_hv) Try.underlying22) rfl ?_
  refine Wx.rd (v := .int .i64 (H.length : Int)) (rd_assign rfl) rfl ?_
  refine Wx.nil ?_
  refine W.seq ?_
  refine W.seq ?_
  refine W.reg ?_
  refine Wx.rd (v := .int .i64 (checkS R C H)) (rd_move rfl) rfl ?_
  refine Wx.rd (v := .bool (decide ((checkS R C H) = 0))) (rd_eql rfl rfl) rfl ?_
  refine Wx.rd (v := .bool (decide ((checkS R C H) = 0))) (rd_move rfl) rfl ?_
  refine Wx.cut (X := Unit) 11 [22, 23, 24, 25, 26, 27, 28, 29, 30, 31, 32] (fun _ => [(32, .bool (decide ((checkS R C H) = 0) && (!(decide (0 ≤ a) && decide (a ≤ (H.length : Int))) || !(decide (0 ≤ b) && decide (b ≤ (H.length : Int))))))]) (fun _ w' => St w O w' [.box g_1 27 [.int .i64 R, .int .i64 C, hv]]) ?_ ?_
  · rcases Bool.eq_false_or_eq_true (decide ((checkS R C H) = 0)) with g_8 | g_8
    · -- True
      have gp_9 := of_decide_eq_true g_8
      refine Wx.gyes rfl rfl (congrArg Value.bool g_8) ?_
      refine Wx.rd (v := .int .i64 a) (rd_move rfl) rfl ?_
      refine Wx.gyes rfl rfl (congrArg Value.bool g_8) ?_
      refine Wx.rd (v := .int .i64 (H.length : Int)) (rd_move rfl) rfl ?_
      refine Wx.gyes rfl rfl (congrArg Value.bool g_8) ?_
      refine Wx.callF (run_callF Try.call63 rfl) (F63 i_a (in_i64 (by omega) (by omega)) (in_i64 (by omega) (by omega))) rfl ?_
      rintro r_10 w_11 hx_12 rfl
      have hS := hS.ext hx_12
      refine Wx.gyes rfl rfl (congrArg Value.bool g_8) ?_
      refine Wx.rd (v := .bool (!(decide (0 ≤ a) && decide (a ≤ (H.length : Int))))) (rd_not rfl) rfl ?_
      refine Wx.gyes rfl rfl (congrArg Value.bool g_8) ?_
      refine Wx.rd (v := .bool (!(decide (0 ≤ a) && decide (a ≤ (H.length : Int))))) (rd_move rfl) rfl ?_
      refine Wx.cut (X := Unit) 5 [27, 28, 29, 30, 31] (fun _ => [(31, .bool (!(decide (0 ≤ a) && decide (a ≤ (H.length : Int))) || !(decide (0 ≤ b) && decide (b ≤ (H.length : Int)))))]) (fun _ w' => St w O w' [.box g_1 27 [.int .i64 R, .int .i64 C, hv]]) ?_ ?_
      · rcases Bool.eq_false_or_eq_true (!(decide (0 ≤ a) && decide (a ≤ (H.length : Int)))) with g_13 | g_13
        · -- True
          have gp_14 := g_13
          try simp only [Bool.and_eq_true, Bool.or_eq_true, Bool.not_eq_true', Bool.and_eq_false_iff, Bool.or_eq_false_iff, Bool.not_eq_false', decide_eq_true_eq, decide_eq_false_iff_not, not_or, Bool.false_eq_true, Bool.true_eq_false, false_or, or_false, not_false_eq_true] at gp_14
          refine Wx.gnoB rfl rfl (congrArg Value.bool g_13) rfl rfl ?_
          refine Wx.gnoB rfl rfl (congrArg Value.bool g_13) rfl rfl ?_
          refine Wx.gnoB rfl rfl (congrArg Value.bool g_13) rfl rfl ?_
          refine Wx.gnoB rfl rfl (congrArg Value.bool g_13) rfl rfl ?_
          refine Wx.gyes rfl rfl (congrArg Value.bool g_8) ?_
          refine Wx.rd (v := .bool true) (rd_pickT (congrArg Value.bool g_13) rfl) rfl ?_
          refine Wx.nil ⟨(), hS, ⟨?_, trivial⟩, Out.look rfl Out.refl⟩
          show Value.bool true = Value.bool (!(decide (0 ≤ a) && decide (a ≤ (H.length : Int))) || !(decide (0 ≤ b) && decide (b ≤ (H.length : Int))))
          first | rw [g_13, Bool.true_or] | (rw [g_13]; rfl)
        · -- False
          have gp_15 := g_13
          try simp only [Bool.and_eq_true, Bool.or_eq_true, Bool.not_eq_true', Bool.and_eq_false_iff, Bool.or_eq_false_iff, Bool.not_eq_false', decide_eq_true_eq, decide_eq_false_iff_not, not_or, Bool.false_eq_true, Bool.true_eq_false, false_or, or_false, not_false_eq_true] at gp_15
          refine Wx.gyes rfl rfl (congrArg Value.bool g_13) ?_
          refine Wx.rd (v := .int .i64 b) (rd_move rfl) rfl ?_
          refine Wx.gyes rfl rfl (congrArg Value.bool g_13) ?_
          refine Wx.rd (v := .int .i64 (H.length : Int)) (rd_move rfl) rfl ?_
          refine Wx.gyes rfl rfl (congrArg Value.bool g_13) ?_
          refine Wx.callF (run_callF Try.call63 rfl) (F63 i_b (in_i64 (by omega) (by omega)) (in_i64 (by omega) (by omega))) rfl ?_
          rintro r_16 w_17 hx_18 rfl
          have hS := hS.ext hx_18
          refine Wx.gyes rfl rfl (congrArg Value.bool g_13) ?_
          refine Wx.rd (v := .bool (!(decide (0 ≤ b) && decide (b ≤ (H.length : Int))))) (rd_not rfl) rfl ?_
          refine Wx.gyes rfl rfl (congrArg Value.bool g_8) ?_
          refine Wx.rd (v := .bool (!(decide (0 ≤ b) && decide (b ≤ (H.length : Int))))) (rd_pickF (congrArg Value.bool g_13) rfl) rfl ?_
          refine Wx.nil ⟨(), hS, ⟨?_, trivial⟩, Out.look rfl Out.refl⟩
          show Value.bool (!(decide (0 ≤ b) && decide (b ≤ (H.length : Int)))) = Value.bool (!(decide (0 ≤ a) && decide (a ≤ (H.length : Int))) || !(decide (0 ≤ b) && decide (b ≤ (H.length : Int))))
          first | rw [g_13, Bool.false_or] | (rw [g_13]; rfl)
      rintro ⟨⟩ u_20 w_19 hS
      refine Wx.rd (v := .bool (!(decide (0 ≤ a) && decide (a ≤ (H.length : Int))) || !(decide (0 ≤ b) && decide (b ≤ (H.length : Int))))) (rd_pickT (congrArg Value.bool g_8) rfl) rfl ?_
      refine Wx.nil ⟨(), hS, ⟨?_, trivial⟩, Out.look rfl (Out.hav rfl (Out.look rfl Out.refl))⟩
      show Value.bool (!(decide (0 ≤ a) && decide (a ≤ (H.length : Int))) || !(decide (0 ≤ b) && decide (b ≤ (H.length : Int)))) = Value.bool (decide ((checkS R C H) = 0) && (!(decide (0 ≤ a) && decide (a ≤ (H.length : Int))) || !(decide (0 ≤ b) && decide (b ≤ (H.length : Int)))))
      first | rw [g_8, Bool.true_and] | (rw [g_8]; rfl)
    · -- False
      have gp_21 := of_decide_eq_false g_8
      refine Wx.gnoB rfl rfl (congrArg Value.bool g_8) rfl rfl ?_
      refine Wx.gnoB rfl rfl (congrArg Value.bool g_8) rfl rfl ?_
      refine Wx.gnoB rfl rfl (congrArg Value.bool g_8) rfl rfl ?_
      refine Wx.gnoB rfl rfl (congrArg Value.bool g_8) rfl rfl ?_
      refine Wx.gnoB rfl rfl (congrArg Value.bool g_8) rfl rfl ?_
      refine Wx.gno rfl rfl rfl rfl ?_
      refine Wx.gno rfl rfl rfl rfl ?_
      refine Wx.gno rfl rfl rfl rfl ?_
      refine Wx.gno rfl rfl rfl rfl ?_
      refine Wx.gnoB rfl rfl (congrArg Value.bool g_8) rfl rfl ?_
      refine Wx.rd (v := .bool false) (rd_pickF (congrArg Value.bool g_8) rfl) rfl ?_
      refine Wx.nil ⟨(), hS, ⟨?_, trivial⟩, Out.look rfl Out.refl⟩
      show Value.bool false = Value.bool (decide ((checkS R C H) = 0) && (!(decide (0 ≤ a) && decide (a ≤ (H.length : Int))) || !(decide (0 ≤ b) && decide (b ≤ (H.length : Int)))))
      first | rw [g_8, Bool.false_and] | (rw [g_8]; rfl)
  rintro ⟨⟩ u_23 w_22 hS
  refine Wx.nil ?_
  refine W.cutK [8] (fun (e : Int) => [(8, .int .i64 e)]) (fun (e : Int) w' => St w O w' [.box g_1 27 [.int .i64 R, .int .i64 C, hv]] ∧ e = betwX R C H a b) ?_ ?_
  · -- up to the cut
    refine W.cond rfl (fun c0 => ?_) (fun c0 => ?_)
    · -- yes
      try simp only [Bool.and_eq_true, Bool.or_eq_true, Bool.not_eq_true', Bool.and_eq_false_iff, Bool.or_eq_false_iff, Bool.not_eq_false', decide_eq_true_eq, decide_eq_false_iff_not, not_or, Bool.false_eq_true, Bool.true_eq_false, false_or, or_false, not_false_eq_true] at c0
      refine W.reg ?_
      refine Wx.rd (v := .int .i64 2) (rd_assign rfl) rfl ?_
      refine Wx.nil ?_
      refine ⟨2, ?_, ?_, Out.look rfl Out.refl⟩
      · exact ⟨hS, (by rw [betwX, if_pos ⟨c0.1, by omega⟩])⟩
      · exact ⟨rfl, trivial⟩
    · -- no
      try simp only [Bool.and_eq_true, Bool.or_eq_true, Bool.not_eq_true', Bool.and_eq_false_iff, Bool.or_eq_false_iff, Bool.not_eq_false', decide_eq_true_eq, decide_eq_false_iff_not, not_or, Bool.false_eq_true, Bool.true_eq_false, false_or, or_false, not_false_eq_true] at c0
      refine W.skip ?_
      refine ⟨checkS R C H, ?_, ?_, Out.look rfl Out.refl⟩
      · exact ⟨hS, (by rw [betwX, if_neg (by omega)])⟩
      · exact ⟨rfl, trivial⟩
  rintro e u_25 w_24 ⟨hS, he⟩
  refine W.seq ?_
  refine W.seq ?_
  refine W.reg ?_
  refine Wx.rd (v := .int .i64 e) (rd_move rfl) rfl ?_
  refine Wx.rd (v := .bool (decide (e ≠ 0))) (rd_neq rfl rfl) rfl ?_
  refine Wx.nil ?_
  refine W.condD rfl (fun c1 => ?_) (fun c1 => ?_)
  · -- yes
    refine W.seq ?_
    refine W.reg ?_
    refine Wx.rd (v := .int .i64 e) (rd_move rfl) rfl ?_
    refine Wx.rd (v := .int .i64 0) (rd_assign rfl) rfl ?_
    refine Wx.rd (v := .int .i64 e) (rd_assign rfl) rfl ?_
    refine Wx.nil ?_
    have e0_0 : (betwE R C H a b) = (0 : Int) := by rw [betwE, if_neg (by rw [← he]; exact c1)]
    have e0_1 : (betwX R C H a b) = (e : Int) := by exact he.symm
    exact W.ret ⟨.tuple #[.int .i64 0, .int .i64 e], ResIs.two, hS.bel, (by rw [e0_0, e0_1])⟩
  · -- no
    have h0x : betwX R C H a b = 0 := by omega
    obtain ⟨h0c, hpa, hpb⟩ := betw_ok h0x
    have p_ok := SOK.of h0c
    obtain ⟨⟨r1, r2⟩, ⟨c1_, c2_⟩, hRC, ⟨n1, n36⟩, hCn, hok⟩ := id p_ok
    have hhb := high_bd p_ok hpa
    refine W.skip ?_
    refine W.seq ?_
    refine W.seq ?_
    refine W.reg ?_
    refine Wx.rd (v := .agg #[.int .i64 R, .int .i64 C, hv]) (rd_loadXs (ds := [.int .i64 R, .int .i64 C, hv]) hS 0 rfl rfl rfl rfl Try.isAgg27 Try.sizeOf27) rfl ?_
    refine Wx.rd (v := .int .i64 a) (rd_move rfl) rfl ?_
    refine Wx.callF (run_callF Try.call79 rfl) (F79 i_R i_C (hS.arg a_hv) i_a hpa) rfl ?_
    rintro r_26 w_27 hx_28 rfl
    have hS := hS.ext hx_28
    refine Wx.rd (v := .int .i64 (highV H a)) (rd_assign rfl) rfl ?_
    refine Wx.nil ?_
    refine W.block ?_
    refine W.loop [6, 7, 10, 11, 12, 13, 39, 40, 41, 42, 43, 44, 45, 46, 47, 48, 49, 50, 51, 52, 53, 54, 55, 56, 57, 58, 59, 60, 61, 62, 63, 64, 65, 66, 67, 68, 69, 70, 71, 72, 73, 74, 75, 76, 77, 78, 79, 80, 81, 82, 83] (fun (h : Int) => [(10, .int .i64 h)]) (fun (h : Int) w' => St w O w' [.box g_1 27 [.int .i64 R, .int .i64 C, hv]] ∧ highV H a ≤ h ∧ h ≤ 30 ∧ (∀ k, highV H a ≤ k → k < h → ledN C H k a b = false)) (fun (h : Int) => (30 - h).toNat) (highV H a) ⟨rfl, trivial⟩ ⟨hS, (by first | omega | simp), (by first | omega | simp), (fun k k0 k1 => by omega)⟩ ?_
    rintro h u_30 w_29 ⟨hS, h0, h1, h2⟩
    refine W.seq ?_
    refine W.seq ?_
    refine W.reg ?_
    refine Wx.rd (v := .int .i64 h) (rd_move rfl) rfl ?_
    refine Wx.rd (v := .bool (decide (h < 30))) (rd_lss rfl rfl) rfl ?_
    refine Wx.nil ?_
    refine W.condD rfl (fun c2 => ?_) (fun c2 => ?_)
    · -- yes
      have hlow0 : lowB H h a = true := decide_eq_true (by omega)
      have haN : 0 ≤ a ∧ a < (H.length : Int) + 1 := ⟨hpa.1, by omega⟩
      have hbN : 0 ≤ b ∧ b < (H.length : Int) + 1 := ⟨hpb.1, by omega⟩
      refine W.skip ?_
      refine W.seq ?_
      refine W.block ?_
      refine W.seq ?_
      refine W.reg ?_
      refine Wx.rd (v := .int .i64 a) (rd_move rfl) rfl ?_
      refine Wx.lit (t := (tI .i64)) (ys := [a]) (vs := [.int .i64 a]) elKi_22 hS rfl rfl ⟨(V.mkInt (in_i64 (by omega) (by omega))), trivial⟩ (by decide) rfl (fun v_31 w_32 hx_33 hS => ?_)
      refine Wx.rd (v := v_31) (rd_assign rfl) rfl ?_
      refine Wx.nil ?_
      refine W.seq ?_
      refine W.seq ?_
      refine W.reg ?_
      refine Wx.rd (v := .int .i64 0) (rd_assign rfl) rfl ?_
      refine Wx.nil ?_
      refine W.block ?_
      refine W.loop [11, 12, 13, 45, 46, 47, 48, 49, 50, 51, 52, 53, 54, 55, 56, 57, 58, 59, 60, 61, 62, 63, 64, 65, 66, 67, 68, 69, 70, 71, 72, 73, 74, 75, 76, 77, 78, 79] (fun x : Int × Value × (List Int) => match x with | (i, mv, met) => [(12, .int .i64 i), (11, mv)]) (fun (x : Int × Value × (List Int)) w' => match x with | (i, mv, met) => St w O w' [.row (tI .i64) 3 mv met, .box g_1 27 [.int .i64 R, .int .i64 C, hv]] ∧ 0 ≤ i ∧ i ≤ met.length ∧ BfI (nearB C H.length) (H.length + 1) (lowB H h) a i 0 met) (fun x : Int × Value × (List Int) => match x with | (i, mv, met) => (H.length + 1 - i).toNat) (0, v_31, [a]) ⟨rfl, rfl, trivial⟩ ⟨hS, (by first | omega | simp), (by simp), (bf_start haN hlow0)⟩ ?_
      rintro ⟨i, mv, met⟩ u_35 w_34 ⟨hS, i0, i1, i2⟩
      refine W.seq ?_
      refine W.seq ?_
      refine W.reg ?_
      refine Wx.rd (v := .int .i64 i) (rd_move rfl) rfl ?_
      refine Wx.rd (v := mv) (rd_move rfl) rfl ?_
      refine Wx.rd (v := .int .i64 (met.length : Int)) (rd_lenR hS 0 rfl rfl Try.underlying22) rfl ?_
      refine Wx.rd (v := .bool (decide (i < (met.length : Int)))) (rd_lss rfl rfl) rfl ?_
      refine Wx.nil ?_
      refine W.condD rfl (fun c3 => ?_) (fun c3 => ?_)
      · -- yes
        have hml0 := bf_len (by omega) i2
        refine W.skip ?_
        refine W.seq ?_
        refine W.block ?_
        refine W.seq ?_
        refine W.reg ?_
        refine Wx.rd (v := .int .i64 0) (rd_assign rfl) rfl ?_
        refine Wx.nil ?_
        refine W.block ?_
        refine W.loop [11, 13, 51, 52, 53, 54, 55, 56, 57, 58, 59, 60, 61, 62, 63, 64, 65, 66, 67, 68, 69, 70, 71, 72, 73, 74, 75, 76, 77, 78, 79] (fun x : Int × Value × (List Int) => match x with | (z, mv2, met2) => [(13, .int .i64 z), (11, mv2)]) (fun (x : Int × Value × (List Int)) w' => match x with | (z, mv2, met2) => St w O w' [.row (tI .i64) 3 mv2 met2, .box g_1 27 [.int .i64 R, .int .i64 C, hv]] ∧ 0 ≤ z ∧ z ≤ H.length + 1 ∧ BfI (nearB C H.length) (H.length + 1) (lowB H h) a i z met2 ∧ (met.length : Int) ≤ met2.length) (fun x : Int × Value × (List Int) => match x with | (z, mv2, met2) => (H.length + 1 - z).toNat) (0, mv, met) ⟨rfl, rfl, trivial⟩ ⟨hS, (by first | omega | simp), (by first | omega | simp), (i2), (by omega)⟩ ?_
        rintro ⟨z, mv2, met2⟩ u_37 w_36 ⟨hS, z0, z1, g2, g3⟩
        refine W.seq ?_
        refine W.seq ?_
        refine W.reg ?_
        refine Wx.rd (v := .int .i64 z) (rd_move rfl) rfl ?_
        refine Wx.rd (v := .int .i64 (H.length : Int)) (rd_move rfl) rfl ?_
        refine Wx.rd (v := .bool (decide (z ≤ (H.length : Int)))) (rd_leq rfl rfl) rfl ?_
        refine Wx.nil ?_
        refine W.condD rfl (fun c4 => ?_) (fun c4 => ?_)
        · -- yes
          have hmi := bf_in g2 i0 (show i < met2.length by omega)
          have hml := bf_len (by omega) g2
          refine W.skip ?_
          refine W.seq ?_
          refine W.block ?_
          refine W.seq ?_
          refine W.regQ mixedKi_ (by kernel_rfl) ?_
          refine Wx.rd (v := .agg #[.int .i64 R, .int .i64 C, hv]) (rd_loadXs (ds := [.int .i64 R, .int .i64 C, hv]) hS 1 rfl rfl rfl rfl Try.isAgg27 Try.sizeOf27) rfl ?_
          refine Wx.rd (v := mv2) (rd_move rfl) rfl ?_
          refine Wx.rd (v := .int .i64 i) (rd_move rfl) rfl ?_
          refine Wx.indexR hS 0 rfl rfl rfl Try.underlying22 Try.sizeOf3 (by first | omega | (simp only [List.length_set, List.length_append, List.length_cons, List.length_nil, List.length_replicate]; omega)) (by first | omega | (simp only [List.length_set, List.length_append, List.length_cons, List.length_nil, List.length_replicate]; omega)) rfl (fun g_38 hg_39 => ?_)
          refine Wx.rd (v := .int .i64 (ix 0 met2 i)) (rd_loadRI' hS 0 rfl hg_39 rfl (by first | omega | (simp only [List.length_set, List.length_append, List.length_cons, List.length_nil, List.length_replicate]; omega)) (by first | omega | (simp only [List.length_set, List.length_append, List.length_cons, List.length_nil, List.length_replicate]; omega)) Try.isAgg3 Try.sizeOf3) rfl ?_
          have bd_40 := bd_i64 (hS.rowInK' 0 rfl (by first | omega | (simp only [List.length_set, List.length_append, List.length_cons, List.length_nil, List.length_replicate]; omega)) (by first | omega | (simp only [List.length_set, List.length_append, List.length_cons, List.length_nil, List.length_replicate]; omega)) : InK .i64 (ix 0 met2 i))
          refine Wx.rd (v := .int .i64 z) (rd_move rfl) rfl ?_
          refine Wx.callV (v := .bool (nearB C H.length (ix 0 met2 i) z)) (run_callF Try.call80 rfl) (fun w_41 hw_42 => (F80 i_R i_C ((hS.arg a_hv).ext hw_42) (in_i64 (by omega) (by omega)) (in_i64 (by omega) (by omega)) p_ok (by omega) (by omega))) rfl ?_
          refine Wx.rd (v := .bool (nearB C H.length (ix 0 met2 i) z)) (rd_move rfl) rfl ?_
          refine Wx.cutQ (X := Unit) 6 [64, 65, 66, 67, 68, 69] (fun _ => [(69, .bool (nearB C H.length (ix 0 met2 i) z && decide ((highV H z) ≤ h)))]) (fun _ => True) ?_ ?_
          · rcases Bool.eq_false_or_eq_true (nearB C H.length (ix 0 met2 i) z) with g_43 | g_43
            · -- True
              have gp_44 := g_43
              try simp only [Bool.and_eq_true, Bool.or_eq_true, Bool.not_eq_true', Bool.and_eq_false_iff, Bool.or_eq_false_iff, Bool.not_eq_false', decide_eq_true_eq, decide_eq_false_iff_not, not_or, Bool.false_eq_true, Bool.true_eq_false, false_or, or_false, not_false_eq_true] at gp_44
              refine Wx.gyes rfl rfl (congrArg Value.bool g_43) ?_
              refine Wx.rd (v := .agg #[.int .i64 R, .int .i64 C, hv]) (rd_loadXs (ds := [.int .i64 R, .int .i64 C, hv]) hS 1 rfl rfl rfl rfl Try.isAgg27 Try.sizeOf27) rfl ?_
              refine Wx.gyes rfl rfl (congrArg Value.bool g_43) ?_
              refine Wx.rd (v := .int .i64 z) (rd_move rfl) rfl ?_
              refine Wx.gyes rfl rfl (congrArg Value.bool g_43) ?_
              refine Wx.callV (v := .int .i64 (highV H z)) (run_callF Try.call79 rfl) (fun w_45 hw_46 => (F79 i_R i_C ((hS.arg a_hv).ext hw_46) (in_i64 (by omega) (by omega)) (by omega))) rfl ?_
              refine Wx.gyes rfl rfl (congrArg Value.bool g_43) ?_
              refine Wx.rd (v := .int .i64 h) (rd_move rfl) rfl ?_
              refine Wx.gyes rfl rfl (congrArg Value.bool g_43) ?_
              refine Wx.rd (v := .bool (decide ((highV H z) ≤ h))) (rd_leq rfl rfl) rfl ?_
              refine Wx.rd (v := .bool (decide ((highV H z) ≤ h))) (rd_pickT (congrArg Value.bool g_43) rfl) rfl ?_
              refine Wx.nilQ (fun _ _ => ⟨(), trivial, ⟨?_, trivial⟩, Out.look rfl Out.refl⟩)
              show Value.bool (decide ((highV H z) ≤ h)) = Value.bool (nearB C H.length (ix 0 met2 i) z && decide ((highV H z) ≤ h))
              first | rw [g_43, Bool.true_and] | (rw [g_43]; rfl)
            · -- False
              have gp_47 := g_43
              try simp only [Bool.and_eq_true, Bool.or_eq_true, Bool.not_eq_true', Bool.and_eq_false_iff, Bool.or_eq_false_iff, Bool.not_eq_false', decide_eq_true_eq, decide_eq_false_iff_not, not_or, Bool.false_eq_true, Bool.true_eq_false, false_or, or_false, not_false_eq_true] at gp_47
              refine Wx.gnoB rfl rfl (congrArg Value.bool g_43) rfl rfl ?_
              refine Wx.gnoB rfl rfl (congrArg Value.bool g_43) rfl rfl ?_
              refine Wx.gnoB rfl rfl (congrArg Value.bool g_43) rfl rfl ?_
              refine Wx.gnoB rfl rfl (congrArg Value.bool g_43) rfl rfl ?_
              refine Wx.gnoB rfl rfl (congrArg Value.bool g_43) rfl rfl ?_
              refine Wx.rd (v := .bool false) (rd_pickF (congrArg Value.bool g_43) rfl) rfl ?_
              refine Wx.nilQ (fun _ _ => ⟨(), trivial, ⟨?_, trivial⟩, Out.look rfl Out.refl⟩)
              show Value.bool false = Value.bool (nearB C H.length (ix 0 met2 i) z && decide ((highV H z) ≤ h))
              first | rw [g_43, Bool.false_and] | (rw [g_43]; rfl)
          rintro ⟨⟩ u_49 -
          refine Wx.rd (v := .bool (nearB C H.length (ix 0 met2 i) z && decide ((highV H z) ≤ h))) (rd_move rfl) rfl ?_
          refine Wx.cutQ (X := Unit) 5 [71, 72, 73, 74, 75] (fun _ => [(75, .bool ((nearB C H.length (ix 0 met2 i) z && decide ((highV H z) ≤ h)) && !(hasL met2 z)))]) (fun _ => True) ?_ ?_
          · rcases Bool.eq_false_or_eq_true (nearB C H.length (ix 0 met2 i) z && decide ((highV H z) ≤ h)) with g_50 | g_50
            · -- True
              have gp_51 := g_50
              try simp only [Bool.and_eq_true, Bool.or_eq_true, Bool.not_eq_true', Bool.and_eq_false_iff, Bool.or_eq_false_iff, Bool.not_eq_false', decide_eq_true_eq, decide_eq_false_iff_not, not_or, Bool.false_eq_true, Bool.true_eq_false, false_or, or_false, not_false_eq_true] at gp_51
              refine Wx.gyes rfl rfl (congrArg Value.bool g_50) ?_
              refine Wx.rd (v := mv2) (rd_move rfl) rfl ?_
              refine Wx.gyes rfl rfl (congrArg Value.bool g_50) ?_
              refine Wx.rd (v := .int .i64 z) (rd_move rfl) rfl ?_
              refine Wx.gyes rfl rfl (congrArg Value.bool g_50) ?_
              refine Wx.callV (v := .bool (hasL met2 z)) (run_callF Try.call66 rfl) (fun w_52 hw_53 => (F66 ((hS.lend 0 rfl).ext hw_53) (in_i64 (by omega) (by omega)))) rfl ?_
              refine Wx.gyes rfl rfl (congrArg Value.bool g_50) ?_
              refine Wx.rd (v := .bool (!(hasL met2 z))) (rd_not rfl) rfl ?_
              refine Wx.rd (v := .bool (!(hasL met2 z))) (rd_pickT (congrArg Value.bool g_50) rfl) rfl ?_
              refine Wx.nilQ (fun _ _ => ⟨(), trivial, ⟨?_, trivial⟩, Out.look rfl Out.refl⟩)
              show Value.bool (!(hasL met2 z)) = Value.bool ((nearB C H.length (ix 0 met2 i) z && decide ((highV H z) ≤ h)) && !(hasL met2 z))
              first | rw [g_50, Bool.true_and] | (rw [g_50]; rfl)
            · -- False
              have gp_54 := g_50
              try simp only [Bool.and_eq_true, Bool.or_eq_true, Bool.not_eq_true', Bool.and_eq_false_iff, Bool.or_eq_false_iff, Bool.not_eq_false', decide_eq_true_eq, decide_eq_false_iff_not, not_or, Bool.false_eq_true, Bool.true_eq_false, false_or, or_false, not_false_eq_true] at gp_54
              refine Wx.gnoB rfl rfl (congrArg Value.bool g_50) rfl rfl ?_
              refine Wx.gnoB rfl rfl (congrArg Value.bool g_50) rfl rfl ?_
              refine Wx.gnoB rfl rfl (congrArg Value.bool g_50) rfl rfl ?_
              refine Wx.gnoB rfl rfl (congrArg Value.bool g_50) rfl rfl ?_
              refine Wx.rd (v := .bool false) (rd_pickF (congrArg Value.bool g_50) rfl) rfl ?_
              refine Wx.nilQ (fun _ _ => ⟨(), trivial, ⟨?_, trivial⟩, Out.look rfl Out.refl⟩)
              show Value.bool false = Value.bool ((nearB C H.length (ix 0 met2 i) z && decide ((highV H z) ≤ h)) && !(hasL met2 z))
              first | rw [g_50, Bool.false_and] | (rw [g_50]; rfl)
          rintro ⟨⟩ u_56 -
          refine Wx.nilQ (fun w_57 hx_58 => ?_)
          have hS := hS.ext hx_58
          refine W.cond rfl (fun c5 => ?_) (fun c5 => ?_)
          · -- yes
            try simp only [Bool.and_eq_true, Bool.or_eq_true, Bool.not_eq_true', Bool.and_eq_false_iff, Bool.or_eq_false_iff, Bool.not_eq_false', decide_eq_true_eq, decide_eq_false_iff_not, not_or, Bool.false_eq_true, Bool.true_eq_false, false_or, or_false, not_false_eq_true] at c5
            refine W.reg ?_
            refine Wx.rd (v := mv2) (rd_move rfl) rfl ?_
            refine Wx.rd (v := .int .i64 z) (rd_move rfl) rfl ?_
            refine Wx.lit (t := (tI .i64)) (ys := [z]) (vs := [.int .i64 z]) elKi_22 hS rfl rfl ⟨(V.mkInt (in_i64 (by omega) (by omega))), trivial⟩ (by decide) rfl (fun v_59 w_60 hx_61 hS => ?_)
            refine Wx.append elKi_22 hS 1 rfl rfl rfl (Src.ofR hS 0 rfl) (by simp only [maxLen]; first | omega | (simp; omega) | simp) (by first | omega | (simp; omega) | simp) rfl (fun v_62 w_63 hz_64 hS => ?_)
            refine Wx.rd (v := v_62) (rd_assign rfl) rfl ?_
            refine Wx.nil ?_
            refine W.reg ?_
            refine Wx.rd (v := .int .i64 z) (rd_move rfl) rfl ?_
            refine Wx.rd (v := .int .i64 (z + 1)) (rd_add rfl rfl (in_i64 (by omega) (by omega))) rfl ?_
            refine Wx.rd (v := .int .i64 (z + 1)) (rd_assign rfl) rfl ?_
            refine Wx.nil ?_
            refine ⟨(z + 1, v_62, met2 ++ [z]), (by show (H.length + 1 - (z + 1)).toNat < (H.length + 1 - z).toNat; omega), ?_, ?_, Out.look rfl (Out.hav rfl (Out.look rfl (Out.hav rfl (Out.look rfl Out.self))))⟩
            · exact ⟨hS.tl, (by first | omega | assumption), (by first | omega | assumption), (bf_yes g2 i0 (by omega) haN ⟨z0, by omega⟩ c5.1.1 (decide_eq_true c5.1.2) (fun hm => by rw [hasL_iff.2 hm] at c5; cases c5.2)), (by simp only [List.length_append, List.length_cons, List.length_nil]; omega)⟩
            · exact ⟨rfl, rfl, trivial⟩
          · -- no
            try simp only [Bool.and_eq_true, Bool.or_eq_true, Bool.not_eq_true', Bool.and_eq_false_iff, Bool.or_eq_false_iff, Bool.not_eq_false', decide_eq_true_eq, decide_eq_false_iff_not, not_or, Bool.false_eq_true, Bool.true_eq_false, false_or, or_false, not_false_eq_true] at c5
            refine W.skip ?_
            refine W.reg ?_
            refine Wx.rd (v := .int .i64 z) (rd_move rfl) rfl ?_
            refine Wx.rd (v := .int .i64 (z + 1)) (rd_add rfl rfl (in_i64 (by omega) (by omega))) rfl ?_
            refine Wx.rd (v := .int .i64 (z + 1)) (rd_assign rfl) rfl ?_
            refine Wx.nil ?_
            refine ⟨(z + 1, mv2, met2), (by show (H.length + 1 - (z + 1)).toNat < (H.length + 1 - z).toNat; omega), ?_, ?_, Out.look rfl (Out.hav rfl (Out.look rfl (Out.hav rfl (Out.look rfl Out.self))))⟩
            · exact ⟨hS, (by first | omega | assumption), (by first | omega | assumption), (bf_no g2 i0 (by omega) (by rcases c5 with (q | q) | q; exact .inl q; exact .inr (.inl (decide_eq_false q)); exact .inr (.inr (hasL_iff.1 q)))), (by first | omega | assumption)⟩
            · exact ⟨rfl, rfl, trivial⟩
        · -- no
          refine W.exit rfl ?_
          refine W.reg ?_
          refine Wx.rd (v := .int .i64 i) (rd_move rfl) rfl ?_
          refine Wx.rd (v := .int .i64 (i + 1)) (rd_add rfl rfl (in_i64 (by omega) (by omega))) rfl ?_
          refine Wx.rd (v := .int .i64 (i + 1)) (rd_assign rfl) rfl ?_
          refine Wx.nil ?_
          refine ⟨(i + 1, mv2, met2), (by show (H.length + 1 - (i + 1)).toNat < (H.length + 1 - i).toNat; omega), ?_, ?_, Out.look rfl (Out.hav rfl (Out.look rfl Out.self))⟩
          · exact ⟨hS, (by first | omega | assumption), (by first | omega | assumption), (bf_next g2 (by omega))⟩
          · exact ⟨rfl, rfl, trivial⟩
      · -- no
        have hend := bf_end i2 (by omega) haN b hbN
        refine W.exit rfl ?_
        refine W.seq ?_
        refine W.reg ?_
        refine Wx.rd (v := mv) (rd_move rfl) rfl ?_
        refine Wx.rd (v := .int .i64 b) (rd_move rfl) rfl ?_
        refine Wx.callF (run_callF Try.call66 rfl) (F66 (hS.lend 0 rfl) i_b) rfl ?_
        rintro r_65 w_66 hx_67 rfl
        have hS := hS.ext hx_67
        refine Wx.nil ?_
        refine W.cond rfl (fun c6 => ?_) (fun c6 => ?_)
        · -- yes
          try simp only [Bool.and_eq_true, Bool.or_eq_true, Bool.not_eq_true', Bool.and_eq_false_iff, Bool.or_eq_false_iff, Bool.not_eq_false', decide_eq_true_eq, decide_eq_false_iff_not, not_or, Bool.false_eq_true, Bool.true_eq_false, false_or, or_false, not_false_eq_true] at c6
          refine W.seq ?_
          refine W.reg ?_
          refine Wx.rd (v := .int .i64 h) (rd_move rfl) rfl ?_
          refine Wx.rd (v := .int .i64 h) (rd_assign rfl) rfl ?_
          refine Wx.rd (v := .int .i64 0) (rd_assign rfl) rfl ?_
          refine Wx.nil ?_
          have e1_0 : (betwE R C H a b) = (h : Int) := by rw [betwE, if_pos h0x]; exact betw_found h0 c2 h2 (hend.1 (hasL_iff.1 c6))
          have e1_1 : (betwX R C H a b) = (0 : Int) := by exact h0x
          exact W.ret ⟨.tuple #[.int .i64 h, .int .i64 0], ResIs.two, hS.bel, (by rw [e1_0, e1_1])⟩
        · -- no
          try simp only [Bool.and_eq_true, Bool.or_eq_true, Bool.not_eq_true', Bool.and_eq_false_iff, Bool.or_eq_false_iff, Bool.not_eq_false', decide_eq_true_eq, decide_eq_false_iff_not, not_or, Bool.false_eq_true, Bool.true_eq_false, false_or, or_false, not_false_eq_true] at c6
          refine W.skip ?_
          refine W.reg ?_
          refine Wx.rd (v := .int .i64 h) (rd_move rfl) rfl ?_
          refine Wx.rd (v := .int .i64 (h + 1)) (rd_add rfl rfl (in_i64 (by omega) (by omega))) rfl ?_
          refine Wx.rd (v := .int .i64 (h + 1)) (rd_assign rfl) rfl ?_
          refine Wx.nil ?_
          refine ⟨h + 1, (by show (30 - (h + 1)).toNat < (30 - h).toNat; omega), ?_, ?_, Out.look rfl (Out.hav rfl (Out.look rfl Out.self))⟩
          · exact ⟨hS.tl, (by first | omega | assumption), (by first | omega | assumption), (fun k k0 k1 => by by_cases e : k = h; (rw [e]; cases hq : ledN C H h a b with | false => rfl | true => rw [hasL_iff.2 (hend.2 hq)] at c6; cases c6); exact h2 k k0 (by omega))⟩
          · exact ⟨rfl, trivial⟩
    · -- no
      refine W.exit rfl ?_
      refine W.seq ?_
      refine W.reg ?_
      refine Wx.rd (v := .int .i64 30) (rd_assign rfl) rfl ?_
      refine Wx.rd (v := .int .i64 0) (rd_assign rfl) rfl ?_
      refine Wx.nil ?_
      have e2_0 : (betwE R C H a b) = (30 : Int) := by rw [betwE, if_pos h0x]; exact betw_none (fun k k0 k1 => h2 k k0 (by omega))
      have e2_1 : (betwX R C H a b) = (0 : Int) := by exact h0x
      exact W.ret ⟨.tuple #[.int .i64 30, .int .i64 0], ResIs.two, hS.bel, (by rw [e2_0, e2_1])⟩

theorem F81 {R : Int} {C : Int} {hv : Value} {H : List Int} {Fr_hv : List (Option Nat)} {a : Int} {b : Int} {w : World} (i_R : InK .i64 R) (i_C : InK .i64 C) (h_hv : V (tSl (tI .i64)) H hv Fr_hv w) (i_a : InK .i64 a) (i_b : InK .i64 b) (p_ok : SOK R C H) (p_a : 0 ≤ a ∧ a < (H.length : Int)) (p_b : 0 ≤ b ∧ b ≤ (H.length : Int)) : Calls Try.prog 81 #[.agg #[.int .i64 R, .int .i64 C, hv], .int .i64 a, .int .i64 b] w (Ret w (fun r _ => r = .int .i64 (jointI C H a b))) := by
  have b_b := bd_i64 i_b
  have b_a := bd_i64 i_a
  have b_C := bd_i64 i_C
  have b_R := bd_i64 i_R
  obtain ⟨⟨r1, r2⟩, ⟨c1_, c2_⟩, hRC, ⟨n1, n36⟩, hCn, hok⟩ := id p_ok
  have a0 := p_a.1
  have a1 := p_a.2
  have hla := p_ok.last p_a.1 p_a.2
  have a_hv := h_hv.any
  have l_hv := h_hv.len63
  have hS := St.start0 w
  refine enterR Try.func81 rfl Try.ntmps81 Try.results81 rfl ?_
  refine W.seq ?_
  refine W.reg ?_
  refine Wx.box (cs := [.int .i64 R, .int .i64 C, hv]) hS rfl rfl rfl (fun g_1 w_2 hx_4 hb_3 hS => ?_)
  refine Wx.rd (v := .int .i64 0) (rd_assign rfl) rfl ?_
  refine Wx.nil ?_
  refine W.seq ?_
  refine W.seq ?_
  refine W.reg ?_
  refine Wx.rd (v := .int .i64 b) (rd_move rfl) rfl ?_
  refine Wx.rd (v := .pointer (some ⟨g_1, 2, none⟩)) (rd_fieldAddr rfl foKi_27_2) rfl ?_
  refine Wx.rd (v := hv) (rd_loadX hS 0 rfl rfl rfl Try.isAgg22) rfl ?_
  refine Wx.rd (v := .int .i64 (H.length : Int)) (rd_lenV rfl (hS.arg a_hv) Try.underlying22) rfl ?_
  refine Wx.rd (v := .bool (decide (b = (H.length : Int)))) (rd_eql rfl rfl) rfl ?_
  refine Wx.nil ?_
  refine W.condD rfl (fun c0 => ?_) (fun c0 => ?_)
  · -- yes
    refine W.seq ?_
    refine W.seq ?_
    refine W.reg ?_
    refine Wx.rd (v := .agg #[.int .i64 R, .int .i64 C, hv]) (rd_loadXs (ds := [.int .i64 R, .int .i64 C, hv]) hS 0 rfl rfl rfl rfl Try.isAgg27 Try.sizeOf27) rfl ?_
    refine Wx.rd (v := .int .i64 a) (rd_move rfl) rfl ?_
    refine Wx.callF (run_callF Try.call77 rfl) (F77 i_R i_C (hS.arg a_hv) i_a (by omega) (by omega) (by omega)) rfl ?_
    rintro r_5 w_6 hx_7 rfl
    have hS := hS.ext hx_7
    refine Wx.nil ?_
    refine W.condD rfl (fun c1 => ?_) (fun c1 => ?_)
    · -- yes
      refine W.seq ?_
      refine W.reg ?_
      refine Wx.rd (v := .pointer (some ⟨g_1, 2, none⟩)) (rd_fieldAddr rfl foKi_27_2) rfl ?_
      refine Wx.rd (v := hv) (rd_loadX hS 0 rfl rfl rfl Try.isAgg22) rfl ?_
      refine Wx.rd (v := .int .i64 a) (rd_move rfl) rfl ?_
      refine Wx.ex (rd_index 0 (hS.arg a_hv) rfl rfl Try.underlying22 Try.sizeOf3 (by first | omega | (simp only [List.length_set, List.length_append, List.length_cons, List.length_nil, List.length_replicate]; omega)) (by first | omega | (simp only [List.length_set, List.length_append, List.length_cons, List.length_nil, List.length_replicate]; omega))) rfl (fun p_8 hp_9 => ?_)
      refine Wx.rd (v := .int .i64 (ix 0 H a)) (rd_loadI hp_9 rfl Try.isAgg3 Try.sizeOf3) rfl ?_
      have bd_10 := bd_i64 hp_9.inK
      refine Wx.rd (v := .int .i64 (ix 0 H a)) (rd_assign rfl) rfl ?_
      refine Wx.nil ?_
      have e0_0 : (jointI C H a b) = (ix 0 H a : Int) := by rw [jointI, if_pos c0, if_pos (by rw [← hla]; exact decide_eq_true c1)]
      exact W.ret ⟨.int .i64 (ix 0 H a), ResIs.one, hS.bel, (by rw [e0_0])⟩
    · -- no
      refine W.skip ?_
      refine W.seq ?_
      refine W.reg ?_
      refine Wx.rd (v := .int .i64 (-1)) (rd_assign rfl) rfl ?_
      refine Wx.nil ?_
      have e1_0 : (jointI C H a b) = (-1 : Int) := by rw [jointI, if_pos c0, if_neg (by rw [← hla, decide_eq_false c1]; decide)]
      exact W.ret ⟨.int .i64 (-1), ResIs.one, hS.bel, (by rw [e1_0])⟩
  · -- no
    refine W.skip ?_
    refine W.seq ?_
    refine W.seq ?_
    refine W.reg ?_
    refine Wx.rd (v := .int .i64 a) (rd_move rfl) rfl ?_
    refine Wx.rd (v := .int .i64 b) (rd_move rfl) rfl ?_
    refine Wx.rd (v := .bool (decide (a < b))) (rd_lss rfl rfl) rfl ?_
    refine Wx.rd (v := .bool (decide (a < b))) (rd_move rfl) rfl ?_
    refine Wx.cut (X := Unit) 5 [24, 25, 26, 27, 28] (fun _ => [(28, .bool (decide (a < b) && adjB C a b))]) (fun _ w' => St w [] w' [.box g_1 27 [.int .i64 R, .int .i64 C, hv]]) ?_ ?_
    · rcases Bool.eq_false_or_eq_true (decide (a < b)) with g_11 | g_11
      · -- True
        have gp_12 := of_decide_eq_true g_11
        refine Wx.gyes rfl rfl (congrArg Value.bool g_11) ?_
        refine Wx.rd (v := .agg #[.int .i64 R, .int .i64 C, hv]) (rd_loadXs (ds := [.int .i64 R, .int .i64 C, hv]) hS 0 rfl rfl rfl rfl Try.isAgg27 Try.sizeOf27) rfl ?_
        refine Wx.gyes rfl rfl (congrArg Value.bool g_11) ?_
        refine Wx.rd (v := .int .i64 a) (rd_move rfl) rfl ?_
        refine Wx.gyes rfl rfl (congrArg Value.bool g_11) ?_
        refine Wx.rd (v := .int .i64 b) (rd_move rfl) rfl ?_
        refine Wx.gyes rfl rfl (congrArg Value.bool g_11) ?_
        refine Wx.callF (run_callF Try.call67 rfl) (F67 i_R i_C (hS.arg a_hv) i_a i_b (by omega) (by omega) (by omega)) rfl ?_
        rintro r_13 w_14 hx_15 rfl
        have hS := hS.ext hx_15
        refine Wx.rd (v := .bool (adjB C a b)) (rd_pickT (congrArg Value.bool g_11) rfl) rfl ?_
        refine Wx.nil ⟨(), hS, ⟨?_, trivial⟩, Out.look rfl Out.refl⟩
        show Value.bool (adjB C a b) = Value.bool (decide (a < b) && adjB C a b)
        first | rw [g_11, Bool.true_and] | (rw [g_11]; rfl)
      · -- False
        have gp_16 := of_decide_eq_false g_11
        refine Wx.gnoB rfl rfl (congrArg Value.bool g_11) rfl rfl ?_
        refine Wx.gnoB rfl rfl (congrArg Value.bool g_11) rfl rfl ?_
        refine Wx.gnoB rfl rfl (congrArg Value.bool g_11) rfl rfl ?_
        refine Wx.gnoB rfl rfl (congrArg Value.bool g_11) rfl rfl ?_
        refine Wx.rd (v := .bool false) (rd_pickF (congrArg Value.bool g_11) rfl) rfl ?_
        refine Wx.nil ⟨(), hS, ⟨?_, trivial⟩, Out.look rfl Out.refl⟩
        show Value.bool false = Value.bool (decide (a < b) && adjB C a b)
        first | rw [g_11, Bool.false_and] | (rw [g_11]; rfl)
    rintro ⟨⟩ u_18 w_17 hS
    refine Wx.nil ?_
    refine W.cond rfl (fun c2 => ?_) (fun c2 => ?_)
    · -- yes
      try simp only [Bool.and_eq_true, Bool.or_eq_true, Bool.not_eq_true', Bool.and_eq_false_iff, Bool.or_eq_false_iff, Bool.not_eq_false', decide_eq_true_eq, decide_eq_false_iff_not, not_or, Bool.false_eq_true, Bool.true_eq_false, false_or, or_false, not_false_eq_true] at c2
      refine W.seq ?_
      refine W.regQ mixedKi_ (by kernel_rfl) ?_
      refine Wx.rd (v := .pointer (some ⟨g_1, 2, none⟩)) (rd_fieldAddr rfl foKi_27_2) rfl ?_
      refine Wx.rd (v := hv) (rd_loadX hS 0 rfl rfl rfl Try.isAgg22) rfl ?_
      refine Wx.rd (v := .int .i64 a) (rd_move rfl) rfl ?_
      refine Wx.ex (rd_index 0 (hS.arg a_hv) rfl rfl Try.underlying22 Try.sizeOf3 (by first | omega | (simp only [List.length_set, List.length_append, List.length_cons, List.length_nil, List.length_replicate]; omega)) (by first | omega | (simp only [List.length_set, List.length_append, List.length_cons, List.length_nil, List.length_replicate]; omega))) rfl (fun p_19 hp_20 => ?_)
      refine Wx.rd (v := .int .i64 (ix 0 H a)) (rd_loadI hp_20 rfl Try.isAgg3 Try.sizeOf3) rfl ?_
      have bd_21 := bd_i64 hp_20.inK
      refine Wx.rd (v := .pointer (some ⟨g_1, 2, none⟩)) (rd_fieldAddr rfl foKi_27_2) rfl ?_
      refine Wx.rd (v := hv) (rd_loadX hS 0 rfl rfl rfl Try.isAgg22) rfl ?_
      refine Wx.rd (v := .int .i64 b) (rd_move rfl) rfl ?_
      refine Wx.ex (rd_index 0 (hS.arg a_hv) rfl rfl Try.underlying22 Try.sizeOf3 (by first | omega | (simp only [List.length_set, List.length_append, List.length_cons, List.length_nil, List.length_replicate]; omega)) (by first | omega | (simp only [List.length_set, List.length_append, List.length_cons, List.length_nil, List.length_replicate]; omega))) rfl (fun p_22 hp_23 => ?_)
      refine Wx.rd (v := .int .i64 (ix 0 H b)) (rd_loadI hp_23 rfl Try.isAgg3 Try.sizeOf3) rfl ?_
      have bd_24 := bd_i64 hp_23.inK
      refine Wx.rd (v := .int .i64 (max (ix 0 H a) (ix 0 H b))) (rd_max rfl rfl) rfl ?_
      refine Wx.rd (v := .int .i64 (max (ix 0 H a) (ix 0 H b))) (rd_assign rfl) rfl ?_
      refine Wx.nilQ (fun w_25 hx_26 => ?_)
      have hS := hS.ext hx_26
      have e2_0 : (jointI C H a b) = (max (ix 0 H a) (ix 0 H b) : Int) := by rw [jointI, if_neg c0, if_pos c2]
      exact W.ret ⟨.int .i64 (max (ix 0 H a) (ix 0 H b)), ResIs.one, hS.bel, (by rw [e2_0])⟩
    · -- no
      try simp only [Bool.and_eq_true, Bool.or_eq_true, Bool.not_eq_true', Bool.and_eq_false_iff, Bool.or_eq_false_iff, Bool.not_eq_false', decide_eq_true_eq, decide_eq_false_iff_not, not_or, Bool.false_eq_true, Bool.true_eq_false, false_or, or_false, not_false_eq_true] at c2
      refine W.skip ?_
      refine W.seq ?_
      refine W.reg ?_
      refine Wx.rd (v := .int .i64 (-1)) (rd_assign rfl) rfl ?_
      refine Wx.nil ?_
      have e3_0 : (jointI C H a b) = (-1 : Int) := by rw [jointI, if_neg c0, if_neg (by rintro ⟨q1, q2⟩; rcases c2 with c | c; exact c q1; rw [q2] at c; cases c)]
      exact W.ret ⟨.int .i64 (-1), ResIs.one, hS.bel, (by rw [e3_0])⟩

set_option maxHeartbeats 4000000 in
theorem F40 {R : Int} {C : Int} {hv : Value} {H : List Int} {O : List (Option Nat)} {w : World} (i_R : InK .i64 R) (i_C : InK .i64 C) (h_hv : V (tSl (tI .i64)) H hv O w) (hO : ∀ b, some b ∈ O → b < w.heap.size) : Calls Try.prog 40 #[.agg #[.int .i64 R, .int .i64 C, hv]] w (Ret w (fun r w' => ∃ rv, r = .tuple #[rv, .int .i64 (checkS R C H)] ∧ Fresh (tP (tI .i64) (tI .i64)) 74 (treeE R C H) rv w.heap.size w')) := by
  have b_C := bd_i64 i_C
  have b_R := bd_i64 i_R
  have a_hv := h_hv
  have l_hv := h_hv.len63
  have hS := St.start w O hO
  refine enterR Try.func40 rfl Try.ntmps40 Try.results40 rfl ?_
  refine W.seq ?_
  refine W.reg ?_
  refine Wx.box (cs := [.int .i64 R, .int .i64 C, hv]) hS rfl rfl rfl (fun g_1 w_2 hx_4 hb_3 hS => ?_)
  refine Wx.rd (v := (.slice none 0 0)) (rd_assign rfl) rfl ?_
  refine Wx.rd (v := .int .i64 0) (rd_assign rfl) rfl ?_
  refine Wx.nil ?_
  refine W.seq ?_
  refine W.reg ?_
  refine Wx.rd (v := .agg #[.int .i64 R, .int .i64 C, hv]) (rd_loadXs (ds := [.int .i64 R, .int .i64 C, hv]) hS 0 rfl rfl rfl rfl Try.isAgg27 Try.sizeOf27) rfl ?_
  refine Wx.callF (run_callF Try.call23 rfl) (F23 i_R i_C (hS.arg a_hv)) rfl ?_
  rintro r_5 w_6 hx_7 rfl
  have hS := hS.ext hx_7
  refine Wx.rd (v := .int .i64 (checkS R C H)) (rd_assign rfl) rfl ?_
  refine Wx.nil ?_
  refine W.seq ?_
  refine W.seq ?_
  refine W.reg ?_
  refine Wx.rd (v := .int .i64 (checkS R C H)) (rd_move rfl) rfl ?_
  refine Wx.rd (v := .bool (decide ((checkS R C H) ≠ 0))) (rd_neq rfl rfl) rfl ?_
  refine Wx.nil ?_
  refine W.condD rfl (fun c0 => ?_) (fun c0 => ?_)
  · -- yes
    refine W.seq ?_
    refine W.reg ?_
    refine Wx.rd (v := .int .i64 (checkS R C H)) (rd_move rfl) rfl ?_
    refine Wx.rd (v := (.slice none 0 0)) (rd_assign rfl) rfl ?_
    refine Wx.rd (v := .int .i64 (checkS R C H)) (rd_assign rfl) rfl ?_
    refine Wx.nil ?_
    have e0_0 : treeE R C H = [] := by rw [treeE, if_neg c0]
    exact W.ret ⟨.tuple #[(.slice none 0 0), .int .i64 (checkS R C H)], ResIs.two, hS.bel, ⟨(.slice none 0 0), rfl, (by rw [e0_0]; exact ((hS.addNil (tP (tI .i64) (tI .i64)) 74).fr 0 rfl flat_i2))⟩⟩
  · -- no
    have h0c : checkS R C H = 0 := by omega
    have p_ok := SOK.of h0c
    obtain ⟨⟨r1, r2⟩, ⟨c1_, c2_⟩, hRC, ⟨n1, n36⟩, hCn, hok⟩ := id p_ok
    refine W.skip ?_
    refine W.seq ?_
    refine W.reg ?_
    refine Wx.rd (v := (.slice none 0 0)) (rd_assign rfl) rfl ?_
    refine Wx.nil ?_
    refine W.seq ?_
    refine W.seq ?_
    refine W.reg ?_
    refine Wx.rd (v := .int .i64 0) (rd_assign rfl) rfl ?_
    refine Wx.nil ?_
    refine W.block ?_
    have hS := hS.addNil (tI .i64) 3
    refine W.loop [5, 6, 18, 19, 20, 21, 22, 23, 24, 25, 26, 27, 28] (fun x : Int × Value × (List Int) => match x with | (k, lv, lab) => [(6, .int .i64 k), (5, lv)]) (fun (x : Int × Value × (List Int)) w' => match x with | (k, lv, lab) => St w O w' [.row (tI .i64) 3 lv lab, .box g_1 27 [.int .i64 R, .int .i64 C, hv]] ∧ 0 ≤ k ∧ k ≤ H.length + 1 ∧ lab = rng 0 k ∧ (lab.length : Int) = k) (fun x : Int × Value × (List Int) => match x with | (k, lv, lab) => (H.length + 1 - k).toNat) (0, (.slice none 0 0), []) ⟨rfl, rfl, trivial⟩ ⟨hS, (by first | omega | simp), (by first | omega | simp), (rfl), (rfl)⟩ ?_
    rintro ⟨k, lv, lab⟩ u_9 w_8 ⟨hS, h0, h1, h2, h3⟩
    refine W.seq ?_
    refine W.seq ?_
    refine W.reg ?_
    refine Wx.rd (v := .int .i64 k) (rd_move rfl) rfl ?_
    refine Wx.rd (v := .pointer (some ⟨g_1, 2, none⟩)) (rd_fieldAddr rfl foKi_27_2) rfl ?_
    refine Wx.rd (v := hv) (rd_loadX hS 1 rfl rfl rfl Try.isAgg22) rfl ?_
    refine Wx.rd (v := .int .i64 (H.length : Int)) (rd_lenV rfl (hS.arg a_hv) Try.underlying22) rfl ?_
    refine Wx.rd (v := .bool (decide (k ≤ (H.length : Int)))) (rd_leq rfl rfl) rfl ?_
    refine Wx.nil ?_
    refine W.condD rfl (fun c1 => ?_) (fun c1 => ?_)
    · -- yes
      refine W.skip ?_
      refine W.seq ?_
      refine W.block ?_
      refine W.reg ?_
      refine Wx.rd (v := lv) (rd_move rfl) rfl ?_
      refine Wx.rd (v := .int .i64 k) (rd_move rfl) rfl ?_
      refine Wx.lit (t := (tI .i64)) (ys := [k]) (vs := [.int .i64 k]) elKi_22 hS rfl rfl ⟨(V.mkInt (in_i64 (by omega) (by omega))), trivial⟩ (by decide) rfl (fun v_10 w_11 hx_12 hS => ?_)
      refine Wx.append elKi_22 hS 1 rfl rfl rfl (Src.ofR hS 0 rfl) (by simp only [maxLen]; first | omega | (simp; omega) | simp) (by first | omega | (simp; omega) | simp) rfl (fun v_13 w_14 hz_15 hS => ?_)
      refine Wx.rd (v := v_13) (rd_assign rfl) rfl ?_
      refine Wx.nil ?_
      refine W.reg ?_
      refine Wx.rd (v := .int .i64 k) (rd_move rfl) rfl ?_
      refine Wx.rd (v := .int .i64 (k + 1)) (rd_add rfl rfl (in_i64 (by omega) (by omega))) rfl ?_
      refine Wx.rd (v := .int .i64 (k + 1)) (rd_assign rfl) rfl ?_
      refine Wx.nil ?_
      refine ⟨(k + 1, v_13, lab ++ [k]), (by show (H.length + 1 - (k + 1)).toNat < (H.length + 1 - k).toNat; omega), ?_, ?_, Out.look rfl Out.self⟩
      · exact ⟨hS.tl, (by first | omega | assumption), (by first | omega | assumption), (by rw [rng_snoc h0, ← h2]), (by simp only [List.length_append, List.length_cons, List.length_nil]; omega)⟩
      · exact ⟨rfl, rfl, trivial⟩
    · -- no
      refine W.exit rfl ?_
      refine W.seq ?_
      refine W.reg ?_
      refine Wx.rd (v := (.slice none 0 0)) (rd_assign rfl) rfl ?_
      refine Wx.nil ?_
      refine W.seq ?_
      refine W.seq ?_
      refine W.reg ?_
      refine Wx.rd (v := .int .i64 0) (rd_assign rfl) rfl ?_
      refine Wx.nil ?_
      refine W.block ?_
      have hS := hS.addNil (tP (tI .i64) (tI .i64)) 74
      refine W.loop [7, 8, 9, 10, 11, 12, 29, 30, 31, 32, 33, 34, 35, 36, 37, 38, 39, 40, 41, 42, 43, 44, 45, 46, 47, 48, 49, 50, 51, 52, 53, 54, 55, 56, 57, 58, 59, 60, 61, 62, 63, 64, 65, 66, 67, 68, 69, 70, 71, 72, 73, 74, 75, 76, 77, 78, 79, 80, 81, 82, 83, 84, 85, 86, 87, 88, 89, 90, 91, 92] (fun x : Int × (List Int) × Value × (List (Int × Int)) => match x with | (h, lb1, ov, out) => [(8, .int .i64 h), (7, ov)]) (fun (x : Int × (List Int) × Value × (List (Int × Int))) w' => match x with | (h, lb1, ov, out) => St w O w' [.row (tP (tI .i64) (tI .i64)) 74 ov out, .row (tI .i64) 3 lv lb1, .box g_1 27 [.int .i64 R, .int .i64 C, hv]] ∧ 0 ≤ h ∧ h ≤ 31 ∧ LabI H.length lb1 out ∧ arest C H h out = treeV C H ∧ (out.length : Int) ≤ 1369 * h) (fun x : Int × (List Int) × Value × (List (Int × Int)) => match x with | (h, lb1, ov, out) => (31 - h).toNat) (0, lab, (.slice none 0 0), []) ⟨rfl, rfl, trivial⟩ ⟨hS, (by first | omega | simp), (by first | omega | simp), (by rw [h2, show k = (H.length : Int) + 1 by omega]; exact lab_start (by omega)), (tree_fold.symm), (by decide)⟩ ?_
      rintro ⟨h, lb1, ov, out⟩ u_17 w_16 ⟨hS, i0, i1, i2, i3, i4⟩
      refine W.seq ?_
      refine W.seq ?_
      refine W.reg ?_
      refine Wx.rd (v := .int .i64 h) (rd_move rfl) rfl ?_
      refine Wx.rd (v := .bool (decide (h ≤ 30))) (rd_leq rfl rfl) rfl ?_
      refine Wx.nil ?_
      refine W.condD rfl (fun c2 => ?_) (fun c2 => ?_)
      · -- yes
        refine W.skip ?_
        refine W.seq ?_
        refine W.block ?_
        refine W.seq ?_
        refine W.reg ?_
        refine Wx.rd (v := .int .i64 0) (rd_assign rfl) rfl ?_
        refine Wx.nil ?_
        refine W.block ?_
        refine W.loop [7, 9, 10, 11, 12, 33, 34, 35, 36, 37, 38, 39, 40, 41, 42, 43, 44, 45, 46, 47, 48, 49, 50, 51, 52, 53, 54, 55, 56, 57, 58, 59, 60, 61, 62, 63, 64, 65, 66, 67, 68, 69, 70, 71, 72, 73, 74, 75, 76, 77, 78, 79, 80, 81, 82, 83, 84, 85, 86, 87, 88, 89, 90, 91, 92] (fun x : Int × (List Int) × Value × (List (Int × Int)) => match x with | (a, lb2, ov2, out2) => [(9, .int .i64 a), (7, ov2)]) (fun (x : Int × (List Int) × Value × (List (Int × Int))) w' => match x with | (a, lb2, ov2, out2) => St w O w' [.row (tP (tI .i64) (tI .i64)) 74 ov2 out2, .row (tI .i64) 3 lv lb2, .box g_1 27 [.int .i64 R, .int .i64 C, hv]] ∧ 0 ≤ a ∧ a ≤ H.length ∧ LabI H.length lb2 out2 ∧ lrest C H h a out2 = treeV C H ∧ (out2.length : Int) ≤ 1369 * h + 37 * a) (fun x : Int × (List Int) × Value × (List (Int × Int)) => match x with | (a, lb2, ov2, out2) => (H.length - a).toNat) (0, lb1, ov, out) ⟨rfl, rfl, trivial⟩ ⟨hS, (by first | omega | simp), (by first | omega | simp), (i2), (by rw [← ar_next (by omega)]; exact i3), (by omega)⟩ ?_
        rintro ⟨a, lb2, ov2, out2⟩ u_19 w_18 ⟨hS, a0, a1, a2, a3, a4⟩
        refine W.seq ?_
        refine W.seq ?_
        refine W.reg ?_
        refine Wx.rd (v := .int .i64 a) (rd_move rfl) rfl ?_
        refine Wx.rd (v := .pointer (some ⟨g_1, 2, none⟩)) (rd_fieldAddr rfl foKi_27_2) rfl ?_
        refine Wx.rd (v := hv) (rd_loadX hS 2 rfl rfl rfl Try.isAgg22) rfl ?_
        refine Wx.rd (v := .int .i64 (H.length : Int)) (rd_lenV rfl (hS.arg a_hv) Try.underlying22) rfl ?_
        refine Wx.rd (v := .bool (decide (a < (H.length : Int)))) (rd_lss rfl rfl) rfl ?_
        refine Wx.nil ?_
        refine W.condD rfl (fun c3 => ?_) (fun c3 => ?_)
        · -- yes
          refine W.skip ?_
          refine W.seq ?_
          refine W.block ?_
          refine W.seq ?_
          refine W.reg ?_
          refine Wx.rd (v := .int .i64 0) (rd_assign rfl) rfl ?_
          refine Wx.nil ?_
          refine W.block ?_
          refine W.loop [7, 10, 11, 12, 40, 41, 42, 43, 44, 45, 46, 47, 48, 49, 50, 51, 52, 53, 54, 55, 56, 57, 58, 59, 60, 61, 62, 63, 64, 65, 66, 67, 68, 69, 70, 71, 72, 73, 74, 75, 76, 77, 78, 79, 80, 81, 82, 83, 84, 85, 86, 87, 88, 89, 90, 91, 92] (fun x : Int × (List Int) × Value × (List (Int × Int)) => match x with | (b, lb3, ov3, out3) => [(10, .int .i64 b), (7, ov3)]) (fun (x : Int × (List Int) × Value × (List (Int × Int))) w' => match x with | (b, lb3, ov3, out3) => St w O w' [.row (tP (tI .i64) (tI .i64)) 74 ov3 out3, .row (tI .i64) 3 lv lb3, .box g_1 27 [.int .i64 R, .int .i64 C, hv]] ∧ 0 ≤ b ∧ b ≤ H.length + 1 ∧ LabI H.length lb3 out3 ∧ krest C H h a b out3 = treeV C H ∧ (out3.length : Int) ≤ 1369 * h + 37 * a + b) (fun x : Int × (List Int) × Value × (List (Int × Int)) => match x with | (b, lb3, ov3, out3) => (H.length + 1 - b).toNat) (0, lb2, ov2, out2) ⟨rfl, rfl, trivial⟩ ⟨hS, (by first | omega | simp), (by first | omega | simp), (a2), (by rw [← lr_next (by omega)]; exact a3), (by omega)⟩ ?_
          rintro ⟨b, lb3, ov3, out3⟩ u_21 w_20 ⟨hS, b0, b1, b2, b3, b4⟩
          refine W.seq ?_
          refine W.seq ?_
          refine W.reg ?_
          refine Wx.rd (v := .int .i64 b) (rd_move rfl) rfl ?_
          refine Wx.rd (v := .pointer (some ⟨g_1, 2, none⟩)) (rd_fieldAddr rfl foKi_27_2) rfl ?_
          refine Wx.rd (v := hv) (rd_loadX hS 2 rfl rfl rfl Try.isAgg22) rfl ?_
          refine Wx.rd (v := .int .i64 (H.length : Int)) (rd_lenV rfl (hS.arg a_hv) Try.underlying22) rfl ?_
          refine Wx.rd (v := .bool (decide (b ≤ (H.length : Int)))) (rd_leq rfl rfl) rfl ?_
          refine Wx.nil ?_
          refine W.condD rfl (fun c4 => ?_) (fun c4 => ?_)
          · -- yes
            have hll := b2.1
            refine W.skip ?_
            refine W.seq ?_
            refine W.block ?_
            refine W.seq ?_
            refine W.seq ?_
            refine W.regQ mixedKi_ (by kernel_rfl) ?_
            refine Wx.rd (v := .agg #[.int .i64 R, .int .i64 C, hv]) (rd_loadXs (ds := [.int .i64 R, .int .i64 C, hv]) hS 2 rfl rfl rfl rfl Try.isAgg27 Try.sizeOf27) rfl ?_
            refine Wx.rd (v := .int .i64 a) (rd_move rfl) rfl ?_
            refine Wx.rd (v := .int .i64 b) (rd_move rfl) rfl ?_
            refine Wx.callV (v := .int .i64 (jointI C H a b)) (run_callF Try.call81 rfl) (fun w_22 hw_23 => (F81 i_R i_C ((hS.arg a_hv).ext hw_23) (in_i64 (by omega) (by omega)) (in_i64 (by omega) (by omega)) p_ok (by omega) (by omega))) rfl ?_
            have hjb := jointI_bd p_ok (a := a) (b := b) ⟨a0, by omega⟩ ⟨b0, by omega⟩
            refine Wx.rd (v := .int .i64 h) (rd_move rfl) rfl ?_
            refine Wx.rd (v := .bool (decide ((jointI C H a b) ≠ h))) (rd_neq rfl rfl) rfl ?_
            refine Wx.rd (v := .bool (decide ((jointI C H a b) ≠ h))) (rd_move rfl) rfl ?_
            refine Wx.cutQ (X := Unit) 10 [54, 55, 56, 57, 58, 59, 60, 61, 62, 63] (fun _ => [(63, .bool (decide ((jointI C H a b) ≠ h) || decide ((ix 0 lb3 a) = (ix 0 lb3 b))))]) (fun _ => True) ?_ ?_
            · rcases Bool.eq_false_or_eq_true (decide ((jointI C H a b) ≠ h)) with g_24 | g_24
              · -- True
                have gp_25 := of_decide_eq_true g_24
                refine Wx.gnoB rfl rfl (congrArg Value.bool g_24) rfl rfl ?_
                refine Wx.gnoB rfl rfl (congrArg Value.bool g_24) rfl rfl ?_
                refine Wx.gnoB rfl rfl (congrArg Value.bool g_24) rfl rfl ?_
                refine Wx.gnoB rfl rfl (congrArg Value.bool g_24) rfl rfl ?_
                refine Wx.gnoB rfl rfl (congrArg Value.bool g_24) rfl rfl ?_
                refine Wx.gnoB rfl rfl (congrArg Value.bool g_24) rfl rfl ?_
                refine Wx.gnoB rfl rfl (congrArg Value.bool g_24) rfl rfl ?_
                refine Wx.gnoB rfl rfl (congrArg Value.bool g_24) rfl rfl ?_
                refine Wx.gnoB rfl rfl (congrArg Value.bool g_24) rfl rfl ?_
                refine Wx.rd (v := .bool true) (rd_pickT (congrArg Value.bool g_24) rfl) rfl ?_
                refine Wx.nilQ (fun _ _ => ⟨(), trivial, ⟨?_, trivial⟩, Out.look rfl Out.refl⟩)
                show Value.bool true = Value.bool (decide ((jointI C H a b) ≠ h) || decide ((ix 0 lb3 a) = (ix 0 lb3 b)))
                first | rw [g_24, Bool.true_or] | (rw [g_24]; rfl)
              · -- False
                have gp_26 := of_decide_eq_false g_24
                refine Wx.gyes rfl rfl (congrArg Value.bool g_24) ?_
                refine Wx.rd (v := lv) (rd_move rfl) rfl ?_
                refine Wx.gyes rfl rfl (congrArg Value.bool g_24) ?_
                refine Wx.rd (v := .int .i64 a) (rd_move rfl) rfl ?_
                refine Wx.gyes rfl rfl (congrArg Value.bool g_24) ?_
                refine Wx.indexR hS 1 rfl rfl rfl Try.underlying22 Try.sizeOf3 (by first | omega | (simp only [List.length_set, List.length_append, List.length_cons, List.length_nil, List.length_replicate]; omega)) (by first | omega | (simp only [List.length_set, List.length_append, List.length_cons, List.length_nil, List.length_replicate]; omega)) rfl (fun g_27 hg_28 => ?_)
                refine Wx.gyes rfl rfl (congrArg Value.bool g_24) ?_
                refine Wx.rd (v := .int .i64 (ix 0 lb3 a)) (rd_loadRI' hS 1 rfl hg_28 rfl (by first | omega | (simp only [List.length_set, List.length_append, List.length_cons, List.length_nil, List.length_replicate]; omega)) (by first | omega | (simp only [List.length_set, List.length_append, List.length_cons, List.length_nil, List.length_replicate]; omega)) Try.isAgg3 Try.sizeOf3) rfl ?_
                have bd_29 := bd_i64 (hS.rowInK' 1 rfl (by first | omega | (simp only [List.length_set, List.length_append, List.length_cons, List.length_nil, List.length_replicate]; omega)) (by first | omega | (simp only [List.length_set, List.length_append, List.length_cons, List.length_nil, List.length_replicate]; omega)) : InK .i64 (ix 0 lb3 a))
                refine Wx.gyes rfl rfl (congrArg Value.bool g_24) ?_
                refine Wx.rd (v := lv) (rd_move rfl) rfl ?_
                refine Wx.gyes rfl rfl (congrArg Value.bool g_24) ?_
                refine Wx.rd (v := .int .i64 b) (rd_move rfl) rfl ?_
                refine Wx.gyes rfl rfl (congrArg Value.bool g_24) ?_
                refine Wx.indexR hS 1 rfl rfl rfl Try.underlying22 Try.sizeOf3 (by first | omega | (simp only [List.length_set, List.length_append, List.length_cons, List.length_nil, List.length_replicate]; omega)) (by first | omega | (simp only [List.length_set, List.length_append, List.length_cons, List.length_nil, List.length_replicate]; omega)) rfl (fun g_30 hg_31 => ?_)
                refine Wx.gyes rfl rfl (congrArg Value.bool g_24) ?_
                refine Wx.rd (v := .int .i64 (ix 0 lb3 b)) (rd_loadRI' hS 1 rfl hg_31 rfl (by first | omega | (simp only [List.length_set, List.length_append, List.length_cons, List.length_nil, List.length_replicate]; omega)) (by first | omega | (simp only [List.length_set, List.length_append, List.length_cons, List.length_nil, List.length_replicate]; omega)) Try.isAgg3 Try.sizeOf3) rfl ?_
                have bd_32 := bd_i64 (hS.rowInK' 1 rfl (by first | omega | (simp only [List.length_set, List.length_append, List.length_cons, List.length_nil, List.length_replicate]; omega)) (by first | omega | (simp only [List.length_set, List.length_append, List.length_cons, List.length_nil, List.length_replicate]; omega)) : InK .i64 (ix 0 lb3 b))
                refine Wx.gyes rfl rfl (congrArg Value.bool g_24) ?_
                refine Wx.rd (v := .bool (decide ((ix 0 lb3 a) = (ix 0 lb3 b)))) (rd_eql rfl rfl) rfl ?_
                refine Wx.rd (v := .bool (decide ((ix 0 lb3 a) = (ix 0 lb3 b)))) (rd_pickF (congrArg Value.bool g_24) rfl) rfl ?_
                refine Wx.nilQ (fun _ _ => ⟨(), trivial, ⟨?_, trivial⟩, Out.look rfl Out.refl⟩)
                show Value.bool (decide ((ix 0 lb3 a) = (ix 0 lb3 b))) = Value.bool (decide ((jointI C H a b) ≠ h) || decide ((ix 0 lb3 a) = (ix 0 lb3 b)))
                first | rw [g_24, Bool.false_or] | (rw [g_24]; rfl)
            rintro ⟨⟩ u_34 -
            refine Wx.nilQ (fun w_35 hx_36 => ?_)
            have hS := hS.ext hx_36
            refine W.cond rfl (fun c5 => ?_) (fun c5 => ?_)
            · -- yes
              try simp only [Bool.and_eq_true, Bool.or_eq_true, Bool.not_eq_true', Bool.and_eq_false_iff, Bool.or_eq_false_iff, Bool.not_eq_false', decide_eq_true_eq, decide_eq_false_iff_not, not_or, Bool.false_eq_true, Bool.true_eq_false, false_or, or_false, not_false_eq_true] at c5
              refine W.exit rfl ?_
              refine W.reg ?_
              refine Wx.rd (v := .int .i64 b) (rd_move rfl) rfl ?_
              refine Wx.rd (v := .int .i64 (b + 1)) (rd_add rfl rfl (in_i64 (by omega) (by omega))) rfl ?_
              refine Wx.rd (v := .int .i64 (b + 1)) (rd_assign rfl) rfl ?_
              refine Wx.nil ?_
              refine ⟨(b + 1, lb3, ov3, out3), (by show (H.length + 1 - (b + 1)).toNat < (H.length + 1 - b).toNat; omega), ?_, ?_, Out.look rfl (Out.hav rfl (Out.look rfl Out.self))⟩
              · exact ⟨hS, (by first | omega | assumption), (by first | omega | assumption), (b2), (by rw [← b3, kr_skip (by omega) (c5.imp id fun q => (lab_con b2 ⟨by omega, by omega⟩ ⟨by omega, by omega⟩).2 q)]), (by omega)⟩
              · exact ⟨rfl, rfl, trivial⟩
            · -- no
              try simp only [Bool.and_eq_true, Bool.or_eq_true, Bool.not_eq_true', Bool.and_eq_false_iff, Bool.or_eq_false_iff, Bool.not_eq_false', decide_eq_true_eq, decide_eq_false_iff_not, not_or, Bool.false_eq_true, Bool.true_eq_false, false_or, or_false, not_false_eq_true] at c5
              have hne : ix 0 lb3 a ≠ ix 0 lb3 b := c5.2
              have hnc : ¬ conF out3 a b = true := fun q => hne ((lab_con b2 ⟨by omega, by omega⟩ ⟨by omega, by omega⟩).1 q)
              refine W.skip ?_
              refine W.seq ?_
              refine W.reg ?_
              refine Wx.rd (v := ov3) (rd_move rfl) rfl ?_
              refine Wx.rd (v := .int .i64 a) (rd_move rfl) rfl ?_
              refine Wx.rd (v := .int .i64 b) (rd_move rfl) rfl ?_
              refine Wx.rd (v := .agg #[.int .i64 a, .int .i64 b]) (rd_build (vs := [(0, .int .i64 a), (1, .int .i64 b)]) rfl (by kernel_rfl)) rfl ?_
              refine Wx.lit (t := (tP (tI .i64) (tI .i64))) (ys := [(a, b)]) (vs := [.agg #[.int .i64 a, .int .i64 b]]) elKi_52 hS rfl rfl ⟨(V.mk2 (in_i64 (by omega) (by omega)) (in_i64 (by omega) (by omega))), trivial⟩ (by decide) rfl (fun v_37 w_38 hx_39 hS => ?_)
              refine Wx.append elKi_52 hS 1 rfl rfl rfl (Src.ofR hS 0 rfl) (by simp only [maxLen]; first | omega | (simp; omega) | simp) (by first | omega | (simp; omega) | simp) rfl (fun v_40 w_41 hz_42 hS => ?_)
              refine Wx.rd (v := v_40) (rd_assign rfl) rfl ?_
              refine Wx.nil ?_
              refine W.seq ?_
              refine W.reg ?_
              refine Wx.rd (v := lv) (rd_move rfl) rfl ?_
              refine Wx.rd (v := .int .i64 a) (rd_move rfl) rfl ?_
              refine Wx.indexR hS 2 rfl rfl rfl Try.underlying22 Try.sizeOf3 (by first | omega | (simp only [List.length_set, List.length_append, List.length_cons, List.length_nil, List.length_replicate]; omega)) (by first | omega | (simp only [List.length_set, List.length_append, List.length_cons, List.length_nil, List.length_replicate]; omega)) rfl (fun g_43 hg_44 => ?_)
              refine Wx.rd (v := .int .i64 (ix 0 lb3 a)) (rd_loadRI' hS 2 rfl hg_44 rfl (by first | omega | (simp only [List.length_set, List.length_append, List.length_cons, List.length_nil, List.length_replicate]; omega)) (by first | omega | (simp only [List.length_set, List.length_append, List.length_cons, List.length_nil, List.length_replicate]; omega)) Try.isAgg3 Try.sizeOf3) rfl ?_
              have bd_45 := bd_i64 (hS.rowInK' 2 rfl (by first | omega | (simp only [List.length_set, List.length_append, List.length_cons, List.length_nil, List.length_replicate]; omega)) (by first | omega | (simp only [List.length_set, List.length_append, List.length_cons, List.length_nil, List.length_replicate]; omega)) : InK .i64 (ix 0 lb3 a))
              refine Wx.rd (v := .int .i64 (ix 0 lb3 a)) (rd_assign rfl) rfl ?_
              refine Wx.nil ?_
              refine W.seq ?_
              refine W.reg ?_
              refine Wx.rd (v := .int .i64 0) (rd_assign rfl) rfl ?_
              refine Wx.nil ?_
              refine W.block ?_
              refine W.loop [12, 74, 75, 76, 77, 78, 79, 80, 81, 82, 83, 84, 85, 86, 87, 88, 89, 90, 91, 92] (fun x : Int × (List Int) => match x with | (z, lb4) => [(12, .int .i64 z)]) (fun (x : Int × (List Int)) w' => match x with | (z, lb4) => St w O w' [.row (tP (tI .i64) (tI .i64)) 74 v_37 [(a, b)], .row (tP (tI .i64) (tI .i64)) 74 v_40 (out3 ++ [(a, b)]), .row (tI .i64) 3 lv lb4, .box g_1 27 [.int .i64 R, .int .i64 C, hv]] ∧ 0 ≤ z ∧ z ≤ lb3.length ∧ RelI lb3 lb4 (ix 0 lb3 a) (ix 0 lb3 b) z) (fun x : Int × (List Int) => match x with | (z, lb4) => (lb3.length - z).toNat) (0, lb3) ⟨rfl, trivial⟩ ⟨hS, (by first | omega | simp), (by first | omega | simp), (rel_start)⟩ ?_
              rintro ⟨z, lb4⟩ u_47 w_46 ⟨hS, z0, z1, k2⟩
              refine W.seq ?_
              refine W.seq ?_
              refine W.reg ?_
              refine Wx.rd (v := .int .i64 z) (rd_move rfl) rfl ?_
              refine Wx.rd (v := lv) (rd_move rfl) rfl ?_
              refine Wx.rd (v := .int .i64 (lb4.length : Int)) (rd_lenR hS 2 rfl rfl Try.underlying22) rfl ?_
              refine Wx.rd (v := .bool (decide (z < (lb4.length : Int)))) (rd_lss rfl rfl) rfl ?_
              refine Wx.nil ?_
              refine W.condD rfl (fun c6 => ?_) (fun c6 => ?_)
              · -- yes
                have hl4 := k2.1
                refine W.skip ?_
                refine W.seq ?_
                refine W.block ?_
                refine W.seq ?_
                refine W.reg ?_
                refine Wx.rd (v := lv) (rd_move rfl) rfl ?_
                refine Wx.rd (v := .int .i64 z) (rd_move rfl) rfl ?_
                refine Wx.indexR hS 2 rfl rfl rfl Try.underlying22 Try.sizeOf3 (by first | omega | (simp only [List.length_set, List.length_append, List.length_cons, List.length_nil, List.length_replicate]; omega)) (by first | omega | (simp only [List.length_set, List.length_append, List.length_cons, List.length_nil, List.length_replicate]; omega)) rfl (fun g_48 hg_49 => ?_)
                refine Wx.rd (v := .int .i64 (ix 0 lb4 z)) (rd_loadRI' hS 2 rfl hg_49 rfl (by first | omega | (simp only [List.length_set, List.length_append, List.length_cons, List.length_nil, List.length_replicate]; omega)) (by first | omega | (simp only [List.length_set, List.length_append, List.length_cons, List.length_nil, List.length_replicate]; omega)) Try.isAgg3 Try.sizeOf3) rfl ?_
                have bd_50 := bd_i64 (hS.rowInK' 2 rfl (by first | omega | (simp only [List.length_set, List.length_append, List.length_cons, List.length_nil, List.length_replicate]; omega)) (by first | omega | (simp only [List.length_set, List.length_append, List.length_cons, List.length_nil, List.length_replicate]; omega)) : InK .i64 (ix 0 lb4 z))
                refine Wx.rd (v := .int .i64 (ix 0 lb3 a)) (rd_move rfl) rfl ?_
                refine Wx.rd (v := .bool (decide ((ix 0 lb4 z) = (ix 0 lb3 a)))) (rd_eql rfl rfl) rfl ?_
                refine Wx.nil ?_
                refine W.condD rfl (fun c7 => ?_) (fun c7 => ?_)
                · -- yes
                  have hnb := rel_new k2 b0 (by omega) rfl hne
                  refine W.reg ?_
                  refine Wx.rd (v := lv) (rd_move rfl) rfl ?_
                  refine Wx.rd (v := .int .i64 z) (rd_move rfl) rfl ?_
                  refine Wx.rd (v := lv) (rd_move rfl) rfl ?_
                  refine Wx.rd (v := .int .i64 b) (rd_move rfl) rfl ?_
                  refine Wx.indexR hS 2 rfl rfl rfl Try.underlying22 Try.sizeOf3 (by first | omega | (simp only [List.length_set, List.length_append, List.length_cons, List.length_nil, List.length_replicate]; omega)) (by first | omega | (simp only [List.length_set, List.length_append, List.length_cons, List.length_nil, List.length_replicate]; omega)) rfl (fun g_51 hg_52 => ?_)
                  refine Wx.rd (v := .int .i64 (ix 0 lb4 b)) (rd_loadRI' hS 2 rfl hg_52 rfl (by first | omega | (simp only [List.length_set, List.length_append, List.length_cons, List.length_nil, List.length_replicate]; omega)) (by first | omega | (simp only [List.length_set, List.length_append, List.length_cons, List.length_nil, List.length_replicate]; omega)) Try.isAgg3 Try.sizeOf3) rfl ?_
                  have bd_53 := bd_i64 (hS.rowInK' 2 rfl (by first | omega | (simp only [List.length_set, List.length_append, List.length_cons, List.length_nil, List.length_replicate]; omega)) (by first | omega | (simp only [List.length_set, List.length_append, List.length_cons, List.length_nil, List.length_replicate]; omega)) : InK .i64 (ix 0 lb4 b))
                  refine Wx.indexR hS 2 rfl rfl rfl Try.underlying22 Try.sizeOf3 (by first | omega | (simp only [List.length_set, List.length_append, List.length_cons, List.length_nil, List.length_replicate]; omega)) (by first | omega | (simp only [List.length_set, List.length_append, List.length_cons, List.length_nil, List.length_replicate]; omega)) rfl (fun g_54 hg_55 => ?_)
                  refine Wx.storeR (j := z.toNat) (z := ix 0 lb4 b) hS 2 rfl hg_55 rfl (by first | omega | (simp only [List.length_set, List.length_append, List.length_cons, List.length_nil, List.length_replicate]; omega)) rfl (V.mkInt (in_i64 (by omega) (by omega))) Try.sizeOf3 (fun w_56 hz_57 hS => ?_)
                  refine Wx.nil ?_
                  refine W.reg ?_
                  refine Wx.rd (v := .int .i64 z) (rd_move rfl) rfl ?_
                  refine Wx.rd (v := .int .i64 (z + 1)) (rd_add rfl rfl (in_i64 (by omega) (by omega))) rfl ?_
                  refine Wx.rd (v := .int .i64 (z + 1)) (rd_assign rfl) rfl ?_
                  refine Wx.nil ?_
                  refine ⟨(z + 1, List.set lb4 z.toNat (ix 0 lb4 b)), (by show (lb3.length - (z + 1)).toNat < (lb3.length - z).toNat; omega), ?_, ?_, Out.look rfl Out.self⟩
                  · exact ⟨hS, (by first | omega | assumption), (by first | omega | assumption), (by rw [hnb]; exact rel_hit k2 z0 (by omega) c7)⟩
                  · exact ⟨rfl, trivial⟩
                · -- no
                  refine W.skip ?_
                  refine W.reg ?_
                  refine Wx.rd (v := .int .i64 z) (rd_move rfl) rfl ?_
                  refine Wx.rd (v := .int .i64 (z + 1)) (rd_add rfl rfl (in_i64 (by omega) (by omega))) rfl ?_
                  refine Wx.rd (v := .int .i64 (z + 1)) (rd_assign rfl) rfl ?_
                  refine Wx.nil ?_
                  refine ⟨(z + 1, lb4), (by show (lb3.length - (z + 1)).toNat < (lb3.length - z).toNat; omega), ?_, ?_, Out.look rfl Out.self⟩
                  · exact ⟨hS, (by first | omega | assumption), (by first | omega | assumption), (rel_miss k2 z0 (by omega) c7)⟩
                  · exact ⟨rfl, trivial⟩
              · -- no
                have hl4 := k2.1
                refine W.exit rfl ?_
                refine W.reg ?_
                refine Wx.rd (v := .int .i64 b) (rd_move rfl) rfl ?_
                refine Wx.rd (v := .int .i64 (b + 1)) (rd_add rfl rfl (in_i64 (by omega) (by omega))) rfl ?_
                refine Wx.rd (v := .int .i64 (b + 1)) (rd_assign rfl) rfl ?_
                refine Wx.nil ?_
                refine ⟨(b + 1, lb4, v_40, out3 ++ [(a, b)]), (by show (H.length + 1 - (b + 1)).toNat < (H.length + 1 - b).toNat; omega), ?_, ?_, Out.look rfl (Out.hav rfl (Out.look rfl (Out.hav rfl (Out.look rfl Out.self))))⟩
                · exact ⟨hS.tl, (by first | omega | assumption), (by first | omega | assumption), (lab_add b2 ⟨by omega, by omega⟩ ⟨by omega, by omega⟩ k2 (by omega) hne), (by rw [← b3, kr_take (by omega) (Decidable.not_not.1 c5.1) hnc]), (by simp only [List.length_append, List.length_cons, List.length_nil]; omega)⟩
                · exact ⟨rfl, rfl, trivial⟩
          · -- no
            refine W.exit rfl ?_
            refine W.reg ?_
            refine Wx.rd (v := .int .i64 a) (rd_move rfl) rfl ?_
            refine Wx.rd (v := .int .i64 (a + 1)) (rd_add rfl rfl (in_i64 (by omega) (by omega))) rfl ?_
            refine Wx.rd (v := .int .i64 (a + 1)) (rd_assign rfl) rfl ?_
            refine Wx.nil ?_
            refine ⟨(a + 1, lb3, ov3, out3), (by show (H.length - (a + 1)).toNat < (H.length - a).toNat; omega), ?_, ?_, Out.look rfl (Out.hav rfl (Out.look rfl Out.self))⟩
            · exact ⟨hS, (by first | omega | assumption), (by first | omega | assumption), (b2), (by rw [← b3, kr_end (by omega)]), (by omega)⟩
            · exact ⟨rfl, rfl, trivial⟩
        · -- no
          refine W.exit rfl ?_
          refine W.reg ?_
          refine Wx.rd (v := .int .i64 h) (rd_move rfl) rfl ?_
          refine Wx.rd (v := .int .i64 (h + 1)) (rd_add rfl rfl (in_i64 (by omega) (by omega))) rfl ?_
          refine Wx.rd (v := .int .i64 (h + 1)) (rd_assign rfl) rfl ?_
          refine Wx.nil ?_
          refine ⟨(h + 1, lb2, ov2, out2), (by show (31 - (h + 1)).toNat < (31 - h).toNat; omega), ?_, ?_, Out.look rfl (Out.hav rfl (Out.look rfl Out.self))⟩
          · exact ⟨hS, (by first | omega | assumption), (by first | omega | assumption), (a2), (by rw [← a3, lr_end (by omega)]), (by omega)⟩
          · exact ⟨rfl, rfl, trivial⟩
      · -- no
        refine W.exit rfl ?_
        refine W.seq ?_
        refine W.reg ?_
        refine Wx.rd (v := ov) (rd_move rfl) rfl ?_
        refine Wx.rd (v := ov) (rd_assign rfl) rfl ?_
        refine Wx.rd (v := .int .i64 0) (rd_assign rfl) rfl ?_
        refine Wx.nil ?_
        have e1_0 : treeE R C H = out := by rw [treeE, if_pos h0c, ← i3, arest, jAll_end (by omega)]; rfl
        have e1_1 : (checkS R C H) = (0 : Int) := by exact h0c
        exact W.ret ⟨.tuple #[ov, .int .i64 0], ResIs.two, hS.bel, ⟨ov, (by rw [e1_1]), (by rw [e1_0]; exact (hS.fr 0 rfl flat_i2))⟩⟩
end Go.Proofs.Ytjhimoeodkaihaa

namespace Go.Proofs.Ytjhimoeodkaihaa
open Go.Wk Go.RowKit Go.Lib
set_option linter.unusedVariables false
set_option linter.unusedSimpArgs false
theorem mixedMa_ : Try.prog.follows .mixedOrders = true := by kernel_rfl
theorem elMa_22 : ElemI Try.prog 22 3 (.int .i64 0) 1 8 := ElemI.of Try.underlying22 (by kernel_rfl) (by first | rfl | kernel_rfl) (by decide)

theorem F21 {xv : Value} {xs : List Int} {Fr_xv : List (Option Nat)} {yv : Value} {ys : List Int} {Fr_yv : List (Option Nat)} {w : World} (h_xv : V (tSl (tI .i64)) xs xv Fr_xv w) (h_yv : V (tSl (tI .i64)) ys yv Fr_yv w) : Calls Try.prog 21 #[xv, yv] w (Ret w (fun r _ => r = .bool (decide (xs = ys)))) := by
  have a_xv := h_xv.any
  have l_xv := h_xv.len63
  have a_yv := h_yv.any
  have l_yv := h_yv.len63
  have hS := St.start0 w
  refine enterR Try.func21 rfl Try.ntmps21 Try.results21 rfl ?_
  refine W.seq ?_
  refine W.reg ?_
  refine Wx.rd (v := .bool false) (rd_assign rfl) rfl ?_
  refine Wx.nil ?_
  refine W.seq ?_
  refine W.seq ?_
  refine W.reg ?_
  refine Wx.rd (v := xv) (rd_move rfl) rfl ?_
  refine Wx.rd (v := .int .i64 (xs.length : Int)) (rd_lenV rfl (hS.arg a_xv) Try.underlying22) rfl ?_
  refine Wx.rd (v := yv) (rd_move rfl) rfl ?_
  refine Wx.rd (v := .int .i64 (ys.length : Int)) (rd_lenV rfl (hS.arg a_yv) Try.underlying22) rfl ?_
  refine Wx.rd (v := .bool (decide ((xs.length : Int) ≠ (ys.length : Int)))) (rd_neq rfl rfl) rfl ?_
  refine Wx.nil ?_
  refine W.condD rfl (fun c0 => ?_) (fun c0 => ?_)
  · -- yes
    refine W.seq ?_
    refine W.reg ?_
    refine Wx.rd (v := .bool false) (rd_assign rfl) rfl ?_
    refine Wx.nil ?_
    have e0_0 : (decide (xs = ys)) = false := by exact decide_eq_false (fun h : xs = ys => c0 (by rw [h]))
    exact W.ret ⟨.bool false, ResIs.one, hS.bel, (by rw [e0_0])⟩
  · -- no
    refine W.skip ?_
    refine W.seq ?_
    refine W.seq ?_
    refine W.reg ?_
    refine Wx.rd (v := .int .i64 0) (rd_assign rfl) rfl ?_
    refine Wx.nil ?_
    refine W.block ?_
    refine W.loop [4, 5, 11, 12, 13, 14, 15, 16, 17, 18, 19, 20, 21, 22, 23, 24, 25] (fun (k : Int) => [(5, .int .i64 k)]) (fun (k : Int) w' => St w [] w' [] ∧ 0 ≤ k ∧ k ≤ xs.length ∧ decide (xs.drop k.toNat = ys.drop k.toNat) = decide (xs = ys)) (fun (k : Int) => (xs.length - k).toNat) 0 ⟨rfl, trivial⟩ ⟨hS, (by first | omega | simp), (by first | omega | simp), (by simp)⟩ ?_
    rintro k u_2 w_1 ⟨hS, h0, h1, h2⟩
    refine W.seq ?_
    refine W.seq ?_
    refine W.reg ?_
    refine Wx.rd (v := .int .i64 k) (rd_move rfl) rfl ?_
    refine Wx.rd (v := xv) (rd_move rfl) rfl ?_
    refine Wx.rd (v := .int .i64 (xs.length : Int)) (rd_lenV rfl (hS.arg a_xv) Try.underlying22) rfl ?_
    refine Wx.rd (v := .bool (decide (k < (xs.length : Int)))) (rd_lss rfl rfl) rfl ?_
    refine Wx.nil ?_
    refine W.condD rfl (fun c1 => ?_) (fun c1 => ?_)
    · -- yes
      refine W.skip ?_
      refine W.seq ?_
      refine W.block ?_
      refine W.seq ?_
      refine W.regQ mixedMa_ (by kernel_rfl) ?_
      refine Wx.rd (v := xv) (rd_move rfl) rfl ?_
      refine Wx.rd (v := .int .i64 k) (rd_move rfl) rfl ?_
      refine Wx.ex (rd_index 0 (hS.arg a_xv) rfl rfl Try.underlying22 Try.sizeOf3 (by first | omega | (simp only [List.length_set, List.length_append, List.length_cons, List.length_nil, List.length_replicate]; omega)) (by first | omega | (simp only [List.length_set, List.length_append, List.length_cons, List.length_nil, List.length_replicate]; omega))) rfl (fun p_3 hp_4 => ?_)
      refine Wx.rd (v := .int .i64 (ix 0 xs k)) (rd_loadI hp_4 rfl Try.isAgg3 Try.sizeOf3) rfl ?_
      have bd_5 := bd_i64 hp_4.inK
      refine Wx.rd (v := yv) (rd_move rfl) rfl ?_
      refine Wx.rd (v := .int .i64 k) (rd_move rfl) rfl ?_
      refine Wx.ex (rd_index 0 (hS.arg a_yv) rfl rfl Try.underlying22 Try.sizeOf3 (by first | omega | (simp only [List.length_set, List.length_append, List.length_cons, List.length_nil, List.length_replicate]; omega)) (by first | omega | (simp only [List.length_set, List.length_append, List.length_cons, List.length_nil, List.length_replicate]; omega))) rfl (fun p_6 hp_7 => ?_)
      refine Wx.rd (v := .int .i64 (ix 0 ys k)) (rd_loadI hp_7 rfl Try.isAgg3 Try.sizeOf3) rfl ?_
      have bd_8 := bd_i64 hp_7.inK
      refine Wx.rd (v := .bool (decide ((ix 0 xs k) ≠ (ix 0 ys k)))) (rd_neq rfl rfl) rfl ?_
      refine Wx.nilQ (fun w_9 hx_10 => ?_)
      have hS := hS.ext hx_10
      refine W.condD rfl (fun c2 => ?_) (fun c2 => ?_)
      · -- yes
        refine W.seq ?_
        refine W.reg ?_
        refine Wx.rd (v := .bool false) (rd_assign rfl) rfl ?_
        refine Wx.nil ?_
        have he : ¬ ix 0 xs k = ix 0 ys k := fun hh => by rw [hh] at c2; omega
        have e1_0 : (decide (xs = ys)) = false := by rw [← h2, drop_ix (d := 0) h0 c1, drop_ix (d := 0) (xs := ys) h0 (by omega)]; simp [he]
        exact W.ret ⟨.bool false, ResIs.one, hS.bel, (by rw [e1_0])⟩
      · -- no
        refine W.skip ?_
        refine W.reg ?_
        refine Wx.rd (v := .int .i64 k) (rd_move rfl) rfl ?_
        refine Wx.rd (v := .int .i64 (k + 1)) (rd_add rfl rfl (in_i64 (by omega) (by omega))) rfl ?_
        refine Wx.rd (v := .int .i64 (k + 1)) (rd_assign rfl) rfl ?_
        refine Wx.nil ?_
        have he : ix 0 xs k = ix 0 ys k := by omega
        refine ⟨k + 1, (by show (xs.length - (k + 1)).toNat < (xs.length - k).toNat; omega), ?_, ?_, Out.look rfl Out.self⟩
        · exact ⟨hS, (by first | omega | assumption), (by first | omega | assumption), (by rw [← h2, drop_ix (d := 0) h0 c1, drop_ix (d := 0) (xs := ys) h0 (by omega)]; simp [he])⟩
        · exact ⟨rfl, trivial⟩
    · -- no
      refine W.exit rfl ?_
      refine W.seq ?_
      refine W.reg ?_
      refine Wx.rd (v := .bool true) (rd_assign rfl) rfl ?_
      refine Wx.nil ?_
      have e2_0 : (decide (xs = ys)) = true := by rw [← h2, drop_end (by omega), drop_end (xs := ys) (by omega)]; simp
      exact W.ret ⟨.bool true, ResIs.one, hS.bel, (by rw [e2_0])⟩

theorem F28 {xv : Value} {xs : List (List Int)} {Fr_xv : List (Option Nat)} {yv : Value} {ys : List (List Int)} {Fr_yv : List (Option Nat)} {w : World} (h_xv : V (tSl (tSl (tI .i64))) xs xv Fr_xv w) (h_yv : V (tSl (tSl (tI .i64))) ys yv Fr_yv w) : Calls Try.prog 28 #[xv, yv] w (Ret w (fun r _ => r = .bool (decide (xs = ys)))) := by
  have a_xv := h_xv.any
  have l_xv := h_xv.len63
  have a_yv := h_yv.any
  have l_yv := h_yv.len63
  have hS := St.start0 w
  refine enterR Try.func28 rfl Try.ntmps28 Try.results28 rfl ?_
  refine W.seq ?_
  refine W.reg ?_
  refine Wx.rd (v := .bool false) (rd_assign rfl) rfl ?_
  refine Wx.nil ?_
  refine W.seq ?_
  refine W.seq ?_
  refine W.reg ?_
  refine Wx.rd (v := xv) (rd_move rfl) rfl ?_
  refine Wx.rd (v := .int .i64 (xs.length : Int)) (rd_lenV rfl (hS.arg a_xv) Try.underlying37) rfl ?_
  refine Wx.rd (v := yv) (rd_move rfl) rfl ?_
  refine Wx.rd (v := .int .i64 (ys.length : Int)) (rd_lenV rfl (hS.arg a_yv) Try.underlying37) rfl ?_
  refine Wx.rd (v := .bool (decide ((xs.length : Int) ≠ (ys.length : Int)))) (rd_neq rfl rfl) rfl ?_
  refine Wx.nil ?_
  refine W.condD rfl (fun c0 => ?_) (fun c0 => ?_)
  · -- yes
    refine W.seq ?_
    refine W.reg ?_
    refine Wx.rd (v := .bool false) (rd_assign rfl) rfl ?_
    refine Wx.nil ?_
    have e0_0 : (decide (xs = ys)) = false := by exact decide_eq_false (fun h : xs = ys => c0 (by rw [h]))
    exact W.ret ⟨.bool false, ResIs.one, hS.bel, (by rw [e0_0])⟩
  · -- no
    refine W.skip ?_
    refine W.seq ?_
    refine W.seq ?_
    refine W.reg ?_
    refine Wx.rd (v := .int .i64 0) (rd_assign rfl) rfl ?_
    refine Wx.nil ?_
    refine W.block ?_
    refine W.loop [4, 5, 11, 12, 13, 14, 15, 16, 17, 18, 19, 20, 21, 22, 23, 24, 25, 26] (fun (k : Int) => [(5, .int .i64 k)]) (fun (k : Int) w' => St w [] w' [] ∧ 0 ≤ k ∧ k ≤ xs.length ∧ decide (xs.drop k.toNat = ys.drop k.toNat) = decide (xs = ys)) (fun (k : Int) => (xs.length - k).toNat) 0 ⟨rfl, trivial⟩ ⟨hS, (by first | omega | simp), (by first | omega | simp), (by simp)⟩ ?_
    rintro k u_2 w_1 ⟨hS, h0, h1, h2⟩
    refine W.seq ?_
    refine W.seq ?_
    refine W.reg ?_
    refine Wx.rd (v := .int .i64 k) (rd_move rfl) rfl ?_
    refine Wx.rd (v := xv) (rd_move rfl) rfl ?_
    refine Wx.rd (v := .int .i64 (xs.length : Int)) (rd_lenV rfl (hS.arg a_xv) Try.underlying37) rfl ?_
    refine Wx.rd (v := .bool (decide (k < (xs.length : Int)))) (rd_lss rfl rfl) rfl ?_
    refine Wx.nil ?_
    refine W.condD rfl (fun c1 => ?_) (fun c1 => ?_)
    · -- yes
      refine W.skip ?_
      refine W.seq ?_
      refine W.block ?_
      refine W.seq ?_
      refine W.regQ mixedMa_ (by kernel_rfl) ?_
      refine Wx.rd (v := xv) (rd_move rfl) rfl ?_
      refine Wx.rd (v := .int .i64 k) (rd_move rfl) rfl ?_
      refine Wx.ex (rd_index [] (hS.arg a_xv) rfl rfl Try.underlying37 Try.sizeOf22 (by first | omega | (simp only [List.length_set, List.length_append, List.length_cons, List.length_nil, List.length_replicate]; omega)) (by first | omega | (simp only [List.length_set, List.length_append, List.length_cons, List.length_nil, List.length_replicate]; omega))) rfl (fun p_3 hp_4 => ?_)
      refine Wx.ex (rd_load hp_4 rfl Try.isAgg22 Try.sizeOf22) rfl (fun v_5 hv_6 => ?_)
      have ln_7 := hv_6.len63
      have hS := hS.add hv_6
      refine Wx.rd (v := yv) (rd_move rfl) rfl ?_
      refine Wx.rd (v := .int .i64 k) (rd_move rfl) rfl ?_
      refine Wx.ex (rd_index [] (hS.arg a_yv) rfl rfl Try.underlying37 Try.sizeOf22 (by first | omega | (simp only [List.length_set, List.length_append, List.length_cons, List.length_nil, List.length_replicate]; omega)) (by first | omega | (simp only [List.length_set, List.length_append, List.length_cons, List.length_nil, List.length_replicate]; omega))) rfl (fun p_9 hp_10 => ?_)
      refine Wx.ex (rd_load hp_10 rfl Try.isAgg22 Try.sizeOf22) rfl (fun v_11 hv_12 => ?_)
      have ln_13 := hv_12.len63
      have hS := hS.add hv_12
      refine Wx.callV (v := .bool (decide ((ix [] xs k) = (ix [] ys k)))) (run_callF Try.call21 rfl) (fun w_15 hw_16 => (F21 ((hS.v 1 rfl).ext hw_16) ((hS.v 0 rfl).ext hw_16))) rfl ?_
      refine Wx.rd (v := .bool (!(decide ((ix [] xs k) = (ix [] ys k))))) (rd_not rfl) rfl ?_
      refine Wx.nilQ (fun w_17 hx_18 => ?_)
      have hS := hS.ext hx_18
      refine W.cond rfl (fun c2 => ?_) (fun c2 => ?_)
      · -- yes
        try simp only [Bool.and_eq_true, Bool.or_eq_true, Bool.not_eq_true', Bool.and_eq_false_iff, Bool.or_eq_false_iff, Bool.not_eq_false', decide_eq_true_eq, decide_eq_false_iff_not, not_or, Bool.false_eq_true, Bool.true_eq_false, false_or, or_false, not_false_eq_true] at c2
        refine W.seq ?_
        refine W.reg ?_
        refine Wx.rd (v := .bool false) (rd_assign rfl) rfl ?_
        refine Wx.nil ?_
        have he : ¬ ix [] xs k = ix [] ys k := c2
        have e1_0 : (decide (xs = ys)) = false := by rw [← h2, drop_ix (d := []) h0 c1, drop_ix (d := []) (xs := ys) h0 (by omega)]; simp [he]
        exact W.ret ⟨.bool false, ResIs.one, hS.bel, (by rw [e1_0])⟩
      · -- no
        try simp only [Bool.and_eq_true, Bool.or_eq_true, Bool.not_eq_true', Bool.and_eq_false_iff, Bool.or_eq_false_iff, Bool.not_eq_false', decide_eq_true_eq, decide_eq_false_iff_not, not_or, Bool.false_eq_true, Bool.true_eq_false, false_or, or_false, not_false_eq_true] at c2
        refine W.skip ?_
        refine W.reg ?_
        refine Wx.rd (v := .int .i64 k) (rd_move rfl) rfl ?_
        refine Wx.rd (v := .int .i64 (k + 1)) (rd_add rfl rfl (in_i64 (by omega) (by omega))) rfl ?_
        refine Wx.rd (v := .int .i64 (k + 1)) (rd_assign rfl) rfl ?_
        refine Wx.nil ?_
        have he : ix [] xs k = ix [] ys k := c2
        refine ⟨k + 1, (by show (xs.length - (k + 1)).toNat < (xs.length - k).toNat; omega), ?_, ?_, Out.look rfl Out.self⟩
        · exact ⟨St.tl (hS.tl), (by first | omega | assumption), (by first | omega | assumption), (by rw [← h2, drop_ix (d := []) h0 c1, drop_ix (d := []) (xs := ys) h0 (by omega)]; simp [he])⟩
        · exact ⟨rfl, trivial⟩
    · -- no
      refine W.exit rfl ?_
      refine W.seq ?_
      refine W.reg ?_
      refine Wx.rd (v := .bool true) (rd_assign rfl) rfl ?_
      refine Wx.nil ?_
      have e2_0 : (decide (xs = ys)) = true := by rw [← h2, drop_end (by omega), drop_end (xs := ys) (by omega)]; simp
      exact W.ret ⟨.bool true, ResIs.one, hS.bel, (by rw [e2_0])⟩

theorem F41 {xv : Value} {xs : List (Int × Int)} {Fr_xv : List (Option Nat)} {yv : Value} {ys : List (Int × Int)} {Fr_yv : List (Option Nat)} {w : World} (h_xv : V (tSl (tP (tI .i64) (tI .i64))) xs xv Fr_xv w) (h_yv : V (tSl (tP (tI .i64) (tI .i64))) ys yv Fr_yv w) : Calls Try.prog 41 #[xv, yv] w (Ret w (fun r _ => r = .bool (decide (xs = ys)))) := by
  have a_xv := h_xv.any
  have l_xv := h_xv.len63
  have a_yv := h_yv.any
  have l_yv := h_yv.len63
  have hS := St.start0 w
  refine enterR Try.func41 rfl Try.ntmps41 Try.results41 rfl ?_
  refine W.seq ?_
  refine W.reg ?_
  refine Wx.rd (v := .bool false) (rd_assign rfl) rfl ?_
  refine Wx.nil ?_
  refine W.seq ?_
  refine W.seq ?_
  refine W.reg ?_
  refine Wx.rd (v := xv) (rd_move rfl) rfl ?_
  refine Wx.rd (v := .int .i64 (xs.length : Int)) (rd_lenV rfl (hS.arg a_xv) Try.underlying52) rfl ?_
  refine Wx.rd (v := yv) (rd_move rfl) rfl ?_
  refine Wx.rd (v := .int .i64 (ys.length : Int)) (rd_lenV rfl (hS.arg a_yv) Try.underlying52) rfl ?_
  refine Wx.rd (v := .bool (decide ((xs.length : Int) ≠ (ys.length : Int)))) (rd_neq rfl rfl) rfl ?_
  refine Wx.nil ?_
  refine W.condD rfl (fun c0 => ?_) (fun c0 => ?_)
  · -- yes
    refine W.seq ?_
    refine W.reg ?_
    refine Wx.rd (v := .bool false) (rd_assign rfl) rfl ?_
    refine Wx.nil ?_
    have e0_0 : (decide (xs = ys)) = false := by exact decide_eq_false (fun h : xs = ys => c0 (by rw [h]))
    exact W.ret ⟨.bool false, ResIs.one, hS.bel, (by rw [e0_0])⟩
  · -- no
    refine W.skip ?_
    refine W.seq ?_
    refine W.seq ?_
    refine W.reg ?_
    refine Wx.rd (v := .int .i64 0) (rd_assign rfl) rfl ?_
    refine Wx.nil ?_
    refine W.block ?_
    refine W.loop [4, 5, 11, 12, 13, 14, 15, 16, 17, 18, 19, 20, 21, 22, 23, 24, 25] (fun (k : Int) => [(5, .int .i64 k)]) (fun (k : Int) w' => St w [] w' [] ∧ 0 ≤ k ∧ k ≤ xs.length ∧ decide (xs.drop k.toNat = ys.drop k.toNat) = decide (xs = ys)) (fun (k : Int) => (xs.length - k).toNat) 0 ⟨rfl, trivial⟩ ⟨hS, (by first | omega | simp), (by first | omega | simp), (by simp)⟩ ?_
    rintro k u_2 w_1 ⟨hS, h0, h1, h2⟩
    refine W.seq ?_
    refine W.seq ?_
    refine W.reg ?_
    refine Wx.rd (v := .int .i64 k) (rd_move rfl) rfl ?_
    refine Wx.rd (v := xv) (rd_move rfl) rfl ?_
    refine Wx.rd (v := .int .i64 (xs.length : Int)) (rd_lenV rfl (hS.arg a_xv) Try.underlying52) rfl ?_
    refine Wx.rd (v := .bool (decide (k < (xs.length : Int)))) (rd_lss rfl rfl) rfl ?_
    refine Wx.nil ?_
    refine W.condD rfl (fun c1 => ?_) (fun c1 => ?_)
    · -- yes
      refine W.skip ?_
      refine W.seq ?_
      refine W.block ?_
      refine W.seq ?_
      refine W.regQ mixedMa_ (by kernel_rfl) ?_
      refine Wx.rd (v := xv) (rd_move rfl) rfl ?_
      refine Wx.rd (v := .int .i64 k) (rd_move rfl) rfl ?_
      refine Wx.ex (rd_index (0, 0) (hS.arg a_xv) rfl rfl Try.underlying52 Try.sizeOf74 (by first | omega | (simp only [List.length_set, List.length_append, List.length_cons, List.length_nil, List.length_replicate]; omega)) (by first | omega | (simp only [List.length_set, List.length_append, List.length_cons, List.length_nil, List.length_replicate]; omega))) rfl (fun p_3 hp_4 => ?_)
      refine Wx.ex (rd_load hp_4 rfl Try.isAgg74 Try.sizeOf74) rfl (fun v_5 hv_6 => ?_)
      obtain ⟨rfl, bd_7, bd_8⟩ := hv_6.i2
      have bd_7 := bd_i64 bd_7
      have bd_8 := bd_i64 bd_8
      refine Wx.rd (v := yv) (rd_move rfl) rfl ?_
      refine Wx.rd (v := .int .i64 k) (rd_move rfl) rfl ?_
      refine Wx.ex (rd_index (0, 0) (hS.arg a_yv) rfl rfl Try.underlying52 Try.sizeOf74 (by first | omega | (simp only [List.length_set, List.length_append, List.length_cons, List.length_nil, List.length_replicate]; omega)) (by first | omega | (simp only [List.length_set, List.length_append, List.length_cons, List.length_nil, List.length_replicate]; omega))) rfl (fun p_9 hp_10 => ?_)
      refine Wx.ex (rd_load hp_10 rfl Try.isAgg74 Try.sizeOf74) rfl (fun v_11 hv_12 => ?_)
      obtain ⟨rfl, bd_13, bd_14⟩ := hv_12.i2
      have bd_13 := bd_i64 bd_13
      have bd_14 := bd_i64 bd_14
      refine Wx.rd (v := .bool (!(decide ((ix (0, 0) xs k).1 = (ix (0, 0) ys k).1) && decide ((ix (0, 0) xs k).2 = (ix (0, 0) ys k).2)))) (rd_neqA2 rfl rfl Try.underlying74 Try.underlying3 Try.sizeOf3 Try.eqGuardType74) rfl ?_
      refine Wx.nilQ (fun w_15 hx_16 => ?_)
      have hS := hS.ext hx_16
      refine W.cond rfl (fun c2 => ?_) (fun c2 => ?_)
      · -- yes
        try simp only [Bool.and_eq_true, Bool.or_eq_true, Bool.not_eq_true', Bool.and_eq_false_iff, Bool.or_eq_false_iff, Bool.not_eq_false', decide_eq_true_eq, decide_eq_false_iff_not, not_or, Bool.false_eq_true, Bool.true_eq_false, false_or, or_false, not_false_eq_true] at c2
        refine W.seq ?_
        refine W.reg ?_
        refine Wx.rd (v := .bool false) (rd_assign rfl) rfl ?_
        refine Wx.nil ?_
        have he : ¬ ix (0, 0) xs k = ix (0, 0) ys k := fun hh => by rw [hh] at c2; omega
        have e1_0 : (decide (xs = ys)) = false := by rw [← h2, drop_ix (d := (0, 0)) h0 c1, drop_ix (d := (0, 0)) (xs := ys) h0 (by omega)]; simp [he]
        exact W.ret ⟨.bool false, ResIs.one, hS.bel, (by rw [e1_0])⟩
      · -- no
        try simp only [Bool.and_eq_true, Bool.or_eq_true, Bool.not_eq_true', Bool.and_eq_false_iff, Bool.or_eq_false_iff, Bool.not_eq_false', decide_eq_true_eq, decide_eq_false_iff_not, not_or, Bool.false_eq_true, Bool.true_eq_false, false_or, or_false, not_false_eq_true] at c2
        refine W.skip ?_
        refine W.reg ?_
        refine Wx.rd (v := .int .i64 k) (rd_move rfl) rfl ?_
        refine Wx.rd (v := .int .i64 (k + 1)) (rd_add rfl rfl (in_i64 (by omega) (by omega))) rfl ?_
        refine Wx.rd (v := .int .i64 (k + 1)) (rd_assign rfl) rfl ?_
        refine Wx.nil ?_
        have he : ix (0, 0) xs k = ix (0, 0) ys k := Prod.ext (by omega) (by omega)
        refine ⟨k + 1, (by show (xs.length - (k + 1)).toNat < (xs.length - k).toNat; omega), ?_, ?_, Out.look rfl Out.self⟩
        · exact ⟨hS, (by first | omega | assumption), (by first | omega | assumption), (by rw [← h2, drop_ix (d := (0, 0)) h0 c1, drop_ix (d := (0, 0)) (xs := ys) h0 (by omega)]; simp [he])⟩
        · exact ⟨rfl, trivial⟩
    · -- no
      refine W.exit rfl ?_
      refine W.seq ?_
      refine W.reg ?_
      refine Wx.rd (v := .bool true) (rd_assign rfl) rfl ?_
      refine Wx.nil ?_
      have e2_0 : (decide (xs = ys)) = true := by rw [← h2, drop_end (by omega), drop_end (xs := ys) (by omega)]; simp
      exact W.ret ⟨.bool true, ResIs.one, hS.bel, (by rw [e2_0])⟩

theorem F49 {lv : Value} {l : List Int} {O : List (Option Nat)} {w : World} (h_lv : V (tSl (tI .i64)) l lv O w) (hO : ∀ b, some b ∈ O → b < w.heap.size) : Calls Try.prog 49 #[lv] w (Ret w (fun r w' => ∃ rv, r = rv ∧ V (tSl (tI .i64)) l rv O w')) := by
  have a_lv := h_lv
  have l_lv := h_lv.len63
  have hS := St.start w O hO
  refine enterR Try.func49 rfl Try.ntmps49 Try.results49 rfl ?_
  refine W.seq ?_
  refine W.reg ?_
  refine Wx.rd (v := (.slice none 0 0)) (rd_assign rfl) rfl ?_
  refine Wx.nil ?_
  refine W.seq ?_
  refine W.reg ?_
  refine Wx.rd (v := lv) (rd_move rfl) rfl ?_
  refine Wx.rd (v := lv) (rd_assign rfl) rfl ?_
  refine Wx.nil ?_
  exact W.ret ⟨lv, ResIs.one, hS.bel, ⟨lv, rfl, (V.mv (hS.arg a_lv) (.less (fun _ h => List.mem_append.2 (.inr h))))⟩⟩

theorem F48 {O : List (Option Nat)} {w : World} (hO : ∀ b, some b ∈ O → b < w.heap.size) : Calls Try.prog 48 #[] w (Ret w (fun r w' => ∃ rv, r = .agg #[.int .i64 3, .int .i64 3, rv] ∧ V (tSl (tI .i64)) sS rv O w')) := by
  have hS := St.start w O hO
  refine enterR Try.func48 rfl Try.ntmps48 Try.results48 rfl ?_
  refine W.seq ?_
  refine W.reg ?_
  refine Wx.alloc (cs := [.int .i64 0, .int .i64 0, (.slice none 0 0)]) hS Try.zeroValue24 rfl rfl (fun g_1 w_2 hx_4 hb_3 hS => ?_)
  refine Wx.nil ?_
  refine W.seq ?_
  refine W.reg ?_
  refine Wx.lit (t := (tI .i64)) (ys := [5, 5, 5, 5, 2, 5, 5, 4, 5]) (vs := [.int .i64 5, .int .i64 5, .int .i64 5, .int .i64 5, .int .i64 2, .int .i64 5, .int .i64 5, .int .i64 4, .int .i64 5]) elMa_22 hS rfl rfl ⟨(V.mkInt (in_i64 (by omega) (by omega))), ⟨(V.mkInt (in_i64 (by omega) (by omega))), ⟨(V.mkInt (in_i64 (by omega) (by omega))), ⟨(V.mkInt (in_i64 (by omega) (by omega))), ⟨(V.mkInt (in_i64 (by omega) (by omega))), ⟨(V.mkInt (in_i64 (by omega) (by omega))), ⟨(V.mkInt (in_i64 (by omega) (by omega))), ⟨(V.mkInt (in_i64 (by omega) (by omega))), ⟨(V.mkInt (in_i64 (by omega) (by omega))), trivial⟩⟩⟩⟩⟩⟩⟩⟩⟩ (by decide) rfl (fun v_5 w_6 hx_7 hS => ?_)
  have hS := hS.freeze 0 rfl
  refine Wx.callF (run_callF Try.call49 rfl) (F49 (hS.v 0 rfl) hS.fb_lt) rfl ?_
  rintro r_9 w_10 hx_11 ⟨_, rfl, hv_12⟩
  have ln_14 := hv_12.len63
  have hS := hS.ext hx_11
  have hS := hS.add hv_12
  refine Wx.rd (v := .agg #[.int .i64 3, .int .i64 3, r_9]) (rd_buildC (vs := [(0, .int .i64 3), (1, .int .i64 3), (2, r_9)]) (us := [(0, .agg #[.int .i64 3]), (1, .agg #[.int .i64 3]), (2, .agg #[r_9])]) rfl (parts_cons rfl (parts_cons rfl (parts_cons (Go.Wk.cells_one (V.oneC (hS.v 0 rfl))) parts_nil))) (by kernel_rfl)) rfl ?_
  refine Wx.storeX (cs' := [.int .i64 3, .int .i64 3, r_9]) (ds := [.int .i64 3, .int .i64 3, r_9]) hS 2 rfl rfl rfl rfl Try.sizeOf24 (Nat.le_of_ble_eq_true rfl) (one_cons rfl (one_cons rfl (one_cons (V.oneC (hS.v 0 rfl)) one_nil))) rfl (fun w_15 hz_16 hS => ?_)
  refine Wx.nil ?_
  have e0_2 : sS = [5, 5, 5, 5, 2, 5, 5, 4, 5] := by rfl
  exact W.ret ⟨.agg #[.int .i64 3, .int .i64 3, r_9], (ResIs.cell1 hS 2 rfl rfl Try.isAgg24 Try.sizeOf24), hS.bel, ⟨r_9, rfl, (by rw [e0_2]; exact (V.mv (hS.v 0 rfl) (.less (fun _ h => List.mem_append.2 (.inr h)))))⟩⟩

theorem F47 {O : List (Option Nat)} {w : World} (hO : ∀ b, some b ∈ O → b < w.heap.size) : Calls Try.prog 47 #[] w (Ret w (fun r w' => ∃ rv, r = .agg #[.int .i64 4, .int .i64 1, rv] ∧ V (tSl (tI .i64)) sT rv O w')) := by
  have hS := St.start w O hO
  refine enterR Try.func47 rfl Try.ntmps47 Try.results47 rfl ?_
  refine W.seq ?_
  refine W.reg ?_
  refine Wx.alloc (cs := [.int .i64 0, .int .i64 0, (.slice none 0 0)]) hS Try.zeroValue24 rfl rfl (fun g_1 w_2 hx_4 hb_3 hS => ?_)
  refine Wx.nil ?_
  refine W.seq ?_
  refine W.reg ?_
  refine Wx.lit (t := (tI .i64)) (ys := [9, 3, 6, 1]) (vs := [.int .i64 9, .int .i64 3, .int .i64 6, .int .i64 1]) elMa_22 hS rfl rfl ⟨(V.mkInt (in_i64 (by omega) (by omega))), ⟨(V.mkInt (in_i64 (by omega) (by omega))), ⟨(V.mkInt (in_i64 (by omega) (by omega))), ⟨(V.mkInt (in_i64 (by omega) (by omega))), trivial⟩⟩⟩⟩ (by decide) rfl (fun v_5 w_6 hx_7 hS => ?_)
  have hS := hS.freeze 0 rfl
  refine Wx.callF (run_callF Try.call49 rfl) (F49 (hS.v 0 rfl) hS.fb_lt) rfl ?_
  rintro r_9 w_10 hx_11 ⟨_, rfl, hv_12⟩
  have ln_14 := hv_12.len63
  have hS := hS.ext hx_11
  have hS := hS.add hv_12
  refine Wx.rd (v := .agg #[.int .i64 4, .int .i64 1, r_9]) (rd_buildC (vs := [(0, .int .i64 4), (1, .int .i64 1), (2, r_9)]) (us := [(0, .agg #[.int .i64 4]), (1, .agg #[.int .i64 1]), (2, .agg #[r_9])]) rfl (parts_cons rfl (parts_cons rfl (parts_cons (Go.Wk.cells_one (V.oneC (hS.v 0 rfl))) parts_nil))) (by kernel_rfl)) rfl ?_
  refine Wx.storeX (cs' := [.int .i64 4, .int .i64 1, r_9]) (ds := [.int .i64 4, .int .i64 1, r_9]) hS 2 rfl rfl rfl rfl Try.sizeOf24 (Nat.le_of_ble_eq_true rfl) (one_cons rfl (one_cons rfl (one_cons (V.oneC (hS.v 0 rfl)) one_nil))) rfl (fun w_15 hz_16 hS => ?_)
  refine Wx.nil ?_
  have e0_2 : sT = [9, 3, 6, 1] := by rfl
  exact W.ret ⟨.agg #[.int .i64 4, .int .i64 1, r_9], (ResIs.cell1 hS 2 rfl rfl Try.isAgg24 Try.sizeOf24), hS.bel, ⟨r_9, rfl, (by rw [e0_2]; exact (V.mv (hS.v 0 rfl) (.less (fun _ h => List.mem_append.2 (.inr h)))))⟩⟩

theorem F15 {lv : Value} {l : List Int} {Fr_lv : List (Option Nat)} {w : World} (h_lv : V (tSl (tI .i64)) l lv Fr_lv w) : Calls Try.prog 15 #[lv] w (Ret w (fun r _ => r = .bool (decide (60 < (l.length : Int))))) := by
  have a_lv := h_lv.any
  have l_lv := h_lv.len63
  have hS := St.start0 w
  refine enterR Try.func15 rfl Try.ntmps15 Try.results15 rfl ?_
  refine W.seq ?_
  refine W.reg ?_
  refine Wx.rd (v := .bool false) (rd_assign rfl) rfl ?_
  refine Wx.nil ?_
  refine W.seq ?_
  refine W.reg ?_
  refine Wx.rd (v := lv) (rd_move rfl) rfl ?_
  refine Wx.rd (v := .int .i64 (l.length : Int)) (rd_lenV rfl (hS.arg a_lv) Try.underlying22) rfl ?_
  refine Wx.rd (v := .bool (decide (60 < (l.length : Int)))) (rd_gtr rfl rfl) rfl ?_
  refine Wx.rd (v := .bool (decide (60 < (l.length : Int)))) (rd_assign rfl) rfl ?_
  refine Wx.nil ?_
  exact W.ret ⟨.bool (decide (60 < (l.length : Int))), ResIs.one, hS.bel, rfl⟩
end Go.Proofs.Ytjhimoeodkaihaa

namespace Go.Proofs.Ytjhimoeodkaihaa
open Go.Wk Go.RowKit Go.Lib
set_option linter.unusedVariables false
set_option linter.unusedSimpArgs false
theorem elMb_22 : ElemI Try.prog 22 3 (.int .i64 0) 1 8 := ElemI.of Try.underlying22 (by kernel_rfl) (by first | rfl | kernel_rfl) (by decide)
theorem elMb_37 : ElemI Try.prog 37 22 ((.slice none 0 0)) 1 24 := ElemI.of Try.underlying37 (by kernel_rfl) (by first | rfl | kernel_rfl) (by decide)
theorem elMb_52 : ElemI Try.prog 52 74 (.agg #[.int .i64 0, .int .i64 0]) 2 16 := ElemI.of Try.underlying52 (by kernel_rfl) (by first | rfl | kernel_rfl) (by decide)

set_option maxHeartbeats 4000000 in
set_option maxRecDepth 10000 in
theorem F16  {w : World}  : Calls Try.prog 16 #[] w (Ret w (fun r _ => r = .bool true)) := by
  have hS := St.start0 w
  refine enterR Try.func16 rfl Try.ntmps16 Try.results16 rfl ?_
  refine W.seq ?_
  refine W.reg ?_
  refine Wx.rd (v := .bool false) (rd_assign rfl) rfl ?_
  refine Wx.nil ?_
  refine W.seq ?_
  refine W.reg ?_
  refine Wx.callF (run_callF Try.call48 rfl) (F48 hS.fb_lt) rfl ?_
  rintro r_1 w_2 hx_3 ⟨v_4, rfl, hv_5⟩
  have ln_7 := hv_5.len63
  have hS := hS.ext hx_3
  have hS := hS.add hv_5
  refine Wx.callF (run_callF Try.call17 rfl) (F17 (in_i64 (by omega) (by omega)) (in_i64 (by omega) (by omega)) (hS.v 0 rfl) hS.fb_lt) rfl ?_
  rintro r_8 w_9 hx_10 ⟨v_11, rfl, hv_12⟩
  have hS := hS.pushFr hx_10 hv_12
  refine Wx.rd (v := .tuple #[v_11, .int .i64 (checkS 3 3 sS)]) (rd_move rfl) rfl ?_
  refine Wx.rd (v := v_11) (rd_extract rfl rfl) rfl ?_
  refine Wx.rd (v := .int .i64 (checkS 3 3 sS)) (rd_extract rfl rfl) rfl ?_
  refine Wx.rd (v := v_11) (rd_assign rfl) rfl ?_
  refine Wx.rd (v := .int .i64 0) (Rd.to (v := .int .i64 (checkS 3 3 sS)) (rd_assign rfl) (congrArg (Value.int .i64) (show (0 : Int) = (checkS 3 3 sS : Int) from (by decide +kernel)).symm)) rfl ?_
  refine Wx.nil ?_
  refine W.seq ?_
  refine W.reg ?_
  refine Wx.callF (run_callF Try.call48 rfl) (F48 hS.fb_lt) rfl ?_
  rintro r_14 w_15 hx_16 ⟨v_17, rfl, hv_18⟩
  have ln_20 := hv_18.len63
  have hS := hS.ext hx_16
  have hS := hS.add hv_18
  refine Wx.callF (run_callF Try.call19 rfl) (F19 (in_i64 (by omega) (by omega)) (in_i64 (by omega) (by omega)) (hS.v 0 rfl) (in_i64 (by omega) (by omega)) hS.fb_lt) rfl ?_
  rintro r_21 w_22 hx_23 ⟨v_24, rfl, hv_25⟩
  have hS := hS.pushFr hx_23 hv_25
  refine Wx.rd (v := .tuple #[v_24, .int .i64 (levelE 3 3 sS 5)]) (rd_move rfl) rfl ?_
  refine Wx.rd (v := v_24) (rd_extract rfl rfl) rfl ?_
  refine Wx.rd (v := .int .i64 (levelE 3 3 sS 5)) (rd_extract rfl rfl) rfl ?_
  refine Wx.rd (v := v_24) (rd_assign rfl) rfl ?_
  refine Wx.rd (v := .int .i64 0) (Rd.to (v := .int .i64 (levelE 3 3 sS 5)) (rd_assign rfl) (congrArg (Value.int .i64) (show (0 : Int) = (levelE 3 3 sS 5 : Int) from (by decide +kernel)).symm)) rfl ?_
  refine Wx.nil ?_
  refine W.seq ?_
  refine W.reg ?_
  refine Wx.callF (run_callF Try.call48 rfl) (F48 hS.fb_lt) rfl ?_
  rintro r_27 w_28 hx_29 ⟨v_30, rfl, hv_31⟩
  have ln_33 := hv_31.len63
  have hS := hS.ext hx_29
  have hS := hS.add hv_31
  refine Wx.callF (run_callF Try.call24 rfl) (F24 (in_i64 (by omega) (by omega)) (in_i64 (by omega) (by omega)) (hS.v 0 rfl) (in_i64 (by omega) (by omega)) hS.fb_lt) rfl ?_
  rintro r_34 w_35 hx_36 ⟨v_37, rfl, hv_38⟩
  have hS := hS.pushFr hx_36 hv_38
  refine Wx.rd (v := .tuple #[v_37, .int .i64 (levelE 3 3 sS 0)]) (rd_move rfl) rfl ?_
  refine Wx.rd (v := v_37) (rd_extract rfl rfl) rfl ?_
  refine Wx.rd (v := .int .i64 (levelE 3 3 sS 0)) (rd_extract rfl rfl) rfl ?_
  refine Wx.rd (v := v_37) (rd_assign rfl) rfl ?_
  refine Wx.rd (v := .int .i64 0) (Rd.to (v := .int .i64 (levelE 3 3 sS 0)) (rd_assign rfl) (congrArg (Value.int .i64) (show (0 : Int) = (levelE 3 3 sS 0 : Int) from (by decide +kernel)).symm)) rfl ?_
  refine Wx.nil ?_
  refine W.seq ?_
  refine W.reg ?_
  refine Wx.callF (run_callF Try.call47 rfl) (F47 hS.fb_lt) rfl ?_
  rintro r_40 w_41 hx_42 ⟨v_43, rfl, hv_44⟩
  have ln_46 := hv_44.len63
  have hS := hS.ext hx_42
  have hS := hS.add hv_44
  refine Wx.callF (run_callF Try.call26 rfl) (F26 (in_i64 (by omega) (by omega)) (in_i64 (by omega) (by omega)) (hS.v 0 rfl) (in_i64 (by omega) (by omega)) hS.fb_lt) rfl ?_
  rintro r_47 w_48 hx_49 ⟨v_50, rfl, hv_51⟩
  have hS := hS.pushFrO hx_49 hv_51
  refine Wx.rd (v := .tuple #[v_50, .int .i64 (levelE 4 1 sT 2)]) (rd_move rfl) rfl ?_
  refine Wx.rd (v := v_50) (rd_extract rfl rfl) rfl ?_
  refine Wx.rd (v := .int .i64 (levelE 4 1 sT 2)) (rd_extract rfl rfl) rfl ?_
  refine Wx.rd (v := v_50) (rd_assign rfl) rfl ?_
  refine Wx.rd (v := .int .i64 0) (Rd.to (v := .int .i64 (levelE 4 1 sT 2)) (rd_assign rfl) (congrArg (Value.int .i64) (show (0 : Int) = (levelE 4 1 sT 2 : Int) from (by decide +kernel)).symm)) rfl ?_
  refine Wx.nil ?_
  refine W.seq ?_
  refine W.reg ?_
  refine Wx.callF (run_callF Try.call48 rfl) (F48 hS.fb_lt) rfl ?_
  rintro r_53 w_54 hx_55 ⟨v_56, rfl, hv_57⟩
  have ln_59 := hv_57.len63
  have hS := hS.ext hx_55
  have hS := hS.add hv_57
  refine Wx.lit (t := (tI .i64)) (ys := [6, 5, 4, 3]) (vs := [.int .i64 6, .int .i64 5, .int .i64 4, .int .i64 3]) elMb_22 hS rfl rfl ⟨(V.mkInt (in_i64 (by omega) (by omega))), ⟨(V.mkInt (in_i64 (by omega) (by omega))), ⟨(V.mkInt (in_i64 (by omega) (by omega))), ⟨(V.mkInt (in_i64 (by omega) (by omega))), trivial⟩⟩⟩⟩ (by decide) rfl (fun v_60 w_61 hx_62 hS => ?_)
  have hS := hS.freeze 0 rfl
  refine Wx.callF (run_callF Try.call49 rfl) (F49 (hS.v 0 rfl) hS.fb_lt) rfl ?_
  rintro r_64 w_65 hx_66 ⟨_, rfl, hv_67⟩
  have ln_69 := hv_67.len63
  have hS := hS.ext hx_66
  have hS := hS.add hv_67
  refine Wx.callF (run_callF Try.call29 rfl) (F29 (in_i64 (by omega) (by omega)) (in_i64 (by omega) (by omega)) (hS.v 2 rfl) (hS.v 0 rfl) (in_i64 (by omega) (by omega))) rfl ?_
  rintro r_70 w_71 hx_72 rfl
  have hS := hS.ext hx_72
  refine Wx.rd (v := .tuple #[.int .i64 (hourV 3 3 sS [6, 5, 4, 3] 7), .int .i64 (hourX 3 3 sS [6, 5, 4, 3] 7)]) (rd_move rfl) rfl ?_
  refine Wx.rd (v := .int .i64 (hourV 3 3 sS [6, 5, 4, 3] 7)) (rd_extract rfl rfl) rfl ?_
  refine Wx.rd (v := .int .i64 (hourX 3 3 sS [6, 5, 4, 3] 7)) (rd_extract rfl rfl) rfl ?_
  refine Wx.rd (v := .int .i64 2) (Rd.to (v := .int .i64 (hourV 3 3 sS [6, 5, 4, 3] 7)) (rd_assign rfl) (congrArg (Value.int .i64) (show (2 : Int) = (hourV 3 3 sS [6, 5, 4, 3] 7 : Int) from (by decide +kernel)).symm)) rfl ?_
  refine Wx.rd (v := .int .i64 0) (Rd.to (v := .int .i64 (hourX 3 3 sS [6, 5, 4, 3] 7)) (rd_assign rfl) (congrArg (Value.int .i64) (show (0 : Int) = (hourX 3 3 sS [6, 5, 4, 3] 7 : Int) from (by decide +kernel)).symm)) rfl ?_
  refine Wx.nil ?_
  refine W.seq ?_
  refine W.reg ?_
  refine Wx.callF (run_callF Try.call48 rfl) (F48 hS.fb_lt) rfl ?_
  rintro r_73 w_74 hx_75 ⟨v_76, rfl, hv_77⟩
  have ln_79 := hv_77.len63
  have hS := hS.ext hx_75
  have hS := hS.add hv_77
  refine Wx.callF (run_callF Try.call31 rfl) (F31 (in_i64 (by omega) (by omega)) (in_i64 (by omega) (by omega)) (hS.v 0 rfl) (in_i64 (by omega) (by omega)) hS.fb_lt) rfl ?_
  rintro r_80 w_81 hx_82 ⟨v_83, rfl, hv_84⟩
  have hS := hS.pushFr hx_82 hv_84
  refine Wx.rd (v := .tuple #[v_83, .int .i64 (atE 3 3 sS 0)]) (rd_move rfl) rfl ?_
  refine Wx.rd (v := v_83) (rd_extract rfl rfl) rfl ?_
  refine Wx.rd (v := .int .i64 (atE 3 3 sS 0)) (rd_extract rfl rfl) rfl ?_
  refine Wx.rd (v := v_83) (rd_assign rfl) rfl ?_
  refine Wx.rd (v := .int .i64 0) (Rd.to (v := .int .i64 (atE 3 3 sS 0)) (rd_assign rfl) (congrArg (Value.int .i64) (show (0 : Int) = (atE 3 3 sS 0 : Int) from (by decide +kernel)).symm)) rfl ?_
  refine Wx.nil ?_
  refine W.seq ?_
  refine W.seq ?_
  refine W.reg ?_
  refine Wx.rd (v := .int .i64 0) (rd_move rfl) rfl ?_
  refine Wx.rd (v := .bool false) (Rd.to (v := .bool (decide ((0 : Int) ≠ 0))) (rd_neq rfl rfl) rfl) rfl ?_
  refine Wx.rd (v := .bool false) (rd_move rfl) rfl ?_
  refine Wx.gyes rfl rfl rfl ?_
  refine Wx.rd (v := .int .i64 0) (rd_move rfl) rfl ?_
  refine Wx.gyes rfl rfl rfl ?_
  refine Wx.rd (v := .bool false) (Rd.to (v := .bool (decide ((0 : Int) ≠ 0))) (rd_neq rfl rfl) rfl) rfl ?_
  refine Wx.rd (v := .bool false) (rd_pickF rfl rfl) rfl ?_
  refine Wx.rd (v := .bool false) (rd_move rfl) rfl ?_
  refine Wx.gyes rfl rfl rfl ?_
  refine Wx.rd (v := .int .i64 0) (rd_move rfl) rfl ?_
  refine Wx.gyes rfl rfl rfl ?_
  refine Wx.rd (v := .bool false) (Rd.to (v := .bool (decide ((0 : Int) ≠ 0))) (rd_neq rfl rfl) rfl) rfl ?_
  refine Wx.rd (v := .bool false) (rd_pickF rfl rfl) rfl ?_
  refine Wx.rd (v := .bool false) (rd_move rfl) rfl ?_
  refine Wx.gyes rfl rfl rfl ?_
  refine Wx.rd (v := .int .i64 0) (rd_move rfl) rfl ?_
  refine Wx.gyes rfl rfl rfl ?_
  refine Wx.rd (v := .bool false) (Rd.to (v := .bool (decide ((0 : Int) ≠ 0))) (rd_neq rfl rfl) rfl) rfl ?_
  refine Wx.rd (v := .bool false) (rd_pickF rfl rfl) rfl ?_
  refine Wx.rd (v := .bool false) (rd_move rfl) rfl ?_
  refine Wx.gyes rfl rfl rfl ?_
  refine Wx.rd (v := .int .i64 0) (rd_move rfl) rfl ?_
  refine Wx.gyes rfl rfl rfl ?_
  refine Wx.rd (v := .bool false) (Rd.to (v := .bool (decide ((0 : Int) ≠ 0))) (rd_neq rfl rfl) rfl) rfl ?_
  refine Wx.rd (v := .bool false) (rd_pickF rfl rfl) rfl ?_
  refine Wx.rd (v := .bool false) (rd_move rfl) rfl ?_
  refine Wx.gyes rfl rfl rfl ?_
  refine Wx.rd (v := .int .i64 0) (rd_move rfl) rfl ?_
  refine Wx.gyes rfl rfl rfl ?_
  refine Wx.rd (v := .bool false) (Rd.to (v := .bool (decide ((0 : Int) ≠ 0))) (rd_neq rfl rfl) rfl) rfl ?_
  refine Wx.rd (v := .bool false) (rd_pickF rfl rfl) rfl ?_
  refine Wx.nil ?_
  refine W.condF rfl rfl ?_
  refine W.skip ?_
  refine W.seq ?_
  refine W.reg ?_
  refine Wx.callF (run_callF Try.call48 rfl) (F48 hS.fb_lt) rfl ?_
  rintro r_86 w_87 hx_88 ⟨v_89, rfl, hv_90⟩
  have ln_92 := hv_90.len63
  have hS := hS.ext hx_88
  have hS := hS.add hv_90
  refine Wx.callF (run_callF Try.call33 rfl) (F33 (in_i64 (by omega) (by omega)) (in_i64 (by omega) (by omega)) (hS.v 0 rfl) (in_i64 (by omega) (by omega)) hS.fb_lt) rfl ?_
  rintro r_93 w_94 hx_95 ⟨v_96, rfl, hv_97⟩
  have hS := hS.pushFr hx_95 hv_97
  refine Wx.rd (v := .tuple #[v_96, .int .i64 (atE 3 3 sS 4)]) (rd_move rfl) rfl ?_
  refine Wx.rd (v := v_96) (rd_extract rfl rfl) rfl ?_
  refine Wx.rd (v := .int .i64 (atE 3 3 sS 4)) (rd_extract rfl rfl) rfl ?_
  refine Wx.rd (v := v_96) (rd_assign rfl) rfl ?_
  refine Wx.rd (v := .int .i64 0) (Rd.to (v := .int .i64 (atE 3 3 sS 4)) (rd_assign rfl) (congrArg (Value.int .i64) (show (0 : Int) = (atE 3 3 sS 4 : Int) from (by decide +kernel)).symm)) rfl ?_
  refine Wx.nil ?_
  refine W.seq ?_
  refine W.reg ?_
  refine Wx.callF (run_callF Try.call48 rfl) (F48 hS.fb_lt) rfl ?_
  rintro r_99 w_100 hx_101 ⟨v_102, rfl, hv_103⟩
  have ln_105 := hv_103.len63
  have hS := hS.ext hx_101
  have hS := hS.add hv_103
  refine Wx.callF (run_callF Try.call37 rfl) (F37 (in_i64 (by omega) (by omega)) (in_i64 (by omega) (by omega)) (hS.v 0 rfl) (in_i64 (by omega) (by omega)) (in_i64 (by omega) (by omega)) hS.fb_lt) rfl ?_
  rintro r_106 w_107 hx_108 rfl
  have hS := hS.ext hx_108
  refine Wx.rd (v := .tuple #[.int .i64 (betwE 3 3 sS 4 0), .int .i64 (betwX 3 3 sS 4 0)]) (rd_move rfl) rfl ?_
  refine Wx.rd (v := .int .i64 (betwE 3 3 sS 4 0)) (rd_extract rfl rfl) rfl ?_
  refine Wx.rd (v := .int .i64 (betwX 3 3 sS 4 0)) (rd_extract rfl rfl) rfl ?_
  refine Wx.rd (v := .int .i64 5) (Rd.to (v := .int .i64 (betwE 3 3 sS 4 0)) (rd_assign rfl) (congrArg (Value.int .i64) (show (5 : Int) = (betwE 3 3 sS 4 0 : Int) from (by decide +kernel)).symm)) rfl ?_
  refine Wx.rd (v := .int .i64 0) (Rd.to (v := .int .i64 (betwX 3 3 sS 4 0)) (rd_assign rfl) (congrArg (Value.int .i64) (show (0 : Int) = (betwX 3 3 sS 4 0 : Int) from (by decide +kernel)).symm)) rfl ?_
  refine Wx.nil ?_
  refine W.seq ?_
  refine W.reg ?_
  refine Wx.callF (run_callF Try.call48 rfl) (F48 hS.fb_lt) rfl ?_
  rintro r_109 w_110 hx_111 ⟨v_112, rfl, hv_113⟩
  have ln_115 := hv_113.len63
  have hS := hS.ext hx_111
  have hS := hS.add hv_113
  refine Wx.callF (run_callF Try.call37 rfl) (F37 (in_i64 (by omega) (by omega)) (in_i64 (by omega) (by omega)) (hS.v 0 rfl) (in_i64 (by omega) (by omega)) (in_i64 (by omega) (by omega)) hS.fb_lt) rfl ?_
  rintro r_116 w_117 hx_118 rfl
  have hS := hS.ext hx_118
  refine Wx.rd (v := .tuple #[.int .i64 (betwE 3 3 sS 4 9), .int .i64 (betwX 3 3 sS 4 9)]) (rd_move rfl) rfl ?_
  refine Wx.rd (v := .int .i64 (betwE 3 3 sS 4 9)) (rd_extract rfl rfl) rfl ?_
  refine Wx.rd (v := .int .i64 (betwX 3 3 sS 4 9)) (rd_extract rfl rfl) rfl ?_
  refine Wx.rd (v := .int .i64 4) (Rd.to (v := .int .i64 (betwE 3 3 sS 4 9)) (rd_assign rfl) (congrArg (Value.int .i64) (show (4 : Int) = (betwE 3 3 sS 4 9 : Int) from (by decide +kernel)).symm)) rfl ?_
  refine Wx.rd (v := .int .i64 0) (Rd.to (v := .int .i64 (betwX 3 3 sS 4 9)) (rd_assign rfl) (congrArg (Value.int .i64) (show (0 : Int) = (betwX 3 3 sS 4 9 : Int) from (by decide +kernel)).symm)) rfl ?_
  refine Wx.nil ?_
  refine W.seq ?_
  refine W.reg ?_
  refine Wx.callF (run_callF Try.call47 rfl) (F47 hS.fb_lt) rfl ?_
  rintro r_119 w_120 hx_121 ⟨v_122, rfl, hv_123⟩
  have ln_125 := hv_123.len63
  have hS := hS.ext hx_121
  have hS := hS.add hv_123
  refine Wx.callF (run_callF Try.call39 rfl) (F39 (in_i64 (by omega) (by omega)) (in_i64 (by omega) (by omega)) (hS.v 0 rfl) hS.fb_lt) rfl ?_
  rintro r_126 w_127 hx_128 ⟨v_129, rfl, hv_130⟩
  have hS := hS.pushFr hx_128 hv_130
  refine Wx.rd (v := .tuple #[v_129, .int .i64 (checkS 4 1 sT)]) (rd_move rfl) rfl ?_
  refine Wx.rd (v := v_129) (rd_extract rfl rfl) rfl ?_
  refine Wx.rd (v := .int .i64 (checkS 4 1 sT)) (rd_extract rfl rfl) rfl ?_
  refine Wx.rd (v := v_129) (rd_assign rfl) rfl ?_
  refine Wx.rd (v := .int .i64 0) (Rd.to (v := .int .i64 (checkS 4 1 sT)) (rd_assign rfl) (congrArg (Value.int .i64) (show (0 : Int) = (checkS 4 1 sT : Int) from (by decide +kernel)).symm)) rfl ?_
  refine Wx.nil ?_
  refine W.seq ?_
  refine W.reg ?_
  refine Wx.callF (run_callF Try.call48 rfl) (F48 hS.fb_lt) rfl ?_
  rintro r_132 w_133 hx_134 ⟨v_135, rfl, hv_136⟩
  have ln_138 := hv_136.len63
  have hS := hS.ext hx_134
  have hS := hS.add hv_136
  refine Wx.lit (t := (tI .i64)) (ys := [6, 5, 4, 3]) (vs := [.int .i64 6, .int .i64 5, .int .i64 4, .int .i64 3]) elMb_22 hS rfl rfl ⟨(V.mkInt (in_i64 (by omega) (by omega))), ⟨(V.mkInt (in_i64 (by omega) (by omega))), ⟨(V.mkInt (in_i64 (by omega) (by omega))), ⟨(V.mkInt (in_i64 (by omega) (by omega))), trivial⟩⟩⟩⟩ (by decide) rfl (fun v_139 w_140 hx_141 hS => ?_)
  have hS := hS.freeze 0 rfl
  refine Wx.callF (run_callF Try.call49 rfl) (F49 (hS.v 0 rfl) hS.fb_lt) rfl ?_
  rintro r_143 w_144 hx_145 ⟨_, rfl, hv_146⟩
  have ln_148 := hv_146.len63
  have hS := hS.ext hx_145
  have hS := hS.add hv_146
  refine Wx.callF (run_callF Try.call29 rfl) (F29 (in_i64 (by omega) (by omega)) (in_i64 (by omega) (by omega)) (hS.v 2 rfl) (hS.v 0 rfl) (in_i64 (by omega) (by omega))) rfl ?_
  rintro r_149 w_150 hx_151 rfl
  have hS := hS.ext hx_151
  refine Wx.rd (v := .tuple #[.int .i64 (hourV 3 3 sS [6, 5, 4, 3] 4), .int .i64 (hourX 3 3 sS [6, 5, 4, 3] 4)]) (rd_move rfl) rfl ?_
  refine Wx.rd (v := .int .i64 (hourV 3 3 sS [6, 5, 4, 3] 4)) (rd_extract rfl rfl) rfl ?_
  refine Wx.rd (v := .int .i64 (hourX 3 3 sS [6, 5, 4, 3] 4)) (rd_extract rfl rfl) rfl ?_
  refine Wx.rd (v := .int .i64 12) (Rd.to (v := .int .i64 (hourX 3 3 sS [6, 5, 4, 3] 4)) (rd_assign rfl) (congrArg (Value.int .i64) (show (12 : Int) = (hourX 3 3 sS [6, 5, 4, 3] 4 : Int) from (by decide +kernel)).symm)) rfl ?_
  refine Wx.nil ?_
  refine W.seq ?_
  refine W.reg ?_
  refine Wx.callF (run_callF Try.call48 rfl) (F48 hS.fb_lt) rfl ?_
  rintro r_152 w_153 hx_154 ⟨v_155, rfl, hv_156⟩
  have ln_158 := hv_156.len63
  have hS := hS.ext hx_154
  have hS := hS.add hv_156
  refine Wx.callF (run_callF Try.call37 rfl) (F37 (in_i64 (by omega) (by omega)) (in_i64 (by omega) (by omega)) (hS.v 0 rfl) (in_i64 (by omega) (by omega)) (in_i64 (by omega) (by omega)) hS.fb_lt) rfl ?_
  rintro r_159 w_160 hx_161 rfl
  have hS := hS.ext hx_161
  refine Wx.rd (v := .tuple #[.int .i64 (betwE 3 3 sS 4 10), .int .i64 (betwX 3 3 sS 4 10)]) (rd_move rfl) rfl ?_
  refine Wx.rd (v := .int .i64 (betwE 3 3 sS 4 10)) (rd_extract rfl rfl) rfl ?_
  refine Wx.rd (v := .int .i64 (betwX 3 3 sS 4 10)) (rd_extract rfl rfl) rfl ?_
  refine Wx.rd (v := .int .i64 (betwX 3 3 sS 4 10)) (rd_assign rfl) rfl ?_
  refine Wx.nil ?_
  refine W.seq ?_
  refine W.reg ?_
  refine Wx.rd (v := .int .i64 0) (rd_move rfl) rfl ?_
  refine Wx.rd (v := .bool true) (Rd.to (v := .bool (decide ((0 : Int) = 0))) (rd_eql rfl rfl) rfl) rfl ?_
  refine Wx.rd (v := .bool true) (rd_move rfl) rfl ?_
  refine Wx.gyes rfl rfl rfl ?_
  refine Wx.rd (v := .int .i64 0) (rd_move rfl) rfl ?_
  refine Wx.gyes rfl rfl rfl ?_
  refine Wx.rd (v := .bool true) (Rd.to (v := .bool (decide ((0 : Int) = 0))) (rd_eql rfl rfl) rfl) rfl ?_
  refine Wx.rd (v := .bool true) (rd_pickT rfl rfl) rfl ?_
  refine Wx.rd (v := .bool true) (rd_move rfl) rfl ?_
  refine Wx.gyes rfl rfl rfl ?_
  refine Wx.rd (v := .int .i64 0) (rd_move rfl) rfl ?_
  refine Wx.gyes rfl rfl rfl ?_
  refine Wx.rd (v := .bool true) (Rd.to (v := .bool (decide ((0 : Int) = 0))) (rd_eql rfl rfl) rfl) rfl ?_
  refine Wx.rd (v := .bool true) (rd_pickT rfl rfl) rfl ?_
  refine Wx.rd (v := .bool true) (rd_move rfl) rfl ?_
  refine Wx.gyes rfl rfl rfl ?_
  refine Wx.rd (v := .int .i64 0) (rd_move rfl) rfl ?_
  refine Wx.gyes rfl rfl rfl ?_
  refine Wx.rd (v := .bool true) (Rd.to (v := .bool (decide ((0 : Int) = 0))) (rd_eql rfl rfl) rfl) rfl ?_
  refine Wx.rd (v := .bool true) (rd_pickT rfl rfl) rfl ?_
  refine Wx.rd (v := .bool true) (rd_move rfl) rfl ?_
  refine Wx.gyes rfl rfl rfl ?_
  refine Wx.rd (v := .int .i64 12) (rd_move rfl) rfl ?_
  refine Wx.gyes rfl rfl rfl ?_
  refine Wx.rd (v := .bool true) (Rd.to (v := .bool (decide ((12 : Int) = 12))) (rd_eql rfl rfl) rfl) rfl ?_
  refine Wx.rd (v := .bool true) (rd_pickT rfl rfl) rfl ?_
  refine Wx.rd (v := .bool true) (rd_move rfl) rfl ?_
  refine Wx.gyes rfl rfl rfl ?_
  refine Wx.rd (v := .int .i64 (betwX 3 3 sS 4 10)) (rd_move rfl) rfl ?_
  refine Wx.gyes rfl rfl rfl ?_
  refine Wx.rd (v := .bool (decide ((betwX 3 3 sS 4 10) = 2))) (rd_eql rfl rfl) rfl ?_
  refine Wx.rd (v := .bool (decide ((betwX 3 3 sS 4 10) = 2))) (rd_pickT rfl rfl) rfl ?_
  refine Wx.rd (v := .bool (decide ((betwX 3 3 sS 4 10) = 2))) (rd_move rfl) rfl ?_
  refine Wx.cut (X := Unit) 5 [126, 127, 128, 129, 130] (fun _ => [(130, .bool (decide ((betwX 3 3 sS 4 10) = 2) && true))]) (fun _ w' => St w [] w' [Ob.v (tSl (tI .i64)) sS v_155, Ob.v (tSl (tI .i64)) [6, 5, 4, 3] r_143, Ob.v (tSl (tI .i64)) [6, 5, 4, 3] v_139, Ob.v (tSl (tI .i64)) sS v_135, .row (tP (tI .i64) (tI .i64)) 74 v_129 (treeE 4 1 sT), Ob.v (tSl (tI .i64)) sT v_122, Ob.v (tSl (tI .i64)) sS v_112, Ob.v (tSl (tI .i64)) sS v_102, .row (tI .i64) 3 v_96 (basinE 3 3 sS 4), Ob.v (tSl (tI .i64)) sS v_89, .row (tI .i64) 3 v_83 (wayE 3 3 sS 0), Ob.v (tSl (tI .i64)) sS v_76, Ob.v (tSl (tI .i64)) [6, 5, 4, 3] r_64, Ob.v (tSl (tI .i64)) [6, 5, 4, 3] v_60, Ob.v (tSl (tI .i64)) sS v_56, .row (tSl (tI .i64)) 22 v_50 (poolsE 4 1 sT 2), Ob.v (tSl (tI .i64)) sT v_43, .row (tI .i64) 3 v_37 (bareE 3 3 sS 0), Ob.v (tSl (tI .i64)) sS v_30, .row (tI .i64) 3 v_24 (depthsE 3 3 sS 5), Ob.v (tSl (tI .i64)) sS v_17, .row (tI .i64) 3 v_11 (sillsE 3 3 sS), Ob.v (tSl (tI .i64)) sS v_4]) ?_ ?_
  · rcases Bool.eq_false_or_eq_true (decide ((betwX 3 3 sS 4 10) = 2)) with g_162 | g_162
    · -- True
      have gp_163 := of_decide_eq_true g_162
      refine Wx.gyes rfl rfl (congrArg Value.bool g_162) ?_
      refine Wx.rd (v := v_11) (rd_move rfl) rfl ?_
      refine Wx.gyes rfl rfl (congrArg Value.bool g_162) ?_
      refine Wx.lit (t := (tI .i64)) (ys := [5, 5, 5, 5, 4, 5, 5, 4, 5]) (vs := [.int .i64 5, .int .i64 5, .int .i64 5, .int .i64 5, .int .i64 4, .int .i64 5, .int .i64 5, .int .i64 4, .int .i64 5]) elMb_22 hS rfl rfl ⟨(V.mkInt (in_i64 (by omega) (by omega))), ⟨(V.mkInt (in_i64 (by omega) (by omega))), ⟨(V.mkInt (in_i64 (by omega) (by omega))), ⟨(V.mkInt (in_i64 (by omega) (by omega))), ⟨(V.mkInt (in_i64 (by omega) (by omega))), ⟨(V.mkInt (in_i64 (by omega) (by omega))), ⟨(V.mkInt (in_i64 (by omega) (by omega))), ⟨(V.mkInt (in_i64 (by omega) (by omega))), ⟨(V.mkInt (in_i64 (by omega) (by omega))), trivial⟩⟩⟩⟩⟩⟩⟩⟩⟩ (by decide) rfl (fun v_164 w_165 hx_166 hS => ?_)
      refine Wx.gyes rfl rfl (congrArg Value.bool g_162) ?_
      have hS := hS.freeze 0 rfl
      refine Wx.callF (run_callF Try.call49 rfl) (F49 (hS.v 0 rfl) hS.fb_lt) rfl ?_
      rintro r_168 w_169 hx_170 ⟨_, rfl, hv_171⟩
      have ln_173 := hv_171.len63
      have hS := hS.ext hx_170
      have hS := hS.add hv_171
      refine Wx.gyes rfl rfl (congrArg Value.bool g_162) ?_
      refine Wx.callF (run_callF Try.call21 rfl) (F21 (hS.lend 23 rfl) (hS.v 0 rfl)) rfl ?_
      rintro r_174 w_175 hx_176 rfl
      have hS := hS.ext hx_176
      rw [show (decide ((sillsE 3 3 sS) = [5, 5, 5, 5, 4, 5, 5, 4, 5]) : Bool) = true from (by decide +kernel)]
      refine Wx.rd (v := .bool true) (rd_pickT (congrArg Value.bool g_162) rfl) rfl ?_
      refine Wx.nil ⟨(), St.tl (hS.tl), ⟨?_, trivial⟩, Out.look rfl Out.refl⟩
      show Value.bool true = Value.bool (decide ((betwX 3 3 sS 4 10) = 2) && true)
      first | rw [g_162, Bool.true_and] | (rw [g_162]; rfl)
    · -- False
      have gp_177 := of_decide_eq_false g_162
      refine Wx.gnoB rfl rfl (congrArg Value.bool g_162) rfl rfl ?_
      refine Wx.gnoB rfl rfl (congrArg Value.bool g_162) rfl rfl ?_
      refine Wx.gnoB rfl rfl (congrArg Value.bool g_162) rfl rfl ?_
      refine Wx.gnoB rfl rfl (congrArg Value.bool g_162) rfl rfl ?_
      refine Wx.rd (v := .bool false) (rd_pickF (congrArg Value.bool g_162) rfl) rfl ?_
      refine Wx.nil ⟨(), hS, ⟨?_, trivial⟩, Out.look rfl Out.refl⟩
      show Value.bool false = Value.bool (decide ((betwX 3 3 sS 4 10) = 2) && true)
      first | rw [g_162, Bool.false_and] | (rw [g_162]; rfl)
  rintro ⟨⟩ u_179 w_178 hS
  refine Wx.rd (v := .bool (decide ((betwX 3 3 sS 4 10) = 2) && true)) (rd_move rfl) rfl ?_
  refine Wx.cut (X := Unit) 5 [132, 133, 134, 135, 136] (fun _ => [(136, .bool ((decide ((betwX 3 3 sS 4 10) = 2) && true) && true))]) (fun _ w' => St w [] w' [Ob.v (tSl (tI .i64)) sS v_155, Ob.v (tSl (tI .i64)) [6, 5, 4, 3] r_143, Ob.v (tSl (tI .i64)) [6, 5, 4, 3] v_139, Ob.v (tSl (tI .i64)) sS v_135, .row (tP (tI .i64) (tI .i64)) 74 v_129 (treeE 4 1 sT), Ob.v (tSl (tI .i64)) sT v_122, Ob.v (tSl (tI .i64)) sS v_112, Ob.v (tSl (tI .i64)) sS v_102, .row (tI .i64) 3 v_96 (basinE 3 3 sS 4), Ob.v (tSl (tI .i64)) sS v_89, .row (tI .i64) 3 v_83 (wayE 3 3 sS 0), Ob.v (tSl (tI .i64)) sS v_76, Ob.v (tSl (tI .i64)) [6, 5, 4, 3] r_64, Ob.v (tSl (tI .i64)) [6, 5, 4, 3] v_60, Ob.v (tSl (tI .i64)) sS v_56, .row (tSl (tI .i64)) 22 v_50 (poolsE 4 1 sT 2), Ob.v (tSl (tI .i64)) sT v_43, .row (tI .i64) 3 v_37 (bareE 3 3 sS 0), Ob.v (tSl (tI .i64)) sS v_30, .row (tI .i64) 3 v_24 (depthsE 3 3 sS 5), Ob.v (tSl (tI .i64)) sS v_17, .row (tI .i64) 3 v_11 (sillsE 3 3 sS), Ob.v (tSl (tI .i64)) sS v_4]) ?_ ?_
  · rcases Bool.eq_false_or_eq_true (decide ((betwX 3 3 sS 4 10) = 2) && true) with g_180 | g_180
    · -- True
      have gp_181 := g_180
      try simp only [Bool.and_eq_true, Bool.or_eq_true, Bool.not_eq_true', Bool.and_eq_false_iff, Bool.or_eq_false_iff, Bool.not_eq_false', decide_eq_true_eq, decide_eq_false_iff_not, not_or, Bool.false_eq_true, Bool.true_eq_false, false_or, or_false, not_false_eq_true] at gp_181
      refine Wx.gyes rfl rfl (congrArg Value.bool g_180) ?_
      refine Wx.rd (v := v_24) (rd_move rfl) rfl ?_
      refine Wx.gyes rfl rfl (congrArg Value.bool g_180) ?_
      refine Wx.lit (t := (tI .i64)) (ys := [0, 0, 0, 0, 3, 0, 0, 1, 0]) (vs := [.int .i64 0, .int .i64 0, .int .i64 0, .int .i64 0, .int .i64 3, .int .i64 0, .int .i64 0, .int .i64 1, .int .i64 0]) elMb_22 hS rfl rfl ⟨(V.mkInt (in_i64 (by omega) (by omega))), ⟨(V.mkInt (in_i64 (by omega) (by omega))), ⟨(V.mkInt (in_i64 (by omega) (by omega))), ⟨(V.mkInt (in_i64 (by omega) (by omega))), ⟨(V.mkInt (in_i64 (by omega) (by omega))), ⟨(V.mkInt (in_i64 (by omega) (by omega))), ⟨(V.mkInt (in_i64 (by omega) (by omega))), ⟨(V.mkInt (in_i64 (by omega) (by omega))), ⟨(V.mkInt (in_i64 (by omega) (by omega))), trivial⟩⟩⟩⟩⟩⟩⟩⟩⟩ (by decide) rfl (fun v_182 w_183 hx_184 hS => ?_)
      refine Wx.gyes rfl rfl (congrArg Value.bool g_180) ?_
      have hS := hS.freeze 0 rfl
      refine Wx.callF (run_callF Try.call49 rfl) (F49 (hS.v 0 rfl) hS.fb_lt) rfl ?_
      rintro r_186 w_187 hx_188 ⟨_, rfl, hv_189⟩
      have ln_191 := hv_189.len63
      have hS := hS.ext hx_188
      have hS := hS.add hv_189
      refine Wx.gyes rfl rfl (congrArg Value.bool g_180) ?_
      refine Wx.callF (run_callF Try.call21 rfl) (F21 (hS.lend 21 rfl) (hS.v 0 rfl)) rfl ?_
      rintro r_192 w_193 hx_194 rfl
      have hS := hS.ext hx_194
      rw [show (decide ((depthsE 3 3 sS 5) = [0, 0, 0, 0, 3, 0, 0, 1, 0]) : Bool) = true from (by decide +kernel)]
      refine Wx.rd (v := .bool true) (rd_pickT (congrArg Value.bool g_180) rfl) rfl ?_
      refine Wx.nil ⟨(), St.tl (hS.tl), ⟨?_, trivial⟩, Out.look rfl Out.refl⟩
      show Value.bool true = Value.bool ((decide ((betwX 3 3 sS 4 10) = 2) && true) && true)
      first | rw [g_180, Bool.true_and] | (rw [g_180]; rfl)
    · -- False
      have gp_195 := g_180
      try simp only [Bool.and_eq_true, Bool.or_eq_true, Bool.not_eq_true', Bool.and_eq_false_iff, Bool.or_eq_false_iff, Bool.not_eq_false', decide_eq_true_eq, decide_eq_false_iff_not, not_or, Bool.false_eq_true, Bool.true_eq_false, false_or, or_false, not_false_eq_true] at gp_195
      refine Wx.gnoB rfl rfl (congrArg Value.bool g_180) rfl rfl ?_
      refine Wx.gnoB rfl rfl (congrArg Value.bool g_180) rfl rfl ?_
      refine Wx.gnoB rfl rfl (congrArg Value.bool g_180) rfl rfl ?_
      refine Wx.gnoB rfl rfl (congrArg Value.bool g_180) rfl rfl ?_
      refine Wx.rd (v := .bool false) (rd_pickF (congrArg Value.bool g_180) rfl) rfl ?_
      refine Wx.nil ⟨(), hS, ⟨?_, trivial⟩, Out.look rfl Out.refl⟩
      show Value.bool false = Value.bool ((decide ((betwX 3 3 sS 4 10) = 2) && true) && true)
      first | rw [g_180, Bool.false_and] | (rw [g_180]; rfl)
  rintro ⟨⟩ u_197 w_196 hS
  refine Wx.rd (v := .bool ((decide ((betwX 3 3 sS 4 10) = 2) && true) && true)) (rd_move rfl) rfl ?_
  refine Wx.cut (X := Unit) 5 [138, 139, 140, 141, 142] (fun _ => [(142, .bool (((decide ((betwX 3 3 sS 4 10) = 2) && true) && true) && true))]) (fun _ w' => St w [] w' [Ob.v (tSl (tI .i64)) sS v_155, Ob.v (tSl (tI .i64)) [6, 5, 4, 3] r_143, Ob.v (tSl (tI .i64)) [6, 5, 4, 3] v_139, Ob.v (tSl (tI .i64)) sS v_135, .row (tP (tI .i64) (tI .i64)) 74 v_129 (treeE 4 1 sT), Ob.v (tSl (tI .i64)) sT v_122, Ob.v (tSl (tI .i64)) sS v_112, Ob.v (tSl (tI .i64)) sS v_102, .row (tI .i64) 3 v_96 (basinE 3 3 sS 4), Ob.v (tSl (tI .i64)) sS v_89, .row (tI .i64) 3 v_83 (wayE 3 3 sS 0), Ob.v (tSl (tI .i64)) sS v_76, Ob.v (tSl (tI .i64)) [6, 5, 4, 3] r_64, Ob.v (tSl (tI .i64)) [6, 5, 4, 3] v_60, Ob.v (tSl (tI .i64)) sS v_56, .row (tSl (tI .i64)) 22 v_50 (poolsE 4 1 sT 2), Ob.v (tSl (tI .i64)) sT v_43, .row (tI .i64) 3 v_37 (bareE 3 3 sS 0), Ob.v (tSl (tI .i64)) sS v_30, .row (tI .i64) 3 v_24 (depthsE 3 3 sS 5), Ob.v (tSl (tI .i64)) sS v_17, .row (tI .i64) 3 v_11 (sillsE 3 3 sS), Ob.v (tSl (tI .i64)) sS v_4]) ?_ ?_
  · rcases Bool.eq_false_or_eq_true ((decide ((betwX 3 3 sS 4 10) = 2) && true) && true) with g_198 | g_198
    · -- True
      have gp_199 := g_198
      try simp only [Bool.and_eq_true, Bool.or_eq_true, Bool.not_eq_true', Bool.and_eq_false_iff, Bool.or_eq_false_iff, Bool.not_eq_false', decide_eq_true_eq, decide_eq_false_iff_not, not_or, Bool.false_eq_true, Bool.true_eq_false, false_or, or_false, not_false_eq_true] at gp_199
      refine Wx.gyes rfl rfl (congrArg Value.bool g_198) ?_
      refine Wx.rd (v := v_37) (rd_move rfl) rfl ?_
      refine Wx.gyes rfl rfl (congrArg Value.bool g_198) ?_
      refine Wx.lit (t := (tI .i64)) (ys := [0, 1, 2, 3, 5, 6, 7, 8]) (vs := [.int .i64 0, .int .i64 1, .int .i64 2, .int .i64 3, .int .i64 5, .int .i64 6, .int .i64 7, .int .i64 8]) elMb_22 hS rfl rfl ⟨(V.mkInt (in_i64 (by omega) (by omega))), ⟨(V.mkInt (in_i64 (by omega) (by omega))), ⟨(V.mkInt (in_i64 (by omega) (by omega))), ⟨(V.mkInt (in_i64 (by omega) (by omega))), ⟨(V.mkInt (in_i64 (by omega) (by omega))), ⟨(V.mkInt (in_i64 (by omega) (by omega))), ⟨(V.mkInt (in_i64 (by omega) (by omega))), ⟨(V.mkInt (in_i64 (by omega) (by omega))), trivial⟩⟩⟩⟩⟩⟩⟩⟩ (by decide) rfl (fun v_200 w_201 hx_202 hS => ?_)
      refine Wx.gyes rfl rfl (congrArg Value.bool g_198) ?_
      have hS := hS.freeze 0 rfl
      refine Wx.callF (run_callF Try.call49 rfl) (F49 (hS.v 0 rfl) hS.fb_lt) rfl ?_
      rintro r_204 w_205 hx_206 ⟨_, rfl, hv_207⟩
      have ln_209 := hv_207.len63
      have hS := hS.ext hx_206
      have hS := hS.add hv_207
      refine Wx.gyes rfl rfl (congrArg Value.bool g_198) ?_
      refine Wx.callF (run_callF Try.call21 rfl) (F21 (hS.lend 19 rfl) (hS.v 0 rfl)) rfl ?_
      rintro r_210 w_211 hx_212 rfl
      have hS := hS.ext hx_212
      rw [show (decide ((bareE 3 3 sS 0) = [0, 1, 2, 3, 5, 6, 7, 8]) : Bool) = true from (by decide +kernel)]
      refine Wx.rd (v := .bool true) (rd_pickT (congrArg Value.bool g_198) rfl) rfl ?_
      refine Wx.nil ⟨(), St.tl (hS.tl), ⟨?_, trivial⟩, Out.look rfl Out.refl⟩
      show Value.bool true = Value.bool (((decide ((betwX 3 3 sS 4 10) = 2) && true) && true) && true)
      first | rw [g_198, Bool.true_and] | (rw [g_198]; rfl)
    · -- False
      have gp_213 := g_198
      try simp only [Bool.and_eq_true, Bool.or_eq_true, Bool.not_eq_true', Bool.and_eq_false_iff, Bool.or_eq_false_iff, Bool.not_eq_false', decide_eq_true_eq, decide_eq_false_iff_not, not_or, Bool.false_eq_true, Bool.true_eq_false, false_or, or_false, not_false_eq_true] at gp_213
      refine Wx.gnoB rfl rfl (congrArg Value.bool g_198) rfl rfl ?_
      refine Wx.gnoB rfl rfl (congrArg Value.bool g_198) rfl rfl ?_
      refine Wx.gnoB rfl rfl (congrArg Value.bool g_198) rfl rfl ?_
      refine Wx.gnoB rfl rfl (congrArg Value.bool g_198) rfl rfl ?_
      refine Wx.rd (v := .bool false) (rd_pickF (congrArg Value.bool g_198) rfl) rfl ?_
      refine Wx.nil ⟨(), hS, ⟨?_, trivial⟩, Out.look rfl Out.refl⟩
      show Value.bool false = Value.bool (((decide ((betwX 3 3 sS 4 10) = 2) && true) && true) && true)
      first | rw [g_198, Bool.false_and] | (rw [g_198]; rfl)
  rintro ⟨⟩ u_215 w_214 hS
  refine Wx.rd (v := .bool (((decide ((betwX 3 3 sS 4 10) = 2) && true) && true) && true)) (rd_move rfl) rfl ?_
  refine Wx.cut (X := Unit) 5 [144, 145, 146, 147, 148] (fun _ => [(148, .bool ((((decide ((betwX 3 3 sS 4 10) = 2) && true) && true) && true) && true))]) (fun _ w' => St w [] w' [Ob.v (tSl (tI .i64)) sS v_155, Ob.v (tSl (tI .i64)) [6, 5, 4, 3] r_143, Ob.v (tSl (tI .i64)) [6, 5, 4, 3] v_139, Ob.v (tSl (tI .i64)) sS v_135, .row (tP (tI .i64) (tI .i64)) 74 v_129 (treeE 4 1 sT), Ob.v (tSl (tI .i64)) sT v_122, Ob.v (tSl (tI .i64)) sS v_112, Ob.v (tSl (tI .i64)) sS v_102, .row (tI .i64) 3 v_96 (basinE 3 3 sS 4), Ob.v (tSl (tI .i64)) sS v_89, .row (tI .i64) 3 v_83 (wayE 3 3 sS 0), Ob.v (tSl (tI .i64)) sS v_76, Ob.v (tSl (tI .i64)) [6, 5, 4, 3] r_64, Ob.v (tSl (tI .i64)) [6, 5, 4, 3] v_60, Ob.v (tSl (tI .i64)) sS v_56, .row (tSl (tI .i64)) 22 v_50 (poolsE 4 1 sT 2), Ob.v (tSl (tI .i64)) sT v_43, .row (tI .i64) 3 v_37 (bareE 3 3 sS 0), Ob.v (tSl (tI .i64)) sS v_30, .row (tI .i64) 3 v_24 (depthsE 3 3 sS 5), Ob.v (tSl (tI .i64)) sS v_17, .row (tI .i64) 3 v_11 (sillsE 3 3 sS), Ob.v (tSl (tI .i64)) sS v_4]) ?_ ?_
  · rcases Bool.eq_false_or_eq_true (((decide ((betwX 3 3 sS 4 10) = 2) && true) && true) && true) with g_216 | g_216
    · -- True
      have gp_217 := g_216
      try simp only [Bool.and_eq_true, Bool.or_eq_true, Bool.not_eq_true', Bool.and_eq_false_iff, Bool.or_eq_false_iff, Bool.not_eq_false', decide_eq_true_eq, decide_eq_false_iff_not, not_or, Bool.false_eq_true, Bool.true_eq_false, false_or, or_false, not_false_eq_true] at gp_217
      refine Wx.gyes rfl rfl (congrArg Value.bool g_216) ?_
      refine Wx.rd (v := v_50) (rd_move rfl) rfl ?_
      refine Wx.gyes rfl rfl (congrArg Value.bool g_216) ?_
      refine Wx.lit (t := (tI .i64)) (ys := [1]) (vs := [.int .i64 1]) elMb_22 hS rfl rfl ⟨(V.mkInt (in_i64 (by omega) (by omega))), trivial⟩ (by decide) rfl (fun v_218 w_219 hx_220 hS => ?_)
      refine Wx.gyes rfl rfl (congrArg Value.bool g_216) ?_
      have hS := hS.freeze 0 rfl
      refine Wx.lit (t := (tSl (tI .i64))) (ys := [[1]]) (vs := [v_218]) elMb_37 hS rfl rfl ⟨(hS.v 0 rfl), trivial⟩ (by decide) rfl (fun v_222 w_223 hx_224 hS => ?_)
      refine Wx.gyes rfl rfl (congrArg Value.bool g_216) ?_
      refine Wx.callF (run_callF Try.call28 rfl) (F28 (hS.lend 17 rfl) (hS.lend 0 rfl)) rfl ?_
      rintro r_225 w_226 hx_227 rfl
      have hS := hS.ext hx_227
      rw [show (decide ((poolsE 4 1 sT 2) = [[1]]) : Bool) = true from (by decide +kernel)]
      refine Wx.rd (v := .bool true) (rd_pickT (congrArg Value.bool g_216) rfl) rfl ?_
      refine Wx.nil ⟨(), St.tl (hS.tl), ⟨?_, trivial⟩, Out.look rfl Out.refl⟩
      show Value.bool true = Value.bool ((((decide ((betwX 3 3 sS 4 10) = 2) && true) && true) && true) && true)
      first | rw [g_216, Bool.true_and] | (rw [g_216]; rfl)
    · -- False
      have gp_228 := g_216
      try simp only [Bool.and_eq_true, Bool.or_eq_true, Bool.not_eq_true', Bool.and_eq_false_iff, Bool.or_eq_false_iff, Bool.not_eq_false', decide_eq_true_eq, decide_eq_false_iff_not, not_or, Bool.false_eq_true, Bool.true_eq_false, false_or, or_false, not_false_eq_true] at gp_228
      refine Wx.gnoB rfl rfl (congrArg Value.bool g_216) rfl rfl ?_
      refine Wx.gnoB rfl rfl (congrArg Value.bool g_216) rfl rfl ?_
      refine Wx.gnoB rfl rfl (congrArg Value.bool g_216) rfl rfl ?_
      refine Wx.gnoB rfl rfl (congrArg Value.bool g_216) rfl rfl ?_
      refine Wx.rd (v := .bool false) (rd_pickF (congrArg Value.bool g_216) rfl) rfl ?_
      refine Wx.nil ⟨(), hS, ⟨?_, trivial⟩, Out.look rfl Out.refl⟩
      show Value.bool false = Value.bool ((((decide ((betwX 3 3 sS 4 10) = 2) && true) && true) && true) && true)
      first | rw [g_216, Bool.false_and] | (rw [g_216]; rfl)
  rintro ⟨⟩ u_230 w_229 hS
  refine Wx.rd (v := .bool ((((decide ((betwX 3 3 sS 4 10) = 2) && true) && true) && true) && true)) (rd_move rfl) rfl ?_
  refine Wx.cut (X := Unit) 3 [150, 151, 152] (fun _ => [(152, .bool (((((decide ((betwX 3 3 sS 4 10) = 2) && true) && true) && true) && true) && true))]) (fun _ w' => St w [] w' [Ob.v (tSl (tI .i64)) sS v_155, Ob.v (tSl (tI .i64)) [6, 5, 4, 3] r_143, Ob.v (tSl (tI .i64)) [6, 5, 4, 3] v_139, Ob.v (tSl (tI .i64)) sS v_135, .row (tP (tI .i64) (tI .i64)) 74 v_129 (treeE 4 1 sT), Ob.v (tSl (tI .i64)) sT v_122, Ob.v (tSl (tI .i64)) sS v_112, Ob.v (tSl (tI .i64)) sS v_102, .row (tI .i64) 3 v_96 (basinE 3 3 sS 4), Ob.v (tSl (tI .i64)) sS v_89, .row (tI .i64) 3 v_83 (wayE 3 3 sS 0), Ob.v (tSl (tI .i64)) sS v_76, Ob.v (tSl (tI .i64)) [6, 5, 4, 3] r_64, Ob.v (tSl (tI .i64)) [6, 5, 4, 3] v_60, Ob.v (tSl (tI .i64)) sS v_56, .row (tSl (tI .i64)) 22 v_50 (poolsE 4 1 sT 2), Ob.v (tSl (tI .i64)) sT v_43, .row (tI .i64) 3 v_37 (bareE 3 3 sS 0), Ob.v (tSl (tI .i64)) sS v_30, .row (tI .i64) 3 v_24 (depthsE 3 3 sS 5), Ob.v (tSl (tI .i64)) sS v_17, .row (tI .i64) 3 v_11 (sillsE 3 3 sS), Ob.v (tSl (tI .i64)) sS v_4]) ?_ ?_
  · rcases Bool.eq_false_or_eq_true ((((decide ((betwX 3 3 sS 4 10) = 2) && true) && true) && true) && true) with g_231 | g_231
    · -- True
      have gp_232 := g_231
      try simp only [Bool.and_eq_true, Bool.or_eq_true, Bool.not_eq_true', Bool.and_eq_false_iff, Bool.or_eq_false_iff, Bool.not_eq_false', decide_eq_true_eq, decide_eq_false_iff_not, not_or, Bool.false_eq_true, Bool.true_eq_false, false_or, or_false, not_false_eq_true] at gp_232
      refine Wx.gyes rfl rfl (congrArg Value.bool g_231) ?_
      refine Wx.rd (v := .int .i64 2) (rd_move rfl) rfl ?_
      refine Wx.gyes rfl rfl (congrArg Value.bool g_231) ?_
      refine Wx.rd (v := .bool true) (Rd.to (v := .bool (decide ((2 : Int) = 2))) (rd_eql rfl rfl) rfl) rfl ?_
      refine Wx.rd (v := .bool true) (rd_pickT (congrArg Value.bool g_231) rfl) rfl ?_
      refine Wx.nil ⟨(), hS, ⟨?_, trivial⟩, Out.look rfl Out.refl⟩
      show Value.bool true = Value.bool (((((decide ((betwX 3 3 sS 4 10) = 2) && true) && true) && true) && true) && true)
      first | rw [g_231, Bool.true_and] | (rw [g_231]; rfl)
    · -- False
      have gp_233 := g_231
      try simp only [Bool.and_eq_true, Bool.or_eq_true, Bool.not_eq_true', Bool.and_eq_false_iff, Bool.or_eq_false_iff, Bool.not_eq_false', decide_eq_true_eq, decide_eq_false_iff_not, not_or, Bool.false_eq_true, Bool.true_eq_false, false_or, or_false, not_false_eq_true] at gp_233
      refine Wx.gnoB rfl rfl (congrArg Value.bool g_231) rfl rfl ?_
      refine Wx.gnoB rfl rfl (congrArg Value.bool g_231) rfl rfl ?_
      refine Wx.rd (v := .bool false) (rd_pickF (congrArg Value.bool g_231) rfl) rfl ?_
      refine Wx.nil ⟨(), hS, ⟨?_, trivial⟩, Out.look rfl Out.refl⟩
      show Value.bool false = Value.bool (((((decide ((betwX 3 3 sS 4 10) = 2) && true) && true) && true) && true) && true)
      first | rw [g_231, Bool.false_and] | (rw [g_231]; rfl)
  rintro ⟨⟩ u_235 w_234 hS
  refine Wx.rd (v := .bool (((((decide ((betwX 3 3 sS 4 10) = 2) && true) && true) && true) && true) && true)) (rd_move rfl) rfl ?_
  refine Wx.cut (X := Unit) 5 [154, 155, 156, 157, 158] (fun _ => [(158, .bool ((((((decide ((betwX 3 3 sS 4 10) = 2) && true) && true) && true) && true) && true) && true))]) (fun _ w' => St w [] w' [Ob.v (tSl (tI .i64)) sS v_155, Ob.v (tSl (tI .i64)) [6, 5, 4, 3] r_143, Ob.v (tSl (tI .i64)) [6, 5, 4, 3] v_139, Ob.v (tSl (tI .i64)) sS v_135, .row (tP (tI .i64) (tI .i64)) 74 v_129 (treeE 4 1 sT), Ob.v (tSl (tI .i64)) sT v_122, Ob.v (tSl (tI .i64)) sS v_112, Ob.v (tSl (tI .i64)) sS v_102, .row (tI .i64) 3 v_96 (basinE 3 3 sS 4), Ob.v (tSl (tI .i64)) sS v_89, .row (tI .i64) 3 v_83 (wayE 3 3 sS 0), Ob.v (tSl (tI .i64)) sS v_76, Ob.v (tSl (tI .i64)) [6, 5, 4, 3] r_64, Ob.v (tSl (tI .i64)) [6, 5, 4, 3] v_60, Ob.v (tSl (tI .i64)) sS v_56, .row (tSl (tI .i64)) 22 v_50 (poolsE 4 1 sT 2), Ob.v (tSl (tI .i64)) sT v_43, .row (tI .i64) 3 v_37 (bareE 3 3 sS 0), Ob.v (tSl (tI .i64)) sS v_30, .row (tI .i64) 3 v_24 (depthsE 3 3 sS 5), Ob.v (tSl (tI .i64)) sS v_17, .row (tI .i64) 3 v_11 (sillsE 3 3 sS), Ob.v (tSl (tI .i64)) sS v_4]) ?_ ?_
  · rcases Bool.eq_false_or_eq_true (((((decide ((betwX 3 3 sS 4 10) = 2) && true) && true) && true) && true) && true) with g_236 | g_236
    · -- True
      have gp_237 := g_236
      try simp only [Bool.and_eq_true, Bool.or_eq_true, Bool.not_eq_true', Bool.and_eq_false_iff, Bool.or_eq_false_iff, Bool.not_eq_false', decide_eq_true_eq, decide_eq_false_iff_not, not_or, Bool.false_eq_true, Bool.true_eq_false, false_or, or_false, not_false_eq_true] at gp_237
      refine Wx.gyes rfl rfl (congrArg Value.bool g_236) ?_
      refine Wx.rd (v := v_83) (rd_move rfl) rfl ?_
      refine Wx.gyes rfl rfl (congrArg Value.bool g_236) ?_
      refine Wx.lit (t := (tI .i64)) (ys := [0, 3, 6]) (vs := [.int .i64 0, .int .i64 3, .int .i64 6]) elMb_22 hS rfl rfl ⟨(V.mkInt (in_i64 (by omega) (by omega))), ⟨(V.mkInt (in_i64 (by omega) (by omega))), ⟨(V.mkInt (in_i64 (by omega) (by omega))), trivial⟩⟩⟩ (by decide) rfl (fun v_238 w_239 hx_240 hS => ?_)
      refine Wx.gyes rfl rfl (congrArg Value.bool g_236) ?_
      have hS := hS.freeze 0 rfl
      refine Wx.callF (run_callF Try.call49 rfl) (F49 (hS.v 0 rfl) hS.fb_lt) rfl ?_
      rintro r_242 w_243 hx_244 ⟨_, rfl, hv_245⟩
      have ln_247 := hv_245.len63
      have hS := hS.ext hx_244
      have hS := hS.add hv_245
      refine Wx.gyes rfl rfl (congrArg Value.bool g_236) ?_
      refine Wx.callF (run_callF Try.call21 rfl) (F21 (hS.lend 12 rfl) (hS.v 0 rfl)) rfl ?_
      rintro r_248 w_249 hx_250 rfl
      have hS := hS.ext hx_250
      rw [show (decide ((wayE 3 3 sS 0) = [0, 3, 6]) : Bool) = true from (by decide +kernel)]
      refine Wx.rd (v := .bool true) (rd_pickT (congrArg Value.bool g_236) rfl) rfl ?_
      refine Wx.nil ⟨(), St.tl (hS.tl), ⟨?_, trivial⟩, Out.look rfl Out.refl⟩
      show Value.bool true = Value.bool ((((((decide ((betwX 3 3 sS 4 10) = 2) && true) && true) && true) && true) && true) && true)
      first | rw [g_236, Bool.true_and] | (rw [g_236]; rfl)
    · -- False
      have gp_251 := g_236
      try simp only [Bool.and_eq_true, Bool.or_eq_true, Bool.not_eq_true', Bool.and_eq_false_iff, Bool.or_eq_false_iff, Bool.not_eq_false', decide_eq_true_eq, decide_eq_false_iff_not, not_or, Bool.false_eq_true, Bool.true_eq_false, false_or, or_false, not_false_eq_true] at gp_251
      refine Wx.gnoB rfl rfl (congrArg Value.bool g_236) rfl rfl ?_
      refine Wx.gnoB rfl rfl (congrArg Value.bool g_236) rfl rfl ?_
      refine Wx.gnoB rfl rfl (congrArg Value.bool g_236) rfl rfl ?_
      refine Wx.gnoB rfl rfl (congrArg Value.bool g_236) rfl rfl ?_
      refine Wx.rd (v := .bool false) (rd_pickF (congrArg Value.bool g_236) rfl) rfl ?_
      refine Wx.nil ⟨(), hS, ⟨?_, trivial⟩, Out.look rfl Out.refl⟩
      show Value.bool false = Value.bool ((((((decide ((betwX 3 3 sS 4 10) = 2) && true) && true) && true) && true) && true) && true)
      first | rw [g_236, Bool.false_and] | (rw [g_236]; rfl)
  rintro ⟨⟩ u_253 w_252 hS
  refine Wx.rd (v := .bool ((((((decide ((betwX 3 3 sS 4 10) = 2) && true) && true) && true) && true) && true) && true)) (rd_move rfl) rfl ?_
  refine Wx.cut (X := Unit) 5 [160, 161, 162, 163, 164] (fun _ => [(164, .bool (((((((decide ((betwX 3 3 sS 4 10) = 2) && true) && true) && true) && true) && true) && true) && true))]) (fun _ w' => St w [] w' [Ob.v (tSl (tI .i64)) sS v_155, Ob.v (tSl (tI .i64)) [6, 5, 4, 3] r_143, Ob.v (tSl (tI .i64)) [6, 5, 4, 3] v_139, Ob.v (tSl (tI .i64)) sS v_135, .row (tP (tI .i64) (tI .i64)) 74 v_129 (treeE 4 1 sT), Ob.v (tSl (tI .i64)) sT v_122, Ob.v (tSl (tI .i64)) sS v_112, Ob.v (tSl (tI .i64)) sS v_102, .row (tI .i64) 3 v_96 (basinE 3 3 sS 4), Ob.v (tSl (tI .i64)) sS v_89, .row (tI .i64) 3 v_83 (wayE 3 3 sS 0), Ob.v (tSl (tI .i64)) sS v_76, Ob.v (tSl (tI .i64)) [6, 5, 4, 3] r_64, Ob.v (tSl (tI .i64)) [6, 5, 4, 3] v_60, Ob.v (tSl (tI .i64)) sS v_56, .row (tSl (tI .i64)) 22 v_50 (poolsE 4 1 sT 2), Ob.v (tSl (tI .i64)) sT v_43, .row (tI .i64) 3 v_37 (bareE 3 3 sS 0), Ob.v (tSl (tI .i64)) sS v_30, .row (tI .i64) 3 v_24 (depthsE 3 3 sS 5), Ob.v (tSl (tI .i64)) sS v_17, .row (tI .i64) 3 v_11 (sillsE 3 3 sS), Ob.v (tSl (tI .i64)) sS v_4]) ?_ ?_
  · rcases Bool.eq_false_or_eq_true ((((((decide ((betwX 3 3 sS 4 10) = 2) && true) && true) && true) && true) && true) && true) with g_254 | g_254
    · -- True
      have gp_255 := g_254
      try simp only [Bool.and_eq_true, Bool.or_eq_true, Bool.not_eq_true', Bool.and_eq_false_iff, Bool.or_eq_false_iff, Bool.not_eq_false', decide_eq_true_eq, decide_eq_false_iff_not, not_or, Bool.false_eq_true, Bool.true_eq_false, false_or, or_false, not_false_eq_true] at gp_255
      refine Wx.gyes rfl rfl (congrArg Value.bool g_254) ?_
      refine Wx.rd (v := v_96) (rd_move rfl) rfl ?_
      refine Wx.gyes rfl rfl (congrArg Value.bool g_254) ?_
      refine Wx.lit (t := (tI .i64)) (ys := [4]) (vs := [.int .i64 4]) elMb_22 hS rfl rfl ⟨(V.mkInt (in_i64 (by omega) (by omega))), trivial⟩ (by decide) rfl (fun v_256 w_257 hx_258 hS => ?_)
      refine Wx.gyes rfl rfl (congrArg Value.bool g_254) ?_
      have hS := hS.freeze 0 rfl
      refine Wx.callF (run_callF Try.call49 rfl) (F49 (hS.v 0 rfl) hS.fb_lt) rfl ?_
      rintro r_260 w_261 hx_262 ⟨_, rfl, hv_263⟩
      have ln_265 := hv_263.len63
      have hS := hS.ext hx_262
      have hS := hS.add hv_263
      refine Wx.gyes rfl rfl (congrArg Value.bool g_254) ?_
      refine Wx.callF (run_callF Try.call21 rfl) (F21 (hS.lend 10 rfl) (hS.v 0 rfl)) rfl ?_
      rintro r_266 w_267 hx_268 rfl
      have hS := hS.ext hx_268
      rw [show (decide ((basinE 3 3 sS 4) = [4]) : Bool) = true from (by decide +kernel)]
      refine Wx.rd (v := .bool true) (rd_pickT (congrArg Value.bool g_254) rfl) rfl ?_
      refine Wx.nil ⟨(), St.tl (hS.tl), ⟨?_, trivial⟩, Out.look rfl Out.refl⟩
      show Value.bool true = Value.bool (((((((decide ((betwX 3 3 sS 4 10) = 2) && true) && true) && true) && true) && true) && true) && true)
      first | rw [g_254, Bool.true_and] | (rw [g_254]; rfl)
    · -- False
      have gp_269 := g_254
      try simp only [Bool.and_eq_true, Bool.or_eq_true, Bool.not_eq_true', Bool.and_eq_false_iff, Bool.or_eq_false_iff, Bool.not_eq_false', decide_eq_true_eq, decide_eq_false_iff_not, not_or, Bool.false_eq_true, Bool.true_eq_false, false_or, or_false, not_false_eq_true] at gp_269
      refine Wx.gnoB rfl rfl (congrArg Value.bool g_254) rfl rfl ?_
      refine Wx.gnoB rfl rfl (congrArg Value.bool g_254) rfl rfl ?_
      refine Wx.gnoB rfl rfl (congrArg Value.bool g_254) rfl rfl ?_
      refine Wx.gnoB rfl rfl (congrArg Value.bool g_254) rfl rfl ?_
      refine Wx.rd (v := .bool false) (rd_pickF (congrArg Value.bool g_254) rfl) rfl ?_
      refine Wx.nil ⟨(), hS, ⟨?_, trivial⟩, Out.look rfl Out.refl⟩
      show Value.bool false = Value.bool (((((((decide ((betwX 3 3 sS 4 10) = 2) && true) && true) && true) && true) && true) && true) && true)
      first | rw [g_254, Bool.false_and] | (rw [g_254]; rfl)
  rintro ⟨⟩ u_271 w_270 hS
  refine Wx.rd (v := .bool (((((((decide ((betwX 3 3 sS 4 10) = 2) && true) && true) && true) && true) && true) && true) && true)) (rd_move rfl) rfl ?_
  refine Wx.cut (X := Unit) 3 [166, 167, 168] (fun _ => [(168, .bool ((((((((decide ((betwX 3 3 sS 4 10) = 2) && true) && true) && true) && true) && true) && true) && true) && true))]) (fun _ w' => St w [] w' [Ob.v (tSl (tI .i64)) sS v_155, Ob.v (tSl (tI .i64)) [6, 5, 4, 3] r_143, Ob.v (tSl (tI .i64)) [6, 5, 4, 3] v_139, Ob.v (tSl (tI .i64)) sS v_135, .row (tP (tI .i64) (tI .i64)) 74 v_129 (treeE 4 1 sT), Ob.v (tSl (tI .i64)) sT v_122, Ob.v (tSl (tI .i64)) sS v_112, Ob.v (tSl (tI .i64)) sS v_102, .row (tI .i64) 3 v_96 (basinE 3 3 sS 4), Ob.v (tSl (tI .i64)) sS v_89, .row (tI .i64) 3 v_83 (wayE 3 3 sS 0), Ob.v (tSl (tI .i64)) sS v_76, Ob.v (tSl (tI .i64)) [6, 5, 4, 3] r_64, Ob.v (tSl (tI .i64)) [6, 5, 4, 3] v_60, Ob.v (tSl (tI .i64)) sS v_56, .row (tSl (tI .i64)) 22 v_50 (poolsE 4 1 sT 2), Ob.v (tSl (tI .i64)) sT v_43, .row (tI .i64) 3 v_37 (bareE 3 3 sS 0), Ob.v (tSl (tI .i64)) sS v_30, .row (tI .i64) 3 v_24 (depthsE 3 3 sS 5), Ob.v (tSl (tI .i64)) sS v_17, .row (tI .i64) 3 v_11 (sillsE 3 3 sS), Ob.v (tSl (tI .i64)) sS v_4]) ?_ ?_
  · rcases Bool.eq_false_or_eq_true (((((((decide ((betwX 3 3 sS 4 10) = 2) && true) && true) && true) && true) && true) && true) && true) with g_272 | g_272
    · -- True
      have gp_273 := g_272
      try simp only [Bool.and_eq_true, Bool.or_eq_true, Bool.not_eq_true', Bool.and_eq_false_iff, Bool.or_eq_false_iff, Bool.not_eq_false', decide_eq_true_eq, decide_eq_false_iff_not, not_or, Bool.false_eq_true, Bool.true_eq_false, false_or, or_false, not_false_eq_true] at gp_273
      refine Wx.gyes rfl rfl (congrArg Value.bool g_272) ?_
      refine Wx.rd (v := .int .i64 5) (rd_move rfl) rfl ?_
      refine Wx.gyes rfl rfl (congrArg Value.bool g_272) ?_
      refine Wx.rd (v := .bool true) (Rd.to (v := .bool (decide ((5 : Int) = 5))) (rd_eql rfl rfl) rfl) rfl ?_
      refine Wx.rd (v := .bool true) (rd_pickT (congrArg Value.bool g_272) rfl) rfl ?_
      refine Wx.nil ⟨(), hS, ⟨?_, trivial⟩, Out.look rfl Out.refl⟩
      show Value.bool true = Value.bool ((((((((decide ((betwX 3 3 sS 4 10) = 2) && true) && true) && true) && true) && true) && true) && true) && true)
      first | rw [g_272, Bool.true_and] | (rw [g_272]; rfl)
    · -- False
      have gp_274 := g_272
      try simp only [Bool.and_eq_true, Bool.or_eq_true, Bool.not_eq_true', Bool.and_eq_false_iff, Bool.or_eq_false_iff, Bool.not_eq_false', decide_eq_true_eq, decide_eq_false_iff_not, not_or, Bool.false_eq_true, Bool.true_eq_false, false_or, or_false, not_false_eq_true] at gp_274
      refine Wx.gnoB rfl rfl (congrArg Value.bool g_272) rfl rfl ?_
      refine Wx.gnoB rfl rfl (congrArg Value.bool g_272) rfl rfl ?_
      refine Wx.rd (v := .bool false) (rd_pickF (congrArg Value.bool g_272) rfl) rfl ?_
      refine Wx.nil ⟨(), hS, ⟨?_, trivial⟩, Out.look rfl Out.refl⟩
      show Value.bool false = Value.bool ((((((((decide ((betwX 3 3 sS 4 10) = 2) && true) && true) && true) && true) && true) && true) && true) && true)
      first | rw [g_272, Bool.false_and] | (rw [g_272]; rfl)
  rintro ⟨⟩ u_276 w_275 hS
  refine Wx.rd (v := .bool ((((((((decide ((betwX 3 3 sS 4 10) = 2) && true) && true) && true) && true) && true) && true) && true) && true)) (rd_move rfl) rfl ?_
  refine Wx.cut (X := Unit) 3 [170, 171, 172] (fun _ => [(172, .bool (((((((((decide ((betwX 3 3 sS 4 10) = 2) && true) && true) && true) && true) && true) && true) && true) && true) && true))]) (fun _ w' => St w [] w' [Ob.v (tSl (tI .i64)) sS v_155, Ob.v (tSl (tI .i64)) [6, 5, 4, 3] r_143, Ob.v (tSl (tI .i64)) [6, 5, 4, 3] v_139, Ob.v (tSl (tI .i64)) sS v_135, .row (tP (tI .i64) (tI .i64)) 74 v_129 (treeE 4 1 sT), Ob.v (tSl (tI .i64)) sT v_122, Ob.v (tSl (tI .i64)) sS v_112, Ob.v (tSl (tI .i64)) sS v_102, .row (tI .i64) 3 v_96 (basinE 3 3 sS 4), Ob.v (tSl (tI .i64)) sS v_89, .row (tI .i64) 3 v_83 (wayE 3 3 sS 0), Ob.v (tSl (tI .i64)) sS v_76, Ob.v (tSl (tI .i64)) [6, 5, 4, 3] r_64, Ob.v (tSl (tI .i64)) [6, 5, 4, 3] v_60, Ob.v (tSl (tI .i64)) sS v_56, .row (tSl (tI .i64)) 22 v_50 (poolsE 4 1 sT 2), Ob.v (tSl (tI .i64)) sT v_43, .row (tI .i64) 3 v_37 (bareE 3 3 sS 0), Ob.v (tSl (tI .i64)) sS v_30, .row (tI .i64) 3 v_24 (depthsE 3 3 sS 5), Ob.v (tSl (tI .i64)) sS v_17, .row (tI .i64) 3 v_11 (sillsE 3 3 sS), Ob.v (tSl (tI .i64)) sS v_4]) ?_ ?_
  · rcases Bool.eq_false_or_eq_true ((((((((decide ((betwX 3 3 sS 4 10) = 2) && true) && true) && true) && true) && true) && true) && true) && true) with g_277 | g_277
    · -- True
      have gp_278 := g_277
      try simp only [Bool.and_eq_true, Bool.or_eq_true, Bool.not_eq_true', Bool.and_eq_false_iff, Bool.or_eq_false_iff, Bool.not_eq_false', decide_eq_true_eq, decide_eq_false_iff_not, not_or, Bool.false_eq_true, Bool.true_eq_false, false_or, or_false, not_false_eq_true] at gp_278
      refine Wx.gyes rfl rfl (congrArg Value.bool g_277) ?_
      refine Wx.rd (v := .int .i64 4) (rd_move rfl) rfl ?_
      refine Wx.gyes rfl rfl (congrArg Value.bool g_277) ?_
      refine Wx.rd (v := .bool true) (Rd.to (v := .bool (decide ((4 : Int) = 4))) (rd_eql rfl rfl) rfl) rfl ?_
      refine Wx.rd (v := .bool true) (rd_pickT (congrArg Value.bool g_277) rfl) rfl ?_
      refine Wx.nil ⟨(), hS, ⟨?_, trivial⟩, Out.look rfl Out.refl⟩
      show Value.bool true = Value.bool (((((((((decide ((betwX 3 3 sS 4 10) = 2) && true) && true) && true) && true) && true) && true) && true) && true) && true)
      first | rw [g_277, Bool.true_and] | (rw [g_277]; rfl)
    · -- False
      have gp_279 := g_277
      try simp only [Bool.and_eq_true, Bool.or_eq_true, Bool.not_eq_true', Bool.and_eq_false_iff, Bool.or_eq_false_iff, Bool.not_eq_false', decide_eq_true_eq, decide_eq_false_iff_not, not_or, Bool.false_eq_true, Bool.true_eq_false, false_or, or_false, not_false_eq_true] at gp_279
      refine Wx.gnoB rfl rfl (congrArg Value.bool g_277) rfl rfl ?_
      refine Wx.gnoB rfl rfl (congrArg Value.bool g_277) rfl rfl ?_
      refine Wx.rd (v := .bool false) (rd_pickF (congrArg Value.bool g_277) rfl) rfl ?_
      refine Wx.nil ⟨(), hS, ⟨?_, trivial⟩, Out.look rfl Out.refl⟩
      show Value.bool false = Value.bool (((((((((decide ((betwX 3 3 sS 4 10) = 2) && true) && true) && true) && true) && true) && true) && true) && true) && true)
      first | rw [g_277, Bool.false_and] | (rw [g_277]; rfl)
  rintro ⟨⟩ u_281 w_280 hS
  refine Wx.rd (v := .bool (((((((((decide ((betwX 3 3 sS 4 10) = 2) && true) && true) && true) && true) && true) && true) && true) && true) && true)) (rd_move rfl) rfl ?_
  refine Wx.cut (X := Unit) 8 [174, 175, 176, 177, 178, 179, 180, 181] (fun _ => [(181, .bool ((((((((((decide ((betwX 3 3 sS 4 10) = 2) && true) && true) && true) && true) && true) && true) && true) && true) && true) && true))]) (fun _ w' => St w [] w' [Ob.v (tSl (tI .i64)) sS v_155, Ob.v (tSl (tI .i64)) [6, 5, 4, 3] r_143, Ob.v (tSl (tI .i64)) [6, 5, 4, 3] v_139, Ob.v (tSl (tI .i64)) sS v_135, .row (tP (tI .i64) (tI .i64)) 74 v_129 (treeE 4 1 sT), Ob.v (tSl (tI .i64)) sT v_122, Ob.v (tSl (tI .i64)) sS v_112, Ob.v (tSl (tI .i64)) sS v_102, .row (tI .i64) 3 v_96 (basinE 3 3 sS 4), Ob.v (tSl (tI .i64)) sS v_89, .row (tI .i64) 3 v_83 (wayE 3 3 sS 0), Ob.v (tSl (tI .i64)) sS v_76, Ob.v (tSl (tI .i64)) [6, 5, 4, 3] r_64, Ob.v (tSl (tI .i64)) [6, 5, 4, 3] v_60, Ob.v (tSl (tI .i64)) sS v_56, .row (tSl (tI .i64)) 22 v_50 (poolsE 4 1 sT 2), Ob.v (tSl (tI .i64)) sT v_43, .row (tI .i64) 3 v_37 (bareE 3 3 sS 0), Ob.v (tSl (tI .i64)) sS v_30, .row (tI .i64) 3 v_24 (depthsE 3 3 sS 5), Ob.v (tSl (tI .i64)) sS v_17, .row (tI .i64) 3 v_11 (sillsE 3 3 sS), Ob.v (tSl (tI .i64)) sS v_4]) ?_ ?_
  · rcases Bool.eq_false_or_eq_true (((((((((decide ((betwX 3 3 sS 4 10) = 2) && true) && true) && true) && true) && true) && true) && true) && true) && true) with g_282 | g_282
    · -- True
      have gp_283 := g_282
      try simp only [Bool.and_eq_true, Bool.or_eq_true, Bool.not_eq_true', Bool.and_eq_false_iff, Bool.or_eq_false_iff, Bool.not_eq_false', decide_eq_true_eq, decide_eq_false_iff_not, not_or, Bool.false_eq_true, Bool.true_eq_false, false_or, or_false, not_false_eq_true] at gp_283
      refine Wx.gyes rfl rfl (congrArg Value.bool g_282) ?_
      refine Wx.rd (v := v_129) (rd_move rfl) rfl ?_
      refine Wx.gyes rfl rfl (congrArg Value.bool g_282) ?_
      refine Wx.rd (v := .agg #[.int .i64 3, .int .i64 4]) (rd_build (vs := [(0, .int .i64 3), (1, .int .i64 4)]) rfl (by kernel_rfl)) rfl ?_
      refine Wx.gyes rfl rfl (congrArg Value.bool g_282) ?_
      refine Wx.rd (v := .agg #[.int .i64 1, .int .i64 2]) (rd_build (vs := [(0, .int .i64 1), (1, .int .i64 2)]) rfl (by kernel_rfl)) rfl ?_
      refine Wx.gyes rfl rfl (congrArg Value.bool g_282) ?_
      refine Wx.rd (v := .agg #[.int .i64 2, .int .i64 3]) (rd_build (vs := [(0, .int .i64 2), (1, .int .i64 3)]) rfl (by kernel_rfl)) rfl ?_
      refine Wx.gyes rfl rfl (congrArg Value.bool g_282) ?_
      refine Wx.rd (v := .agg #[.int .i64 0, .int .i64 1]) (rd_build (vs := [(0, .int .i64 0), (1, .int .i64 1)]) rfl (by kernel_rfl)) rfl ?_
      refine Wx.gyes rfl rfl (congrArg Value.bool g_282) ?_
      refine Wx.lit (t := (tP (tI .i64) (tI .i64))) (ys := [(3, 4), (1, 2), (2, 3), (0, 1)]) (vs := [.agg #[.int .i64 3, .int .i64 4], .agg #[.int .i64 1, .int .i64 2], .agg #[.int .i64 2, .int .i64 3], .agg #[.int .i64 0, .int .i64 1]]) elMb_52 hS rfl rfl ⟨(V.mk2 (in_i64 (by omega) (by omega)) (in_i64 (by omega) (by omega))), ⟨(V.mk2 (in_i64 (by omega) (by omega)) (in_i64 (by omega) (by omega))), ⟨(V.mk2 (in_i64 (by omega) (by omega)) (in_i64 (by omega) (by omega))), ⟨(V.mk2 (in_i64 (by omega) (by omega)) (in_i64 (by omega) (by omega))), trivial⟩⟩⟩⟩ (by decide) rfl (fun v_284 w_285 hx_286 hS => ?_)
      refine Wx.gyes rfl rfl (congrArg Value.bool g_282) ?_
      refine Wx.callF (run_callF Try.call41 rfl) (F41 (hS.lend 5 rfl) (hS.lend 0 rfl)) rfl ?_
      rintro r_287 w_288 hx_289 rfl
      have hS := hS.ext hx_289
      rw [show (decide ((treeE 4 1 sT) = [(3, 4), (1, 2), (2, 3), (0, 1)]) : Bool) = true from (by decide +kernel)]
      refine Wx.rd (v := .bool true) (rd_pickT (congrArg Value.bool g_282) rfl) rfl ?_
      refine Wx.nil ⟨(), hS.tl, ⟨?_, trivial⟩, Out.look rfl Out.refl⟩
      show Value.bool true = Value.bool ((((((((((decide ((betwX 3 3 sS 4 10) = 2) && true) && true) && true) && true) && true) && true) && true) && true) && true) && true)
      first | rw [g_282, Bool.true_and] | (rw [g_282]; rfl)
    · -- False
      have gp_290 := g_282
      try simp only [Bool.and_eq_true, Bool.or_eq_true, Bool.not_eq_true', Bool.and_eq_false_iff, Bool.or_eq_false_iff, Bool.not_eq_false', decide_eq_true_eq, decide_eq_false_iff_not, not_or, Bool.false_eq_true, Bool.true_eq_false, false_or, or_false, not_false_eq_true] at gp_290
      refine Wx.gnoB rfl rfl (congrArg Value.bool g_282) rfl rfl ?_
      refine Wx.gnoB rfl rfl (congrArg Value.bool g_282) rfl rfl ?_
      refine Wx.gnoB rfl rfl (congrArg Value.bool g_282) rfl rfl ?_
      refine Wx.gnoB rfl rfl (congrArg Value.bool g_282) rfl rfl ?_
      refine Wx.gnoB rfl rfl (congrArg Value.bool g_282) rfl rfl ?_
      refine Wx.gnoB rfl rfl (congrArg Value.bool g_282) rfl rfl ?_
      refine Wx.gnoB rfl rfl (congrArg Value.bool g_282) rfl rfl ?_
      refine Wx.rd (v := .bool false) (rd_pickF (congrArg Value.bool g_282) rfl) rfl ?_
      refine Wx.nil ⟨(), hS, ⟨?_, trivial⟩, Out.look rfl Out.refl⟩
      show Value.bool false = Value.bool ((((((((((decide ((betwX 3 3 sS 4 10) = 2) && true) && true) && true) && true) && true) && true) && true) && true) && true) && true)
      first | rw [g_282, Bool.false_and] | (rw [g_282]; rfl)
  rintro ⟨⟩ u_292 w_291 hS
  refine Wx.rd (v := .bool ((((((((((decide ((betwX 3 3 sS 4 10) = 2) && true) && true) && true) && true) && true) && true) && true) && true) && true) && true)) (rd_move rfl) rfl ?_
  refine Wx.cut (X := Unit) 6 [183, 184, 185, 186, 187, 188] (fun _ => [(188, .bool (((((((((((decide ((betwX 3 3 sS 4 10) = 2) && true) && true) && true) && true) && true) && true) && true) && true) && true) && true) && true))]) (fun _ w' => St w [] w' [Ob.v (tSl (tI .i64)) sS v_155, Ob.v (tSl (tI .i64)) [6, 5, 4, 3] r_143, Ob.v (tSl (tI .i64)) [6, 5, 4, 3] v_139, Ob.v (tSl (tI .i64)) sS v_135, .row (tP (tI .i64) (tI .i64)) 74 v_129 (treeE 4 1 sT), Ob.v (tSl (tI .i64)) sT v_122, Ob.v (tSl (tI .i64)) sS v_112, Ob.v (tSl (tI .i64)) sS v_102, .row (tI .i64) 3 v_96 (basinE 3 3 sS 4), Ob.v (tSl (tI .i64)) sS v_89, .row (tI .i64) 3 v_83 (wayE 3 3 sS 0), Ob.v (tSl (tI .i64)) sS v_76, Ob.v (tSl (tI .i64)) [6, 5, 4, 3] r_64, Ob.v (tSl (tI .i64)) [6, 5, 4, 3] v_60, Ob.v (tSl (tI .i64)) sS v_56, .row (tSl (tI .i64)) 22 v_50 (poolsE 4 1 sT 2), Ob.v (tSl (tI .i64)) sT v_43, .row (tI .i64) 3 v_37 (bareE 3 3 sS 0), Ob.v (tSl (tI .i64)) sS v_30, .row (tI .i64) 3 v_24 (depthsE 3 3 sS 5), Ob.v (tSl (tI .i64)) sS v_17, .row (tI .i64) 3 v_11 (sillsE 3 3 sS), Ob.v (tSl (tI .i64)) sS v_4]) ?_ ?_
  · rcases Bool.eq_false_or_eq_true ((((((((((decide ((betwX 3 3 sS 4 10) = 2) && true) && true) && true) && true) && true) && true) && true) && true) && true) && true) with g_293 | g_293
    · -- True
      have gp_294 := g_293
      try simp only [Bool.and_eq_true, Bool.or_eq_true, Bool.not_eq_true', Bool.and_eq_false_iff, Bool.or_eq_false_iff, Bool.not_eq_false', decide_eq_true_eq, decide_eq_false_iff_not, not_or, Bool.false_eq_true, Bool.true_eq_false, false_or, or_false, not_false_eq_true] at gp_294
      refine Wx.gyes rfl rfl (congrArg Value.bool g_293) ?_
      refine Wx.callF (run_callF Try.call48 rfl) (F48 hS.fb_lt) rfl ?_
      rintro r_295 w_296 hx_297 ⟨v_298, rfl, hv_299⟩
      have ln_301 := hv_299.len63
      have hS := hS.ext hx_297
      have hS := hS.add hv_299
      refine Wx.gyes rfl rfl (congrArg Value.bool g_293) ?_
      refine Wx.lit (t := (tI .i64)) (ys := [4]) (vs := [.int .i64 4]) elMb_22 hS rfl rfl ⟨(V.mkInt (in_i64 (by omega) (by omega))), trivial⟩ (by decide) rfl (fun v_302 w_303 hx_304 hS => ?_)
      refine Wx.gyes rfl rfl (congrArg Value.bool g_293) ?_
      have hS := hS.freeze 0 rfl
      refine Wx.callF (run_callF Try.call49 rfl) (F49 (hS.v 0 rfl) hS.fb_lt) rfl ?_
      rintro r_306 w_307 hx_308 ⟨_, rfl, hv_309⟩
      have ln_311 := hv_309.len63
      have hS := hS.ext hx_308
      have hS := hS.add hv_309
      refine Wx.gyes rfl rfl (congrArg Value.bool g_293) ?_
      refine Wx.callF (run_callF Try.call35 rfl) (F35 (in_i64 (by omega) (by omega)) (in_i64 (by omega) (by omega)) (hS.v 2 rfl) (hS.v 0 rfl) (in_i64 (by omega) (by omega))) rfl ?_
      rintro r_312 w_313 hx_314 rfl
      have hS := hS.ext hx_314
      rw [show (provesE 3 3 sS [4] 4 : Int) = 0 from (by decide +kernel)]
      refine Wx.gyes rfl rfl (congrArg Value.bool g_293) ?_
      refine Wx.rd (v := .bool true) (Rd.to (v := .bool (decide ((0 : Int) = 0))) (rd_eql rfl rfl) rfl) rfl ?_
      refine Wx.rd (v := .bool true) (rd_pickT (congrArg Value.bool g_293) rfl) rfl ?_
      refine Wx.nil ⟨(), St.tl (St.tl (hS.tl)), ⟨?_, trivial⟩, Out.look rfl Out.refl⟩
      show Value.bool true = Value.bool (((((((((((decide ((betwX 3 3 sS 4 10) = 2) && true) && true) && true) && true) && true) && true) && true) && true) && true) && true) && true)
      first | rw [g_293, Bool.true_and] | (rw [g_293]; rfl)
    · -- False
      have gp_315 := g_293
      try simp only [Bool.and_eq_true, Bool.or_eq_true, Bool.not_eq_true', Bool.and_eq_false_iff, Bool.or_eq_false_iff, Bool.not_eq_false', decide_eq_true_eq, decide_eq_false_iff_not, not_or, Bool.false_eq_true, Bool.true_eq_false, false_or, or_false, not_false_eq_true] at gp_315
      refine Wx.gnoB rfl rfl (congrArg Value.bool g_293) rfl rfl ?_
      refine Wx.gnoB rfl rfl (congrArg Value.bool g_293) rfl rfl ?_
      refine Wx.gnoB rfl rfl (congrArg Value.bool g_293) rfl rfl ?_
      refine Wx.gnoB rfl rfl (congrArg Value.bool g_293) rfl rfl ?_
      refine Wx.gnoB rfl rfl (congrArg Value.bool g_293) rfl rfl ?_
      refine Wx.rd (v := .bool false) (rd_pickF (congrArg Value.bool g_293) rfl) rfl ?_
      refine Wx.nil ⟨(), hS, ⟨?_, trivial⟩, Out.look rfl Out.refl⟩
      show Value.bool false = Value.bool (((((((((((decide ((betwX 3 3 sS 4 10) = 2) && true) && true) && true) && true) && true) && true) && true) && true) && true) && true) && true)
      first | rw [g_293, Bool.false_and] | (rw [g_293]; rfl)
  rintro ⟨⟩ u_317 w_316 hS
  refine Wx.rd (v := .bool (((((((((((decide ((betwX 3 3 sS 4 10) = 2) && true) && true) && true) && true) && true) && true) && true) && true) && true) && true) && true)) (rd_move rfl) rfl ?_
  refine Wx.cut (X := Unit) 6 [190, 191, 192, 193, 194, 195] (fun _ => [(195, .bool ((((((((((((decide ((betwX 3 3 sS 4 10) = 2) && true) && true) && true) && true) && true) && true) && true) && true) && true) && true) && true) && true))]) (fun _ w' => St w [] w' [Ob.v (tSl (tI .i64)) sS v_155, Ob.v (tSl (tI .i64)) [6, 5, 4, 3] r_143, Ob.v (tSl (tI .i64)) [6, 5, 4, 3] v_139, Ob.v (tSl (tI .i64)) sS v_135, .row (tP (tI .i64) (tI .i64)) 74 v_129 (treeE 4 1 sT), Ob.v (tSl (tI .i64)) sT v_122, Ob.v (tSl (tI .i64)) sS v_112, Ob.v (tSl (tI .i64)) sS v_102, .row (tI .i64) 3 v_96 (basinE 3 3 sS 4), Ob.v (tSl (tI .i64)) sS v_89, .row (tI .i64) 3 v_83 (wayE 3 3 sS 0), Ob.v (tSl (tI .i64)) sS v_76, Ob.v (tSl (tI .i64)) [6, 5, 4, 3] r_64, Ob.v (tSl (tI .i64)) [6, 5, 4, 3] v_60, Ob.v (tSl (tI .i64)) sS v_56, .row (tSl (tI .i64)) 22 v_50 (poolsE 4 1 sT 2), Ob.v (tSl (tI .i64)) sT v_43, .row (tI .i64) 3 v_37 (bareE 3 3 sS 0), Ob.v (tSl (tI .i64)) sS v_30, .row (tI .i64) 3 v_24 (depthsE 3 3 sS 5), Ob.v (tSl (tI .i64)) sS v_17, .row (tI .i64) 3 v_11 (sillsE 3 3 sS), Ob.v (tSl (tI .i64)) sS v_4]) ?_ ?_
  · rcases Bool.eq_false_or_eq_true (((((((((((decide ((betwX 3 3 sS 4 10) = 2) && true) && true) && true) && true) && true) && true) && true) && true) && true) && true) && true) with g_318 | g_318
    · -- True
      have gp_319 := g_318
      try simp only [Bool.and_eq_true, Bool.or_eq_true, Bool.not_eq_true', Bool.and_eq_false_iff, Bool.or_eq_false_iff, Bool.not_eq_false', decide_eq_true_eq, decide_eq_false_iff_not, not_or, Bool.false_eq_true, Bool.true_eq_false, false_or, or_false, not_false_eq_true] at gp_319
      refine Wx.gyes rfl rfl (congrArg Value.bool g_318) ?_
      refine Wx.callF (run_callF Try.call48 rfl) (F48 hS.fb_lt) rfl ?_
      rintro r_320 w_321 hx_322 ⟨v_323, rfl, hv_324⟩
      have ln_326 := hv_324.len63
      have hS := hS.ext hx_322
      have hS := hS.add hv_324
      refine Wx.gyes rfl rfl (congrArg Value.bool g_318) ?_
      refine Wx.lit (t := (tI .i64)) (ys := [4]) (vs := [.int .i64 4]) elMb_22 hS rfl rfl ⟨(V.mkInt (in_i64 (by omega) (by omega))), trivial⟩ (by decide) rfl (fun v_327 w_328 hx_329 hS => ?_)
      refine Wx.gyes rfl rfl (congrArg Value.bool g_318) ?_
      have hS := hS.freeze 0 rfl
      refine Wx.callF (run_callF Try.call49 rfl) (F49 (hS.v 0 rfl) hS.fb_lt) rfl ?_
      rintro r_331 w_332 hx_333 ⟨_, rfl, hv_334⟩
      have ln_336 := hv_334.len63
      have hS := hS.ext hx_333
      have hS := hS.add hv_334
      refine Wx.gyes rfl rfl (congrArg Value.bool g_318) ?_
      refine Wx.callF (run_callF Try.call35 rfl) (F35 (in_i64 (by omega) (by omega)) (in_i64 (by omega) (by omega)) (hS.v 2 rfl) (hS.v 0 rfl) (in_i64 (by omega) (by omega))) rfl ?_
      rintro r_337 w_338 hx_339 rfl
      have hS := hS.ext hx_339
      rw [show (provesE 3 3 sS [4] 5 : Int) = 14 from (by decide +kernel)]
      refine Wx.gyes rfl rfl (congrArg Value.bool g_318) ?_
      refine Wx.rd (v := .bool true) (Rd.to (v := .bool (decide ((14 : Int) = 14))) (rd_eql rfl rfl) rfl) rfl ?_
      refine Wx.rd (v := .bool true) (rd_pickT (congrArg Value.bool g_318) rfl) rfl ?_
      refine Wx.nil ⟨(), St.tl (St.tl (hS.tl)), ⟨?_, trivial⟩, Out.look rfl Out.refl⟩
      show Value.bool true = Value.bool ((((((((((((decide ((betwX 3 3 sS 4 10) = 2) && true) && true) && true) && true) && true) && true) && true) && true) && true) && true) && true) && true)
      first | rw [g_318, Bool.true_and] | (rw [g_318]; rfl)
    · -- False
      have gp_340 := g_318
      try simp only [Bool.and_eq_true, Bool.or_eq_true, Bool.not_eq_true', Bool.and_eq_false_iff, Bool.or_eq_false_iff, Bool.not_eq_false', decide_eq_true_eq, decide_eq_false_iff_not, not_or, Bool.false_eq_true, Bool.true_eq_false, false_or, or_false, not_false_eq_true] at gp_340
      refine Wx.gnoB rfl rfl (congrArg Value.bool g_318) rfl rfl ?_
      refine Wx.gnoB rfl rfl (congrArg Value.bool g_318) rfl rfl ?_
      refine Wx.gnoB rfl rfl (congrArg Value.bool g_318) rfl rfl ?_
      refine Wx.gnoB rfl rfl (congrArg Value.bool g_318) rfl rfl ?_
      refine Wx.gnoB rfl rfl (congrArg Value.bool g_318) rfl rfl ?_
      refine Wx.rd (v := .bool false) (rd_pickF (congrArg Value.bool g_318) rfl) rfl ?_
      refine Wx.nil ⟨(), hS, ⟨?_, trivial⟩, Out.look rfl Out.refl⟩
      show Value.bool false = Value.bool ((((((((((((decide ((betwX 3 3 sS 4 10) = 2) && true) && true) && true) && true) && true) && true) && true) && true) && true) && true) && true) && true)
      first | rw [g_318, Bool.false_and] | (rw [g_318]; rfl)
  rintro ⟨⟩ u_342 w_341 hS
  refine Wx.rd (v := .bool ((((((((((((decide ((betwX 3 3 sS 4 10) = 2) && true) && true) && true) && true) && true) && true) && true) && true) && true) && true) && true) && true)) (rd_assign rfl) rfl ?_
  refine Wx.nil ?_
  have e0_0 : ((((((((((((decide ((betwX 3 3 sS 4 10) = 2) && true) && true) && true) && true) && true) && true) && true) && true) && true) && true) && true) && true) = true := by first | rfl | omega
  exact W.ret ⟨.bool ((((((((((((decide ((betwX 3 3 sS 4 10) = 2) && true) && true) && true) && true) && true) && true) && true) && true) && true) && true) && true) && true), ResIs.one, hS.bel, (by rw [e0_0])⟩
end Go.Proofs.Ytjhimoeodkaihaa

namespace Go.Proofs.Ytjhimoeodkaihaa
open Go.Wk Go.RowKit Go.Lib
set_option linter.unusedVariables false
set_option linter.unusedSimpArgs false
theorem foMf_24_2 : fldOff Try.prog 24 2 = some 2 := by kernel_rfl

set_option maxHeartbeats 2000000 in
theorem F6 {R : Int} {C : Int} {hv : Value} {H : List Int} {a : Int} {b : Int} {O : List (Option Nat)} {w : World} (i_R : InK .i64 R) (i_C : InK .i64 C) (h_hv : V (tSl (tI .i64)) H hv O w) (i_a : InK .i64 a) (i_b : InK .i64 b) (hO : ∀ b, some b ∈ O → b < w.heap.size) : Calls Try.prog 6 #[.agg #[.int .i64 R, .int .i64 C, hv], .int .i64 a, .int .i64 b] w (Ret w (fun r _ => r = .bool true)) := by
  have b_b := bd_i64 i_b
  have b_a := bd_i64 i_a
  have b_C := bd_i64 i_C
  have b_R := bd_i64 i_R
  have a_hv := h_hv
  have l_hv := h_hv.len63
  have hS := St.start w O hO
  refine enterR Try.func6 rfl Try.ntmps6 Try.results6 rfl ?_
  refine W.seq ?_
  refine W.reg ?_
  refine Wx.box (cs := [.int .i64 R, .int .i64 C, hv]) hS rfl rfl rfl (fun g_1 w_2 hx_4 hb_3 hS => ?_)
  refine Wx.rd (v := .bool false) (rd_assign rfl) rfl ?_
  refine Wx.nil ?_
  refine W.seq ?_
  refine W.seq ?_
  refine W.reg ?_
  refine Wx.rd (v := .pointer (some ⟨g_1, 2, none⟩)) (rd_fieldAddr rfl foMf_24_2) rfl ?_
  refine Wx.rd (v := hv) (rd_loadX hS 0 rfl rfl rfl Try.isAgg22) rfl ?_
  refine Wx.callF (run_callF Try.call15 rfl) (F15 (hS.arg a_hv)) rfl ?_
  rintro r_5 w_6 hx_7 rfl
  have hS := hS.ext hx_7
  refine Wx.nil ?_
  refine W.condD rfl (fun c0 => ?_) (fun c0 => ?_)
  · -- yes
    refine W.seq ?_
    refine W.reg ?_
    refine Wx.callF (run_callF Try.call16 rfl) (F16) rfl ?_
    rintro r_8 w_9 hx_10 rfl
    have hS := hS.ext hx_10
    refine Wx.rd (v := .bool true) (rd_assign rfl) rfl ?_
    refine Wx.nil ?_
    exact W.ret ⟨.bool true, ResIs.one, hS.bel, rfl⟩
  · -- no
    refine W.skip ?_
    refine W.seq ?_
    refine W.reg ?_
    refine Wx.rd (v := .agg #[.int .i64 R, .int .i64 C, hv]) (rd_loadXs (ds := [.int .i64 R, .int .i64 C, hv]) hS 0 rfl rfl rfl rfl Try.isAgg24 Try.sizeOf24) rfl ?_
    refine Wx.alloc (cs := [.int .i64 0, .int .i64 0, (.slice none 0 0)]) hS Try.zeroValue27 rfl rfl (fun g_11 w_12 hx_14 hb_13 hS => ?_)
    refine Wx.storeX (cs' := [.int .i64 R, .int .i64 C, hv]) (ds := [.int .i64 R, .int .i64 C, hv]) hS 0 rfl rfl rfl rfl Try.sizeOf27 (Nat.le_of_ble_eq_true rfl) (one_cons rfl (one_cons rfl (one_cons (V.oneC (hS.arg a_hv)) one_nil))) rfl (fun w_15 hz_16 hS => ?_)
    refine Wx.nil ?_
    refine W.seq ?_
    refine W.reg ?_
    refine Wx.rd (v := .agg #[.int .i64 R, .int .i64 C, hv]) (rd_loadXs (ds := [.int .i64 R, .int .i64 C, hv]) hS 1 rfl rfl rfl rfl Try.isAgg24 Try.sizeOf24) rfl ?_
    refine Wx.rd (v := .int .i64 a) (rd_move rfl) rfl ?_
    refine Wx.rd (v := .int .i64 b) (rd_move rfl) rfl ?_
    refine Wx.callF (run_callF Try.call37 rfl) (F37 i_R i_C (hS.arg a_hv) i_a i_b hS.fb_lt) rfl ?_
    rintro r_17 w_18 hx_19 rfl
    have hS := hS.ext hx_19
    refine Wx.rd (v := .tuple #[.int .i64 (betwE R C H a b), .int .i64 (betwX R C H a b)]) (rd_move rfl) rfl ?_
    refine Wx.rd (v := .int .i64 (betwE R C H a b)) (rd_extract rfl rfl) rfl ?_
    refine Wx.rd (v := .int .i64 (betwX R C H a b)) (rd_extract rfl rfl) rfl ?_
    refine Wx.rd (v := .int .i64 (betwE R C H a b)) (rd_assign rfl) rfl ?_
    refine Wx.rd (v := .int .i64 (betwX R C H a b)) (rd_assign rfl) rfl ?_
    refine Wx.nil ?_
    refine W.seq ?_
    refine W.reg ?_
    refine Wx.rd (v := .agg #[.int .i64 R, .int .i64 C, hv]) (rd_loadXs (ds := [.int .i64 R, .int .i64 C, hv]) hS 0 rfl rfl rfl rfl Try.isAgg27 Try.sizeOf27) rfl ?_
    refine Wx.rd (v := .int .i64 a) (rd_move rfl) rfl ?_
    refine Wx.rd (v := .int .i64 b) (rd_move rfl) rfl ?_
    refine Wx.callF (run_callF Try.call38 rfl) (F38 i_R i_C (hS.arg a_hv) i_a i_b hS.fb_lt) rfl ?_
    rintro r_20 w_21 hx_22 rfl
    have hS := hS.ext hx_22
    refine Wx.rd (v := .tuple #[.int .i64 (betwE R C H a b), .int .i64 (betwX R C H a b)]) (rd_move rfl) rfl ?_
    refine Wx.rd (v := .int .i64 (betwE R C H a b)) (rd_extract rfl rfl) rfl ?_
    refine Wx.rd (v := .int .i64 (betwX R C H a b)) (rd_extract rfl rfl) rfl ?_
    refine Wx.rd (v := .int .i64 (betwE R C H a b)) (rd_assign rfl) rfl ?_
    refine Wx.rd (v := .int .i64 (betwX R C H a b)) (rd_assign rfl) rfl ?_
    refine Wx.nil ?_
    refine W.seq ?_
    refine W.reg ?_
    refine Wx.rd (v := .agg #[.int .i64 R, .int .i64 C, hv]) (rd_loadXs (ds := [.int .i64 R, .int .i64 C, hv]) hS 1 rfl rfl rfl rfl Try.isAgg24 Try.sizeOf24) rfl ?_
    refine Wx.callF (run_callF Try.call39 rfl) (F39 i_R i_C (hS.arg a_hv) hS.fb_lt) rfl ?_
    rintro r_23 w_24 hx_25 ⟨v_26, rfl, hv_27⟩
    have hS := hS.pushFr hx_25 hv_27
    refine Wx.rd (v := .tuple #[v_26, .int .i64 (checkS R C H)]) (rd_move rfl) rfl ?_
    refine Wx.rd (v := v_26) (rd_extract rfl rfl) rfl ?_
    refine Wx.rd (v := .int .i64 (checkS R C H)) (rd_extract rfl rfl) rfl ?_
    refine Wx.rd (v := v_26) (rd_assign rfl) rfl ?_
    refine Wx.rd (v := .int .i64 (checkS R C H)) (rd_assign rfl) rfl ?_
    refine Wx.nil ?_
    refine W.seq ?_
    refine W.reg ?_
    refine Wx.rd (v := .agg #[.int .i64 R, .int .i64 C, hv]) (rd_loadXs (ds := [.int .i64 R, .int .i64 C, hv]) hS 1 rfl rfl rfl rfl Try.isAgg27 Try.sizeOf27) rfl ?_
    refine Wx.callF (run_callF Try.call40 rfl) (F40 i_R i_C (hS.arg a_hv) hS.fb_lt) rfl ?_
    rintro r_29 w_30 hx_31 ⟨v_32, rfl, hv_33⟩
    have hS := hS.pushFr hx_31 hv_33
    refine Wx.rd (v := .tuple #[v_32, .int .i64 (checkS R C H)]) (rd_move rfl) rfl ?_
    refine Wx.rd (v := v_32) (rd_extract rfl rfl) rfl ?_
    refine Wx.rd (v := .int .i64 (checkS R C H)) (rd_extract rfl rfl) rfl ?_
    refine Wx.rd (v := v_32) (rd_assign rfl) rfl ?_
    refine Wx.rd (v := .int .i64 (checkS R C H)) (rd_assign rfl) rfl ?_
    refine Wx.nil ?_
    refine W.seq ?_
    refine W.reg ?_
    refine Wx.rd (v := .int .i64 (betwE R C H a b)) (rd_move rfl) rfl ?_
    refine Wx.rd (v := .int .i64 (betwE R C H a b)) (rd_move rfl) rfl ?_
    refine Wx.rd (v := .bool true) (Rd.to (v := .bool (decide ((betwE R C H a b) = (betwE R C H a b)))) (rd_eql rfl rfl) (congrArg (Value.bool) (show (true : Bool) = (decide ((betwE R C H a b) = (betwE R C H a b)) : Bool) from (decide_eq_true rfl).symm).symm)) rfl ?_
    refine Wx.rd (v := .bool true) (rd_move rfl) rfl ?_
    refine Wx.gyes rfl rfl rfl ?_
    refine Wx.rd (v := .int .i64 (betwX R C H a b)) (rd_move rfl) rfl ?_
    refine Wx.gyes rfl rfl rfl ?_
    refine Wx.rd (v := .int .i64 (betwX R C H a b)) (rd_move rfl) rfl ?_
    refine Wx.gyes rfl rfl rfl ?_
    refine Wx.rd (v := .bool true) (Rd.to (v := .bool (decide ((betwX R C H a b) = (betwX R C H a b)))) (rd_eql rfl rfl) (congrArg (Value.bool) (show (true : Bool) = (decide ((betwX R C H a b) = (betwX R C H a b)) : Bool) from (decide_eq_true rfl).symm).symm)) rfl ?_
    refine Wx.rd (v := .bool true) (rd_pickT rfl rfl) rfl ?_
    refine Wx.rd (v := .bool true) (rd_move rfl) rfl ?_
    refine Wx.gyes rfl rfl rfl ?_
    refine Wx.rd (v := v_26) (rd_move rfl) rfl ?_
    refine Wx.gyes rfl rfl rfl ?_
    refine Wx.rd (v := v_32) (rd_move rfl) rfl ?_
    refine Wx.gyes rfl rfl rfl ?_
    refine Wx.callF (run_callF Try.call41 rfl) (F41 (hS.lend 1 rfl) (hS.lend 0 rfl)) rfl ?_
    rintro r_35 w_36 hx_37 rfl
    have hS := hS.ext hx_37
    rw [show (decide ((treeE R C H) = (treeE R C H)) : Bool) = true from (decide_eq_true rfl)]
    refine Wx.rd (v := .bool true) (rd_pickT rfl rfl) rfl ?_
    refine Wx.rd (v := .bool true) (rd_move rfl) rfl ?_
    refine Wx.gyes rfl rfl rfl ?_
    refine Wx.rd (v := .int .i64 (checkS R C H)) (rd_move rfl) rfl ?_
    refine Wx.gyes rfl rfl rfl ?_
    refine Wx.rd (v := .int .i64 (checkS R C H)) (rd_move rfl) rfl ?_
    refine Wx.gyes rfl rfl rfl ?_
    refine Wx.rd (v := .bool true) (Rd.to (v := .bool (decide ((checkS R C H) = (checkS R C H)))) (rd_eql rfl rfl) (congrArg (Value.bool) (show (true : Bool) = (decide ((checkS R C H) = (checkS R C H)) : Bool) from (decide_eq_true rfl).symm).symm)) rfl ?_
    refine Wx.rd (v := .bool true) (rd_pickT rfl rfl) rfl ?_
    refine Wx.rd (v := .bool true) (rd_move rfl) rfl ?_
    refine Wx.gyes rfl rfl rfl ?_
    refine Wx.callF (run_callF Try.call16 rfl) (F16) rfl ?_
    rintro r_38 w_39 hx_40 rfl
    have hS := hS.ext hx_40
    refine Wx.rd (v := .bool true) (rd_pickT rfl rfl) rfl ?_
    refine Wx.rd (v := .bool true) (rd_assign rfl) rfl ?_
    refine Wx.nil ?_
    exact W.ret ⟨.bool true, ResIs.one, hS.bel, rfl⟩
end Go.Proofs.Ytjhimoeodkaihaa

namespace Go.Wk
open Go.RowKit Go.ChangeShapes

section
variable {H : Type} {enc : TypeId × Value → H} {P : Program} {W : World}

theorem inK_of_wf {k : IntKind} {n : Int} (h : (Lit.int k n).wf = true) : InK k n := by
  cases k <;> simp [Lit.wf, IntKind.min, IntKind.max, IntKind.bits, IntKind.signed] at h <;> simp only [InK, lo, hi] <;> omega

theorem cell_lt {a : Addr} {v : Value} (h : W.cell? a = some v) : a.block < W.heap.size := by
  by_cases hb : a.block < W.heap.size
  · exact hb
  · have : W.heap[a.block]? = none := by simp; omega
    simp [World.cell?, this] at h

theorem add_add (a : Addr) (i j : Nat) : (a.add i).add j = a.add (i + j) := by
  obtain ⟨b, o, s⟩ := a
  by_cases hi : i = 0
  · subst hi; simp [Addr.add]
  · by_cases hj : j = 0
    · subst hj; simp [Addr.add]
    · simp [Addr.add, hi, hj, Nat.add_assoc]
structure Rds {α : Type} (enc : TypeId × Value → H) (P : Program) (W : World) (t : Ty α) (e : TypeId) : Prop where
  n : P.cellsOf e = t.n
  pos : 0 < t.n
  get : ∀ fuel cs x, DataW.trod enc P W 0 (fun _ => true) true fuel e cs = some x → ∃ y, t.rep [] W y cs

theorem Rds.int {k : IntKind} {e : TypeId} (hu : P.underlying e = some (.int k)) (hc : P.cellsOf e = 1) : Rds enc P W (tI k) e :=
  ⟨hc, Nat.one_pos, fun _ _ _ h => let ⟨n, h1, _, h3⟩ := DataW.trod_int hu h; ⟨n, h1, inK_of_wf h3⟩⟩

theorem list_of {α : Type} {p : Nat → α → Prop} : ∀ n : Nat, (∀ i, i < n → ∃ y, p i y) → ∃ ys : List α, ys.length = n ∧ ∀ i y, ys[i]? = some y → p i y
  | 0, _ => ⟨[], rfl, by simp⟩
  | n + 1, h => by
    obtain ⟨ys, h1, h2⟩ := list_of n (fun i hi => h i (by omega))
    obtain ⟨y, hy⟩ := h n (by omega)
    refine ⟨ys ++ [y], by simp [h1], fun i z hz => ?_⟩
    by_cases hi : i < ys.length
    · rw [List.getElem?_append_left hi] at hz; exact h2 i z hz
    · rw [List.getElem?_append_right (by omega)] at hz
      have : i - ys.length = 0 := by
        rcases Nat.eq_zero_or_pos (i - ys.length) with h | h
        · exact h
        · rw [List.getElem?_eq_none (by simp; omega)] at hz; cases hz
      rw [this] at hz
      simp at hz
      subst hz
      have : i = n := by omega
      rw [this]; exact hy

theorem Rds.sl {α : Type} {t : Ty α} {e s : TypeId} (h : Rds enc P W t e) (hu : P.underlying s = some (.slice e)) (hc : P.cellsOf s = 1) : Rds enc P W (tSl t) s := by
  refine ⟨hc, Nat.one_pos, fun fuel cs x hx => ?_⟩
  rcases Go.Deep.open_slice hu hx with ⟨rfl, _⟩ | ⟨a, len, cap, m, n, D, Pl, rfl, _, hl, hm, hmm, _, hel⟩
  · exact ⟨[], none, 0, rfl, Nat.le_refl _, Nat.zero_le _, fun h => (h rfl).elim⟩
  · obtain ⟨ys, hy1, hy2⟩ := list_of (p := fun i y => ∃ cs', W.cells? 0 (a.add (i * P.cellsOf e)) (P.cellsOf e) = some cs' ∧ t.rep [] W y cs') len (fun i hi => by
      obtain ⟨cs', h1, h2⟩ := hel i (by simp at hmm; omega)
      obtain ⟨y, hy⟩ := h.get _ _ _ h2
      exact ⟨y, cs', h1, hy⟩)
    refine ⟨ys, some a, cap, by rw [hy1], by omega, hm, fun hn => ?_⟩
    have hp : 0 < ys.length := by cases ys with | nil => exact (hn rfl).elim | cons => simp
    have hcell : ∀ i y, ys[i]? = some y → ∃ es, t.rep [] W y es ∧ ∀ j u, es[j]? = some u → W.cell? (a.add (i * t.n + j)) = some u := by
      intro i y hi
      obtain ⟨cs', h1, h2⟩ := hy2 i y hi
      obtain ⟨_, hlen, hc'⟩ := World.cells?_some h1
      refine ⟨cs', h2, fun j u hu' => ?_⟩
      have hj : j < P.cellsOf e := by
        obtain ⟨hlt, _⟩ := List.getElem?_eq_some_iff.1 hu'
        omega
      have := hc' j hj
      rw [hu', h.n, add_add] at this
      exact this
    obtain ⟨y0, hy0⟩ : ∃ y, ys[0]? = some y := ⟨ys[0], List.getElem?_eq_getElem hp⟩
    obtain ⟨es, he, hce⟩ := hcell 0 y0 hy0
    have hel' := t.len he
    obtain ⟨u0, hu0⟩ : ∃ u, es[0]? = some u := ⟨es[0]'(by have := h.pos; omega), List.getElem?_eq_getElem _⟩
    have hc0 := hce 0 u0 hu0
    obtain ⟨b, o, spot⟩ := a
    have hspot : spot = none := by simpa [Addr.add] using World.cell?_spot hc0
    subst hspot
    refine ⟨b, o, rfl, by simp, by simpa [Addr.add] using cell_lt hc0, fun i x hx => ?_⟩
    obtain ⟨es', he', hce'⟩ := hcell i x hx
    exact ⟨es', he', fun j u hu' => by rw [Nat.add_assoc, ← Go.WideShapes.add_plain]; exact hce' j u hu'⟩

theorem Rds.v1 {α : Type} {t : Ty α} {e : TypeId} {v : Value} {fuel : Nat} {x : DataW H × List MemPlace} (h : Rds enc P W (tSl t) e) (hx : DataW.trod enc P W 0 (fun _ => true) true fuel e [v] = some x) : ∃ y, V (tSl t) y v [] W := by
  obtain ⟨y, a, cap, h1, h2⟩ := h.get _ _ _ hx
  exact ⟨y, [v], by simp at h1; rw [h1]; rfl, a, cap, h1, h2⟩
end
end Go.Wk

namespace Go.Proofs.Ytjhimoeodkaihaa.ebbTrees
open Go.ChangeShapes Go.WideShapes Go.ChangeAt Go.RowKit Go.Joins Go.Wk
set_option linter.unusedVariables false

theorem own : ownKnob Try.prog.godebug = none := by kernel_rfl
theorem laidOut : laidOutB Try.prog = true := by kernel_rfl
theorem cells3 : Try.prog.cellsOf 3 = 1 := by kernel_rfl
theorem cells22 : Try.prog.cellsOf 22 = 1 := by kernel_rfl
theorem cells24 : Try.prog.cellsOf 24 = 3 := by kernel_rfl

set_option maxRecDepth 100000 in
theorem lifted (os : Os) (started : os.Started) (H : Type) (enc : TypeId × Value → H) :
    ReturnsInHanded {} Try.checked os 6 .any (Rows.ebbTreesSpec.pre6 enc Try.prog Try.f6 Rows.ebbTreesRow.domain false) (Rows.ebbTreesSpec.post enc Try.prog Try.f6 false true false false) := by
  refine returnsInHanded_of_change (C := Try.checked) own started (by kernel_rfl) Try.func6
    (ChangeSpec.witness6 (enc := enc) (C := Try.checked) false ⟨#[], #[.agg #[.int .i64 0, .int .i64 0, .slice none 0 0], .int .i64 0, .int .i64 0], []⟩ 8 (by kernel_rfl) (by kernel_rfl) (by kernel_rfl) (by kernel_rfl)) ?_
  intro W base args ds gs before hval0 hW hcnd _
  have hval : ∀ (j : Nat) t v, Try.f6.params[j]? = some t → args[j]? = some v → Value.okWide Try.prog W .any base t v := hval0
  have hW' := hW
  obtain ⟨p, q, hA0, hV, rfl, hfz, hnd⟩ := hW
  have hA : DataW.TrodAll enc Try.prog W 0 (fun _ => true) true Try.f6.params.toList args.toList ds p := hA0
  rw [Try.params6] at hA hval
  obtain ⟨v0, vs0, d0, ds0, p0, q0, hargs, rfl, rfl, h0, r0⟩ := trodAll_cons hA
  obtain ⟨v1, vs1, d1, ds1, p1, q1, rfl, rfl, rfl, h1, r1⟩ := trodAll_cons r0
  obtain ⟨v2, vs2, d2, ds2, p2, q2, rfl, rfl, rfl, h2, r2⟩ := trodAll_cons r1
  obtain ⟨rfl, rfl, rfl⟩ := trodAll_nil r2
  obtain rfl : args = #[v0, v1, v2] := by cases args; simp_all
  obtain ⟨rfl, rfl⟩ := trodVars_none hV
  have k0 := h0
  have lt0 : ∀ x ∈ p0, x.block < W.heap.size := by obtain ⟨m, hm⟩ := k0; exact DataW.trod_lt m _ _ _ hm
  obtain ⟨c0_0, c0_1, c0_2, y0_0, y0_1, y0_2, m0, rfl, rfl, rfl, q0_0, q0_1, q0_2⟩ := open_agg3 Try.underlying24 (by kernel_rfl) cells24 (hval 0 24 v0 rfl rfl) h0
  obtain ⟨a0_0, e0_0, _, u0_0⟩ := DataW.trod_int Try.underlying3 q0_0
  simp at e0_0
  subst e0_0
  obtain ⟨a0_1, e0_1, _, u0_1⟩ := DataW.trod_int Try.underlying3 q0_1
  simp at e0_1
  subst e0_1
  obtain ⟨xs0_2, hv0_2⟩ := Rds.v1 (Rds.sl (Rds.int Try.underlying3 cells3) Try.underlying22 cells22) q0_2
  obtain ⟨a1, rfl, rfl, rfl, u1⟩ := open_int Try.underlying3 (hval 1 3 v1 rfl rfl) h1
  obtain ⟨a2, rfl, rfl, rfl, u2⟩ := open_int Try.underlying3 (hval 2 3 v2 rfl rfl) h2
  clear hA0 hval0
  refine (F6 (inK_of_wf u0_0) (inK_of_wf u0_1) hv0_2 (inK_of_wf u1) (inK_of_wf u2) (fun b (h : some b ∈ ([] : List (Option Nat))) => nomatch h)).mono fun e W' hE => ?_
  obtain ⟨r, he, bel, hr⟩ := hE
  subst he
  subst hr
  exact ⟨_, rfl, _, _, _, [], _, [], hW', trodAll_mk1 (shut_bool Try.underlying4 _), (trodAll_cons_mk (Below.trod laidOut (by kernel_rfl) (of_decide_eq_true (by kernel_rfl)) k0 bel lt0) (trodAll_cons_mk (shut_int Try.underlying3 u1) (trodAll_cons_mk (shut_int Try.underlying3 u2) trodAll_mk0))), rfl, bel.frame _, fun h => by cases h⟩

theorem over : Rows.ebbTreesRow.holds Try.pinned (OpenSpec.ofChange Rows.ebbTreesSpec) :=
  OpenClaim.holds_of_wide 6 Try.f6 rfl rfl rfl rfl rfl rfl rfl ⟨rfl, rfl, rfl, rfl, rfl⟩ rfl rfl rfl rfl rfl (by kernel_rfl) Try.func6 (by kernel_rfl)
    (of_decide_eq_true (by kernel_rfl)) (by unfold Func.isWrapper; first | (rw [if_pos (by decide +kernel)]; kernel_rfl) | (rw [if_neg (by decide +kernel)]; exact ⟨rfl, rfl⟩))
    (fun os started H enc _ => lifted os started H enc)

end Go.Proofs.Ytjhimoeodkaihaa.ebbTrees
namespace Go.Proofs.Ytjhimoeodkaihaa
/-- The statement. -/
theorem ebbTrees_proved : Rows.EbbTreesSaid := ebbTrees.over
#print axioms ebbTrees_proved
end Go.Proofs.Ytjhimoeodkaihaa
