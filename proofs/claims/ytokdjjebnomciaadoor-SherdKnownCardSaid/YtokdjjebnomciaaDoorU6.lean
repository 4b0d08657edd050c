/-
  WHAT IS PROVED HERE, TEXT BY TEXT (several texts of one prover, joined to one file; the conditions stand in each statement):
  * WHAT IS PROVED HERE: what functions of layer 5 hand back, each out of its own code; the conditions stand in each statement.
  * WHAT IS PROVED HERE: what functions of layer 5 hand back, each out of its own code; the conditions stand in each statement.
  * WHAT IS PROVED HERE: where the row's listed variables read as the program's text lays them, the library's tables read as the shelf's contracts want it. Conditions stand in each statement.
  * WHAT IS PROVED HERE: arrays of arrays of numbers as they are read at the start. Conditions: the types' closed facts, as hypotheses.
  * WHAT IS PROVED HERE: the given statement of SherdKnown: for every input it returns true, and each argument reads as it did. Conditions: none.
-/
import Derived.Test.YtokdjjebnomciaaDoorProg
import Derived.Test.YtokdjjebnomciaaDoorU2
import Derived.Test.YtokdjjebnomciaaDoorU3
import Derived.Test.YtokdjjebnomciaaDoorU5
import Derived.Test.YtokdjjebnomciaaDoorRows
import Derived.Lib.LaidCaseMet
import Derived.Lib.LaidRTab
import Derived.PinnedBridge
import Derived.ProofKit
import Derived.Lay
import Derived.LaidMore
import Derived.Deep.DeepHandedRow
import Derived.WalkKit
import Derived.OpenShut
import Derived.Carry
import Derived.Lib.SmallJoins
import Derived.Test.YtokdjjebnomciaaDoorCards
import Derived.Test.YtokdjjebnomciaaDoorTie
import Derived.SevenTiedAt
import Derived.Stop.Joined

set_option linter.unusedVariables false
set_option linter.unusedSimpArgs false

namespace Go.Proofs.YtokdjjebnomciaaDoor
open Go.Wk Go.RowKit Go.Lib
set_option linter.unusedVariables false
set_option linter.unusedSimpArgs false
theorem elHm_60 : ElemI Tryd.prog 60 3 (.int .i64 0) 1 8 := ElemI.of Tryd.underlying60 (by kernel_rfl) (by first | rfl | kernel_rfl) (by decide)

theorem F16 {O : List (Option Nat)} {w : World} (hO : ∀ b, some b ∈ O → b < w.heap.size) (hG : Laid w) : Calls Tryd.prog 16 #[] w (Ret w (fun r _ => r = .bool true)) := by
  have hS := St.start w O hO
  refine enterR Tryd.func16 rfl Tryd.ntmps16 Tryd.results16 rfl ?_
  refine W.seq ?_
  refine W.reg ?_
  refine Wx.rd (v := .bool false) (rd_assign rfl) rfl ?_
  refine Wx.nil ?_
  refine W.seq ?_
  refine W.reg ?_
  refine Wx.callF (run_callF Tryd.call21 rfl) (F21 (by first | assumption | (simp only [maxLen]; omega) | (simp only [ByteArray.size_extract, ByteArray.size_append, maxLen] at *; omega) | decide) (hG.ext hS.bel)) rfl ?_
  rintro r_1 w_2 hx_3 rfl
  have hS := hS.ext hx_3
  refine Wx.rd (v := .tuple #[.int .i64 (mostV rQ), .int .i64 (rimE rQ)]) (rd_move rfl) rfl ?_
  refine Wx.rd (v := .int .i64 (mostV rQ)) (rd_extract rfl rfl) rfl ?_
  refine Wx.rd (v := .int .i64 (rimE rQ)) (rd_extract rfl rfl) rfl ?_
  refine Wx.rd (v := .int .i64 1) (Rd.to (v := .int .i64 (mostV rQ)) (rd_assign rfl) (congrArg (Value.int .i64) (show (1 : Int) = (mostV rQ : Int) from (by decide +kernel)).symm)) rfl ?_
  refine Wx.rd (v := .int .i64 0) (Rd.to (v := .int .i64 (rimE rQ)) (rd_assign rfl) (congrArg (Value.int .i64) (show (0 : Int) = (rimE rQ : Int) from (by decide +kernel)).symm)) rfl ?_
  refine Wx.nil ?_
  refine W.seq ?_
  refine W.reg ?_
  refine Wx.callF (run_callF Tryd.call25 rfl) (F25 (by first | assumption | (simp only [maxLen]; omega) | (simp only [ByteArray.size_extract, ByteArray.size_append, maxLen] at *; omega) | decide) (hG.ext hS.bel)) rfl ?_
  rintro r_4 w_5 hx_6 ⟨v_7, rfl, hv_8⟩
  have hS := hS.pushFr hx_6 hv_8
  refine Wx.rd (v := .tuple #[v_7, .int .i64 (rimE rR)]) (rd_move rfl) rfl ?_
  refine Wx.rd (v := v_7) (rd_extract rfl rfl) rfl ?_
  refine Wx.rd (v := .int .i64 (rimE rR)) (rd_extract rfl rfl) rfl ?_
  refine Wx.rd (v := v_7) (rd_assign rfl) rfl ?_
  refine Wx.rd (v := .int .i64 0) (Rd.to (v := .int .i64 (rimE rR)) (rd_assign rfl) (congrArg (Value.int .i64) (show (0 : Int) = (rimE rR : Int) from (by decide +kernel)).symm)) rfl ?_
  refine Wx.nil ?_
  refine W.seq ?_
  refine W.reg ?_
  refine Wx.callF (run_callF Tryd.call23 rfl) (F23 (by first | assumption | (simp only [maxLen]; omega) | (simp only [ByteArray.size_extract, ByteArray.size_append, maxLen] at *; omega) | decide) (hG.ext hS.bel)) rfl ?_
  rintro r_10 w_11 hx_12 rfl
  have hS := hS.ext hx_12
  refine Wx.rd (v := .tuple #[.int .i64 (countV rR), .int .i64 (rimE rR)]) (rd_move rfl) rfl ?_
  refine Wx.rd (v := .int .i64 (countV rR)) (rd_extract rfl rfl) rfl ?_
  refine Wx.rd (v := .int .i64 (rimE rR)) (rd_extract rfl rfl) rfl ?_
  refine Wx.rd (v := .int .i64 2) (Rd.to (v := .int .i64 (countV rR)) (rd_assign rfl) (congrArg (Value.int .i64) (show (2 : Int) = (countV rR : Int) from (by decide +kernel)).symm)) rfl ?_
  refine Wx.rd (v := .int .i64 0) (Rd.to (v := .int .i64 (rimE rR)) (rd_assign rfl) (congrArg (Value.int .i64) (show (0 : Int) = (rimE rR : Int) from (by decide +kernel)).symm)) rfl ?_
  refine Wx.nil ?_
  refine W.seq ?_
  refine W.reg ?_
  refine Wx.callF (run_callF Tryd.call27 rfl) (F27 (by first | assumption | (simp only [maxLen]; omega) | (simp only [ByteArray.size_extract, ByteArray.size_append, maxLen] at *; omega) | decide) (hG.ext hS.bel)) rfl ?_
  rintro r_13 w_14 hx_15 ⟨v_16, rfl, hv_17⟩
  have hS := hS.pushFr hx_15 hv_17
  refine Wx.rd (v := .tuple #[v_16, .int .i64 (rimE rP)]) (rd_move rfl) rfl ?_
  refine Wx.rd (v := v_16) (rd_extract rfl rfl) rfl ?_
  refine Wx.rd (v := .int .i64 (rimE rP)) (rd_extract rfl rfl) rfl ?_
  refine Wx.rd (v := v_16) (rd_assign rfl) rfl ?_
  refine Wx.rd (v := .int .i64 0) (Rd.to (v := .int .i64 (rimE rP)) (rd_assign rfl) (congrArg (Value.int .i64) (show (0 : Int) = (rimE rP : Int) from (by decide +kernel)).symm)) rfl ?_
  refine Wx.nil ?_
  refine W.seq ?_
  refine W.reg ?_
  refine Wx.callF (run_callF Tryd.call30 rfl) (F30 (by first | assumption | (simp only [maxLen]; omega) | (simp only [ByteArray.size_extract, ByteArray.size_append, maxLen] at *; omega) | decide) hS.fb_lt (hG.ext hS.bel)) rfl ?_
  rintro r_19 w_20 hx_21 ⟨v_22, rfl, hv_23⟩
  have ln_25 := hv_23.len63
  have hS := hS.ext hx_21
  have hS := hS.add hv_23
  refine Wx.rd (v := .tuple #[v_22, .int .i64 (rimE rP)]) (rd_move rfl) rfl ?_
  refine Wx.rd (v := v_22) (rd_extract rfl rfl) rfl ?_
  refine Wx.rd (v := .int .i64 (rimE rP)) (rd_extract rfl rfl) rfl ?_
  refine Wx.rd (v := v_22) (rd_assign rfl) rfl ?_
  refine Wx.rd (v := .int .i64 0) (Rd.to (v := .int .i64 (rimE rP)) (rd_assign rfl) (congrArg (Value.int .i64) (show (0 : Int) = (rimE rP : Int) from (by decide +kernel)).symm)) rfl ?_
  refine Wx.nil ?_
  refine W.seq ?_
  refine W.reg ?_
  refine Wx.callF (run_callF Tryd.call32 rfl) (F32 (by first | assumption | (simp only [maxLen]; omega) | (simp only [ByteArray.size_extract, ByteArray.size_append, maxLen] at *; omega) | decide) (hG.ext hS.bel)) rfl ?_
  rintro r_26 w_27 hx_28 rfl
  have hS := hS.ext hx_28
  refine Wx.rd (v := .tuple #[.string (restE rQ), .int .i64 (rimE rQ)]) (rd_move rfl) rfl ?_
  refine Wx.rd (v := .string (restE rQ)) (rd_extract rfl rfl) rfl ?_
  refine Wx.rd (v := .int .i64 (rimE rQ)) (rd_extract rfl rfl) rfl ?_
  refine Wx.rd (v := .string (restE rQ)) (rd_assign rfl) rfl ?_
  refine Wx.rd (v := .int .i64 0) (Rd.to (v := .int .i64 (rimE rQ)) (rd_assign rfl) (congrArg (Value.int .i64) (show (0 : Int) = (rimE rQ : Int) from (by decide +kernel)).symm)) rfl ?_
  refine Wx.nil ?_
  refine W.seq ?_
  refine W.seq ?_
  refine W.reg ?_
  refine Wx.rd (v := .int .i64 0) (rd_move rfl) rfl ?_
  refine Wx.rd (v := .bool (decide ((0 : Int) ≠ 0))) (rd_neq rfl rfl) rfl ?_
  refine Wx.rd (v := .bool (decide ((0 : Int) ≠ 0))) (rd_move rfl) rfl ?_
  refine Wx.cut (X := Unit) 3 [48, 49, 50] (fun _ => [(50, .bool (decide ((0 : Int) ≠ 0) || decide ((0 : Int) ≠ 0)))]) (fun _ w' => St w O w' [Ob.v (tSl (tP (tI .i64) (tI .i64))) (stepsV rP) v_22, .row (tP (tI .i64) (tI .i64)) 58 v_16 (forcedP rP), .row (tP (tI .i64) (tI .i64)) 58 v_7 (firstV rR)]) ?_ ?_
  · rcases Bool.eq_false_or_eq_true (decide ((0 : Int) ≠ 0)) with g_29 | g_29
    · -- True
      have gp_30 := of_decide_eq_true g_29
      refine Wx.gnoB rfl rfl (congrArg Value.bool g_29) rfl rfl ?_
      refine Wx.gnoB rfl rfl (congrArg Value.bool g_29) rfl rfl ?_
      refine Wx.rd (v := .bool true) (rd_pickT (congrArg Value.bool g_29) rfl) rfl ?_
      refine Wx.nil ⟨(), hS, ⟨?_, trivial⟩, Out.look rfl Out.refl⟩
      show Value.bool true = Value.bool (decide ((0 : Int) ≠ 0) || decide ((0 : Int) ≠ 0))
      rw [g_29]; rfl
    · -- False
      have gp_31 := of_decide_eq_false g_29
      refine Wx.gyes rfl rfl (congrArg Value.bool g_29) ?_
      refine Wx.rd (v := .int .i64 0) (rd_move rfl) rfl ?_
      refine Wx.gyes rfl rfl (congrArg Value.bool g_29) ?_
      refine Wx.rd (v := .bool (decide ((0 : Int) ≠ 0))) (rd_neq rfl rfl) rfl ?_
      refine Wx.rd (v := .bool (decide ((0 : Int) ≠ 0))) (rd_pickF (congrArg Value.bool g_29) rfl) rfl ?_
      refine Wx.nil ⟨(), hS, ⟨?_, trivial⟩, Out.look rfl Out.refl⟩
      show Value.bool (decide ((0 : Int) ≠ 0)) = Value.bool (decide ((0 : Int) ≠ 0) || decide ((0 : Int) ≠ 0))
      rw [g_29]; rfl
  rintro ⟨⟩ u_33 w_32 hS
  refine Wx.rd (v := .bool (decide ((0 : Int) ≠ 0) || decide ((0 : Int) ≠ 0))) (rd_move rfl) rfl ?_
  refine Wx.cut (X := Unit) 3 [52, 53, 54] (fun _ => [(54, .bool ((decide ((0 : Int) ≠ 0) || decide ((0 : Int) ≠ 0)) || decide ((0 : Int) ≠ 0)))]) (fun _ w' => St w O w' [Ob.v (tSl (tP (tI .i64) (tI .i64))) (stepsV rP) v_22, .row (tP (tI .i64) (tI .i64)) 58 v_16 (forcedP rP), .row (tP (tI .i64) (tI .i64)) 58 v_7 (firstV rR)]) ?_ ?_
  · rcases Bool.eq_false_or_eq_true (decide ((0 : Int) ≠ 0) || decide ((0 : Int) ≠ 0)) with g_34 | g_34
    · -- True
      have gp_35 := g_34
      try simp only [Bool.and_eq_true, Bool.or_eq_true, Bool.not_eq_true', Bool.and_eq_false_iff, Bool.or_eq_false_iff, Bool.not_eq_false', decide_eq_true_eq, decide_eq_false_iff_not, not_or, Bool.false_eq_true, Bool.true_eq_false, false_or, or_false, not_false_eq_true] at gp_35
      refine Wx.gnoB rfl rfl (congrArg Value.bool g_34) rfl rfl ?_
      refine Wx.gnoB rfl rfl (congrArg Value.bool g_34) rfl rfl ?_
      refine Wx.rd (v := .bool true) (rd_pickT (congrArg Value.bool g_34) rfl) rfl ?_
      refine Wx.nil ⟨(), hS, ⟨?_, trivial⟩, Out.look rfl Out.refl⟩
      show Value.bool true = Value.bool ((decide ((0 : Int) ≠ 0) || decide ((0 : Int) ≠ 0)) || decide ((0 : Int) ≠ 0))
      rw [g_34]; rfl
    · -- False
      have gp_36 := g_34
      try simp only [Bool.and_eq_true, Bool.or_eq_true, Bool.not_eq_true', Bool.and_eq_false_iff, Bool.or_eq_false_iff, Bool.not_eq_false', decide_eq_true_eq, decide_eq_false_iff_not, not_or, Bool.false_eq_true, Bool.true_eq_false, false_or, or_false, not_false_eq_true] at gp_36
      refine Wx.gyes rfl rfl (congrArg Value.bool g_34) ?_
      refine Wx.rd (v := .int .i64 0) (rd_move rfl) rfl ?_
      refine Wx.gyes rfl rfl (congrArg Value.bool g_34) ?_
      refine Wx.rd (v := .bool (decide ((0 : Int) ≠ 0))) (rd_neq rfl rfl) rfl ?_
      refine Wx.rd (v := .bool (decide ((0 : Int) ≠ 0))) (rd_pickF (congrArg Value.bool g_34) rfl) rfl ?_
      refine Wx.nil ⟨(), hS, ⟨?_, trivial⟩, Out.look rfl Out.refl⟩
      show Value.bool (decide ((0 : Int) ≠ 0)) = Value.bool ((decide ((0 : Int) ≠ 0) || decide ((0 : Int) ≠ 0)) || decide ((0 : Int) ≠ 0))
      rw [g_34]; rfl
  rintro ⟨⟩ u_38 w_37 hS
  refine Wx.rd (v := .bool ((decide ((0 : Int) ≠ 0) || decide ((0 : Int) ≠ 0)) || decide ((0 : Int) ≠ 0))) (rd_move rfl) rfl ?_
  refine Wx.cut (X := Unit) 3 [56, 57, 58] (fun _ => [(58, .bool (((decide ((0 : Int) ≠ 0) || decide ((0 : Int) ≠ 0)) || decide ((0 : Int) ≠ 0)) || decide ((0 : Int) ≠ 0)))]) (fun _ w' => St w O w' [Ob.v (tSl (tP (tI .i64) (tI .i64))) (stepsV rP) v_22, .row (tP (tI .i64) (tI .i64)) 58 v_16 (forcedP rP), .row (tP (tI .i64) (tI .i64)) 58 v_7 (firstV rR)]) ?_ ?_
  · rcases Bool.eq_false_or_eq_true ((decide ((0 : Int) ≠ 0) || decide ((0 : Int) ≠ 0)) || decide ((0 : Int) ≠ 0)) with g_39 | g_39
    · -- True
      have gp_40 := g_39
      try simp only [Bool.and_eq_true, Bool.or_eq_true, Bool.not_eq_true', Bool.and_eq_false_iff, Bool.or_eq_false_iff, Bool.not_eq_false', decide_eq_true_eq, decide_eq_false_iff_not, not_or, Bool.false_eq_true, Bool.true_eq_false, false_or, or_false, not_false_eq_true] at gp_40
      refine Wx.gnoB rfl rfl (congrArg Value.bool g_39) rfl rfl ?_
      refine Wx.gnoB rfl rfl (congrArg Value.bool g_39) rfl rfl ?_
      refine Wx.rd (v := .bool true) (rd_pickT (congrArg Value.bool g_39) rfl) rfl ?_
      refine Wx.nil ⟨(), hS, ⟨?_, trivial⟩, Out.look rfl Out.refl⟩
      show Value.bool true = Value.bool (((decide ((0 : Int) ≠ 0) || decide ((0 : Int) ≠ 0)) || decide ((0 : Int) ≠ 0)) || decide ((0 : Int) ≠ 0))
      rw [g_39]; rfl
    · -- False
      have gp_41 := g_39
      try simp only [Bool.and_eq_true, Bool.or_eq_true, Bool.not_eq_true', Bool.and_eq_false_iff, Bool.or_eq_false_iff, Bool.not_eq_false', decide_eq_true_eq, decide_eq_false_iff_not, not_or, Bool.false_eq_true, Bool.true_eq_false, false_or, or_false, not_false_eq_true] at gp_41
      refine Wx.gyes rfl rfl (congrArg Value.bool g_39) ?_
      refine Wx.rd (v := .int .i64 0) (rd_move rfl) rfl ?_
      refine Wx.gyes rfl rfl (congrArg Value.bool g_39) ?_
      refine Wx.rd (v := .bool (decide ((0 : Int) ≠ 0))) (rd_neq rfl rfl) rfl ?_
      refine Wx.rd (v := .bool (decide ((0 : Int) ≠ 0))) (rd_pickF (congrArg Value.bool g_39) rfl) rfl ?_
      refine Wx.nil ⟨(), hS, ⟨?_, trivial⟩, Out.look rfl Out.refl⟩
      show Value.bool (decide ((0 : Int) ≠ 0)) = Value.bool (((decide ((0 : Int) ≠ 0) || decide ((0 : Int) ≠ 0)) || decide ((0 : Int) ≠ 0)) || decide ((0 : Int) ≠ 0))
      rw [g_39]; rfl
  rintro ⟨⟩ u_43 w_42 hS
  refine Wx.rd (v := .bool (((decide ((0 : Int) ≠ 0) || decide ((0 : Int) ≠ 0)) || decide ((0 : Int) ≠ 0)) || decide ((0 : Int) ≠ 0))) (rd_move rfl) rfl ?_
  refine Wx.cut (X := Unit) 3 [60, 61, 62] (fun _ => [(62, .bool ((((decide ((0 : Int) ≠ 0) || decide ((0 : Int) ≠ 0)) || decide ((0 : Int) ≠ 0)) || decide ((0 : Int) ≠ 0)) || decide ((0 : Int) ≠ 0)))]) (fun _ w' => St w O w' [Ob.v (tSl (tP (tI .i64) (tI .i64))) (stepsV rP) v_22, .row (tP (tI .i64) (tI .i64)) 58 v_16 (forcedP rP), .row (tP (tI .i64) (tI .i64)) 58 v_7 (firstV rR)]) ?_ ?_
  · rcases Bool.eq_false_or_eq_true (((decide ((0 : Int) ≠ 0) || decide ((0 : Int) ≠ 0)) || decide ((0 : Int) ≠ 0)) || decide ((0 : Int) ≠ 0)) with g_44 | g_44
    · -- True
      have gp_45 := g_44
      try simp only [Bool.and_eq_true, Bool.or_eq_true, Bool.not_eq_true', Bool.and_eq_false_iff, Bool.or_eq_false_iff, Bool.not_eq_false', decide_eq_true_eq, decide_eq_false_iff_not, not_or, Bool.false_eq_true, Bool.true_eq_false, false_or, or_false, not_false_eq_true] at gp_45
      refine Wx.gnoB rfl rfl (congrArg Value.bool g_44) rfl rfl ?_
      refine Wx.gnoB rfl rfl (congrArg Value.bool g_44) rfl rfl ?_
      refine Wx.rd (v := .bool true) (rd_pickT (congrArg Value.bool g_44) rfl) rfl ?_
      refine Wx.nil ⟨(), hS, ⟨?_, trivial⟩, Out.look rfl Out.refl⟩
      show Value.bool true = Value.bool ((((decide ((0 : Int) ≠ 0) || decide ((0 : Int) ≠ 0)) || decide ((0 : Int) ≠ 0)) || decide ((0 : Int) ≠ 0)) || decide ((0 : Int) ≠ 0))
      rw [g_44]; rfl
    · -- False
      have gp_46 := g_44
      try simp only [Bool.and_eq_true, Bool.or_eq_true, Bool.not_eq_true', Bool.and_eq_false_iff, Bool.or_eq_false_iff, Bool.not_eq_false', decide_eq_true_eq, decide_eq_false_iff_not, not_or, Bool.false_eq_true, Bool.true_eq_false, false_or, or_false, not_false_eq_true] at gp_46
      refine Wx.gyes rfl rfl (congrArg Value.bool g_44) ?_
      refine Wx.rd (v := .int .i64 0) (rd_move rfl) rfl ?_
      refine Wx.gyes rfl rfl (congrArg Value.bool g_44) ?_
      refine Wx.rd (v := .bool (decide ((0 : Int) ≠ 0))) (rd_neq rfl rfl) rfl ?_
      refine Wx.rd (v := .bool (decide ((0 : Int) ≠ 0))) (rd_pickF (congrArg Value.bool g_44) rfl) rfl ?_
      refine Wx.nil ⟨(), hS, ⟨?_, trivial⟩, Out.look rfl Out.refl⟩
      show Value.bool (decide ((0 : Int) ≠ 0)) = Value.bool ((((decide ((0 : Int) ≠ 0) || decide ((0 : Int) ≠ 0)) || decide ((0 : Int) ≠ 0)) || decide ((0 : Int) ≠ 0)) || decide ((0 : Int) ≠ 0))
      rw [g_44]; rfl
  rintro ⟨⟩ u_48 w_47 hS
  refine Wx.rd (v := .bool ((((decide ((0 : Int) ≠ 0) || decide ((0 : Int) ≠ 0)) || decide ((0 : Int) ≠ 0)) || decide ((0 : Int) ≠ 0)) || decide ((0 : Int) ≠ 0))) (rd_move rfl) rfl ?_
  refine Wx.cut (X := Unit) 3 [64, 65, 66] (fun _ => [(66, .bool (((((decide ((0 : Int) ≠ 0) || decide ((0 : Int) ≠ 0)) || decide ((0 : Int) ≠ 0)) || decide ((0 : Int) ≠ 0)) || decide ((0 : Int) ≠ 0)) || decide ((0 : Int) ≠ 0)))]) (fun _ w' => St w O w' [Ob.v (tSl (tP (tI .i64) (tI .i64))) (stepsV rP) v_22, .row (tP (tI .i64) (tI .i64)) 58 v_16 (forcedP rP), .row (tP (tI .i64) (tI .i64)) 58 v_7 (firstV rR)]) ?_ ?_
  · rcases Bool.eq_false_or_eq_true ((((decide ((0 : Int) ≠ 0) || decide ((0 : Int) ≠ 0)) || decide ((0 : Int) ≠ 0)) || decide ((0 : Int) ≠ 0)) || decide ((0 : Int) ≠ 0)) with g_49 | g_49
    · -- True
      have gp_50 := g_49
      try simp only [Bool.and_eq_true, Bool.or_eq_true, Bool.not_eq_true', Bool.and_eq_false_iff, Bool.or_eq_false_iff, Bool.not_eq_false', decide_eq_true_eq, decide_eq_false_iff_not, not_or, Bool.false_eq_true, Bool.true_eq_false, false_or, or_false, not_false_eq_true] at gp_50
      refine Wx.gnoB rfl rfl (congrArg Value.bool g_49) rfl rfl ?_
      refine Wx.gnoB rfl rfl (congrArg Value.bool g_49) rfl rfl ?_
      refine Wx.rd (v := .bool true) (rd_pickT (congrArg Value.bool g_49) rfl) rfl ?_
      refine Wx.nil ⟨(), hS, ⟨?_, trivial⟩, Out.look rfl Out.refl⟩
      show Value.bool true = Value.bool (((((decide ((0 : Int) ≠ 0) || decide ((0 : Int) ≠ 0)) || decide ((0 : Int) ≠ 0)) || decide ((0 : Int) ≠ 0)) || decide ((0 : Int) ≠ 0)) || decide ((0 : Int) ≠ 0))
      rw [g_49]; rfl
    · -- False
      have gp_51 := g_49
      try simp only [Bool.and_eq_true, Bool.or_eq_true, Bool.not_eq_true', Bool.and_eq_false_iff, Bool.or_eq_false_iff, Bool.not_eq_false', decide_eq_true_eq, decide_eq_false_iff_not, not_or, Bool.false_eq_true, Bool.true_eq_false, false_or, or_false, not_false_eq_true] at gp_51
      refine Wx.gyes rfl rfl (congrArg Value.bool g_49) ?_
      refine Wx.rd (v := .int .i64 0) (rd_move rfl) rfl ?_
      refine Wx.gyes rfl rfl (congrArg Value.bool g_49) ?_
      refine Wx.rd (v := .bool (decide ((0 : Int) ≠ 0))) (rd_neq rfl rfl) rfl ?_
      refine Wx.rd (v := .bool (decide ((0 : Int) ≠ 0))) (rd_pickF (congrArg Value.bool g_49) rfl) rfl ?_
      refine Wx.nil ⟨(), hS, ⟨?_, trivial⟩, Out.look rfl Out.refl⟩
      show Value.bool (decide ((0 : Int) ≠ 0)) = Value.bool (((((decide ((0 : Int) ≠ 0) || decide ((0 : Int) ≠ 0)) || decide ((0 : Int) ≠ 0)) || decide ((0 : Int) ≠ 0)) || decide ((0 : Int) ≠ 0)) || decide ((0 : Int) ≠ 0))
      rw [g_49]; rfl
  rintro ⟨⟩ u_53 w_52 hS
  refine Wx.nil ?_
  refine W.cond rfl (fun c0 => ?_) (fun c0 => ?_)
  · -- yes
    try simp only [Bool.and_eq_true, Bool.or_eq_true, Bool.not_eq_true', Bool.and_eq_false_iff, Bool.or_eq_false_iff, Bool.not_eq_false', decide_eq_true_eq, decide_eq_false_iff_not, not_or, Bool.false_eq_true, Bool.true_eq_false, false_or, or_false, not_false_eq_true] at c0
    refine W.seq ?_
    refine W.reg ?_
    refine Wx.rd (v := .bool false) (rd_assign rfl) rfl ?_
    refine Wx.nil ?_
    have e0_0 : false = true := by first | rfl | omega
    exact W.ret ⟨.bool false, ResIs.one, hS.bel, (by rw [e0_0])⟩
  · -- no
    try simp only [Bool.and_eq_true, Bool.or_eq_true, Bool.not_eq_true', Bool.and_eq_false_iff, Bool.or_eq_false_iff, Bool.not_eq_false', decide_eq_true_eq, decide_eq_false_iff_not, not_or, Bool.false_eq_true, Bool.true_eq_false, false_or, or_false, not_false_eq_true] at c0
    refine W.skip ?_
    refine W.seq ?_
    refine W.reg ?_
    refine Wx.callF (run_callF Tryd.call34 rfl) (F34 (by first | assumption | (simp only [maxLen]; omega) | (simp only [ByteArray.size_extract, ByteArray.size_append, maxLen] at *; omega) | decide) (hG.ext hS.bel)) rfl ?_
    rintro r_54 w_55 hx_56 rfl
    have hS := hS.ext hx_56
    refine Wx.rd (v := .tuple #[.bool (fullP rP), .int .i64 (rimE rP)]) (rd_move rfl) rfl ?_
    refine Wx.rd (v := .bool (fullP rP)) (rd_extract rfl rfl) rfl ?_
    refine Wx.rd (v := .int .i64 (rimE rP)) (rd_extract rfl rfl) rfl ?_
    refine Wx.rd (v := .bool true) (Rd.to (v := .bool (fullP rP)) (rd_assign rfl) (congrArg (Value.bool) (show (true : Bool) = (fullP rP : Bool) from (by decide +kernel)).symm)) rfl ?_
    refine Wx.rd (v := .int .i64 0) (Rd.to (v := .int .i64 (rimE rP)) (rd_assign rfl) (congrArg (Value.int .i64) (show (0 : Int) = (rimE rP : Int) from (by decide +kernel)).symm)) rfl ?_
    refine Wx.nil ?_
    refine W.seq ?_
    refine W.reg ?_
    refine Wx.callF (run_callF Tryd.call34 rfl) (F34 (by first | assumption | (simp only [maxLen]; omega) | (simp only [ByteArray.size_extract, ByteArray.size_append, maxLen] at *; omega) | decide) (hG.ext hS.bel)) rfl ?_
    rintro r_57 w_58 hx_59 rfl
    have hS := hS.ext hx_59
    refine Wx.rd (v := .tuple #[.bool (fullP rQ), .int .i64 (rimE rQ)]) (rd_move rfl) rfl ?_
    refine Wx.rd (v := .bool (fullP rQ)) (rd_extract rfl rfl) rfl ?_
    refine Wx.rd (v := .int .i64 (rimE rQ)) (rd_extract rfl rfl) rfl ?_
    refine Wx.rd (v := .bool false) (Rd.to (v := .bool (fullP rQ)) (rd_assign rfl) (congrArg (Value.bool) (show (false : Bool) = (fullP rQ : Bool) from (by decide +kernel)).symm)) rfl ?_
    refine Wx.rd (v := .int .i64 0) (Rd.to (v := .int .i64 (rimE rQ)) (rd_assign rfl) (congrArg (Value.int .i64) (show (0 : Int) = (rimE rQ : Int) from (by decide +kernel)).symm)) rfl ?_
    refine Wx.nil ?_
    refine W.seq ?_
    refine W.reg ?_
    refine Wx.callF (run_callF Tryd.call36 rfl) (F36 (by first | assumption | (simp only [maxLen]; omega) | (simp only [ByteArray.size_extract, ByteArray.size_append, maxLen] at *; omega) | decide) (hG.ext hS.bel)) rfl ?_
    rintro r_60 w_61 hx_62 rfl
    have hS := hS.ext hx_62
    refine Wx.rd (v := .tuple #[.string (coreV r1), .int .i64 (rimE r1)]) (rd_move rfl) rfl ?_
    refine Wx.rd (v := .string (coreV r1)) (rd_extract rfl rfl) rfl ?_
    refine Wx.rd (v := .int .i64 (rimE r1)) (rd_extract rfl rfl) rfl ?_
    refine Wx.rd (v := .string (coreV r1)) (rd_assign rfl) rfl ?_
    refine Wx.rd (v := .int .i64 0) (Rd.to (v := .int .i64 (rimE r1)) (rd_assign rfl) (congrArg (Value.int .i64) (show (0 : Int) = (rimE r1 : Int) from (by decide +kernel)).symm)) rfl ?_
    refine Wx.nil ?_
    refine W.seq ?_
    refine W.reg ?_
    refine Wx.callF (run_callF Tryd.call38 rfl) (F38 (by first | assumption | (simp only [maxLen]; omega) | (simp only [ByteArray.size_extract, ByteArray.size_append, maxLen] at *; omega) | decide) (in_i64 (by omega) (by omega)) (hG.ext hS.bel)) rfl ?_
    rintro r_63 w_64 hx_65 rfl
    have hS := hS.ext hx_65
    refine Wx.rd (v := .tuple #[.string (turnS rQ 1), .int .i64 (turnE rQ 1)]) (rd_move rfl) rfl ?_
    refine Wx.rd (v := .string (turnS rQ 1)) (rd_extract rfl rfl) rfl ?_
    refine Wx.rd (v := .int .i64 (turnE rQ 1)) (rd_extract rfl rfl) rfl ?_
    refine Wx.rd (v := .string (turnS rQ 1)) (rd_assign rfl) rfl ?_
    refine Wx.rd (v := .int .i64 0) (Rd.to (v := .int .i64 (turnE rQ 1)) (rd_assign rfl) (congrArg (Value.int .i64) (show (0 : Int) = (turnE rQ 1 : Int) from (by decide +kernel)).symm)) rfl ?_
    refine Wx.nil ?_
    refine W.seq ?_
    refine W.reg ?_
    refine Wx.callF (run_callF Tryd.call40 rfl) (F40 (by first | assumption | (simp only [maxLen]; omega) | (simp only [ByteArray.size_extract, ByteArray.size_append, maxLen] at *; omega) | decide) (hG.ext hS.bel)) rfl ?_
    rintro r_66 w_67 hx_68 rfl
    have hS := hS.ext hx_68
    refine Wx.rd (v := .tuple #[.string (oppV r2), .int .i64 (rimE r2)]) (rd_move rfl) rfl ?_
    refine Wx.rd (v := .string (oppV r2)) (rd_extract rfl rfl) rfl ?_
    refine Wx.rd (v := .int .i64 (rimE r2)) (rd_extract rfl rfl) rfl ?_
    refine Wx.rd (v := .string (oppV r2)) (rd_assign rfl) rfl ?_
    refine Wx.rd (v := .int .i64 0) (Rd.to (v := .int .i64 (rimE r2)) (rd_assign rfl) (congrArg (Value.int .i64) (show (0 : Int) = (rimE r2 : Int) from (by decide +kernel)).symm)) rfl ?_
    refine Wx.nil ?_
    refine W.seq ?_
    refine W.reg ?_
    refine Wx.callF (run_callF Tryd.call42 rfl) (F42 (by first | assumption | (simp only [maxLen]; omega) | (simp only [ByteArray.size_extract, ByteArray.size_append, maxLen] at *; omega) | decide) (by first | assumption | (simp only [maxLen]; omega) | (simp only [ByteArray.size_extract, ByteArray.size_append, maxLen] at *; omega) | decide) (hG.ext hS.bel)) rfl ?_
    rintro r_69 w_70 hx_71 rfl
    have hS := hS.ext hx_71
    refine Wx.rd (v := .tuple #[.bool (alikeP r3 r4), .int .i64 (alikeE r3 r4)]) (rd_move rfl) rfl ?_
    refine Wx.rd (v := .bool (alikeP r3 r4)) (rd_extract rfl rfl) rfl ?_
    refine Wx.rd (v := .int .i64 (alikeE r3 r4)) (rd_extract rfl rfl) rfl ?_
    refine Wx.rd (v := .bool true) (Rd.to (v := .bool (alikeP r3 r4)) (rd_assign rfl) (congrArg (Value.bool) (show (true : Bool) = (alikeP r3 r4 : Bool) from (by decide +kernel)).symm)) rfl ?_
    refine Wx.rd (v := .int .i64 0) (Rd.to (v := .int .i64 (alikeE r3 r4)) (rd_assign rfl) (congrArg (Value.int .i64) (show (0 : Int) = (alikeE r3 r4 : Int) from (by decide +kernel)).symm)) rfl ?_
    refine Wx.nil ?_
    refine W.seq ?_
    refine W.reg ?_
    refine Wx.callF (run_callF Tryd.call42 rfl) (F42 (by first | assumption | (simp only [maxLen]; omega) | (simp only [ByteArray.size_extract, ByteArray.size_append, maxLen] at *; omega) | decide) (by first | assumption | (simp only [maxLen]; omega) | (simp only [ByteArray.size_extract, ByteArray.size_append, maxLen] at *; omega) | decide) (hG.ext hS.bel)) rfl ?_
    rintro r_72 w_73 hx_74 rfl
    have hS := hS.ext hx_74
    refine Wx.rd (v := .tuple #[.bool (alikeP r5 r6), .int .i64 (alikeE r5 r6)]) (rd_move rfl) rfl ?_
    refine Wx.rd (v := .bool (alikeP r5 r6)) (rd_extract rfl rfl) rfl ?_
    refine Wx.rd (v := .int .i64 (alikeE r5 r6)) (rd_extract rfl rfl) rfl ?_
    refine Wx.rd (v := .bool false) (Rd.to (v := .bool (alikeP r5 r6)) (rd_assign rfl) (congrArg (Value.bool) (show (false : Bool) = (alikeP r5 r6 : Bool) from (by decide +kernel)).symm)) rfl ?_
    refine Wx.rd (v := .int .i64 0) (Rd.to (v := .int .i64 (alikeE r5 r6)) (rd_assign rfl) (congrArg (Value.int .i64) (show (0 : Int) = (alikeE r5 r6 : Int) from (by decide +kernel)).symm)) rfl ?_
    refine Wx.nil ?_
    refine W.seq ?_
    refine W.reg ?_
    refine Wx.rd (v := .int .i64 0) (rd_move rfl) rfl ?_
    refine Wx.rd (v := .bool (decide ((0 : Int) = 0))) (rd_eql rfl rfl) rfl ?_
    refine Wx.rd (v := .bool (decide ((0 : Int) = 0))) (rd_move rfl) rfl ?_
    refine Wx.cut (X := Unit) 3 [98, 99, 100] (fun _ => [(100, .bool (decide ((0 : Int) = 0) && decide ((0 : Int) = 0)))]) (fun _ w' => St w O w' [Ob.v (tSl (tP (tI .i64) (tI .i64))) (stepsV rP) v_22, .row (tP (tI .i64) (tI .i64)) 58 v_16 (forcedP rP), .row (tP (tI .i64) (tI .i64)) 58 v_7 (firstV rR)]) ?_ ?_
    · rcases Bool.eq_false_or_eq_true (decide ((0 : Int) = 0)) with g_75 | g_75
      · -- True
        have gp_76 := of_decide_eq_true g_75
        refine Wx.gyes rfl rfl (congrArg Value.bool g_75) ?_
        refine Wx.rd (v := .int .i64 0) (rd_move rfl) rfl ?_
        refine Wx.gyes rfl rfl (congrArg Value.bool g_75) ?_
        refine Wx.rd (v := .bool (decide ((0 : Int) = 0))) (rd_eql rfl rfl) rfl ?_
        refine Wx.rd (v := .bool (decide ((0 : Int) = 0))) (rd_pickT (congrArg Value.bool g_75) rfl) rfl ?_
        refine Wx.nil ⟨(), hS, ⟨?_, trivial⟩, Out.look rfl Out.refl⟩
        show Value.bool (decide ((0 : Int) = 0)) = Value.bool (decide ((0 : Int) = 0) && decide ((0 : Int) = 0))
        rw [g_75]; rfl
      · -- False
        have gp_77 := of_decide_eq_false g_75
        refine Wx.gnoB rfl rfl (congrArg Value.bool g_75) rfl rfl ?_
        refine Wx.gnoB rfl rfl (congrArg Value.bool g_75) rfl rfl ?_
        refine Wx.rd (v := .bool false) (rd_pickF (congrArg Value.bool g_75) rfl) rfl ?_
        refine Wx.nil ⟨(), hS, ⟨?_, trivial⟩, Out.look rfl Out.refl⟩
        show Value.bool false = Value.bool (decide ((0 : Int) = 0) && decide ((0 : Int) = 0))
        rw [g_75]; rfl
    rintro ⟨⟩ u_79 w_78 hS
    refine Wx.rd (v := .bool (decide ((0 : Int) = 0) && decide ((0 : Int) = 0))) (rd_move rfl) rfl ?_
    refine Wx.cut (X := Unit) 3 [102, 103, 104] (fun _ => [(104, .bool ((decide ((0 : Int) = 0) && decide ((0 : Int) = 0)) && decide ((0 : Int) = 0)))]) (fun _ w' => St w O w' [Ob.v (tSl (tP (tI .i64) (tI .i64))) (stepsV rP) v_22, .row (tP (tI .i64) (tI .i64)) 58 v_16 (forcedP rP), .row (tP (tI .i64) (tI .i64)) 58 v_7 (firstV rR)]) ?_ ?_
    · rcases Bool.eq_false_or_eq_true (decide ((0 : Int) = 0) && decide ((0 : Int) = 0)) with g_80 | g_80
      · -- True
        have gp_81 := g_80
        try simp only [Bool.and_eq_true, Bool.or_eq_true, Bool.not_eq_true', Bool.and_eq_false_iff, Bool.or_eq_false_iff, Bool.not_eq_false', decide_eq_true_eq, decide_eq_false_iff_not, not_or, Bool.false_eq_true, Bool.true_eq_false, false_or, or_false, not_false_eq_true] at gp_81
        refine Wx.gyes rfl rfl (congrArg Value.bool g_80) ?_
        refine Wx.rd (v := .int .i64 0) (rd_move rfl) rfl ?_
        refine Wx.gyes rfl rfl (congrArg Value.bool g_80) ?_
        refine Wx.rd (v := .bool (decide ((0 : Int) = 0))) (rd_eql rfl rfl) rfl ?_
        refine Wx.rd (v := .bool (decide ((0 : Int) = 0))) (rd_pickT (congrArg Value.bool g_80) rfl) rfl ?_
        refine Wx.nil ⟨(), hS, ⟨?_, trivial⟩, Out.look rfl Out.refl⟩
        show Value.bool (decide ((0 : Int) = 0)) = Value.bool ((decide ((0 : Int) = 0) && decide ((0 : Int) = 0)) && decide ((0 : Int) = 0))
        rw [g_80]; rfl
      · -- False
        have gp_82 := g_80
        try simp only [Bool.and_eq_true, Bool.or_eq_true, Bool.not_eq_true', Bool.and_eq_false_iff, Bool.or_eq_false_iff, Bool.not_eq_false', decide_eq_true_eq, decide_eq_false_iff_not, not_or, Bool.false_eq_true, Bool.true_eq_false, false_or, or_false, not_false_eq_true] at gp_82
        refine Wx.gnoB rfl rfl (congrArg Value.bool g_80) rfl rfl ?_
        refine Wx.gnoB rfl rfl (congrArg Value.bool g_80) rfl rfl ?_
        refine Wx.rd (v := .bool false) (rd_pickF (congrArg Value.bool g_80) rfl) rfl ?_
        refine Wx.nil ⟨(), hS, ⟨?_, trivial⟩, Out.look rfl Out.refl⟩
        show Value.bool false = Value.bool ((decide ((0 : Int) = 0) && decide ((0 : Int) = 0)) && decide ((0 : Int) = 0))
        rw [g_80]; rfl
    rintro ⟨⟩ u_84 w_83 hS
    refine Wx.rd (v := .bool ((decide ((0 : Int) = 0) && decide ((0 : Int) = 0)) && decide ((0 : Int) = 0))) (rd_move rfl) rfl ?_
    refine Wx.cut (X := Unit) 3 [106, 107, 108] (fun _ => [(108, .bool (((decide ((0 : Int) = 0) && decide ((0 : Int) = 0)) && decide ((0 : Int) = 0)) && decide ((0 : Int) = 0)))]) (fun _ w' => St w O w' [Ob.v (tSl (tP (tI .i64) (tI .i64))) (stepsV rP) v_22, .row (tP (tI .i64) (tI .i64)) 58 v_16 (forcedP rP), .row (tP (tI .i64) (tI .i64)) 58 v_7 (firstV rR)]) ?_ ?_
    · rcases Bool.eq_false_or_eq_true ((decide ((0 : Int) = 0) && decide ((0 : Int) = 0)) && decide ((0 : Int) = 0)) with g_85 | g_85
      · -- True
        have gp_86 := g_85
        try simp only [Bool.and_eq_true, Bool.or_eq_true, Bool.not_eq_true', Bool.and_eq_false_iff, Bool.or_eq_false_iff, Bool.not_eq_false', decide_eq_true_eq, decide_eq_false_iff_not, not_or, Bool.false_eq_true, Bool.true_eq_false, false_or, or_false, not_false_eq_true] at gp_86
        refine Wx.gyes rfl rfl (congrArg Value.bool g_85) ?_
        refine Wx.rd (v := .int .i64 0) (rd_move rfl) rfl ?_
        refine Wx.gyes rfl rfl (congrArg Value.bool g_85) ?_
        refine Wx.rd (v := .bool (decide ((0 : Int) = 0))) (rd_eql rfl rfl) rfl ?_
        refine Wx.rd (v := .bool (decide ((0 : Int) = 0))) (rd_pickT (congrArg Value.bool g_85) rfl) rfl ?_
        refine Wx.nil ⟨(), hS, ⟨?_, trivial⟩, Out.look rfl Out.refl⟩
        show Value.bool (decide ((0 : Int) = 0)) = Value.bool (((decide ((0 : Int) = 0) && decide ((0 : Int) = 0)) && decide ((0 : Int) = 0)) && decide ((0 : Int) = 0))
        rw [g_85]; rfl
      · -- False
        have gp_87 := g_85
        try simp only [Bool.and_eq_true, Bool.or_eq_true, Bool.not_eq_true', Bool.and_eq_false_iff, Bool.or_eq_false_iff, Bool.not_eq_false', decide_eq_true_eq, decide_eq_false_iff_not, not_or, Bool.false_eq_true, Bool.true_eq_false, false_or, or_false, not_false_eq_true] at gp_87
        refine Wx.gnoB rfl rfl (congrArg Value.bool g_85) rfl rfl ?_
        refine Wx.gnoB rfl rfl (congrArg Value.bool g_85) rfl rfl ?_
        refine Wx.rd (v := .bool false) (rd_pickF (congrArg Value.bool g_85) rfl) rfl ?_
        refine Wx.nil ⟨(), hS, ⟨?_, trivial⟩, Out.look rfl Out.refl⟩
        show Value.bool false = Value.bool (((decide ((0 : Int) = 0) && decide ((0 : Int) = 0)) && decide ((0 : Int) = 0)) && decide ((0 : Int) = 0))
        rw [g_85]; rfl
    rintro ⟨⟩ u_89 w_88 hS
    refine Wx.rd (v := .bool (((decide ((0 : Int) = 0) && decide ((0 : Int) = 0)) && decide ((0 : Int) = 0)) && decide ((0 : Int) = 0))) (rd_move rfl) rfl ?_
    refine Wx.cut (X := Unit) 3 [110, 111, 112] (fun _ => [(112, .bool ((((decide ((0 : Int) = 0) && decide ((0 : Int) = 0)) && decide ((0 : Int) = 0)) && decide ((0 : Int) = 0)) && decide ((0 : Int) = 0)))]) (fun _ w' => St w O w' [Ob.v (tSl (tP (tI .i64) (tI .i64))) (stepsV rP) v_22, .row (tP (tI .i64) (tI .i64)) 58 v_16 (forcedP rP), .row (tP (tI .i64) (tI .i64)) 58 v_7 (firstV rR)]) ?_ ?_
    · rcases Bool.eq_false_or_eq_true (((decide ((0 : Int) = 0) && decide ((0 : Int) = 0)) && decide ((0 : Int) = 0)) && decide ((0 : Int) = 0)) with g_90 | g_90
      · -- True
        have gp_91 := g_90
        try simp only [Bool.and_eq_true, Bool.or_eq_true, Bool.not_eq_true', Bool.and_eq_false_iff, Bool.or_eq_false_iff, Bool.not_eq_false', decide_eq_true_eq, decide_eq_false_iff_not, not_or, Bool.false_eq_true, Bool.true_eq_false, false_or, or_false, not_false_eq_true] at gp_91
        refine Wx.gyes rfl rfl (congrArg Value.bool g_90) ?_
        refine Wx.rd (v := .int .i64 0) (rd_move rfl) rfl ?_
        refine Wx.gyes rfl rfl (congrArg Value.bool g_90) ?_
        refine Wx.rd (v := .bool (decide ((0 : Int) = 0))) (rd_eql rfl rfl) rfl ?_
        refine Wx.rd (v := .bool (decide ((0 : Int) = 0))) (rd_pickT (congrArg Value.bool g_90) rfl) rfl ?_
        refine Wx.nil ⟨(), hS, ⟨?_, trivial⟩, Out.look rfl Out.refl⟩
        show Value.bool (decide ((0 : Int) = 0)) = Value.bool ((((decide ((0 : Int) = 0) && decide ((0 : Int) = 0)) && decide ((0 : Int) = 0)) && decide ((0 : Int) = 0)) && decide ((0 : Int) = 0))
        rw [g_90]; rfl
      · -- False
        have gp_92 := g_90
        try simp only [Bool.and_eq_true, Bool.or_eq_true, Bool.not_eq_true', Bool.and_eq_false_iff, Bool.or_eq_false_iff, Bool.not_eq_false', decide_eq_true_eq, decide_eq_false_iff_not, not_or, Bool.false_eq_true, Bool.true_eq_false, false_or, or_false, not_false_eq_true] at gp_92
        refine Wx.gnoB rfl rfl (congrArg Value.bool g_90) rfl rfl ?_
        refine Wx.gnoB rfl rfl (congrArg Value.bool g_90) rfl rfl ?_
        refine Wx.rd (v := .bool false) (rd_pickF (congrArg Value.bool g_90) rfl) rfl ?_
        refine Wx.nil ⟨(), hS, ⟨?_, trivial⟩, Out.look rfl Out.refl⟩
        show Value.bool false = Value.bool ((((decide ((0 : Int) = 0) && decide ((0 : Int) = 0)) && decide ((0 : Int) = 0)) && decide ((0 : Int) = 0)) && decide ((0 : Int) = 0))
        rw [g_90]; rfl
    rintro ⟨⟩ u_94 w_93 hS
    refine Wx.rd (v := .bool ((((decide ((0 : Int) = 0) && decide ((0 : Int) = 0)) && decide ((0 : Int) = 0)) && decide ((0 : Int) = 0)) && decide ((0 : Int) = 0))) (rd_move rfl) rfl ?_
    refine Wx.cut (X := Unit) 3 [114, 115, 116] (fun _ => [(116, .bool (((((decide ((0 : Int) = 0) && decide ((0 : Int) = 0)) && decide ((0 : Int) = 0)) && decide ((0 : Int) = 0)) && decide ((0 : Int) = 0)) && decide ((0 : Int) = 0)))]) (fun _ w' => St w O w' [Ob.v (tSl (tP (tI .i64) (tI .i64))) (stepsV rP) v_22, .row (tP (tI .i64) (tI .i64)) 58 v_16 (forcedP rP), .row (tP (tI .i64) (tI .i64)) 58 v_7 (firstV rR)]) ?_ ?_
    · rcases Bool.eq_false_or_eq_true ((((decide ((0 : Int) = 0) && decide ((0 : Int) = 0)) && decide ((0 : Int) = 0)) && decide ((0 : Int) = 0)) && decide ((0 : Int) = 0)) with g_95 | g_95
      · -- True
        have gp_96 := g_95
        try simp only [Bool.and_eq_true, Bool.or_eq_true, Bool.not_eq_true', Bool.and_eq_false_iff, Bool.or_eq_false_iff, Bool.not_eq_false', decide_eq_true_eq, decide_eq_false_iff_not, not_or, Bool.false_eq_true, Bool.true_eq_false, false_or, or_false, not_false_eq_true] at gp_96
        refine Wx.gyes rfl rfl (congrArg Value.bool g_95) ?_
        refine Wx.rd (v := .int .i64 0) (rd_move rfl) rfl ?_
        refine Wx.gyes rfl rfl (congrArg Value.bool g_95) ?_
        refine Wx.rd (v := .bool (decide ((0 : Int) = 0))) (rd_eql rfl rfl) rfl ?_
        refine Wx.rd (v := .bool (decide ((0 : Int) = 0))) (rd_pickT (congrArg Value.bool g_95) rfl) rfl ?_
        refine Wx.nil ⟨(), hS, ⟨?_, trivial⟩, Out.look rfl Out.refl⟩
        show Value.bool (decide ((0 : Int) = 0)) = Value.bool (((((decide ((0 : Int) = 0) && decide ((0 : Int) = 0)) && decide ((0 : Int) = 0)) && decide ((0 : Int) = 0)) && decide ((0 : Int) = 0)) && decide ((0 : Int) = 0))
        rw [g_95]; rfl
      · -- False
        have gp_97 := g_95
        try simp only [Bool.and_eq_true, Bool.or_eq_true, Bool.not_eq_true', Bool.and_eq_false_iff, Bool.or_eq_false_iff, Bool.not_eq_false', decide_eq_true_eq, decide_eq_false_iff_not, not_or, Bool.false_eq_true, Bool.true_eq_false, false_or, or_false, not_false_eq_true] at gp_97
        refine Wx.gnoB rfl rfl (congrArg Value.bool g_95) rfl rfl ?_
        refine Wx.gnoB rfl rfl (congrArg Value.bool g_95) rfl rfl ?_
        refine Wx.rd (v := .bool false) (rd_pickF (congrArg Value.bool g_95) rfl) rfl ?_
        refine Wx.nil ⟨(), hS, ⟨?_, trivial⟩, Out.look rfl Out.refl⟩
        show Value.bool false = Value.bool (((((decide ((0 : Int) = 0) && decide ((0 : Int) = 0)) && decide ((0 : Int) = 0)) && decide ((0 : Int) = 0)) && decide ((0 : Int) = 0)) && decide ((0 : Int) = 0))
        rw [g_95]; rfl
    rintro ⟨⟩ u_99 w_98 hS
    refine Wx.rd (v := .bool (((((decide ((0 : Int) = 0) && decide ((0 : Int) = 0)) && decide ((0 : Int) = 0)) && decide ((0 : Int) = 0)) && decide ((0 : Int) = 0)) && decide ((0 : Int) = 0))) (rd_move rfl) rfl ?_
    refine Wx.cut (X := Unit) 3 [118, 119, 120] (fun _ => [(120, .bool ((((((decide ((0 : Int) = 0) && decide ((0 : Int) = 0)) && decide ((0 : Int) = 0)) && decide ((0 : Int) = 0)) && decide ((0 : Int) = 0)) && decide ((0 : Int) = 0)) && decide ((0 : Int) = 0)))]) (fun _ w' => St w O w' [Ob.v (tSl (tP (tI .i64) (tI .i64))) (stepsV rP) v_22, .row (tP (tI .i64) (tI .i64)) 58 v_16 (forcedP rP), .row (tP (tI .i64) (tI .i64)) 58 v_7 (firstV rR)]) ?_ ?_
    · rcases Bool.eq_false_or_eq_true (((((decide ((0 : Int) = 0) && decide ((0 : Int) = 0)) && decide ((0 : Int) = 0)) && decide ((0 : Int) = 0)) && decide ((0 : Int) = 0)) && decide ((0 : Int) = 0)) with g_100 | g_100
      · -- True
        have gp_101 := g_100
        try simp only [Bool.and_eq_true, Bool.or_eq_true, Bool.not_eq_true', Bool.and_eq_false_iff, Bool.or_eq_false_iff, Bool.not_eq_false', decide_eq_true_eq, decide_eq_false_iff_not, not_or, Bool.false_eq_true, Bool.true_eq_false, false_or, or_false, not_false_eq_true] at gp_101
        refine Wx.gyes rfl rfl (congrArg Value.bool g_100) ?_
        refine Wx.rd (v := .int .i64 0) (rd_move rfl) rfl ?_
        refine Wx.gyes rfl rfl (congrArg Value.bool g_100) ?_
        refine Wx.rd (v := .bool (decide ((0 : Int) = 0))) (rd_eql rfl rfl) rfl ?_
        refine Wx.rd (v := .bool (decide ((0 : Int) = 0))) (rd_pickT (congrArg Value.bool g_100) rfl) rfl ?_
        refine Wx.nil ⟨(), hS, ⟨?_, trivial⟩, Out.look rfl Out.refl⟩
        show Value.bool (decide ((0 : Int) = 0)) = Value.bool ((((((decide ((0 : Int) = 0) && decide ((0 : Int) = 0)) && decide ((0 : Int) = 0)) && decide ((0 : Int) = 0)) && decide ((0 : Int) = 0)) && decide ((0 : Int) = 0)) && decide ((0 : Int) = 0))
        rw [g_100]; rfl
      · -- False
        have gp_102 := g_100
        try simp only [Bool.and_eq_true, Bool.or_eq_true, Bool.not_eq_true', Bool.and_eq_false_iff, Bool.or_eq_false_iff, Bool.not_eq_false', decide_eq_true_eq, decide_eq_false_iff_not, not_or, Bool.false_eq_true, Bool.true_eq_false, false_or, or_false, not_false_eq_true] at gp_102
        refine Wx.gnoB rfl rfl (congrArg Value.bool g_100) rfl rfl ?_
        refine Wx.gnoB rfl rfl (congrArg Value.bool g_100) rfl rfl ?_
        refine Wx.rd (v := .bool false) (rd_pickF (congrArg Value.bool g_100) rfl) rfl ?_
        refine Wx.nil ⟨(), hS, ⟨?_, trivial⟩, Out.look rfl Out.refl⟩
        show Value.bool false = Value.bool ((((((decide ((0 : Int) = 0) && decide ((0 : Int) = 0)) && decide ((0 : Int) = 0)) && decide ((0 : Int) = 0)) && decide ((0 : Int) = 0)) && decide ((0 : Int) = 0)) && decide ((0 : Int) = 0))
        rw [g_100]; rfl
    rintro ⟨⟩ u_104 w_103 hS
    refine Wx.rd (v := .bool ((((((decide ((0 : Int) = 0) && decide ((0 : Int) = 0)) && decide ((0 : Int) = 0)) && decide ((0 : Int) = 0)) && decide ((0 : Int) = 0)) && decide ((0 : Int) = 0)) && decide ((0 : Int) = 0))) (rd_move rfl) rfl ?_
    refine Wx.cut (X := Unit) 3 [122, 123, 124] (fun _ => [(124, .bool (((((((decide ((0 : Int) = 0) && decide ((0 : Int) = 0)) && decide ((0 : Int) = 0)) && decide ((0 : Int) = 0)) && decide ((0 : Int) = 0)) && decide ((0 : Int) = 0)) && decide ((0 : Int) = 0)) && decide ((1 : Int) = 1)))]) (fun _ w' => St w O w' [Ob.v (tSl (tP (tI .i64) (tI .i64))) (stepsV rP) v_22, .row (tP (tI .i64) (tI .i64)) 58 v_16 (forcedP rP), .row (tP (tI .i64) (tI .i64)) 58 v_7 (firstV rR)]) ?_ ?_
    · rcases Bool.eq_false_or_eq_true ((((((decide ((0 : Int) = 0) && decide ((0 : Int) = 0)) && decide ((0 : Int) = 0)) && decide ((0 : Int) = 0)) && decide ((0 : Int) = 0)) && decide ((0 : Int) = 0)) && decide ((0 : Int) = 0)) with g_105 | g_105
      · -- True
        have gp_106 := g_105
        try simp only [Bool.and_eq_true, Bool.or_eq_true, Bool.not_eq_true', Bool.and_eq_false_iff, Bool.or_eq_false_iff, Bool.not_eq_false', decide_eq_true_eq, decide_eq_false_iff_not, not_or, Bool.false_eq_true, Bool.true_eq_false, false_or, or_false, not_false_eq_true] at gp_106
        refine Wx.gyes rfl rfl (congrArg Value.bool g_105) ?_
        refine Wx.rd (v := .int .i64 1) (rd_move rfl) rfl ?_
        refine Wx.gyes rfl rfl (congrArg Value.bool g_105) ?_
        refine Wx.rd (v := .bool (decide ((1 : Int) = 1))) (rd_eql rfl rfl) rfl ?_
        refine Wx.rd (v := .bool (decide ((1 : Int) = 1))) (rd_pickT (congrArg Value.bool g_105) rfl) rfl ?_
        refine Wx.nil ⟨(), hS, ⟨?_, trivial⟩, Out.look rfl Out.refl⟩
        show Value.bool (decide ((1 : Int) = 1)) = Value.bool (((((((decide ((0 : Int) = 0) && decide ((0 : Int) = 0)) && decide ((0 : Int) = 0)) && decide ((0 : Int) = 0)) && decide ((0 : Int) = 0)) && decide ((0 : Int) = 0)) && decide ((0 : Int) = 0)) && decide ((1 : Int) = 1))
        rw [g_105]; rfl
      · -- False
        have gp_107 := g_105
        try simp only [Bool.and_eq_true, Bool.or_eq_true, Bool.not_eq_true', Bool.and_eq_false_iff, Bool.or_eq_false_iff, Bool.not_eq_false', decide_eq_true_eq, decide_eq_false_iff_not, not_or, Bool.false_eq_true, Bool.true_eq_false, false_or, or_false, not_false_eq_true] at gp_107
        refine Wx.gnoB rfl rfl (congrArg Value.bool g_105) rfl rfl ?_
        refine Wx.gnoB rfl rfl (congrArg Value.bool g_105) rfl rfl ?_
        refine Wx.rd (v := .bool false) (rd_pickF (congrArg Value.bool g_105) rfl) rfl ?_
        refine Wx.nil ⟨(), hS, ⟨?_, trivial⟩, Out.look rfl Out.refl⟩
        show Value.bool false = Value.bool (((((((decide ((0 : Int) = 0) && decide ((0 : Int) = 0)) && decide ((0 : Int) = 0)) && decide ((0 : Int) = 0)) && decide ((0 : Int) = 0)) && decide ((0 : Int) = 0)) && decide ((0 : Int) = 0)) && decide ((1 : Int) = 1))
        rw [g_105]; rfl
    rintro ⟨⟩ u_109 w_108 hS
    refine Wx.rd (v := .bool (((((((decide ((0 : Int) = 0) && decide ((0 : Int) = 0)) && decide ((0 : Int) = 0)) && decide ((0 : Int) = 0)) && decide ((0 : Int) = 0)) && decide ((0 : Int) = 0)) && decide ((0 : Int) = 0)) && decide ((1 : Int) = 1))) (rd_move rfl) rfl ?_
    refine Wx.cut (X := Unit) 5 [126, 127, 128, 129, 130] (fun _ => [(130, .bool ((((((((decide ((0 : Int) = 0) && decide ((0 : Int) = 0)) && decide ((0 : Int) = 0)) && decide ((0 : Int) = 0)) && decide ((0 : Int) = 0)) && decide ((0 : Int) = 0)) && decide ((0 : Int) = 0)) && decide ((1 : Int) = 1)) && true))]) (fun _ w' => St w O w' [Ob.v (tSl (tP (tI .i64) (tI .i64))) (stepsV rP) v_22, .row (tP (tI .i64) (tI .i64)) 58 v_16 (forcedP rP), .row (tP (tI .i64) (tI .i64)) 58 v_7 (firstV rR)]) ?_ ?_
    · rcases Bool.eq_false_or_eq_true (((((((decide ((0 : Int) = 0) && decide ((0 : Int) = 0)) && decide ((0 : Int) = 0)) && decide ((0 : Int) = 0)) && decide ((0 : Int) = 0)) && decide ((0 : Int) = 0)) && decide ((0 : Int) = 0)) && decide ((1 : Int) = 1)) with g_110 | g_110
      · -- True
        have gp_111 := g_110
        try simp only [Bool.and_eq_true, Bool.or_eq_true, Bool.not_eq_true', Bool.and_eq_false_iff, Bool.or_eq_false_iff, Bool.not_eq_false', decide_eq_true_eq, decide_eq_false_iff_not, not_or, Bool.false_eq_true, Bool.true_eq_false, false_or, or_false, not_false_eq_true] at gp_111
        refine Wx.gyes rfl rfl (congrArg Value.bool g_110) ?_
        refine Wx.rd (v := v_7) (rd_move rfl) rfl ?_
        refine Wx.gyes rfl rfl (congrArg Value.bool g_110) ?_
        refine Wx.lit (t := (tI .i64)) (ys := [0, 1, 2, 3]) (vs := [.int .i64 0, .int .i64 1, .int .i64 2, .int .i64 3]) elHm_60 hS rfl rfl ⟨(V.mkInt (in_i64 (by omega) (by omega))), ⟨(V.mkInt (in_i64 (by omega) (by omega))), ⟨(V.mkInt (in_i64 (by omega) (by omega))), ⟨(V.mkInt (in_i64 (by omega) (by omega))), trivial⟩⟩⟩⟩ (by decide) rfl (fun v_112 w_113 hx_114 hS => ?_)
        refine Wx.gyes rfl rfl (congrArg Value.bool g_110) ?_
        have hS := hS.freeze 0 rfl
        refine Wx.callF (run_callF Tryd.call48 rfl) (F48 (hS.v 0 rfl) (by decide) hS.fb_lt) rfl ?_
        rintro r_116 w_117 hx_118 ⟨_, rfl, hv_119⟩
        have hS := hS.pushFr hx_118 hv_119
        refine Wx.gyes rfl rfl (congrArg Value.bool g_110) ?_
        refine Wx.callF (run_callF Tryd.call29 rfl) (F29 (hS.lend 4 rfl) (hS.lend 0 rfl)) rfl ?_
        rintro r_121 w_122 hx_123 rfl
        have hS := hS.ext hx_123
        rw [show (decide ((firstV rR) = (pairsU [0, 1, 2, 3])) : Bool) = true from (by decide +kernel)]
        refine Wx.rd (v := .bool true) (rd_pickT (congrArg Value.bool g_110) rfl) rfl ?_
        refine Wx.nil ⟨(), St.tl (hS.tl), ⟨?_, trivial⟩, Out.look rfl Out.refl⟩
        show Value.bool true = Value.bool ((((((((decide ((0 : Int) = 0) && decide ((0 : Int) = 0)) && decide ((0 : Int) = 0)) && decide ((0 : Int) = 0)) && decide ((0 : Int) = 0)) && decide ((0 : Int) = 0)) && decide ((0 : Int) = 0)) && decide ((1 : Int) = 1)) && true)
        rw [g_110]; rfl
      · -- False
        have gp_124 := g_110
        try simp only [Bool.and_eq_true, Bool.or_eq_true, Bool.not_eq_true', Bool.and_eq_false_iff, Bool.or_eq_false_iff, Bool.not_eq_false', decide_eq_true_eq, decide_eq_false_iff_not, not_or, Bool.false_eq_true, Bool.true_eq_false, false_or, or_false, not_false_eq_true] at gp_124
        refine Wx.gnoB rfl rfl (congrArg Value.bool g_110) rfl rfl ?_
        refine Wx.gnoB rfl rfl (congrArg Value.bool g_110) rfl rfl ?_
        refine Wx.gnoB rfl rfl (congrArg Value.bool g_110) rfl rfl ?_
        refine Wx.gnoB rfl rfl (congrArg Value.bool g_110) rfl rfl ?_
        refine Wx.rd (v := .bool false) (rd_pickF (congrArg Value.bool g_110) rfl) rfl ?_
        refine Wx.nil ⟨(), hS, ⟨?_, trivial⟩, Out.look rfl Out.refl⟩
        show Value.bool false = Value.bool ((((((((decide ((0 : Int) = 0) && decide ((0 : Int) = 0)) && decide ((0 : Int) = 0)) && decide ((0 : Int) = 0)) && decide ((0 : Int) = 0)) && decide ((0 : Int) = 0)) && decide ((0 : Int) = 0)) && decide ((1 : Int) = 1)) && true)
        rw [g_110]; rfl
    rintro ⟨⟩ u_126 w_125 hS
    refine Wx.rd (v := .bool ((((((((decide ((0 : Int) = 0) && decide ((0 : Int) = 0)) && decide ((0 : Int) = 0)) && decide ((0 : Int) = 0)) && decide ((0 : Int) = 0)) && decide ((0 : Int) = 0)) && decide ((0 : Int) = 0)) && decide ((1 : Int) = 1)) && true)) (rd_move rfl) rfl ?_
    refine Wx.cut (X := Unit) 3 [132, 133, 134] (fun _ => [(134, .bool (((((((((decide ((0 : Int) = 0) && decide ((0 : Int) = 0)) && decide ((0 : Int) = 0)) && decide ((0 : Int) = 0)) && decide ((0 : Int) = 0)) && decide ((0 : Int) = 0)) && decide ((0 : Int) = 0)) && decide ((1 : Int) = 1)) && true) && decide ((2 : Int) = 2)))]) (fun _ w' => St w O w' [Ob.v (tSl (tP (tI .i64) (tI .i64))) (stepsV rP) v_22, .row (tP (tI .i64) (tI .i64)) 58 v_16 (forcedP rP), .row (tP (tI .i64) (tI .i64)) 58 v_7 (firstV rR)]) ?_ ?_
    · rcases Bool.eq_false_or_eq_true ((((((((decide ((0 : Int) = 0) && decide ((0 : Int) = 0)) && decide ((0 : Int) = 0)) && decide ((0 : Int) = 0)) && decide ((0 : Int) = 0)) && decide ((0 : Int) = 0)) && decide ((0 : Int) = 0)) && decide ((1 : Int) = 1)) && true) with g_127 | g_127
      · -- True
        have gp_128 := g_127
        try simp only [Bool.and_eq_true, Bool.or_eq_true, Bool.not_eq_true', Bool.and_eq_false_iff, Bool.or_eq_false_iff, Bool.not_eq_false', decide_eq_true_eq, decide_eq_false_iff_not, not_or, Bool.false_eq_true, Bool.true_eq_false, false_or, or_false, not_false_eq_true] at gp_128
        refine Wx.gyes rfl rfl (congrArg Value.bool g_127) ?_
        refine Wx.rd (v := .int .i64 2) (rd_move rfl) rfl ?_
        refine Wx.gyes rfl rfl (congrArg Value.bool g_127) ?_
        refine Wx.rd (v := .bool (decide ((2 : Int) = 2))) (rd_eql rfl rfl) rfl ?_
        refine Wx.rd (v := .bool (decide ((2 : Int) = 2))) (rd_pickT (congrArg Value.bool g_127) rfl) rfl ?_
        refine Wx.nil ⟨(), hS, ⟨?_, trivial⟩, Out.look rfl Out.refl⟩
        show Value.bool (decide ((2 : Int) = 2)) = Value.bool (((((((((decide ((0 : Int) = 0) && decide ((0 : Int) = 0)) && decide ((0 : Int) = 0)) && decide ((0 : Int) = 0)) && decide ((0 : Int) = 0)) && decide ((0 : Int) = 0)) && decide ((0 : Int) = 0)) && decide ((1 : Int) = 1)) && true) && decide ((2 : Int) = 2))
        rw [g_127]; rfl
      · -- False
        have gp_129 := g_127
        try simp only [Bool.and_eq_true, Bool.or_eq_true, Bool.not_eq_true', Bool.and_eq_false_iff, Bool.or_eq_false_iff, Bool.not_eq_false', decide_eq_true_eq, decide_eq_false_iff_not, not_or, Bool.false_eq_true, Bool.true_eq_false, false_or, or_false, not_false_eq_true] at gp_129
        refine Wx.gnoB rfl rfl (congrArg Value.bool g_127) rfl rfl ?_
        refine Wx.gnoB rfl rfl (congrArg Value.bool g_127) rfl rfl ?_
        refine Wx.rd (v := .bool false) (rd_pickF (congrArg Value.bool g_127) rfl) rfl ?_
        refine Wx.nil ⟨(), hS, ⟨?_, trivial⟩, Out.look rfl Out.refl⟩
        show Value.bool false = Value.bool (((((((((decide ((0 : Int) = 0) && decide ((0 : Int) = 0)) && decide ((0 : Int) = 0)) && decide ((0 : Int) = 0)) && decide ((0 : Int) = 0)) && decide ((0 : Int) = 0)) && decide ((0 : Int) = 0)) && decide ((1 : Int) = 1)) && true) && decide ((2 : Int) = 2))
        rw [g_127]; rfl
    rintro ⟨⟩ u_131 w_130 hS
    refine Wx.rd (v := .bool (((((((((decide ((0 : Int) = 0) && decide ((0 : Int) = 0)) && decide ((0 : Int) = 0)) && decide ((0 : Int) = 0)) && decide ((0 : Int) = 0)) && decide ((0 : Int) = 0)) && decide ((0 : Int) = 0)) && decide ((1 : Int) = 1)) && true) && decide ((2 : Int) = 2))) (rd_move rfl) rfl ?_
    refine Wx.cut (X := Unit) 5 [136, 137, 138, 139, 140] (fun _ => [(140, .bool ((((((((((decide ((0 : Int) = 0) && decide ((0 : Int) = 0)) && decide ((0 : Int) = 0)) && decide ((0 : Int) = 0)) && decide ((0 : Int) = 0)) && decide ((0 : Int) = 0)) && decide ((0 : Int) = 0)) && decide ((1 : Int) = 1)) && true) && decide ((2 : Int) = 2)) && true))]) (fun _ w' => St w O w' [Ob.v (tSl (tP (tI .i64) (tI .i64))) (stepsV rP) v_22, .row (tP (tI .i64) (tI .i64)) 58 v_16 (forcedP rP), .row (tP (tI .i64) (tI .i64)) 58 v_7 (firstV rR)]) ?_ ?_
    · rcases Bool.eq_false_or_eq_true (((((((((decide ((0 : Int) = 0) && decide ((0 : Int) = 0)) && decide ((0 : Int) = 0)) && decide ((0 : Int) = 0)) && decide ((0 : Int) = 0)) && decide ((0 : Int) = 0)) && decide ((0 : Int) = 0)) && decide ((1 : Int) = 1)) && true) && decide ((2 : Int) = 2)) with g_132 | g_132
      · -- True
        have gp_133 := g_132
        try simp only [Bool.and_eq_true, Bool.or_eq_true, Bool.not_eq_true', Bool.and_eq_false_iff, Bool.or_eq_false_iff, Bool.not_eq_false', decide_eq_true_eq, decide_eq_false_iff_not, not_or, Bool.false_eq_true, Bool.true_eq_false, false_or, or_false, not_false_eq_true] at gp_133
        refine Wx.gyes rfl rfl (congrArg Value.bool g_132) ?_
        refine Wx.rd (v := v_16) (rd_move rfl) rfl ?_
        refine Wx.gyes rfl rfl (congrArg Value.bool g_132) ?_
        refine Wx.lit (t := (tI .i64)) (ys := [0, 3, 1, 2]) (vs := [.int .i64 0, .int .i64 3, .int .i64 1, .int .i64 2]) elHm_60 hS rfl rfl ⟨(V.mkInt (in_i64 (by omega) (by omega))), ⟨(V.mkInt (in_i64 (by omega) (by omega))), ⟨(V.mkInt (in_i64 (by omega) (by omega))), ⟨(V.mkInt (in_i64 (by omega) (by omega))), trivial⟩⟩⟩⟩ (by decide) rfl (fun v_134 w_135 hx_136 hS => ?_)
        refine Wx.gyes rfl rfl (congrArg Value.bool g_132) ?_
        have hS := hS.freeze 0 rfl
        refine Wx.callF (run_callF Tryd.call48 rfl) (F48 (hS.v 0 rfl) (by decide) hS.fb_lt) rfl ?_
        rintro r_138 w_139 hx_140 ⟨_, rfl, hv_141⟩
        have hS := hS.pushFr hx_140 hv_141
        refine Wx.gyes rfl rfl (congrArg Value.bool g_132) ?_
        refine Wx.callF (run_callF Tryd.call29 rfl) (F29 (hS.lend 3 rfl) (hS.lend 0 rfl)) rfl ?_
        rintro r_143 w_144 hx_145 rfl
        have hS := hS.ext hx_145
        rw [show (decide ((forcedP rP) = (pairsU [0, 3, 1, 2])) : Bool) = true from (by decide +kernel)]
        refine Wx.rd (v := .bool true) (rd_pickT (congrArg Value.bool g_132) rfl) rfl ?_
        refine Wx.nil ⟨(), St.tl (hS.tl), ⟨?_, trivial⟩, Out.look rfl Out.refl⟩
        show Value.bool true = Value.bool ((((((((((decide ((0 : Int) = 0) && decide ((0 : Int) = 0)) && decide ((0 : Int) = 0)) && decide ((0 : Int) = 0)) && decide ((0 : Int) = 0)) && decide ((0 : Int) = 0)) && decide ((0 : Int) = 0)) && decide ((1 : Int) = 1)) && true) && decide ((2 : Int) = 2)) && true)
        rw [g_132]; rfl
      · -- False
        have gp_146 := g_132
        try simp only [Bool.and_eq_true, Bool.or_eq_true, Bool.not_eq_true', Bool.and_eq_false_iff, Bool.or_eq_false_iff, Bool.not_eq_false', decide_eq_true_eq, decide_eq_false_iff_not, not_or, Bool.false_eq_true, Bool.true_eq_false, false_or, or_false, not_false_eq_true] at gp_146
        refine Wx.gnoB rfl rfl (congrArg Value.bool g_132) rfl rfl ?_
        refine Wx.gnoB rfl rfl (congrArg Value.bool g_132) rfl rfl ?_
        refine Wx.gnoB rfl rfl (congrArg Value.bool g_132) rfl rfl ?_
        refine Wx.gnoB rfl rfl (congrArg Value.bool g_132) rfl rfl ?_
        refine Wx.rd (v := .bool false) (rd_pickF (congrArg Value.bool g_132) rfl) rfl ?_
        refine Wx.nil ⟨(), hS, ⟨?_, trivial⟩, Out.look rfl Out.refl⟩
        show Value.bool false = Value.bool ((((((((((decide ((0 : Int) = 0) && decide ((0 : Int) = 0)) && decide ((0 : Int) = 0)) && decide ((0 : Int) = 0)) && decide ((0 : Int) = 0)) && decide ((0 : Int) = 0)) && decide ((0 : Int) = 0)) && decide ((1 : Int) = 1)) && true) && decide ((2 : Int) = 2)) && true)
        rw [g_132]; rfl
    rintro ⟨⟩ u_148 w_147 hS
    refine Wx.rd (v := .bool ((((((((((decide ((0 : Int) = 0) && decide ((0 : Int) = 0)) && decide ((0 : Int) = 0)) && decide ((0 : Int) = 0)) && decide ((0 : Int) = 0)) && decide ((0 : Int) = 0)) && decide ((0 : Int) = 0)) && decide ((1 : Int) = 1)) && true) && decide ((2 : Int) = 2)) && true)) (rd_move rfl) rfl ?_
    refine Wx.cut (X := Unit) 5 [142, 143, 144, 145, 146] (fun _ => [(146, .bool (((((((((((decide ((0 : Int) = 0) && decide ((0 : Int) = 0)) && decide ((0 : Int) = 0)) && decide ((0 : Int) = 0)) && decide ((0 : Int) = 0)) && decide ((0 : Int) = 0)) && decide ((0 : Int) = 0)) && decide ((1 : Int) = 1)) && true) && decide ((2 : Int) = 2)) && true) && true))]) (fun _ w' => St w O w' [Ob.v (tSl (tP (tI .i64) (tI .i64))) (stepsV rP) v_22, .row (tP (tI .i64) (tI .i64)) 58 v_16 (forcedP rP), .row (tP (tI .i64) (tI .i64)) 58 v_7 (firstV rR)]) ?_ ?_
    · rcases Bool.eq_false_or_eq_true ((((((((((decide ((0 : Int) = 0) && decide ((0 : Int) = 0)) && decide ((0 : Int) = 0)) && decide ((0 : Int) = 0)) && decide ((0 : Int) = 0)) && decide ((0 : Int) = 0)) && decide ((0 : Int) = 0)) && decide ((1 : Int) = 1)) && true) && decide ((2 : Int) = 2)) && true) with g_149 | g_149
      · -- True
        have gp_150 := g_149
        try simp only [Bool.and_eq_true, Bool.or_eq_true, Bool.not_eq_true', Bool.and_eq_false_iff, Bool.or_eq_false_iff, Bool.not_eq_false', decide_eq_true_eq, decide_eq_false_iff_not, not_or, Bool.false_eq_true, Bool.true_eq_false, false_or, or_false, not_false_eq_true] at gp_150
        refine Wx.gyes rfl rfl (congrArg Value.bool g_149) ?_
        refine Wx.rd (v := v_22) (rd_move rfl) rfl ?_
        refine Wx.gyes rfl rfl (congrArg Value.bool g_149) ?_
        refine Wx.lit (t := (tI .i64)) (ys := [1, 2, 0, 3]) (vs := [.int .i64 1, .int .i64 2, .int .i64 0, .int .i64 3]) elHm_60 hS rfl rfl ⟨(V.mkInt (in_i64 (by omega) (by omega))), ⟨(V.mkInt (in_i64 (by omega) (by omega))), ⟨(V.mkInt (in_i64 (by omega) (by omega))), ⟨(V.mkInt (in_i64 (by omega) (by omega))), trivial⟩⟩⟩⟩ (by decide) rfl (fun v_151 w_152 hx_153 hS => ?_)
        refine Wx.gyes rfl rfl (congrArg Value.bool g_149) ?_
        have hS := hS.freeze 0 rfl
        refine Wx.callF (run_callF Tryd.call48 rfl) (F48 (hS.v 0 rfl) (by decide) hS.fb_lt) rfl ?_
        rintro r_155 w_156 hx_157 ⟨_, rfl, hv_158⟩
        have hS := hS.pushFr hx_157 hv_158
        refine Wx.gyes rfl rfl (congrArg Value.bool g_149) ?_
        refine Wx.callF (run_callF Tryd.call29 rfl) (F29 (hS.v 2 rfl) (hS.lend 0 rfl)) rfl ?_
        rintro r_160 w_161 hx_162 rfl
        have hS := hS.ext hx_162
        rw [show (decide ((stepsV rP) = (pairsU [1, 2, 0, 3])) : Bool) = true from (by decide +kernel)]
        refine Wx.rd (v := .bool true) (rd_pickT (congrArg Value.bool g_149) rfl) rfl ?_
        refine Wx.nil ⟨(), St.tl (hS.tl), ⟨?_, trivial⟩, Out.look rfl Out.refl⟩
        show Value.bool true = Value.bool (((((((((((decide ((0 : Int) = 0) && decide ((0 : Int) = 0)) && decide ((0 : Int) = 0)) && decide ((0 : Int) = 0)) && decide ((0 : Int) = 0)) && decide ((0 : Int) = 0)) && decide ((0 : Int) = 0)) && decide ((1 : Int) = 1)) && true) && decide ((2 : Int) = 2)) && true) && true)
        rw [g_149]; rfl
      · -- False
        have gp_163 := g_149
        try simp only [Bool.and_eq_true, Bool.or_eq_true, Bool.not_eq_true', Bool.and_eq_false_iff, Bool.or_eq_false_iff, Bool.not_eq_false', decide_eq_true_eq, decide_eq_false_iff_not, not_or, Bool.false_eq_true, Bool.true_eq_false, false_or, or_false, not_false_eq_true] at gp_163
        refine Wx.gnoB rfl rfl (congrArg Value.bool g_149) rfl rfl ?_
        refine Wx.gnoB rfl rfl (congrArg Value.bool g_149) rfl rfl ?_
        refine Wx.gnoB rfl rfl (congrArg Value.bool g_149) rfl rfl ?_
        refine Wx.gnoB rfl rfl (congrArg Value.bool g_149) rfl rfl ?_
        refine Wx.rd (v := .bool false) (rd_pickF (congrArg Value.bool g_149) rfl) rfl ?_
        refine Wx.nil ⟨(), hS, ⟨?_, trivial⟩, Out.look rfl Out.refl⟩
        show Value.bool false = Value.bool (((((((((((decide ((0 : Int) = 0) && decide ((0 : Int) = 0)) && decide ((0 : Int) = 0)) && decide ((0 : Int) = 0)) && decide ((0 : Int) = 0)) && decide ((0 : Int) = 0)) && decide ((0 : Int) = 0)) && decide ((1 : Int) = 1)) && true) && decide ((2 : Int) = 2)) && true) && true)
        rw [g_149]; rfl
    rintro ⟨⟩ u_165 w_164 hS
    refine Wx.rd (v := .bool (((((((((((decide ((0 : Int) = 0) && decide ((0 : Int) = 0)) && decide ((0 : Int) = 0)) && decide ((0 : Int) = 0)) && decide ((0 : Int) = 0)) && decide ((0 : Int) = 0)) && decide ((0 : Int) = 0)) && decide ((1 : Int) = 1)) && true) && decide ((2 : Int) = 2)) && true) && true)) (rd_move rfl) rfl ?_
    refine Wx.cut (X := Unit) 3 [148, 149, 150] (fun _ => [(150, .bool ((((((((((((decide ((0 : Int) = 0) && decide ((0 : Int) = 0)) && decide ((0 : Int) = 0)) && decide ((0 : Int) = 0)) && decide ((0 : Int) = 0)) && decide ((0 : Int) = 0)) && decide ((0 : Int) = 0)) && decide ((1 : Int) = 1)) && true) && decide ((2 : Int) = 2)) && true) && true) && true))]) (fun _ w' => St w O w' [Ob.v (tSl (tP (tI .i64) (tI .i64))) (stepsV rP) v_22, .row (tP (tI .i64) (tI .i64)) 58 v_16 (forcedP rP), .row (tP (tI .i64) (tI .i64)) 58 v_7 (firstV rR)]) ?_ ?_
    · rcases Bool.eq_false_or_eq_true (((((((((((decide ((0 : Int) = 0) && decide ((0 : Int) = 0)) && decide ((0 : Int) = 0)) && decide ((0 : Int) = 0)) && decide ((0 : Int) = 0)) && decide ((0 : Int) = 0)) && decide ((0 : Int) = 0)) && decide ((1 : Int) = 1)) && true) && decide ((2 : Int) = 2)) && true) && true) with g_166 | g_166
      · -- True
        have gp_167 := g_166
        try simp only [Bool.and_eq_true, Bool.or_eq_true, Bool.not_eq_true', Bool.and_eq_false_iff, Bool.or_eq_false_iff, Bool.not_eq_false', decide_eq_true_eq, decide_eq_false_iff_not, not_or, Bool.false_eq_true, Bool.true_eq_false, false_or, or_false, not_false_eq_true] at gp_167
        refine Wx.gyes rfl rfl (congrArg Value.bool g_166) ?_
        refine Wx.rd (v := .string (restE rQ)) (rd_move rfl) rfl ?_
        refine Wx.gyes rfl rfl (congrArg Value.bool g_166) ?_
        refine Wx.rd (v := .bool true) (Rd.to (v := .bool ((restE rQ) == rQ)) (rd_eqlS rfl rfl) (congrArg (Value.bool) (show (true : Bool) = ((restE rQ) == rQ : Bool) from (by decide +kernel)).symm)) rfl ?_
        refine Wx.rd (v := .bool true) (rd_pickT (congrArg Value.bool g_166) rfl) rfl ?_
        refine Wx.nil ⟨(), hS, ⟨?_, trivial⟩, Out.look rfl Out.refl⟩
        show Value.bool true = Value.bool ((((((((((((decide ((0 : Int) = 0) && decide ((0 : Int) = 0)) && decide ((0 : Int) = 0)) && decide ((0 : Int) = 0)) && decide ((0 : Int) = 0)) && decide ((0 : Int) = 0)) && decide ((0 : Int) = 0)) && decide ((1 : Int) = 1)) && true) && decide ((2 : Int) = 2)) && true) && true) && true)
        rw [g_166]; rfl
      · -- False
        have gp_168 := g_166
        try simp only [Bool.and_eq_true, Bool.or_eq_true, Bool.not_eq_true', Bool.and_eq_false_iff, Bool.or_eq_false_iff, Bool.not_eq_false', decide_eq_true_eq, decide_eq_false_iff_not, not_or, Bool.false_eq_true, Bool.true_eq_false, false_or, or_false, not_false_eq_true] at gp_168
        refine Wx.gnoB rfl rfl (congrArg Value.bool g_166) rfl rfl ?_
        refine Wx.gnoB rfl rfl (congrArg Value.bool g_166) rfl rfl ?_
        refine Wx.rd (v := .bool false) (rd_pickF (congrArg Value.bool g_166) rfl) rfl ?_
        refine Wx.nil ⟨(), hS, ⟨?_, trivial⟩, Out.look rfl Out.refl⟩
        show Value.bool false = Value.bool ((((((((((((decide ((0 : Int) = 0) && decide ((0 : Int) = 0)) && decide ((0 : Int) = 0)) && decide ((0 : Int) = 0)) && decide ((0 : Int) = 0)) && decide ((0 : Int) = 0)) && decide ((0 : Int) = 0)) && decide ((1 : Int) = 1)) && true) && decide ((2 : Int) = 2)) && true) && true) && true)
        rw [g_166]; rfl
    rintro ⟨⟩ u_170 w_169 hS
    refine Wx.rd (v := .bool ((((((((((((decide ((0 : Int) = 0) && decide ((0 : Int) = 0)) && decide ((0 : Int) = 0)) && decide ((0 : Int) = 0)) && decide ((0 : Int) = 0)) && decide ((0 : Int) = 0)) && decide ((0 : Int) = 0)) && decide ((1 : Int) = 1)) && true) && decide ((2 : Int) = 2)) && true) && true) && true)) (rd_move rfl) rfl ?_
    refine Wx.cut (X := Unit) 2 [152, 153] (fun _ => [(153, .bool (((((((((((((decide ((0 : Int) = 0) && decide ((0 : Int) = 0)) && decide ((0 : Int) = 0)) && decide ((0 : Int) = 0)) && decide ((0 : Int) = 0)) && decide ((0 : Int) = 0)) && decide ((0 : Int) = 0)) && decide ((1 : Int) = 1)) && true) && decide ((2 : Int) = 2)) && true) && true) && true) && true))]) (fun _ w' => St w O w' [Ob.v (tSl (tP (tI .i64) (tI .i64))) (stepsV rP) v_22, .row (tP (tI .i64) (tI .i64)) 58 v_16 (forcedP rP), .row (tP (tI .i64) (tI .i64)) 58 v_7 (firstV rR)]) ?_ ?_
    · rcases Bool.eq_false_or_eq_true ((((((((((((decide ((0 : Int) = 0) && decide ((0 : Int) = 0)) && decide ((0 : Int) = 0)) && decide ((0 : Int) = 0)) && decide ((0 : Int) = 0)) && decide ((0 : Int) = 0)) && decide ((0 : Int) = 0)) && decide ((1 : Int) = 1)) && true) && decide ((2 : Int) = 2)) && true) && true) && true) with g_171 | g_171
      · -- True
        have gp_172 := g_171
        try simp only [Bool.and_eq_true, Bool.or_eq_true, Bool.not_eq_true', Bool.and_eq_false_iff, Bool.or_eq_false_iff, Bool.not_eq_false', decide_eq_true_eq, decide_eq_false_iff_not, not_or, Bool.false_eq_true, Bool.true_eq_false, false_or, or_false, not_false_eq_true] at gp_172
        refine Wx.gyes rfl rfl (congrArg Value.bool g_171) ?_
        refine Wx.rd (v := .bool true) (rd_move rfl) rfl ?_
        refine Wx.rd (v := .bool true) (rd_pickT (congrArg Value.bool g_171) rfl) rfl ?_
        refine Wx.nil ⟨(), hS, ⟨?_, trivial⟩, Out.look rfl Out.refl⟩
        show Value.bool true = Value.bool (((((((((((((decide ((0 : Int) = 0) && decide ((0 : Int) = 0)) && decide ((0 : Int) = 0)) && decide ((0 : Int) = 0)) && decide ((0 : Int) = 0)) && decide ((0 : Int) = 0)) && decide ((0 : Int) = 0)) && decide ((1 : Int) = 1)) && true) && decide ((2 : Int) = 2)) && true) && true) && true) && true)
        rw [g_171]; rfl
      · -- False
        have gp_173 := g_171
        try simp only [Bool.and_eq_true, Bool.or_eq_true, Bool.not_eq_true', Bool.and_eq_false_iff, Bool.or_eq_false_iff, Bool.not_eq_false', decide_eq_true_eq, decide_eq_false_iff_not, not_or, Bool.false_eq_true, Bool.true_eq_false, false_or, or_false, not_false_eq_true] at gp_173
        refine Wx.gnoB rfl rfl (congrArg Value.bool g_171) rfl rfl ?_
        refine Wx.rd (v := .bool false) (rd_pickF (congrArg Value.bool g_171) rfl) rfl ?_
        refine Wx.nil ⟨(), hS, ⟨?_, trivial⟩, Out.look rfl Out.refl⟩
        show Value.bool false = Value.bool (((((((((((((decide ((0 : Int) = 0) && decide ((0 : Int) = 0)) && decide ((0 : Int) = 0)) && decide ((0 : Int) = 0)) && decide ((0 : Int) = 0)) && decide ((0 : Int) = 0)) && decide ((0 : Int) = 0)) && decide ((1 : Int) = 1)) && true) && decide ((2 : Int) = 2)) && true) && true) && true) && true)
        rw [g_171]; rfl
    rintro ⟨⟩ u_175 w_174 hS
    refine Wx.rd (v := .bool (((((((((((((decide ((0 : Int) = 0) && decide ((0 : Int) = 0)) && decide ((0 : Int) = 0)) && decide ((0 : Int) = 0)) && decide ((0 : Int) = 0)) && decide ((0 : Int) = 0)) && decide ((0 : Int) = 0)) && decide ((1 : Int) = 1)) && true) && decide ((2 : Int) = 2)) && true) && true) && true) && true)) (rd_move rfl) rfl ?_
    refine Wx.cut (X := Unit) 3 [155, 156, 157] (fun _ => [(157, .bool ((((((((((((((decide ((0 : Int) = 0) && decide ((0 : Int) = 0)) && decide ((0 : Int) = 0)) && decide ((0 : Int) = 0)) && decide ((0 : Int) = 0)) && decide ((0 : Int) = 0)) && decide ((0 : Int) = 0)) && decide ((1 : Int) = 1)) && true) && decide ((2 : Int) = 2)) && true) && true) && true) && true) && !false))]) (fun _ w' => St w O w' [Ob.v (tSl (tP (tI .i64) (tI .i64))) (stepsV rP) v_22, .row (tP (tI .i64) (tI .i64)) 58 v_16 (forcedP rP), .row (tP (tI .i64) (tI .i64)) 58 v_7 (firstV rR)]) ?_ ?_
    · rcases Bool.eq_false_or_eq_true (((((((((((((decide ((0 : Int) = 0) && decide ((0 : Int) = 0)) && decide ((0 : Int) = 0)) && decide ((0 : Int) = 0)) && decide ((0 : Int) = 0)) && decide ((0 : Int) = 0)) && decide ((0 : Int) = 0)) && decide ((1 : Int) = 1)) && true) && decide ((2 : Int) = 2)) && true) && true) && true) && true) with g_176 | g_176
      · -- True
        have gp_177 := g_176
        try simp only [Bool.and_eq_true, Bool.or_eq_true, Bool.not_eq_true', Bool.and_eq_false_iff, Bool.or_eq_false_iff, Bool.not_eq_false', decide_eq_true_eq, decide_eq_false_iff_not, not_or, Bool.false_eq_true, Bool.true_eq_false, false_or, or_false, not_false_eq_true] at gp_177
        refine Wx.gyes rfl rfl (congrArg Value.bool g_176) ?_
        refine Wx.rd (v := .bool false) (rd_move rfl) rfl ?_
        refine Wx.gyes rfl rfl (congrArg Value.bool g_176) ?_
        refine Wx.rd (v := .bool (!false)) (rd_not rfl) rfl ?_
        refine Wx.rd (v := .bool (!false)) (rd_pickT (congrArg Value.bool g_176) rfl) rfl ?_
        refine Wx.nil ⟨(), hS, ⟨?_, trivial⟩, Out.look rfl Out.refl⟩
        show Value.bool (!false) = Value.bool ((((((((((((((decide ((0 : Int) = 0) && decide ((0 : Int) = 0)) && decide ((0 : Int) = 0)) && decide ((0 : Int) = 0)) && decide ((0 : Int) = 0)) && decide ((0 : Int) = 0)) && decide ((0 : Int) = 0)) && decide ((1 : Int) = 1)) && true) && decide ((2 : Int) = 2)) && true) && true) && true) && true) && !false)
        rw [g_176]; rfl
      · -- False
        have gp_178 := g_176
        try simp only [Bool.and_eq_true, Bool.or_eq_true, Bool.not_eq_true', Bool.and_eq_false_iff, Bool.or_eq_false_iff, Bool.not_eq_false', decide_eq_true_eq, decide_eq_false_iff_not, not_or, Bool.false_eq_true, Bool.true_eq_false, false_or, or_false, not_false_eq_true] at gp_178
        refine Wx.gnoB rfl rfl (congrArg Value.bool g_176) rfl rfl ?_
        refine Wx.gnoB rfl rfl (congrArg Value.bool g_176) rfl rfl ?_
        refine Wx.rd (v := .bool false) (rd_pickF (congrArg Value.bool g_176) rfl) rfl ?_
        refine Wx.nil ⟨(), hS, ⟨?_, trivial⟩, Out.look rfl Out.refl⟩
        show Value.bool false = Value.bool ((((((((((((((decide ((0 : Int) = 0) && decide ((0 : Int) = 0)) && decide ((0 : Int) = 0)) && decide ((0 : Int) = 0)) && decide ((0 : Int) = 0)) && decide ((0 : Int) = 0)) && decide ((0 : Int) = 0)) && decide ((1 : Int) = 1)) && true) && decide ((2 : Int) = 2)) && true) && true) && true) && true) && !false)
        rw [g_176]; rfl
    rintro ⟨⟩ u_180 w_179 hS
    refine Wx.rd (v := .bool ((((((((((((((decide ((0 : Int) = 0) && decide ((0 : Int) = 0)) && decide ((0 : Int) = 0)) && decide ((0 : Int) = 0)) && decide ((0 : Int) = 0)) && decide ((0 : Int) = 0)) && decide ((0 : Int) = 0)) && decide ((1 : Int) = 1)) && true) && decide ((2 : Int) = 2)) && true) && true) && true) && true) && !false)) (rd_move rfl) rfl ?_
    refine Wx.cut (X := Unit) 3 [159, 160, 161] (fun _ => [(161, .bool (((((((((((((((decide ((0 : Int) = 0) && decide ((0 : Int) = 0)) && decide ((0 : Int) = 0)) && decide ((0 : Int) = 0)) && decide ((0 : Int) = 0)) && decide ((0 : Int) = 0)) && decide ((0 : Int) = 0)) && decide ((1 : Int) = 1)) && true) && decide ((2 : Int) = 2)) && true) && true) && true) && true) && !false) && true))]) (fun _ w' => St w O w' [Ob.v (tSl (tP (tI .i64) (tI .i64))) (stepsV rP) v_22, .row (tP (tI .i64) (tI .i64)) 58 v_16 (forcedP rP), .row (tP (tI .i64) (tI .i64)) 58 v_7 (firstV rR)]) ?_ ?_
    · rcases Bool.eq_false_or_eq_true ((((((((((((((decide ((0 : Int) = 0) && decide ((0 : Int) = 0)) && decide ((0 : Int) = 0)) && decide ((0 : Int) = 0)) && decide ((0 : Int) = 0)) && decide ((0 : Int) = 0)) && decide ((0 : Int) = 0)) && decide ((1 : Int) = 1)) && true) && decide ((2 : Int) = 2)) && true) && true) && true) && true) && !false) with g_181 | g_181
      · -- True
        have gp_182 := g_181
        try simp only [Bool.and_eq_true, Bool.or_eq_true, Bool.not_eq_true', Bool.and_eq_false_iff, Bool.or_eq_false_iff, Bool.not_eq_false', decide_eq_true_eq, decide_eq_false_iff_not, not_or, Bool.false_eq_true, Bool.true_eq_false, false_or, or_false, not_false_eq_true] at gp_182
        refine Wx.gyes rfl rfl (congrArg Value.bool g_181) ?_
        refine Wx.rd (v := .string (coreV r1)) (rd_move rfl) rfl ?_
        refine Wx.gyes rfl rfl (congrArg Value.bool g_181) ?_
        refine Wx.rd (v := .bool true) (Rd.to (v := .bool ((coreV r1) == ({ data := #[99] } : ByteArray))) (rd_eqlS rfl rfl) (congrArg (Value.bool) (show (true : Bool) = ((coreV r1) == ({ data := #[99] } : ByteArray) : Bool) from (by decide +kernel)).symm)) rfl ?_
        refine Wx.rd (v := .bool true) (rd_pickT (congrArg Value.bool g_181) rfl) rfl ?_
        refine Wx.nil ⟨(), hS, ⟨?_, trivial⟩, Out.look rfl Out.refl⟩
        show Value.bool true = Value.bool (((((((((((((((decide ((0 : Int) = 0) && decide ((0 : Int) = 0)) && decide ((0 : Int) = 0)) && decide ((0 : Int) = 0)) && decide ((0 : Int) = 0)) && decide ((0 : Int) = 0)) && decide ((0 : Int) = 0)) && decide ((1 : Int) = 1)) && true) && decide ((2 : Int) = 2)) && true) && true) && true) && true) && !false) && true)
        rw [g_181]; rfl
      · -- False
        have gp_183 := g_181
        try simp only [Bool.and_eq_true, Bool.or_eq_true, Bool.not_eq_true', Bool.and_eq_false_iff, Bool.or_eq_false_iff, Bool.not_eq_false', decide_eq_true_eq, decide_eq_false_iff_not, not_or, Bool.false_eq_true, Bool.true_eq_false, false_or, or_false, not_false_eq_true] at gp_183
        refine Wx.gnoB rfl rfl (congrArg Value.bool g_181) rfl rfl ?_
        refine Wx.gnoB rfl rfl (congrArg Value.bool g_181) rfl rfl ?_
        refine Wx.rd (v := .bool false) (rd_pickF (congrArg Value.bool g_181) rfl) rfl ?_
        refine Wx.nil ⟨(), hS, ⟨?_, trivial⟩, Out.look rfl Out.refl⟩
        show Value.bool false = Value.bool (((((((((((((((decide ((0 : Int) = 0) && decide ((0 : Int) = 0)) && decide ((0 : Int) = 0)) && decide ((0 : Int) = 0)) && decide ((0 : Int) = 0)) && decide ((0 : Int) = 0)) && decide ((0 : Int) = 0)) && decide ((1 : Int) = 1)) && true) && decide ((2 : Int) = 2)) && true) && true) && true) && true) && !false) && true)
        rw [g_181]; rfl
    rintro ⟨⟩ u_185 w_184 hS
    refine Wx.rd (v := .bool (((((((((((((((decide ((0 : Int) = 0) && decide ((0 : Int) = 0)) && decide ((0 : Int) = 0)) && decide ((0 : Int) = 0)) && decide ((0 : Int) = 0)) && decide ((0 : Int) = 0)) && decide ((0 : Int) = 0)) && decide ((1 : Int) = 1)) && true) && decide ((2 : Int) = 2)) && true) && true) && true) && true) && !false) && true)) (rd_move rfl) rfl ?_
    refine Wx.cut (X := Unit) 3 [163, 164, 165] (fun _ => [(165, .bool ((((((((((((((((decide ((0 : Int) = 0) && decide ((0 : Int) = 0)) && decide ((0 : Int) = 0)) && decide ((0 : Int) = 0)) && decide ((0 : Int) = 0)) && decide ((0 : Int) = 0)) && decide ((0 : Int) = 0)) && decide ((1 : Int) = 1)) && true) && decide ((2 : Int) = 2)) && true) && true) && true) && true) && !false) && true) && true))]) (fun _ w' => St w O w' [Ob.v (tSl (tP (tI .i64) (tI .i64))) (stepsV rP) v_22, .row (tP (tI .i64) (tI .i64)) 58 v_16 (forcedP rP), .row (tP (tI .i64) (tI .i64)) 58 v_7 (firstV rR)]) ?_ ?_
    · rcases Bool.eq_false_or_eq_true (((((((((((((((decide ((0 : Int) = 0) && decide ((0 : Int) = 0)) && decide ((0 : Int) = 0)) && decide ((0 : Int) = 0)) && decide ((0 : Int) = 0)) && decide ((0 : Int) = 0)) && decide ((0 : Int) = 0)) && decide ((1 : Int) = 1)) && true) && decide ((2 : Int) = 2)) && true) && true) && true) && true) && !false) && true) with g_186 | g_186
      · -- True
        have gp_187 := g_186
        try simp only [Bool.and_eq_true, Bool.or_eq_true, Bool.not_eq_true', Bool.and_eq_false_iff, Bool.or_eq_false_iff, Bool.not_eq_false', decide_eq_true_eq, decide_eq_false_iff_not, not_or, Bool.false_eq_true, Bool.true_eq_false, false_or, or_false, not_false_eq_true] at gp_187
        refine Wx.gyes rfl rfl (congrArg Value.bool g_186) ?_
        refine Wx.rd (v := .string (turnS rQ 1)) (rd_move rfl) rfl ?_
        refine Wx.gyes rfl rfl (congrArg Value.bool g_186) ?_
        refine Wx.rd (v := .bool true) (Rd.to (v := .bool ((turnS rQ 1) == ({ data := #[98, 65, 66, 97] } : ByteArray))) (rd_eqlS rfl rfl) (congrArg (Value.bool) (show (true : Bool) = ((turnS rQ 1) == ({ data := #[98, 65, 66, 97] } : ByteArray) : Bool) from (by decide +kernel)).symm)) rfl ?_
        refine Wx.rd (v := .bool true) (rd_pickT (congrArg Value.bool g_186) rfl) rfl ?_
        refine Wx.nil ⟨(), hS, ⟨?_, trivial⟩, Out.look rfl Out.refl⟩
        show Value.bool true = Value.bool ((((((((((((((((decide ((0 : Int) = 0) && decide ((0 : Int) = 0)) && decide ((0 : Int) = 0)) && decide ((0 : Int) = 0)) && decide ((0 : Int) = 0)) && decide ((0 : Int) = 0)) && decide ((0 : Int) = 0)) && decide ((1 : Int) = 1)) && true) && decide ((2 : Int) = 2)) && true) && true) && true) && true) && !false) && true) && true)
        rw [g_186]; rfl
      · -- False
        have gp_188 := g_186
        try simp only [Bool.and_eq_true, Bool.or_eq_true, Bool.not_eq_true', Bool.and_eq_false_iff, Bool.or_eq_false_iff, Bool.not_eq_false', decide_eq_true_eq, decide_eq_false_iff_not, not_or, Bool.false_eq_true, Bool.true_eq_false, false_or, or_false, not_false_eq_true] at gp_188
        refine Wx.gnoB rfl rfl (congrArg Value.bool g_186) rfl rfl ?_
        refine Wx.gnoB rfl rfl (congrArg Value.bool g_186) rfl rfl ?_
        refine Wx.rd (v := .bool false) (rd_pickF (congrArg Value.bool g_186) rfl) rfl ?_
        refine Wx.nil ⟨(), hS, ⟨?_, trivial⟩, Out.look rfl Out.refl⟩
        show Value.bool false = Value.bool ((((((((((((((((decide ((0 : Int) = 0) && decide ((0 : Int) = 0)) && decide ((0 : Int) = 0)) && decide ((0 : Int) = 0)) && decide ((0 : Int) = 0)) && decide ((0 : Int) = 0)) && decide ((0 : Int) = 0)) && decide ((1 : Int) = 1)) && true) && decide ((2 : Int) = 2)) && true) && true) && true) && true) && !false) && true) && true)
        rw [g_186]; rfl
    rintro ⟨⟩ u_190 w_189 hS
    refine Wx.rd (v := .bool ((((((((((((((((decide ((0 : Int) = 0) && decide ((0 : Int) = 0)) && decide ((0 : Int) = 0)) && decide ((0 : Int) = 0)) && decide ((0 : Int) = 0)) && decide ((0 : Int) = 0)) && decide ((0 : Int) = 0)) && decide ((1 : Int) = 1)) && true) && decide ((2 : Int) = 2)) && true) && true) && true) && true) && !false) && true) && true)) (rd_move rfl) rfl ?_
    refine Wx.cut (X := Unit) 3 [167, 168, 169] (fun _ => [(169, .bool (((((((((((((((((decide ((0 : Int) = 0) && decide ((0 : Int) = 0)) && decide ((0 : Int) = 0)) && decide ((0 : Int) = 0)) && decide ((0 : Int) = 0)) && decide ((0 : Int) = 0)) && decide ((0 : Int) = 0)) && decide ((1 : Int) = 1)) && true) && decide ((2 : Int) = 2)) && true) && true) && true) && true) && !false) && true) && true) && true))]) (fun _ w' => St w O w' [Ob.v (tSl (tP (tI .i64) (tI .i64))) (stepsV rP) v_22, .row (tP (tI .i64) (tI .i64)) 58 v_16 (forcedP rP), .row (tP (tI .i64) (tI .i64)) 58 v_7 (firstV rR)]) ?_ ?_
    · rcases Bool.eq_false_or_eq_true ((((((((((((((((decide ((0 : Int) = 0) && decide ((0 : Int) = 0)) && decide ((0 : Int) = 0)) && decide ((0 : Int) = 0)) && decide ((0 : Int) = 0)) && decide ((0 : Int) = 0)) && decide ((0 : Int) = 0)) && decide ((1 : Int) = 1)) && true) && decide ((2 : Int) = 2)) && true) && true) && true) && true) && !false) && true) && true) with g_191 | g_191
      · -- True
        have gp_192 := g_191
        try simp only [Bool.and_eq_true, Bool.or_eq_true, Bool.not_eq_true', Bool.and_eq_false_iff, Bool.or_eq_false_iff, Bool.not_eq_false', decide_eq_true_eq, decide_eq_false_iff_not, not_or, Bool.false_eq_true, Bool.true_eq_false, false_or, or_false, not_false_eq_true] at gp_192
        refine Wx.gyes rfl rfl (congrArg Value.bool g_191) ?_
        refine Wx.rd (v := .string (oppV r2)) (rd_move rfl) rfl ?_
        refine Wx.gyes rfl rfl (congrArg Value.bool g_191) ?_
        refine Wx.rd (v := .bool true) (Rd.to (v := .bool ((oppV r2) == ({ data := #[99, 66, 65] } : ByteArray))) (rd_eqlS rfl rfl) (congrArg (Value.bool) (show (true : Bool) = ((oppV r2) == ({ data := #[99, 66, 65] } : ByteArray) : Bool) from (by decide +kernel)).symm)) rfl ?_
        refine Wx.rd (v := .bool true) (rd_pickT (congrArg Value.bool g_191) rfl) rfl ?_
        refine Wx.nil ⟨(), hS, ⟨?_, trivial⟩, Out.look rfl Out.refl⟩
        show Value.bool true = Value.bool (((((((((((((((((decide ((0 : Int) = 0) && decide ((0 : Int) = 0)) && decide ((0 : Int) = 0)) && decide ((0 : Int) = 0)) && decide ((0 : Int) = 0)) && decide ((0 : Int) = 0)) && decide ((0 : Int) = 0)) && decide ((1 : Int) = 1)) && true) && decide ((2 : Int) = 2)) && true) && true) && true) && true) && !false) && true) && true) && true)
        rw [g_191]; rfl
      · -- False
        have gp_193 := g_191
        try simp only [Bool.and_eq_true, Bool.or_eq_true, Bool.not_eq_true', Bool.and_eq_false_iff, Bool.or_eq_false_iff, Bool.not_eq_false', decide_eq_true_eq, decide_eq_false_iff_not, not_or, Bool.false_eq_true, Bool.true_eq_false, false_or, or_false, not_false_eq_true] at gp_193
        refine Wx.gnoB rfl rfl (congrArg Value.bool g_191) rfl rfl ?_
        refine Wx.gnoB rfl rfl (congrArg Value.bool g_191) rfl rfl ?_
        refine Wx.rd (v := .bool false) (rd_pickF (congrArg Value.bool g_191) rfl) rfl ?_
        refine Wx.nil ⟨(), hS, ⟨?_, trivial⟩, Out.look rfl Out.refl⟩
        show Value.bool false = Value.bool (((((((((((((((((decide ((0 : Int) = 0) && decide ((0 : Int) = 0)) && decide ((0 : Int) = 0)) && decide ((0 : Int) = 0)) && decide ((0 : Int) = 0)) && decide ((0 : Int) = 0)) && decide ((0 : Int) = 0)) && decide ((1 : Int) = 1)) && true) && decide ((2 : Int) = 2)) && true) && true) && true) && true) && !false) && true) && true) && true)
        rw [g_191]; rfl
    rintro ⟨⟩ u_195 w_194 hS
    refine Wx.rd (v := .bool (((((((((((((((((decide ((0 : Int) = 0) && decide ((0 : Int) = 0)) && decide ((0 : Int) = 0)) && decide ((0 : Int) = 0)) && decide ((0 : Int) = 0)) && decide ((0 : Int) = 0)) && decide ((0 : Int) = 0)) && decide ((1 : Int) = 1)) && true) && decide ((2 : Int) = 2)) && true) && true) && true) && true) && !false) && true) && true) && true)) (rd_move rfl) rfl ?_
    refine Wx.cut (X := Unit) 2 [171, 172] (fun _ => [(172, .bool ((((((((((((((((((decide ((0 : Int) = 0) && decide ((0 : Int) = 0)) && decide ((0 : Int) = 0)) && decide ((0 : Int) = 0)) && decide ((0 : Int) = 0)) && decide ((0 : Int) = 0)) && decide ((0 : Int) = 0)) && decide ((1 : Int) = 1)) && true) && decide ((2 : Int) = 2)) && true) && true) && true) && true) && !false) && true) && true) && true) && true))]) (fun _ w' => St w O w' [Ob.v (tSl (tP (tI .i64) (tI .i64))) (stepsV rP) v_22, .row (tP (tI .i64) (tI .i64)) 58 v_16 (forcedP rP), .row (tP (tI .i64) (tI .i64)) 58 v_7 (firstV rR)]) ?_ ?_
    · rcases Bool.eq_false_or_eq_true (((((((((((((((((decide ((0 : Int) = 0) && decide ((0 : Int) = 0)) && decide ((0 : Int) = 0)) && decide ((0 : Int) = 0)) && decide ((0 : Int) = 0)) && decide ((0 : Int) = 0)) && decide ((0 : Int) = 0)) && decide ((1 : Int) = 1)) && true) && decide ((2 : Int) = 2)) && true) && true) && true) && true) && !false) && true) && true) && true) with g_196 | g_196
      · -- True
        have gp_197 := g_196
        try simp only [Bool.and_eq_true, Bool.or_eq_true, Bool.not_eq_true', Bool.and_eq_false_iff, Bool.or_eq_false_iff, Bool.not_eq_false', decide_eq_true_eq, decide_eq_false_iff_not, not_or, Bool.false_eq_true, Bool.true_eq_false, false_or, or_false, not_false_eq_true] at gp_197
        refine Wx.gyes rfl rfl (congrArg Value.bool g_196) ?_
        refine Wx.rd (v := .bool true) (rd_move rfl) rfl ?_
        refine Wx.rd (v := .bool true) (rd_pickT (congrArg Value.bool g_196) rfl) rfl ?_
        refine Wx.nil ⟨(), hS, ⟨?_, trivial⟩, Out.look rfl Out.refl⟩
        show Value.bool true = Value.bool ((((((((((((((((((decide ((0 : Int) = 0) && decide ((0 : Int) = 0)) && decide ((0 : Int) = 0)) && decide ((0 : Int) = 0)) && decide ((0 : Int) = 0)) && decide ((0 : Int) = 0)) && decide ((0 : Int) = 0)) && decide ((1 : Int) = 1)) && true) && decide ((2 : Int) = 2)) && true) && true) && true) && true) && !false) && true) && true) && true) && true)
        rw [g_196]; rfl
      · -- False
        have gp_198 := g_196
        try simp only [Bool.and_eq_true, Bool.or_eq_true, Bool.not_eq_true', Bool.and_eq_false_iff, Bool.or_eq_false_iff, Bool.not_eq_false', decide_eq_true_eq, decide_eq_false_iff_not, not_or, Bool.false_eq_true, Bool.true_eq_false, false_or, or_false, not_false_eq_true] at gp_198
        refine Wx.gnoB rfl rfl (congrArg Value.bool g_196) rfl rfl ?_
        refine Wx.rd (v := .bool false) (rd_pickF (congrArg Value.bool g_196) rfl) rfl ?_
        refine Wx.nil ⟨(), hS, ⟨?_, trivial⟩, Out.look rfl Out.refl⟩
        show Value.bool false = Value.bool ((((((((((((((((((decide ((0 : Int) = 0) && decide ((0 : Int) = 0)) && decide ((0 : Int) = 0)) && decide ((0 : Int) = 0)) && decide ((0 : Int) = 0)) && decide ((0 : Int) = 0)) && decide ((0 : Int) = 0)) && decide ((1 : Int) = 1)) && true) && decide ((2 : Int) = 2)) && true) && true) && true) && true) && !false) && true) && true) && true) && true)
        rw [g_196]; rfl
    rintro ⟨⟩ u_200 w_199 hS
    refine Wx.rd (v := .bool ((((((((((((((((((decide ((0 : Int) = 0) && decide ((0 : Int) = 0)) && decide ((0 : Int) = 0)) && decide ((0 : Int) = 0)) && decide ((0 : Int) = 0)) && decide ((0 : Int) = 0)) && decide ((0 : Int) = 0)) && decide ((1 : Int) = 1)) && true) && decide ((2 : Int) = 2)) && true) && true) && true) && true) && !false) && true) && true) && true) && true)) (rd_move rfl) rfl ?_
    refine Wx.cut (X := Unit) 3 [174, 175, 176] (fun _ => [(176, .bool (((((((((((((((((((decide ((0 : Int) = 0) && decide ((0 : Int) = 0)) && decide ((0 : Int) = 0)) && decide ((0 : Int) = 0)) && decide ((0 : Int) = 0)) && decide ((0 : Int) = 0)) && decide ((0 : Int) = 0)) && decide ((1 : Int) = 1)) && true) && decide ((2 : Int) = 2)) && true) && true) && true) && true) && !false) && true) && true) && true) && true) && !false))]) (fun _ w' => St w O w' [Ob.v (tSl (tP (tI .i64) (tI .i64))) (stepsV rP) v_22, .row (tP (tI .i64) (tI .i64)) 58 v_16 (forcedP rP), .row (tP (tI .i64) (tI .i64)) 58 v_7 (firstV rR)]) ?_ ?_
    · rcases Bool.eq_false_or_eq_true ((((((((((((((((((decide ((0 : Int) = 0) && decide ((0 : Int) = 0)) && decide ((0 : Int) = 0)) && decide ((0 : Int) = 0)) && decide ((0 : Int) = 0)) && decide ((0 : Int) = 0)) && decide ((0 : Int) = 0)) && decide ((1 : Int) = 1)) && true) && decide ((2 : Int) = 2)) && true) && true) && true) && true) && !false) && true) && true) && true) && true) with g_201 | g_201
      · -- True
        have gp_202 := g_201
        try simp only [Bool.and_eq_true, Bool.or_eq_true, Bool.not_eq_true', Bool.and_eq_false_iff, Bool.or_eq_false_iff, Bool.not_eq_false', decide_eq_true_eq, decide_eq_false_iff_not, not_or, Bool.false_eq_true, Bool.true_eq_false, false_or, or_false, not_false_eq_true] at gp_202
        refine Wx.gyes rfl rfl (congrArg Value.bool g_201) ?_
        refine Wx.rd (v := .bool false) (rd_move rfl) rfl ?_
        refine Wx.gyes rfl rfl (congrArg Value.bool g_201) ?_
        refine Wx.rd (v := .bool (!false)) (rd_not rfl) rfl ?_
        refine Wx.rd (v := .bool (!false)) (rd_pickT (congrArg Value.bool g_201) rfl) rfl ?_
        refine Wx.nil ⟨(), hS, ⟨?_, trivial⟩, Out.look rfl Out.refl⟩
        show Value.bool (!false) = Value.bool (((((((((((((((((((decide ((0 : Int) = 0) && decide ((0 : Int) = 0)) && decide ((0 : Int) = 0)) && decide ((0 : Int) = 0)) && decide ((0 : Int) = 0)) && decide ((0 : Int) = 0)) && decide ((0 : Int) = 0)) && decide ((1 : Int) = 1)) && true) && decide ((2 : Int) = 2)) && true) && true) && true) && true) && !false) && true) && true) && true) && true) && !false)
        rw [g_201]; rfl
      · -- False
        have gp_203 := g_201
        try simp only [Bool.and_eq_true, Bool.or_eq_true, Bool.not_eq_true', Bool.and_eq_false_iff, Bool.or_eq_false_iff, Bool.not_eq_false', decide_eq_true_eq, decide_eq_false_iff_not, not_or, Bool.false_eq_true, Bool.true_eq_false, false_or, or_false, not_false_eq_true] at gp_203
        refine Wx.gnoB rfl rfl (congrArg Value.bool g_201) rfl rfl ?_
        refine Wx.gnoB rfl rfl (congrArg Value.bool g_201) rfl rfl ?_
        refine Wx.rd (v := .bool false) (rd_pickF (congrArg Value.bool g_201) rfl) rfl ?_
        refine Wx.nil ⟨(), hS, ⟨?_, trivial⟩, Out.look rfl Out.refl⟩
        show Value.bool false = Value.bool (((((((((((((((((((decide ((0 : Int) = 0) && decide ((0 : Int) = 0)) && decide ((0 : Int) = 0)) && decide ((0 : Int) = 0)) && decide ((0 : Int) = 0)) && decide ((0 : Int) = 0)) && decide ((0 : Int) = 0)) && decide ((1 : Int) = 1)) && true) && decide ((2 : Int) = 2)) && true) && true) && true) && true) && !false) && true) && true) && true) && true) && !false)
        rw [g_201]; rfl
    rintro ⟨⟩ u_205 w_204 hS
    refine Wx.rd (v := .bool (((((((((((((((((((decide ((0 : Int) = 0) && decide ((0 : Int) = 0)) && decide ((0 : Int) = 0)) && decide ((0 : Int) = 0)) && decide ((0 : Int) = 0)) && decide ((0 : Int) = 0)) && decide ((0 : Int) = 0)) && decide ((1 : Int) = 1)) && true) && decide ((2 : Int) = 2)) && true) && true) && true) && true) && !false) && true) && true) && true) && true) && !false)) (rd_move rfl) rfl ?_
    refine Wx.cut (X := Unit) 5 [178, 179, 180, 181, 182] (fun _ => [(182, .bool ((((((((((((((((((((decide ((0 : Int) = 0) && decide ((0 : Int) = 0)) && decide ((0 : Int) = 0)) && decide ((0 : Int) = 0)) && decide ((0 : Int) = 0)) && decide ((0 : Int) = 0)) && decide ((0 : Int) = 0)) && decide ((1 : Int) = 1)) && true) && decide ((2 : Int) = 2)) && true) && true) && true) && true) && !false) && true) && true) && true) && true) && !false) && true))]) (fun _ w' => St w O w' [Ob.v (tSl (tP (tI .i64) (tI .i64))) (stepsV rP) v_22, .row (tP (tI .i64) (tI .i64)) 58 v_16 (forcedP rP), .row (tP (tI .i64) (tI .i64)) 58 v_7 (firstV rR)]) ?_ ?_
    · rcases Bool.eq_false_or_eq_true (((((((((((((((((((decide ((0 : Int) = 0) && decide ((0 : Int) = 0)) && decide ((0 : Int) = 0)) && decide ((0 : Int) = 0)) && decide ((0 : Int) = 0)) && decide ((0 : Int) = 0)) && decide ((0 : Int) = 0)) && decide ((1 : Int) = 1)) && true) && decide ((2 : Int) = 2)) && true) && true) && true) && true) && !false) && true) && true) && true) && true) && !false) with g_206 | g_206
      · -- True
        have gp_207 := g_206
        try simp only [Bool.and_eq_true, Bool.or_eq_true, Bool.not_eq_true', Bool.and_eq_false_iff, Bool.or_eq_false_iff, Bool.not_eq_false', decide_eq_true_eq, decide_eq_false_iff_not, not_or, Bool.false_eq_true, Bool.true_eq_false, false_or, or_false, not_false_eq_true] at gp_207
        refine Wx.gyes rfl rfl (congrArg Value.bool g_206) ?_
        refine Wx.lit (t := (tI .i64)) (ys := [0, 3, 1, 2]) (vs := [.int .i64 0, .int .i64 3, .int .i64 1, .int .i64 2]) elHm_60 hS rfl rfl ⟨(V.mkInt (in_i64 (by omega) (by omega))), ⟨(V.mkInt (in_i64 (by omega) (by omega))), ⟨(V.mkInt (in_i64 (by omega) (by omega))), ⟨(V.mkInt (in_i64 (by omega) (by omega))), trivial⟩⟩⟩⟩ (by decide) rfl (fun v_208 w_209 hx_210 hS => ?_)
        refine Wx.gyes rfl rfl (congrArg Value.bool g_206) ?_
        have hS := hS.freeze 0 rfl
        refine Wx.callF (run_callF Tryd.call48 rfl) (F48 (hS.v 0 rfl) (by decide) hS.fb_lt) rfl ?_
        rintro r_212 w_213 hx_214 ⟨_, rfl, hv_215⟩
        have hS := hS.pushFr hx_214 hv_215
        refine Wx.gyes rfl rfl (congrArg Value.bool g_206) ?_
        refine Wx.callF (run_callF Tryd.call19 rfl) (F19 (by first | assumption | (simp only [maxLen]; omega) | (simp only [ByteArray.size_extract, ByteArray.size_append, maxLen] at *; omega) | decide) (hS.lend 0 rfl) (hG.ext hS.bel)) rfl ?_
        rintro r_217 w_218 hx_219 rfl
        have hS := hS.ext hx_219
        refine Wx.gyes rfl rfl (congrArg Value.bool g_206) ?_
        refine Wx.rd (v := .bool true) (Rd.to (v := .bool (decide ((validE rP (pairsU [0, 3, 1, 2])) = 0))) (rd_eql rfl rfl) (congrArg (Value.bool) (show (true : Bool) = (decide ((validE rP (pairsU [0, 3, 1, 2])) = 0) : Bool) from (by decide +kernel)).symm)) rfl ?_
        refine Wx.rd (v := .bool true) (rd_pickT (congrArg Value.bool g_206) rfl) rfl ?_
        refine Wx.nil ⟨(), St.tl (hS.tl), ⟨?_, trivial⟩, Out.look rfl Out.refl⟩
        show Value.bool true = Value.bool ((((((((((((((((((((decide ((0 : Int) = 0) && decide ((0 : Int) = 0)) && decide ((0 : Int) = 0)) && decide ((0 : Int) = 0)) && decide ((0 : Int) = 0)) && decide ((0 : Int) = 0)) && decide ((0 : Int) = 0)) && decide ((1 : Int) = 1)) && true) && decide ((2 : Int) = 2)) && true) && true) && true) && true) && !false) && true) && true) && true) && true) && !false) && true)
        rw [g_206]; rfl
      · -- False
        have gp_220 := g_206
        try simp only [Bool.and_eq_true, Bool.or_eq_true, Bool.not_eq_true', Bool.and_eq_false_iff, Bool.or_eq_false_iff, Bool.not_eq_false', decide_eq_true_eq, decide_eq_false_iff_not, not_or, Bool.false_eq_true, Bool.true_eq_false, false_or, or_false, not_false_eq_true] at gp_220
        refine Wx.gnoB rfl rfl (congrArg Value.bool g_206) rfl rfl ?_
        refine Wx.gnoB rfl rfl (congrArg Value.bool g_206) rfl rfl ?_
        refine Wx.gnoB rfl rfl (congrArg Value.bool g_206) rfl rfl ?_
        refine Wx.gnoB rfl rfl (congrArg Value.bool g_206) rfl rfl ?_
        refine Wx.rd (v := .bool false) (rd_pickF (congrArg Value.bool g_206) rfl) rfl ?_
        refine Wx.nil ⟨(), hS, ⟨?_, trivial⟩, Out.look rfl Out.refl⟩
        show Value.bool false = Value.bool ((((((((((((((((((((decide ((0 : Int) = 0) && decide ((0 : Int) = 0)) && decide ((0 : Int) = 0)) && decide ((0 : Int) = 0)) && decide ((0 : Int) = 0)) && decide ((0 : Int) = 0)) && decide ((0 : Int) = 0)) && decide ((1 : Int) = 1)) && true) && decide ((2 : Int) = 2)) && true) && true) && true) && true) && !false) && true) && true) && true) && true) && !false) && true)
        rw [g_206]; rfl
    rintro ⟨⟩ u_222 w_221 hS
    refine Wx.rd (v := .bool ((((((((((((((((((((decide ((0 : Int) = 0) && decide ((0 : Int) = 0)) && decide ((0 : Int) = 0)) && decide ((0 : Int) = 0)) && decide ((0 : Int) = 0)) && decide ((0 : Int) = 0)) && decide ((0 : Int) = 0)) && decide ((1 : Int) = 1)) && true) && decide ((2 : Int) = 2)) && true) && true) && true) && true) && !false) && true) && true) && true) && true) && !false) && true)) (rd_move rfl) rfl ?_
    refine Wx.cut (X := Unit) 5 [184, 185, 186, 187, 188] (fun _ => [(188, .bool (((((((((((((((((((((decide ((0 : Int) = 0) && decide ((0 : Int) = 0)) && decide ((0 : Int) = 0)) && decide ((0 : Int) = 0)) && decide ((0 : Int) = 0)) && decide ((0 : Int) = 0)) && decide ((0 : Int) = 0)) && decide ((1 : Int) = 1)) && true) && decide ((2 : Int) = 2)) && true) && true) && true) && true) && !false) && true) && true) && true) && true) && !false) && true) && true))]) (fun _ w' => St w O w' [Ob.v (tSl (tP (tI .i64) (tI .i64))) (stepsV rP) v_22, .row (tP (tI .i64) (tI .i64)) 58 v_16 (forcedP rP), .row (tP (tI .i64) (tI .i64)) 58 v_7 (firstV rR)]) ?_ ?_
    · rcases Bool.eq_false_or_eq_true ((((((((((((((((((((decide ((0 : Int) = 0) && decide ((0 : Int) = 0)) && decide ((0 : Int) = 0)) && decide ((0 : Int) = 0)) && decide ((0 : Int) = 0)) && decide ((0 : Int) = 0)) && decide ((0 : Int) = 0)) && decide ((1 : Int) = 1)) && true) && decide ((2 : Int) = 2)) && true) && true) && true) && true) && !false) && true) && true) && true) && true) && !false) && true) with g_223 | g_223
      · -- True
        have gp_224 := g_223
        try simp only [Bool.and_eq_true, Bool.or_eq_true, Bool.not_eq_true', Bool.and_eq_false_iff, Bool.or_eq_false_iff, Bool.not_eq_false', decide_eq_true_eq, decide_eq_false_iff_not, not_or, Bool.false_eq_true, Bool.true_eq_false, false_or, or_false, not_false_eq_true] at gp_224
        refine Wx.gyes rfl rfl (congrArg Value.bool g_223) ?_
        refine Wx.lit (t := (tI .i64)) (ys := [0, 2, 1, 3]) (vs := [.int .i64 0, .int .i64 2, .int .i64 1, .int .i64 3]) elHm_60 hS rfl rfl ⟨(V.mkInt (in_i64 (by omega) (by omega))), ⟨(V.mkInt (in_i64 (by omega) (by omega))), ⟨(V.mkInt (in_i64 (by omega) (by omega))), ⟨(V.mkInt (in_i64 (by omega) (by omega))), trivial⟩⟩⟩⟩ (by decide) rfl (fun v_225 w_226 hx_227 hS => ?_)
        refine Wx.gyes rfl rfl (congrArg Value.bool g_223) ?_
        have hS := hS.freeze 0 rfl
        refine Wx.callF (run_callF Tryd.call48 rfl) (F48 (hS.v 0 rfl) (by decide) hS.fb_lt) rfl ?_
        rintro r_229 w_230 hx_231 ⟨_, rfl, hv_232⟩
        have hS := hS.pushFr hx_231 hv_232
        refine Wx.gyes rfl rfl (congrArg Value.bool g_223) ?_
        refine Wx.callF (run_callF Tryd.call19 rfl) (F19 (by first | assumption | (simp only [maxLen]; omega) | (simp only [ByteArray.size_extract, ByteArray.size_append, maxLen] at *; omega) | decide) (hS.lend 0 rfl) (hG.ext hS.bel)) rfl ?_
        rintro r_234 w_235 hx_236 rfl
        have hS := hS.ext hx_236
        refine Wx.gyes rfl rfl (congrArg Value.bool g_223) ?_
        refine Wx.rd (v := .bool true) (Rd.to (v := .bool (decide ((validE rQ (pairsU [0, 2, 1, 3])) = 5))) (rd_eql rfl rfl) (congrArg (Value.bool) (show (true : Bool) = (decide ((validE rQ (pairsU [0, 2, 1, 3])) = 5) : Bool) from (by decide +kernel)).symm)) rfl ?_
        refine Wx.rd (v := .bool true) (rd_pickT (congrArg Value.bool g_223) rfl) rfl ?_
        refine Wx.nil ⟨(), St.tl (hS.tl), ⟨?_, trivial⟩, Out.look rfl Out.refl⟩
        show Value.bool true = Value.bool (((((((((((((((((((((decide ((0 : Int) = 0) && decide ((0 : Int) = 0)) && decide ((0 : Int) = 0)) && decide ((0 : Int) = 0)) && decide ((0 : Int) = 0)) && decide ((0 : Int) = 0)) && decide ((0 : Int) = 0)) && decide ((1 : Int) = 1)) && true) && decide ((2 : Int) = 2)) && true) && true) && true) && true) && !false) && true) && true) && true) && true) && !false) && true) && true)
        rw [g_223]; rfl
      · -- False
        have gp_237 := g_223
        try simp only [Bool.and_eq_true, Bool.or_eq_true, Bool.not_eq_true', Bool.and_eq_false_iff, Bool.or_eq_false_iff, Bool.not_eq_false', decide_eq_true_eq, decide_eq_false_iff_not, not_or, Bool.false_eq_true, Bool.true_eq_false, false_or, or_false, not_false_eq_true] at gp_237
        refine Wx.gnoB rfl rfl (congrArg Value.bool g_223) rfl rfl ?_
        refine Wx.gnoB rfl rfl (congrArg Value.bool g_223) rfl rfl ?_
        refine Wx.gnoB rfl rfl (congrArg Value.bool g_223) rfl rfl ?_
        refine Wx.gnoB rfl rfl (congrArg Value.bool g_223) rfl rfl ?_
        refine Wx.rd (v := .bool false) (rd_pickF (congrArg Value.bool g_223) rfl) rfl ?_
        refine Wx.nil ⟨(), hS, ⟨?_, trivial⟩, Out.look rfl Out.refl⟩
        show Value.bool false = Value.bool (((((((((((((((((((((decide ((0 : Int) = 0) && decide ((0 : Int) = 0)) && decide ((0 : Int) = 0)) && decide ((0 : Int) = 0)) && decide ((0 : Int) = 0)) && decide ((0 : Int) = 0)) && decide ((0 : Int) = 0)) && decide ((1 : Int) = 1)) && true) && decide ((2 : Int) = 2)) && true) && true) && true) && true) && !false) && true) && true) && true) && true) && !false) && true) && true)
        rw [g_223]; rfl
    rintro ⟨⟩ u_239 w_238 hS
    refine Wx.rd (v := .bool (((((((((((((((((((((decide ((0 : Int) = 0) && decide ((0 : Int) = 0)) && decide ((0 : Int) = 0)) && decide ((0 : Int) = 0)) && decide ((0 : Int) = 0)) && decide ((0 : Int) = 0)) && decide ((0 : Int) = 0)) && decide ((1 : Int) = 1)) && true) && decide ((2 : Int) = 2)) && true) && true) && true) && true) && !false) && true) && true) && true) && true) && !false) && true) && true)) (rd_assign rfl) rfl ?_
    refine Wx.nil ?_
    have e1_0 : (((((((((((((((((((((decide ((0 : Int) = 0) && decide ((0 : Int) = 0)) && decide ((0 : Int) = 0)) && decide ((0 : Int) = 0)) && decide ((0 : Int) = 0)) && decide ((0 : Int) = 0)) && decide ((0 : Int) = 0)) && decide ((1 : Int) = 1)) && true) && decide ((2 : Int) = 2)) && true) && true) && true) && true) && !false) && true) && true) && true) && true) && !false) && true) && true) = true := by first | rfl | omega
    exact W.ret ⟨.bool (((((((((((((((((((((decide ((0 : Int) = 0) && decide ((0 : Int) = 0)) && decide ((0 : Int) = 0)) && decide ((0 : Int) = 0)) && decide ((0 : Int) = 0)) && decide ((0 : Int) = 0)) && decide ((0 : Int) = 0)) && decide ((1 : Int) = 1)) && true) && decide ((2 : Int) = 2)) && true) && true) && true) && true) && !false) && true) && true) && true) && true) && !false) && true) && true), ResIs.one, hS.bel, (by rw [e1_0])⟩
end Go.Proofs.YtokdjjebnomciaaDoor

namespace Go.Proofs.YtokdjjebnomciaaDoor
open Go.Wk Go.RowKit Go.Lib
set_option linter.unusedVariables false
set_option linter.unusedSimpArgs false
theorem elHx_60 : ElemI Tryd.prog 60 3 (.int .i64 0) 1 8 := ElemI.of Tryd.underlying60 (by kernel_rfl) (by first | rfl | kernel_rfl) (by decide)

set_option maxHeartbeats 4000000 in
set_option maxRecDepth 10000 in
theorem F11 {O : List (Option Nat)} {w : World} (hO : ∀ b, some b ∈ O → b < w.heap.size) (hG : Laid w) : Calls Tryd.prog 11 #[] w (Ret w (fun r _ => r = .bool true)) := by
  have hS := St.start w O hO
  refine enterR Tryd.func11 rfl Tryd.ntmps11 Tryd.results11 rfl ?_
  refine W.seq ?_
  refine W.reg ?_
  refine Wx.rd (v := .bool false) (rd_assign rfl) rfl ?_
  refine Wx.nil ?_
  refine W.seq ?_
  refine W.reg ?_
  refine Wx.callF (run_callF Tryd.call21 rfl) (F21 (by first | assumption | (simp only [maxLen]; omega) | (simp only [ByteArray.size_extract, ByteArray.size_append, maxLen] at *; omega) | decide) (hG.ext hS.bel)) rfl ?_
  rintro r_1 w_2 hx_3 rfl
  have hS := hS.ext hx_3
  refine Wx.rd (v := .tuple #[.int .i64 (mostV rP), .int .i64 (rimE rP)]) (rd_move rfl) rfl ?_
  refine Wx.rd (v := .int .i64 (mostV rP)) (rd_extract rfl rfl) rfl ?_
  refine Wx.rd (v := .int .i64 (rimE rP)) (rd_extract rfl rfl) rfl ?_
  refine Wx.rd (v := .int .i64 (mostV rP)) (rd_assign rfl) rfl ?_
  refine Wx.rd (v := .int .i64 (rimE rP)) (rd_assign rfl) rfl ?_
  refine Wx.nil ?_
  refine W.seq ?_
  refine W.reg ?_
  refine Wx.callF (run_callF Tryd.call21 rfl) (F21 (by first | assumption | (simp only [maxLen]; omega) | (simp only [ByteArray.size_extract, ByteArray.size_append, maxLen] at *; omega) | decide) (hG.ext hS.bel)) rfl ?_
  rintro r_4 w_5 hx_6 rfl
  have hS := hS.ext hx_6
  refine Wx.rd (v := .tuple #[.int .i64 (mostV ({ data := #[97, 98, 99] } : ByteArray)), .int .i64 (rimE ({ data := #[97, 98, 99] } : ByteArray))]) (rd_move rfl) rfl ?_
  refine Wx.rd (v := .int .i64 (mostV ({ data := #[97, 98, 99] } : ByteArray))) (rd_extract rfl rfl) rfl ?_
  refine Wx.rd (v := .int .i64 (rimE ({ data := #[97, 98, 99] } : ByteArray))) (rd_extract rfl rfl) rfl ?_
  refine Wx.rd (v := .int .i64 (mostV ({ data := #[97, 98, 99] } : ByteArray))) (rd_assign rfl) rfl ?_
  refine Wx.rd (v := .int .i64 (rimE ({ data := #[97, 98, 99] } : ByteArray))) (rd_assign rfl) rfl ?_
  refine Wx.nil ?_
  refine W.seq ?_
  refine W.reg ?_
  refine Wx.callF (run_callF Tryd.call21 rfl) (F21 (by first | assumption | (simp only [maxLen]; omega) | (simp only [ByteArray.size_extract, ByteArray.size_append, maxLen] at *; omega) | decide) (hG.ext hS.bel)) rfl ?_
  rintro r_7 w_8 hx_9 rfl
  have hS := hS.ext hx_9
  refine Wx.rd (v := .tuple #[.int .i64 (mostV ({ data := #[] } : ByteArray)), .int .i64 (rimE ({ data := #[] } : ByteArray))]) (rd_move rfl) rfl ?_
  refine Wx.rd (v := .int .i64 (mostV ({ data := #[] } : ByteArray))) (rd_extract rfl rfl) rfl ?_
  refine Wx.rd (v := .int .i64 (rimE ({ data := #[] } : ByteArray))) (rd_extract rfl rfl) rfl ?_
  refine Wx.rd (v := .int .i64 (mostV ({ data := #[] } : ByteArray))) (rd_assign rfl) rfl ?_
  refine Wx.rd (v := .int .i64 (rimE ({ data := #[] } : ByteArray))) (rd_assign rfl) rfl ?_
  refine Wx.nil ?_
  refine W.seq ?_
  refine W.reg ?_
  refine Wx.callF (run_callF Tryd.call25 rfl) (F25 (by first | assumption | (simp only [maxLen]; omega) | (simp only [ByteArray.size_extract, ByteArray.size_append, maxLen] at *; omega) | decide) (hG.ext hS.bel)) rfl ?_
  rintro r_10 w_11 hx_12 ⟨v_13, rfl, hv_14⟩
  have hS := hS.pushFr hx_12 hv_14
  have hS : St _ _ w_11 [.row (tP (tI .i64) (tI .i64)) 58 v_13 (firstV rP)] := hS
  refine Wx.rd (v := .tuple #[v_13, .int .i64 (rimE rP)]) (rd_move rfl) rfl ?_
  refine Wx.rd (v := v_13) (rd_extract rfl rfl) rfl ?_
  refine Wx.rd (v := .int .i64 (rimE rP)) (rd_extract rfl rfl) rfl ?_
  refine Wx.rd (v := v_13) (rd_assign rfl) rfl ?_
  refine Wx.rd (v := .int .i64 (rimE rP)) (rd_assign rfl) rfl ?_
  refine Wx.nil ?_
  refine W.seq ?_
  refine W.reg ?_
  refine Wx.callF (run_callF Tryd.call25 rfl) (F25 (by first | assumption | (simp only [maxLen]; omega) | (simp only [ByteArray.size_extract, ByteArray.size_append, maxLen] at *; omega) | decide) (hG.ext hS.bel)) rfl ?_
  rintro r_16 w_17 hx_18 ⟨v_19, rfl, hv_20⟩
  have hS := hS.pushFr hx_18 hv_20
  have hS : St _ _ w_17 [.row (tP (tI .i64) (tI .i64)) 58 v_19 (firstV rQ), .row (tP (tI .i64) (tI .i64)) 58 v_13 (firstV rP)] := hS
  refine Wx.rd (v := .tuple #[v_19, .int .i64 (rimE rQ)]) (rd_move rfl) rfl ?_
  refine Wx.rd (v := v_19) (rd_extract rfl rfl) rfl ?_
  refine Wx.rd (v := .int .i64 (rimE rQ)) (rd_extract rfl rfl) rfl ?_
  refine Wx.rd (v := v_19) (rd_assign rfl) rfl ?_
  refine Wx.rd (v := .int .i64 (rimE rQ)) (rd_assign rfl) rfl ?_
  refine Wx.nil ?_
  refine W.seq ?_
  refine W.reg ?_
  refine Wx.callF (run_callF Tryd.call23 rfl) (F23 (by first | assumption | (simp only [maxLen]; omega) | (simp only [ByteArray.size_extract, ByteArray.size_append, maxLen] at *; omega) | decide) (hG.ext hS.bel)) rfl ?_
  rintro r_22 w_23 hx_24 rfl
  have hS := hS.ext hx_24
  refine Wx.rd (v := .tuple #[.int .i64 (countV rQ), .int .i64 (rimE rQ)]) (rd_move rfl) rfl ?_
  refine Wx.rd (v := .int .i64 (countV rQ)) (rd_extract rfl rfl) rfl ?_
  refine Wx.rd (v := .int .i64 (rimE rQ)) (rd_extract rfl rfl) rfl ?_
  refine Wx.rd (v := .int .i64 (countV rQ)) (rd_assign rfl) rfl ?_
  refine Wx.rd (v := .int .i64 (rimE rQ)) (rd_assign rfl) rfl ?_
  refine Wx.nil ?_
  refine W.seq ?_
  refine W.reg ?_
  refine Wx.callF (run_callF Tryd.call23 rfl) (F23 (by first | assumption | (simp only [maxLen]; omega) | (simp only [ByteArray.size_extract, ByteArray.size_append, maxLen] at *; omega) | decide) (hG.ext hS.bel)) rfl ?_
  rintro r_25 w_26 hx_27 rfl
  have hS := hS.ext hx_27
  refine Wx.rd (v := .tuple #[.int .i64 (countV ({ data := #[97, 98, 99] } : ByteArray)), .int .i64 (rimE ({ data := #[97, 98, 99] } : ByteArray))]) (rd_move rfl) rfl ?_
  refine Wx.rd (v := .int .i64 (countV ({ data := #[97, 98, 99] } : ByteArray))) (rd_extract rfl rfl) rfl ?_
  refine Wx.rd (v := .int .i64 (rimE ({ data := #[97, 98, 99] } : ByteArray))) (rd_extract rfl rfl) rfl ?_
  refine Wx.rd (v := .int .i64 (countV ({ data := #[97, 98, 99] } : ByteArray))) (rd_assign rfl) rfl ?_
  refine Wx.rd (v := .int .i64 (rimE ({ data := #[97, 98, 99] } : ByteArray))) (rd_assign rfl) rfl ?_
  refine Wx.nil ?_
  refine W.seq ?_
  refine W.seq ?_
  refine W.reg ?_
  refine Wx.rd (v := .int .i64 (rimE rP)) (rd_move rfl) rfl ?_
  refine Wx.rd (v := .bool false) (Rd.to (v := .bool (decide ((rimE rP) ≠ 0))) (rd_neq rfl rfl) (congrArg (Value.bool) (show (false : Bool) = (decide ((rimE rP) ≠ 0) : Bool) from (by decide +kernel)).symm)) rfl ?_
  refine Wx.rd (v := .bool false) (rd_move rfl) rfl ?_
  refine Wx.gyes rfl rfl rfl ?_
  refine Wx.rd (v := .int .i64 (rimE ({ data := #[97, 98, 99] } : ByteArray))) (rd_move rfl) rfl ?_
  refine Wx.gyes rfl rfl rfl ?_
  refine Wx.rd (v := .bool false) (Rd.to (v := .bool (decide ((rimE ({ data := #[97, 98, 99] } : ByteArray)) ≠ 0))) (rd_neq rfl rfl) (congrArg (Value.bool) (show (false : Bool) = (decide ((rimE ({ data := #[97, 98, 99] } : ByteArray)) ≠ 0) : Bool) from (by decide +kernel)).symm)) rfl ?_
  refine Wx.rd (v := .bool false) (rd_pickF rfl rfl) rfl ?_
  refine Wx.rd (v := .bool false) (rd_move rfl) rfl ?_
  refine Wx.gyes rfl rfl rfl ?_
  refine Wx.rd (v := .int .i64 (rimE ({ data := #[] } : ByteArray))) (rd_move rfl) rfl ?_
  refine Wx.gyes rfl rfl rfl ?_
  refine Wx.rd (v := .bool false) (Rd.to (v := .bool (decide ((rimE ({ data := #[] } : ByteArray)) ≠ 0))) (rd_neq rfl rfl) (congrArg (Value.bool) (show (false : Bool) = (decide ((rimE ({ data := #[] } : ByteArray)) ≠ 0) : Bool) from (by decide +kernel)).symm)) rfl ?_
  refine Wx.rd (v := .bool false) (rd_pickF rfl rfl) rfl ?_
  refine Wx.rd (v := .bool false) (rd_move rfl) rfl ?_
  refine Wx.gyes rfl rfl rfl ?_
  refine Wx.rd (v := .int .i64 (rimE rP)) (rd_move rfl) rfl ?_
  refine Wx.gyes rfl rfl rfl ?_
  refine Wx.rd (v := .bool false) (Rd.to (v := .bool (decide ((rimE rP) ≠ 0))) (rd_neq rfl rfl) (congrArg (Value.bool) (show (false : Bool) = (decide ((rimE rP) ≠ 0) : Bool) from (by decide +kernel)).symm)) rfl ?_
  refine Wx.rd (v := .bool false) (rd_pickF rfl rfl) rfl ?_
  refine Wx.rd (v := .bool false) (rd_move rfl) rfl ?_
  refine Wx.gyes rfl rfl rfl ?_
  refine Wx.rd (v := .int .i64 (rimE rQ)) (rd_move rfl) rfl ?_
  refine Wx.gyes rfl rfl rfl ?_
  refine Wx.rd (v := .bool false) (Rd.to (v := .bool (decide ((rimE rQ) ≠ 0))) (rd_neq rfl rfl) (congrArg (Value.bool) (show (false : Bool) = (decide ((rimE rQ) ≠ 0) : Bool) from (by decide +kernel)).symm)) rfl ?_
  refine Wx.rd (v := .bool false) (rd_pickF rfl rfl) rfl ?_
  refine Wx.rd (v := .bool false) (rd_move rfl) rfl ?_
  refine Wx.gyes rfl rfl rfl ?_
  refine Wx.rd (v := .int .i64 (rimE rQ)) (rd_move rfl) rfl ?_
  refine Wx.gyes rfl rfl rfl ?_
  refine Wx.rd (v := .bool false) (Rd.to (v := .bool (decide ((rimE rQ) ≠ 0))) (rd_neq rfl rfl) (congrArg (Value.bool) (show (false : Bool) = (decide ((rimE rQ) ≠ 0) : Bool) from (by decide +kernel)).symm)) rfl ?_
  refine Wx.rd (v := .bool false) (rd_pickF rfl rfl) rfl ?_
  refine Wx.rd (v := .bool false) (rd_move rfl) rfl ?_
  refine Wx.gyes rfl rfl rfl ?_
  refine Wx.rd (v := .int .i64 (rimE ({ data := #[97, 98, 99] } : ByteArray))) (rd_move rfl) rfl ?_
  refine Wx.gyes rfl rfl rfl ?_
  refine Wx.rd (v := .bool false) (Rd.to (v := .bool (decide ((rimE ({ data := #[97, 98, 99] } : ByteArray)) ≠ 0))) (rd_neq rfl rfl) (congrArg (Value.bool) (show (false : Bool) = (decide ((rimE ({ data := #[97, 98, 99] } : ByteArray)) ≠ 0) : Bool) from (by decide +kernel)).symm)) rfl ?_
  refine Wx.rd (v := .bool false) (rd_pickF rfl rfl) rfl ?_
  refine Wx.nil ?_
  refine W.condF rfl rfl ?_
  refine W.skip ?_
  refine W.seq ?_
  refine W.reg ?_
  refine Wx.callF (run_callF Tryd.call27 rfl) (F27 (by first | assumption | (simp only [maxLen]; omega) | (simp only [ByteArray.size_extract, ByteArray.size_append, maxLen] at *; omega) | decide) (hG.ext hS.bel)) rfl ?_
  rintro r_28 w_29 hx_30 ⟨v_31, rfl, hv_32⟩
  have hS := hS.pushFr hx_30 hv_32
  have hS : St _ _ w_29 [.row (tP (tI .i64) (tI .i64)) 58 v_31 (forcedP rR), .row (tP (tI .i64) (tI .i64)) 58 v_19 (firstV rQ), .row (tP (tI .i64) (tI .i64)) 58 v_13 (firstV rP)] := hS
  refine Wx.rd (v := .tuple #[v_31, .int .i64 (rimE rR)]) (rd_move rfl) rfl ?_
  refine Wx.rd (v := v_31) (rd_extract rfl rfl) rfl ?_
  refine Wx.rd (v := .int .i64 (rimE rR)) (rd_extract rfl rfl) rfl ?_
  refine Wx.rd (v := v_31) (rd_assign rfl) rfl ?_
  refine Wx.rd (v := .int .i64 (rimE rR)) (rd_assign rfl) rfl ?_
  refine Wx.nil ?_
  refine W.seq ?_
  refine W.reg ?_
  refine Wx.callF (run_callF Tryd.call30 rfl) (F30 (by first | assumption | (simp only [maxLen]; omega) | (simp only [ByteArray.size_extract, ByteArray.size_append, maxLen] at *; omega) | decide) hS.fb_lt (hG.ext hS.bel)) rfl ?_
  rintro r_34 w_35 hx_36 ⟨v_37, rfl, hv_38⟩
  have ln_40 := hv_38.len63
  have hS := hS.ext hx_36
  have hS := hS.add hv_38
  refine Wx.rd (v := .tuple #[v_37, .int .i64 (rimE ({ data := #[97, 65, 97] } : ByteArray))]) (rd_move rfl) rfl ?_
  refine Wx.rd (v := v_37) (rd_extract rfl rfl) rfl ?_
  refine Wx.rd (v := .int .i64 (rimE ({ data := #[97, 65, 97] } : ByteArray))) (rd_extract rfl rfl) rfl ?_
  refine Wx.rd (v := v_37) (rd_assign rfl) rfl ?_
  refine Wx.rd (v := .int .i64 (rimE ({ data := #[97, 65, 97] } : ByteArray))) (rd_assign rfl) rfl ?_
  refine Wx.nil ?_
  refine W.seq ?_
  refine W.reg ?_
  refine Wx.callF (run_callF Tryd.call32 rfl) (F32 (by first | assumption | (simp only [maxLen]; omega) | (simp only [ByteArray.size_extract, ByteArray.size_append, maxLen] at *; omega) | decide) (hG.ext hS.bel)) rfl ?_
  rintro r_41 w_42 hx_43 rfl
  have hS := hS.ext hx_43
  refine Wx.rd (v := .tuple #[.string (restE ({ data := #[97, 65, 97] } : ByteArray)), .int .i64 (rimE ({ data := #[97, 65, 97] } : ByteArray))]) (rd_move rfl) rfl ?_
  refine Wx.rd (v := .string (restE ({ data := #[97, 65, 97] } : ByteArray))) (rd_extract rfl rfl) rfl ?_
  refine Wx.rd (v := .int .i64 (rimE ({ data := #[97, 65, 97] } : ByteArray))) (rd_extract rfl rfl) rfl ?_
  refine Wx.rd (v := .string (restE ({ data := #[97, 65, 97] } : ByteArray))) (rd_assign rfl) rfl ?_
  refine Wx.rd (v := .int .i64 (rimE ({ data := #[97, 65, 97] } : ByteArray))) (rd_assign rfl) rfl ?_
  refine Wx.nil ?_
  refine W.seq ?_
  refine W.reg ?_
  refine Wx.callF (run_callF Tryd.call36 rfl) (F36 (by first | assumption | (simp only [maxLen]; omega) | (simp only [ByteArray.size_extract, ByteArray.size_append, maxLen] at *; omega) | decide) (hG.ext hS.bel)) rfl ?_
  rintro r_44 w_45 hx_46 rfl
  have hS := hS.ext hx_46
  refine Wx.rd (v := .tuple #[.string (coreV ({ data := #[97, 98, 66, 99] } : ByteArray)), .int .i64 (rimE ({ data := #[97, 98, 66, 99] } : ByteArray))]) (rd_move rfl) rfl ?_
  refine Wx.rd (v := .string (coreV ({ data := #[97, 98, 66, 99] } : ByteArray))) (rd_extract rfl rfl) rfl ?_
  refine Wx.rd (v := .int .i64 (rimE ({ data := #[97, 98, 66, 99] } : ByteArray))) (rd_extract rfl rfl) rfl ?_
  refine Wx.rd (v := .string (coreV ({ data := #[97, 98, 66, 99] } : ByteArray))) (rd_assign rfl) rfl ?_
  refine Wx.rd (v := .int .i64 (rimE ({ data := #[97, 98, 66, 99] } : ByteArray))) (rd_assign rfl) rfl ?_
  refine Wx.nil ?_
  refine W.seq ?_
  refine W.reg ?_
  refine Wx.callF (run_callF Tryd.call42 rfl) (F42 (by first | assumption | (simp only [maxLen]; omega) | (simp only [ByteArray.size_extract, ByteArray.size_append, maxLen] at *; omega) | decide) (by first | assumption | (simp only [maxLen]; omega) | (simp only [ByteArray.size_extract, ByteArray.size_append, maxLen] at *; omega) | decide) (hG.ext hS.bel)) rfl ?_
  rintro r_47 w_48 hx_49 rfl
  have hS := hS.ext hx_49
  refine Wx.rd (v := .tuple #[.bool (alikeP rQ ({ data := #[98, 65, 66, 97] } : ByteArray)), .int .i64 (alikeE rQ ({ data := #[98, 65, 66, 97] } : ByteArray))]) (rd_move rfl) rfl ?_
  refine Wx.rd (v := .bool (alikeP rQ ({ data := #[98, 65, 66, 97] } : ByteArray))) (rd_extract rfl rfl) rfl ?_
  refine Wx.rd (v := .int .i64 (alikeE rQ ({ data := #[98, 65, 66, 97] } : ByteArray))) (rd_extract rfl rfl) rfl ?_
  refine Wx.rd (v := .bool true) (Rd.to (v := .bool (alikeP rQ ({ data := #[98, 65, 66, 97] } : ByteArray))) (rd_assign rfl) (congrArg (Value.bool) (show (true : Bool) = (alikeP rQ ({ data := #[98, 65, 66, 97] } : ByteArray) : Bool) from (by decide +kernel)).symm)) rfl ?_
  refine Wx.rd (v := .int .i64 (alikeE rQ ({ data := #[98, 65, 66, 97] } : ByteArray))) (rd_assign rfl) rfl ?_
  refine Wx.nil ?_
  refine W.seq ?_
  refine W.reg ?_
  refine Wx.callF (run_callF Tryd.call42 rfl) (F42 (by first | assumption | (simp only [maxLen]; omega) | (simp only [ByteArray.size_extract, ByteArray.size_append, maxLen] at *; omega) | decide) (by first | assumption | (simp only [maxLen]; omega) | (simp only [ByteArray.size_extract, ByteArray.size_append, maxLen] at *; omega) | decide) (hG.ext hS.bel)) rfl ?_
  rintro r_50 w_51 hx_52 rfl
  have hS := hS.ext hx_52
  refine Wx.rd (v := .tuple #[.bool (alikeP r5 ({ data := #[98, 97] } : ByteArray)), .int .i64 (alikeE r5 ({ data := #[98, 97] } : ByteArray))]) (rd_move rfl) rfl ?_
  refine Wx.rd (v := .bool (alikeP r5 ({ data := #[98, 97] } : ByteArray))) (rd_extract rfl rfl) rfl ?_
  refine Wx.rd (v := .int .i64 (alikeE r5 ({ data := #[98, 97] } : ByteArray))) (rd_extract rfl rfl) rfl ?_
  refine Wx.rd (v := .bool true) (Rd.to (v := .bool (alikeP r5 ({ data := #[98, 97] } : ByteArray))) (rd_assign rfl) (congrArg (Value.bool) (show (true : Bool) = (alikeP r5 ({ data := #[98, 97] } : ByteArray) : Bool) from (by decide +kernel)).symm)) rfl ?_
  refine Wx.rd (v := .int .i64 (alikeE r5 ({ data := #[98, 97] } : ByteArray))) (rd_assign rfl) rfl ?_
  refine Wx.nil ?_
  refine W.seq ?_
  refine W.reg ?_
  refine Wx.callF (run_callF Tryd.call38 rfl) (F38 (by first | assumption | (simp only [maxLen]; omega) | (simp only [ByteArray.size_extract, ByteArray.size_append, maxLen] at *; omega) | decide) (in_i64 (by omega) (by omega)) (hG.ext hS.bel)) rfl ?_
  rintro r_53 w_54 hx_55 rfl
  have hS := hS.ext hx_55
  refine Wx.rd (v := .tuple #[.string (turnS rQ 4), .int .i64 (turnE rQ 4)]) (rd_move rfl) rfl ?_
  refine Wx.rd (v := .string (turnS rQ 4)) (rd_extract rfl rfl) rfl ?_
  refine Wx.rd (v := .int .i64 (turnE rQ 4)) (rd_extract rfl rfl) rfl ?_
  refine Wx.rd (v := .int .i64 (turnE rQ 4)) (rd_assign rfl) rfl ?_
  refine Wx.nil ?_
  refine W.seq ?_
  refine W.reg ?_
  refine Wx.rd (v := .int .i64 (rimE rR)) (rd_move rfl) rfl ?_
  refine Wx.rd (v := .bool true) (Rd.to (v := .bool (decide ((rimE rR) = 0))) (rd_eql rfl rfl) (congrArg (Value.bool) (show (true : Bool) = (decide ((rimE rR) = 0) : Bool) from (by decide +kernel)).symm)) rfl ?_
  refine Wx.rd (v := .bool true) (rd_move rfl) rfl ?_
  refine Wx.gyes rfl rfl rfl ?_
  refine Wx.rd (v := .int .i64 (rimE ({ data := #[97, 65, 97] } : ByteArray))) (rd_move rfl) rfl ?_
  refine Wx.gyes rfl rfl rfl ?_
  refine Wx.rd (v := .bool true) (Rd.to (v := .bool (decide ((rimE ({ data := #[97, 65, 97] } : ByteArray)) = 0))) (rd_eql rfl rfl) (congrArg (Value.bool) (show (true : Bool) = (decide ((rimE ({ data := #[97, 65, 97] } : ByteArray)) = 0) : Bool) from (by decide +kernel)).symm)) rfl ?_
  refine Wx.rd (v := .bool true) (rd_pickT rfl rfl) rfl ?_
  refine Wx.rd (v := .bool true) (rd_move rfl) rfl ?_
  refine Wx.gyes rfl rfl rfl ?_
  refine Wx.rd (v := .int .i64 (rimE ({ data := #[97, 65, 97] } : ByteArray))) (rd_move rfl) rfl ?_
  refine Wx.gyes rfl rfl rfl ?_
  refine Wx.rd (v := .bool true) (Rd.to (v := .bool (decide ((rimE ({ data := #[97, 65, 97] } : ByteArray)) = 0))) (rd_eql rfl rfl) (congrArg (Value.bool) (show (true : Bool) = (decide ((rimE ({ data := #[97, 65, 97] } : ByteArray)) = 0) : Bool) from (by decide +kernel)).symm)) rfl ?_
  refine Wx.rd (v := .bool true) (rd_pickT rfl rfl) rfl ?_
  refine Wx.rd (v := .bool true) (rd_move rfl) rfl ?_
  refine Wx.gyes rfl rfl rfl ?_
  refine Wx.rd (v := .int .i64 (rimE ({ data := #[97, 98, 66, 99] } : ByteArray))) (rd_move rfl) rfl ?_
  refine Wx.gyes rfl rfl rfl ?_
  refine Wx.rd (v := .bool true) (Rd.to (v := .bool (decide ((rimE ({ data := #[97, 98, 66, 99] } : ByteArray)) = 0))) (rd_eql rfl rfl) (congrArg (Value.bool) (show (true : Bool) = (decide ((rimE ({ data := #[97, 98, 66, 99] } : ByteArray)) = 0) : Bool) from (by decide +kernel)).symm)) rfl ?_
  refine Wx.rd (v := .bool true) (rd_pickT rfl rfl) rfl ?_
  refine Wx.rd (v := .bool true) (rd_move rfl) rfl ?_
  refine Wx.gyes rfl rfl rfl ?_
  refine Wx.rd (v := .int .i64 (alikeE rQ ({ data := #[98, 65, 66, 97] } : ByteArray))) (rd_move rfl) rfl ?_
  refine Wx.gyes rfl rfl rfl ?_
  refine Wx.rd (v := .bool true) (Rd.to (v := .bool (decide ((alikeE rQ ({ data := #[98, 65, 66, 97] } : ByteArray)) = 0))) (rd_eql rfl rfl) (congrArg (Value.bool) (show (true : Bool) = (decide ((alikeE rQ ({ data := #[98, 65, 66, 97] } : ByteArray)) = 0) : Bool) from (by decide +kernel)).symm)) rfl ?_
  refine Wx.rd (v := .bool true) (rd_pickT rfl rfl) rfl ?_
  refine Wx.rd (v := .bool true) (rd_move rfl) rfl ?_
  refine Wx.gyes rfl rfl rfl ?_
  refine Wx.rd (v := .int .i64 (alikeE r5 ({ data := #[98, 97] } : ByteArray))) (rd_move rfl) rfl ?_
  refine Wx.gyes rfl rfl rfl ?_
  refine Wx.rd (v := .bool true) (Rd.to (v := .bool (decide ((alikeE r5 ({ data := #[98, 97] } : ByteArray)) = 0))) (rd_eql rfl rfl) (congrArg (Value.bool) (show (true : Bool) = (decide ((alikeE r5 ({ data := #[98, 97] } : ByteArray)) = 0) : Bool) from (by decide +kernel)).symm)) rfl ?_
  refine Wx.rd (v := .bool true) (rd_pickT rfl rfl) rfl ?_
  refine Wx.rd (v := .bool true) (rd_move rfl) rfl ?_
  refine Wx.gyes rfl rfl rfl ?_
  refine Wx.rd (v := .int .i64 (turnE rQ 4)) (rd_move rfl) rfl ?_
  refine Wx.gyes rfl rfl rfl ?_
  refine Wx.rd (v := .bool true) (Rd.to (v := .bool (decide ((turnE rQ 4) = 1))) (rd_eql rfl rfl) (congrArg (Value.bool) (show (true : Bool) = (decide ((turnE rQ 4) = 1) : Bool) from (by decide +kernel)).symm)) rfl ?_
  refine Wx.rd (v := .bool true) (rd_pickT rfl rfl) rfl ?_
  refine Wx.rd (v := .bool true) (rd_move rfl) rfl ?_
  refine Wx.gyes rfl rfl rfl ?_
  refine Wx.rd (v := .int .i64 (mostV rP)) (rd_move rfl) rfl ?_
  refine Wx.gyes rfl rfl rfl ?_
  refine Wx.rd (v := .bool true) (Rd.to (v := .bool (decide ((mostV rP) = 2))) (rd_eql rfl rfl) (congrArg (Value.bool) (show (true : Bool) = (decide ((mostV rP) = 2) : Bool) from (by decide +kernel)).symm)) rfl ?_
  refine Wx.rd (v := .bool true) (rd_pickT rfl rfl) rfl ?_
  refine Wx.rd (v := .bool true) (rd_move rfl) rfl ?_
  refine Wx.gyes rfl rfl rfl ?_
  refine Wx.rd (v := .int .i64 (mostV ({ data := #[97, 98, 99] } : ByteArray))) (rd_move rfl) rfl ?_
  refine Wx.gyes rfl rfl rfl ?_
  refine Wx.rd (v := .bool true) (Rd.to (v := .bool (decide ((mostV ({ data := #[97, 98, 99] } : ByteArray)) = 0))) (rd_eql rfl rfl) (congrArg (Value.bool) (show (true : Bool) = (decide ((mostV ({ data := #[97, 98, 99] } : ByteArray)) = 0) : Bool) from (by decide +kernel)).symm)) rfl ?_
  refine Wx.rd (v := .bool true) (rd_pickT rfl rfl) rfl ?_
  refine Wx.rd (v := .bool true) (rd_move rfl) rfl ?_
  refine Wx.gyes rfl rfl rfl ?_
  refine Wx.rd (v := .int .i64 (mostV ({ data := #[] } : ByteArray))) (rd_move rfl) rfl ?_
  refine Wx.gyes rfl rfl rfl ?_
  refine Wx.rd (v := .bool true) (Rd.to (v := .bool (decide ((mostV ({ data := #[] } : ByteArray)) = 0))) (rd_eql rfl rfl) (congrArg (Value.bool) (show (true : Bool) = (decide ((mostV ({ data := #[] } : ByteArray)) = 0) : Bool) from (by decide +kernel)).symm)) rfl ?_
  refine Wx.rd (v := .bool true) (rd_pickT rfl rfl) rfl ?_
  refine Wx.rd (v := .bool true) (rd_move rfl) rfl ?_
  refine Wx.gyes rfl rfl rfl ?_
  refine Wx.rd (v := v_13) (rd_move rfl) rfl ?_
  refine Wx.gyes rfl rfl rfl ?_
  refine Wx.lit (t := (tI .i64)) (ys := [0, 3, 1, 2]) (vs := [.int .i64 0, .int .i64 3, .int .i64 1, .int .i64 2]) elHx_60 hS rfl rfl ⟨(V.mkInt (in_i64 (by omega) (by omega))), ⟨(V.mkInt (in_i64 (by omega) (by omega))), ⟨(V.mkInt (in_i64 (by omega) (by omega))), ⟨(V.mkInt (in_i64 (by omega) (by omega))), trivial⟩⟩⟩⟩ (by decide) rfl (fun v_56 w_57 hx_58 hS => ?_)
  refine Wx.gyes rfl rfl rfl ?_
  have hS := hS.freeze 0 rfl
  refine Wx.callF (run_callF Tryd.call48 rfl) (F48 (hS.v 0 rfl) (by decide) hS.fb_lt) rfl ?_
  rintro r_60 w_61 hx_62 ⟨_, rfl, hv_63⟩
  have hS := hS.pushFr hx_62 hv_63
  refine Wx.gyes rfl rfl rfl ?_
  refine Wx.callF (run_callF Tryd.call29 rfl) (F29 (hS.lend 5 rfl) (hS.lend 0 rfl)) rfl ?_
  rintro r_65 w_66 hx_67 rfl
  have hS := hS.ext hx_67
  rw [show (decide ((firstV rP) = (pairsU [0, 3, 1, 2])) : Bool) = true from (by decide +kernel)]
  refine Wx.rd (v := .bool true) (rd_pickT rfl rfl) rfl ?_
  refine Wx.rd (v := .bool true) (rd_move rfl) rfl ?_
  refine Wx.gyes rfl rfl rfl ?_
  refine Wx.rd (v := v_19) (rd_move rfl) rfl ?_
  refine Wx.gyes rfl rfl rfl ?_
  refine Wx.lit (t := (tI .i64)) (ys := [0, 2]) (vs := [.int .i64 0, .int .i64 2]) elHx_60 hS rfl rfl ⟨(V.mkInt (in_i64 (by omega) (by omega))), ⟨(V.mkInt (in_i64 (by omega) (by omega))), trivial⟩⟩ (by decide) rfl (fun v_68 w_69 hx_70 hS => ?_)
  refine Wx.gyes rfl rfl rfl ?_
  have hS := hS.freeze 0 rfl
  refine Wx.callF (run_callF Tryd.call48 rfl) (F48 (hS.v 0 rfl) (by decide) hS.fb_lt) rfl ?_
  rintro r_72 w_73 hx_74 ⟨_, rfl, hv_75⟩
  have hS := hS.pushFr hx_74 hv_75
  refine Wx.gyes rfl rfl rfl ?_
  refine Wx.callF (run_callF Tryd.call29 rfl) (F29 (hS.lend 6 rfl) (hS.lend 0 rfl)) rfl ?_
  rintro r_77 w_78 hx_79 rfl
  have hS := hS.ext hx_79
  rw [show (decide ((firstV rQ) = (pairsU [0, 2])) : Bool) = true from (by decide +kernel)]
  refine Wx.rd (v := .bool true) (rd_pickT rfl rfl) rfl ?_
  refine Wx.rd (v := .bool true) (rd_move rfl) rfl ?_
  refine Wx.gyes rfl rfl rfl ?_
  refine Wx.rd (v := .int .i64 (countV rQ)) (rd_move rfl) rfl ?_
  refine Wx.gyes rfl rfl rfl ?_
  refine Wx.rd (v := .bool true) (Rd.to (v := .bool (decide ((countV rQ) = 2))) (rd_eql rfl rfl) (congrArg (Value.bool) (show (true : Bool) = (decide ((countV rQ) = 2) : Bool) from (by decide +kernel)).symm)) rfl ?_
  refine Wx.rd (v := .bool true) (rd_pickT rfl rfl) rfl ?_
  refine Wx.rd (v := .bool true) (rd_move rfl) rfl ?_
  refine Wx.gyes rfl rfl rfl ?_
  refine Wx.rd (v := .int .i64 (countV ({ data := #[97, 98, 99] } : ByteArray))) (rd_move rfl) rfl ?_
  refine Wx.gyes rfl rfl rfl ?_
  refine Wx.rd (v := .bool true) (Rd.to (v := .bool (decide ((countV ({ data := #[97, 98, 99] } : ByteArray)) = 1))) (rd_eql rfl rfl) (congrArg (Value.bool) (show (true : Bool) = (decide ((countV ({ data := #[97, 98, 99] } : ByteArray)) = 1) : Bool) from (by decide +kernel)).symm)) rfl ?_
  refine Wx.rd (v := .bool true) (rd_pickT rfl rfl) rfl ?_
  refine Wx.rd (v := .bool true) (rd_move rfl) rfl ?_
  refine Wx.gyes rfl rfl rfl ?_
  refine Wx.rd (v := v_31) (rd_move rfl) rfl ?_
  refine Wx.gyes rfl rfl rfl ?_
  refine Wx.rd (v := .int .i64 ((forcedP rR).length : Int)) (rd_lenR hS 5 rfl rfl Tryd.underlying22) rfl ?_
  refine Wx.gyes rfl rfl rfl ?_
  refine Wx.rd (v := .bool true) (Rd.to (v := .bool (decide (((forcedP rR).length : Int) = 0))) (rd_eql rfl rfl) (congrArg (Value.bool) (show (true : Bool) = (decide (((forcedP rR).length : Int) = 0) : Bool) from (by decide +kernel)).symm)) rfl ?_
  refine Wx.rd (v := .bool true) (rd_pickT rfl rfl) rfl ?_
  refine Wx.rd (v := .bool true) (rd_move rfl) rfl ?_
  refine Wx.gyes rfl rfl rfl ?_
  refine Wx.rd (v := v_37) (rd_move rfl) rfl ?_
  refine Wx.gyes rfl rfl rfl ?_
  refine Wx.lit (t := (tI .i64)) (ys := [0, 1]) (vs := [.int .i64 0, .int .i64 1]) elHx_60 hS rfl rfl ⟨(V.mkInt (in_i64 (by omega) (by omega))), ⟨(V.mkInt (in_i64 (by omega) (by omega))), trivial⟩⟩ (by decide) rfl (fun v_80 w_81 hx_82 hS => ?_)
  refine Wx.gyes rfl rfl rfl ?_
  have hS := hS.freeze 0 rfl
  refine Wx.callF (run_callF Tryd.call48 rfl) (F48 (hS.v 0 rfl) (by decide) hS.fb_lt) rfl ?_
  rintro r_84 w_85 hx_86 ⟨_, rfl, hv_87⟩
  have hS := hS.pushFr hx_86 hv_87
  refine Wx.gyes rfl rfl rfl ?_
  refine Wx.callF (run_callF Tryd.call29 rfl) (F29 (hS.v 6 rfl) (hS.lend 0 rfl)) rfl ?_
  rintro r_89 w_90 hx_91 rfl
  have hS := hS.ext hx_91
  rw [show (decide ((stepsV ({ data := #[97, 65, 97] } : ByteArray)) = (pairsU [0, 1])) : Bool) = true from (by decide +kernel)]
  refine Wx.rd (v := .bool true) (rd_pickT rfl rfl) rfl ?_
  refine Wx.rd (v := .bool true) (rd_move rfl) rfl ?_
  refine Wx.gyes rfl rfl rfl ?_
  refine Wx.rd (v := .string (restE ({ data := #[97, 65, 97] } : ByteArray))) (rd_move rfl) rfl ?_
  refine Wx.gyes rfl rfl rfl ?_
  refine Wx.rd (v := .bool true) (Rd.to (v := .bool ((restE ({ data := #[97, 65, 97] } : ByteArray)) == aS)) (rd_eqlS rfl rfl) (congrArg (Value.bool) (show (true : Bool) = ((restE ({ data := #[97, 65, 97] } : ByteArray)) == aS : Bool) from (by decide +kernel)).symm)) rfl ?_
  refine Wx.rd (v := .bool true) (rd_pickT rfl rfl) rfl ?_
  refine Wx.rd (v := .bool true) (rd_move rfl) rfl ?_
  refine Wx.gyes rfl rfl rfl ?_
  refine Wx.rd (v := .string (coreV ({ data := #[97, 98, 66, 99] } : ByteArray))) (rd_move rfl) rfl ?_
  refine Wx.gyes rfl rfl rfl ?_
  refine Wx.rd (v := .bool true) (Rd.to (v := .bool ((coreV ({ data := #[97, 98, 66, 99] } : ByteArray)) == ({ data := #[97, 99] } : ByteArray))) (rd_eqlS rfl rfl) (congrArg (Value.bool) (show (true : Bool) = ((coreV ({ data := #[97, 98, 66, 99] } : ByteArray)) == ({ data := #[97, 99] } : ByteArray) : Bool) from (by decide +kernel)).symm)) rfl ?_
  refine Wx.rd (v := .bool true) (rd_pickT rfl rfl) rfl ?_
  refine Wx.rd (v := .bool true) (rd_move rfl) rfl ?_
  refine Wx.gyes rfl rfl rfl ?_
  refine Wx.rd (v := .bool true) (rd_move rfl) rfl ?_
  refine Wx.rd (v := .bool true) (rd_pickT rfl rfl) rfl ?_
  refine Wx.rd (v := .bool true) (rd_move rfl) rfl ?_
  refine Wx.gyes rfl rfl rfl ?_
  refine Wx.rd (v := .bool true) (rd_move rfl) rfl ?_
  refine Wx.rd (v := .bool true) (rd_pickT rfl rfl) rfl ?_
  refine Wx.rd (v := .bool true) (rd_move rfl) rfl ?_
  refine Wx.gyes rfl rfl rfl ?_
  refine Wx.callF (run_callF Tryd.call17 rfl) (F17 (by first | assumption | (simp only [maxLen]; omega) | (simp only [ByteArray.size_extract, ByteArray.size_append, maxLen] at *; omega) | decide)) rfl ?_
  rintro r_92 w_93 hx_94 rfl
  have hS := hS.ext hx_94
  refine Wx.gyes rfl rfl rfl ?_
  refine Wx.rd (v := .bool true) (Rd.to (v := .bool (decide ((rimE ({ data := #[97, 98, 107] } : ByteArray)) = 10))) (rd_eql rfl rfl) (congrArg (Value.bool) (show (true : Bool) = (decide ((rimE ({ data := #[97, 98, 107] } : ByteArray)) = 10) : Bool) from (by decide +kernel)).symm)) rfl ?_
  refine Wx.rd (v := .bool true) (rd_pickT rfl rfl) rfl ?_
  refine Wx.rd (v := .bool true) (rd_move rfl) rfl ?_
  refine Wx.gyes rfl rfl rfl ?_
  refine Wx.callF (run_callF Tryd.call17 rfl) (F17 (by first | assumption | (simp only [maxLen]; omega) | (simp only [ByteArray.size_extract, ByteArray.size_append, maxLen] at *; omega) | decide)) rfl ?_
  rintro r_95 w_96 hx_97 rfl
  have hS := hS.ext hx_97
  refine Wx.gyes rfl rfl rfl ?_
  refine Wx.rd (v := .bool true) (Rd.to (v := .bool (decide ((rimE ({ data := #[97, 97, 97, 97, 97, 97, 97, 97, 97, 97, 97, 97, 97] } : ByteArray)) = 3))) (rd_eql rfl rfl) (congrArg (Value.bool) (show (true : Bool) = (decide ((rimE ({ data := #[97, 97, 97, 97, 97, 97, 97, 97, 97, 97, 97, 97, 97] } : ByteArray)) = 3) : Bool) from (by decide +kernel)).symm)) rfl ?_
  refine Wx.rd (v := .bool true) (rd_pickT rfl rfl) rfl ?_
  refine Wx.rd (v := .bool true) (rd_move rfl) rfl ?_
  refine Wx.gyes rfl rfl rfl ?_
  refine Wx.lit (t := (tI .i64)) (ys := [0, 2]) (vs := [.int .i64 0, .int .i64 2]) elHx_60 hS rfl rfl ⟨(V.mkInt (in_i64 (by omega) (by omega))), ⟨(V.mkInt (in_i64 (by omega) (by omega))), trivial⟩⟩ (by decide) rfl (fun v_98 w_99 hx_100 hS => ?_)
  refine Wx.gyes rfl rfl rfl ?_
  have hS := hS.freeze 0 rfl
  refine Wx.callF (run_callF Tryd.call48 rfl) (F48 (hS.v 0 rfl) (by decide) hS.fb_lt) rfl ?_
  rintro r_102 w_103 hx_104 ⟨_, rfl, hv_105⟩
  have hS := hS.pushFr hx_104 hv_105
  refine Wx.gyes rfl rfl rfl ?_
  refine Wx.callF (run_callF Tryd.call19 rfl) (F19 (by first | assumption | (simp only [maxLen]; omega) | (simp only [ByteArray.size_extract, ByteArray.size_append, maxLen] at *; omega) | decide) (hS.lend 0 rfl) (hG.ext hS.bel)) rfl ?_
  rintro r_107 w_108 hx_109 rfl
  have hS := hS.ext hx_109
  refine Wx.gyes rfl rfl rfl ?_
  refine Wx.rd (v := .bool true) (Rd.to (v := .bool (decide ((validE rP (pairsU [0, 2])) = 13))) (rd_eql rfl rfl) (congrArg (Value.bool) (show (true : Bool) = (decide ((validE rP (pairsU [0, 2])) = 13) : Bool) from (by decide +kernel)).symm)) rfl ?_
  refine Wx.rd (v := .bool true) (rd_pickT rfl rfl) rfl ?_
  refine Wx.rd (v := .bool true) (rd_move rfl) rfl ?_
  refine Wx.gyes rfl rfl rfl ?_
  refine Wx.lit (t := (tI .i64)) (ys := [1, 0]) (vs := [.int .i64 1, .int .i64 0]) elHx_60 hS rfl rfl ⟨(V.mkInt (in_i64 (by omega) (by omega))), ⟨(V.mkInt (in_i64 (by omega) (by omega))), trivial⟩⟩ (by decide) rfl (fun v_110 w_111 hx_112 hS => ?_)
  refine Wx.gyes rfl rfl rfl ?_
  have hS := hS.freeze 0 rfl
  refine Wx.callF (run_callF Tryd.call48 rfl) (F48 (hS.v 0 rfl) (by decide) hS.fb_lt) rfl ?_
  rintro r_114 w_115 hx_116 ⟨_, rfl, hv_117⟩
  have hS := hS.pushFr hx_116 hv_117
  refine Wx.gyes rfl rfl rfl ?_
  refine Wx.callF (run_callF Tryd.call19 rfl) (F19 (by first | assumption | (simp only [maxLen]; omega) | (simp only [ByteArray.size_extract, ByteArray.size_append, maxLen] at *; omega) | decide) (hS.lend 0 rfl) (hG.ext hS.bel)) rfl ?_
  rintro r_119 w_120 hx_121 rfl
  have hS := hS.ext hx_121
  refine Wx.gyes rfl rfl rfl ?_
  refine Wx.rd (v := .bool true) (Rd.to (v := .bool (decide ((validE rP (pairsU [1, 0])) = 7))) (rd_eql rfl rfl) (congrArg (Value.bool) (show (true : Bool) = (decide ((validE rP (pairsU [1, 0])) = 7) : Bool) from (by decide +kernel)).symm)) rfl ?_
  refine Wx.rd (v := .bool true) (rd_pickT rfl rfl) rfl ?_
  refine Wx.rd (v := .bool true) (rd_move rfl) rfl ?_
  refine Wx.gyes rfl rfl rfl ?_
  refine Wx.lit (t := (tI .i64)) (ys := [0, 1, 0, 3]) (vs := [.int .i64 0, .int .i64 1, .int .i64 0, .int .i64 3]) elHx_60 hS rfl rfl ⟨(V.mkInt (in_i64 (by omega) (by omega))), ⟨(V.mkInt (in_i64 (by omega) (by omega))), ⟨(V.mkInt (in_i64 (by omega) (by omega))), ⟨(V.mkInt (in_i64 (by omega) (by omega))), trivial⟩⟩⟩⟩ (by decide) rfl (fun v_122 w_123 hx_124 hS => ?_)
  refine Wx.gyes rfl rfl rfl ?_
  have hS := hS.freeze 0 rfl
  refine Wx.callF (run_callF Tryd.call48 rfl) (F48 (hS.v 0 rfl) (by decide) hS.fb_lt) rfl ?_
  rintro r_126 w_127 hx_128 ⟨_, rfl, hv_129⟩
  have hS := hS.pushFr hx_128 hv_129
  refine Wx.gyes rfl rfl rfl ?_
  refine Wx.callF (run_callF Tryd.call19 rfl) (F19 (by first | assumption | (simp only [maxLen]; omega) | (simp only [ByteArray.size_extract, ByteArray.size_append, maxLen] at *; omega) | decide) (hS.lend 0 rfl) (hG.ext hS.bel)) rfl ?_
  rintro r_131 w_132 hx_133 rfl
  have hS := hS.ext hx_133
  refine Wx.gyes rfl rfl rfl ?_
  refine Wx.rd (v := .bool true) (Rd.to (v := .bool (decide ((validE rR (pairsU [0, 1, 0, 3])) = 6))) (rd_eql rfl rfl) (congrArg (Value.bool) (show (true : Bool) = (decide ((validE rR (pairsU [0, 1, 0, 3])) = 6) : Bool) from (by decide +kernel)).symm)) rfl ?_
  refine Wx.rd (v := .bool true) (rd_pickT rfl rfl) rfl ?_
  refine Wx.rd (v := .bool true) (rd_move rfl) rfl ?_
  refine Wx.gyes rfl rfl rfl ?_
  refine Wx.lit (t := (tI .i64)) (ys := [2, 3, 0, 1]) (vs := [.int .i64 2, .int .i64 3, .int .i64 0, .int .i64 1]) elHx_60 hS rfl rfl ⟨(V.mkInt (in_i64 (by omega) (by omega))), ⟨(V.mkInt (in_i64 (by omega) (by omega))), ⟨(V.mkInt (in_i64 (by omega) (by omega))), ⟨(V.mkInt (in_i64 (by omega) (by omega))), trivial⟩⟩⟩⟩ (by decide) rfl (fun v_134 w_135 hx_136 hS => ?_)
  refine Wx.gyes rfl rfl rfl ?_
  have hS := hS.freeze 0 rfl
  refine Wx.callF (run_callF Tryd.call48 rfl) (F48 (hS.v 0 rfl) (by decide) hS.fb_lt) rfl ?_
  rintro r_138 w_139 hx_140 ⟨_, rfl, hv_141⟩
  have hS := hS.pushFr hx_140 hv_141
  refine Wx.gyes rfl rfl rfl ?_
  refine Wx.callF (run_callF Tryd.call19 rfl) (F19 (by first | assumption | (simp only [maxLen]; omega) | (simp only [ByteArray.size_extract, ByteArray.size_append, maxLen] at *; omega) | decide) (hS.lend 0 rfl) (hG.ext hS.bel)) rfl ?_
  rintro r_143 w_144 hx_145 rfl
  have hS := hS.ext hx_145
  refine Wx.gyes rfl rfl rfl ?_
  refine Wx.rd (v := .bool true) (Rd.to (v := .bool (decide ((validE rR (pairsU [2, 3, 0, 1])) = 7))) (rd_eql rfl rfl) (congrArg (Value.bool) (show (true : Bool) = (decide ((validE rR (pairsU [2, 3, 0, 1])) = 7) : Bool) from (by decide +kernel)).symm)) rfl ?_
  refine Wx.rd (v := .bool true) (rd_pickT rfl rfl) rfl ?_
  refine Wx.rd (v := .bool true) (rd_move rfl) rfl ?_
  refine Wx.gyes rfl rfl rfl ?_
  refine Wx.lit (t := (tI .i64)) (ys := [0, 4]) (vs := [.int .i64 0, .int .i64 4]) elHx_60 hS rfl rfl ⟨(V.mkInt (in_i64 (by omega) (by omega))), ⟨(V.mkInt (in_i64 (by omega) (by omega))), trivial⟩⟩ (by decide) rfl (fun v_146 w_147 hx_148 hS => ?_)
  refine Wx.gyes rfl rfl rfl ?_
  have hS := hS.freeze 0 rfl
  refine Wx.callF (run_callF Tryd.call48 rfl) (F48 (hS.v 0 rfl) (by decide) hS.fb_lt) rfl ?_
  rintro r_150 w_151 hx_152 ⟨_, rfl, hv_153⟩
  have hS := hS.pushFr hx_152 hv_153
  refine Wx.gyes rfl rfl rfl ?_
  refine Wx.callF (run_callF Tryd.call19 rfl) (F19 (by first | assumption | (simp only [maxLen]; omega) | (simp only [ByteArray.size_extract, ByteArray.size_append, maxLen] at *; omega) | decide) (hS.lend 0 rfl) (hG.ext hS.bel)) rfl ?_
  rintro r_155 w_156 hx_157 rfl
  have hS := hS.ext hx_157
  refine Wx.gyes rfl rfl rfl ?_
  refine Wx.rd (v := .bool true) (Rd.to (v := .bool (decide ((validE rR (pairsU [0, 4])) = 2))) (rd_eql rfl rfl) (congrArg (Value.bool) (show (true : Bool) = (decide ((validE rR (pairsU [0, 4])) = 2) : Bool) from (by decide +kernel)).symm)) rfl ?_
  refine Wx.rd (v := .bool true) (rd_pickT rfl rfl) rfl ?_
  refine Wx.rd (v := .bool true) (rd_move rfl) rfl ?_
  refine Wx.gyes rfl rfl rfl ?_
  refine Wx.callF (run_callF Tryd.call16 rfl) (F16 hS.fb_lt (hG.ext hS.bel)) rfl ?_
  rintro r_158 w_159 hx_160 rfl
  have hS := hS.ext hx_160
  refine Wx.rd (v := .bool true) (rd_pickT rfl rfl) rfl ?_
  refine Wx.rd (v := .bool true) (rd_assign rfl) rfl ?_
  refine Wx.nil ?_
  exact W.ret ⟨.bool true, ResIs.one, hS.bel, rfl⟩
end Go.Proofs.YtokdjjebnomciaaDoor

namespace Go.Proofs.YtokdjjebnomciaaDoor
open Go.Wk Go.RowKit Go.Lib Go Go.Proofs
set_option maxRecDepth 100000

/-- What the rows list. -/
def theLaid : List (String × DataW Unit) := [("unicode/utf8.acceptRanges", Rows.laid_unicode_utf8_acceptRanges), ("unicode.properties", Rows.laid_unicode_properties), ("unicode.CaseRanges", Rows.laid_unicode_CaseRanges), ("unicode.Upper", Rows.laid_unicode_Upper), ("unicode/utf8.first", Rows.laid_unicode_utf8_first)]
theorem gProps : ∃ g, Tryd.prog.globalNamed "unicode.properties" = some g ∧ ∃ t, (Tryd.prog.globals[g]?).map (·.type) = some t ∧ Tryd.prog.underlying t = some (.array 256 5) ∧ Tryd.prog.cellsOf t = 256 :=
  ⟨0, by kernel_rfl, 139, by kernel_rfl, by kernel_rfl, by kernel_rfl⟩
theorem acc_eq : (Rows.laid_unicode_utf8_acceptRanges : DataW Unit) = acceptData := by kernel_rfl
theorem props_eq : (Rows.laid_unicode_properties : DataW Unit) = tabData .u8 propertiesTab := by kernel_rfl
theorem laid_of {W : World} (h : laidMetH Tryd.prog theLaid W) (hsh : W.ShapedOpen Tryd.prog) : Laid W := by
  have hL : laidMet Tryd.prog theLaid W := by rwa [MakeChecks.laidMetH_plain _ _ _ (by kernel_rfl)] at h
  have r1 := Lib.laidMet.reads hL (.head _)
  have r2 := Lib.laidMet.reads hL (.tail _ (.head _))
  have r3 := Lib.laidMet.reads hL (.tail _ (.tail _ (.head _)))
  have r4 := Lib.laidMet.reads hL (.tail _ (.tail _ (.tail _ (.head _))))
  have r5 := Lib.laidMet.reads hL (.tail _ (.tail _ (.tail _ (.tail _ (.head _)))))
  rw [acc_eq] at r1
  rw [props_eq] at r2
  rw [show Rows.laid_unicode_CaseRanges = caseData from Pinned.caseRanges_eq] at r3
  rw [show Rows.laid_unicode_Upper = rtabData upperT from Pinned.upper_eq] at r4
  rw [show Rows.laid_unicode_utf8_first = firstData from Pinned.utf8First_eq] at r5
  refine ⟨?_, ?_, ?_, ?_, ?_⟩
  · obtain ⟨g, hg, t, hty, ht, hct⟩ := gProps
    obtain ⟨g', t', cs, fuel, p, hg', ht', hvar, hd⟩ := r2
    obtain rfl := Option.some.inj (hg.symm.trans hg')
    obtain rfl := Option.some.inj (hty.symm.trans ht')
    unfold TabIs
    rw [hvar, ← cells_of_tab ht Tryd.underlying5 (by kernel_rfl) hct hd]
  · exact rvar_of_reads Tryd.lays261 ⟨by kernel_rfl, by kernel_rfl, by kernel_rfl, by kernel_rfl, by kernel_rfl, by kernel_rfl, by kernel_rfl, by kernel_rfl⟩ (by kernel_rfl) (by kernel_rfl) r4
  · exact caseVar_of_reads { Tryd.lays158 with } (by kernel_rfl) ⟨by kernel_rfl, by kernel_rfl, by kernel_rfl, by kernel_rfl, by kernel_rfl, by kernel_rfl⟩ r3
  · exact utf8Tabs_of_reads Tryd.lays260 ⟨by kernel_rfl, by kernel_rfl, by kernel_rfl, by kernel_rfl, by kernel_rfl, by kernel_rfl, by kernel_rfl⟩ r5 r1
  · exact Tryd.laysM144.s1_3 W hsh
/-- The world of the witnesses: the listed variables hold what the text lays. -/
theorem w_shaped (os : Os) (args : Array Value) : ((World.laidAll Tryd.prog os theLaid).forCall (fun _ _ => 0) ⟨#[], args, []⟩).Shaped Tryd.prog := World.shaped_of_ZipB (by kernel_rfl) (by kernel_rfl)
theorem w_laid (os : Os) (args : Array Value) : laidMetH Tryd.prog theLaid ((World.laidAll Tryd.prog os theLaid).forCall (fun _ _ => 0) ⟨#[], args, []⟩).memory := by rw [MakeChecks.laidMetH_plain _ _ _ (by kernel_rfl)]; exact laidMet_laidAll _ (by kernel_rfl) (by kernel_rfl)
end Go.Proofs.YtokdjjebnomciaaDoor

namespace Go.Wk
open Go.RowKit Go.ChangeShapes
section
variable {H : Type} {enc : TypeId × Value → H} {P : Program} {W : World}
theorem RdI.arrayN {k : IntKind} {n m : Nat} {e t : TypeId} (hu : P.underlying t = some (.array n e)) (he : RdI enc P W k m e) (hc : P.cellsOf e = m) (hn : P.cellsOf t = n * m) : RdI enc P W k (n * m) t := by
  intro fuel cs x h
  obtain ⟨xs, f', _, _, hl, hx, hel⟩ := DataW.trod_array hu h
  rw [hc] at hel
  rw [hn] at hl
  have h1 : ∀ j, j ≤ n → ∃ zs : List Int, zs.length = j * m ∧ cs.take (j * m) = zs.map (Value.int k) ∧ ∀ z ∈ zs, InK k z := by
    intro j
    induction j with
    | zero => exact fun _ => ⟨[], by simp, by simp, fun z hz => by cases hz⟩
    | succ j ih =>
      intro hj
      obtain ⟨zs, l1, l2, l3⟩ := ih (by omega)
      have := hel j (by omega)
      cases hxi : xs[j]? with
      | none => rw [List.getElem?_eq_none_iff] at hxi; omega
      | some y =>
        rw [hxi] at this
        obtain ⟨zt, m1, m2, m3⟩ := he _ _ _ this
        refine ⟨zs ++ zt, by rw [List.length_append, l1, m1, Nat.succ_mul], ?_, fun z hz => (List.mem_append.1 hz).elim (l3 z) (m3 z)⟩
        rw [Nat.succ_mul, List.take_add, l2, List.map_append, ← m2]
  obtain ⟨zs, l1, l2, l3⟩ := h1 n (Nat.le_refl n)
  exact ⟨zs, l1, by rw [← l2, List.take_of_length_le (by omega)], l3⟩
end
end Go.Wk

namespace Go.Proofs.YtokdjjebnomciaaDoor.sherdKnown
open Go.ChangeShapes Go.WideShapes Go.ChangeAt Go.RowKit Go.Joins Go.Wk
set_option linter.unusedVariables false

theorem own : ownKnob Tryd.prog.godebug = none := by kernel_rfl
theorem laidOut : laidOutB Tryd.prog = true := by kernel_rfl

set_option maxRecDepth 100000 in
theorem lifted (os : Os) (started : os.Started) (H : Type) (enc : TypeId × Value → H) :
    ReturnsInHanded {} Tryd.checked os 11 .any (OpenSpec.preRow enc Tryd.prog Tryd.f11 (OpenSpec.ofChange Rows.sherdKnownSpec) Rows.sherdKnownRow.domain false Rows.sherdKnownRow.laid) (Rows.sherdKnownSpec.post enc Tryd.prog Tryd.f11 false true false false) := by
  refine returnsInHanded_of_row (C := Tryd.checked) (s := OpenSpec.ofChange Rows.sherdKnownSpec) (F := fun _ _ _ => 0) own started (by kernel_rfl) Tryd.func11 ?_ ?_
  · exact ChangeSpec.witness_shaped (enc := enc) (C := Tryd.checked) (os := os) (X := fun w _ => laidMetH Tryd.prog Rows.sherdKnownRow.laid w) false (World.laidAll Tryd.prog os Rows.sherdKnownRow.laid) #[] 8 (World.laidAll_os _ _ _) (w_shaped os _) (by kernel_rfl) (by kernel_rfl) (by kernel_rfl) (w_laid os _)
  intro W base args ds gs before hval0 hW hcnd _ _ hL hsh _
  have hval : ∀ (j : Nat) t v, Tryd.f11.params[j]? = some t → args[j]? = some v → Value.okWide Tryd.prog W .any base t v := hval0
  have hW' := hW
  obtain ⟨p, q, hA0, hV, rfl, hfz, hnd⟩ := hW
  have hA : DataW.TrodAll enc Tryd.prog W 0 (fun _ => true) true Tryd.f11.params.toList args.toList ds p := hA0
  rw [Tryd.params11] at hA hval
  obtain ⟨rfl, rfl, rfl⟩ := trodAll_none hA
  obtain ⟨rfl, rfl⟩ := trodVars_none hV
  clear hA0 hval0
  refine (F11 (fun b (h : some b ∈ ([] : List (Option Nat))) => nomatch h) (laid_of hL hsh)).mono fun e W' hE => ?_
  obtain ⟨r, he, bel, hr⟩ := hE
  subst he
  subst hr
  exact ⟨_, rfl, _, _, _, [], _, [], hW', trodAll_mk1 (shut_bool Tryd.underlying4 _), rfl, rfl, bel.frame _, fun h => by cases h⟩

theorem over : Rows.sherdKnownRow.holds Tryd.pinned (OpenSpec.ofChange Rows.sherdKnownSpec) :=
  OpenClaim.holds_of_wide 11 Tryd.f11 rfl rfl rfl rfl rfl rfl rfl ⟨rfl, rfl, rfl, rfl, rfl⟩ rfl rfl rfl rfl rfl (by kernel_rfl) Tryd.func11 (by kernel_rfl)
    (of_decide_eq_true (by kernel_rfl)) (by unfold Func.isWrapper; first | (rw [if_pos (by decide +kernel)]; kernel_rfl) | (rw [if_neg (by decide +kernel)]; exact ⟨rfl, rfl⟩))
    (fun os started H enc _ => by rw [OpenClaim.pre_eq_preRow]; exact lifted os started H enc)

theorem card : Rows.SherdKnownCardSaid :=
  Claim7.holds_tied_plain_at .later [] [.data, .data, .pinned, .pinned, .pinned] true (true, "b19d624c57feb4ddc557949d072a9df9920d9c9c6e671a3722e11c1f7f3b75a8") false over (fun _ h => by cases h) (by kernel_rfl) (fun _ h => by cases h) sherdKnown_row_tie rfl ⟨rfl, rfl⟩ (by kernel_rfl) rfl
    (fun f fn hf hfn => by
      obtain rfl : f = 11 := Option.some.inj ((show Tryd.prog.funcNamed "bellarmine/bellarminelaw05.SherdKnown" = some 11 by kernel_rfl).symm.trans hf) |>.symm
      obtain rfl : fn = Tryd.f11 := (Option.some.inj (Tryd.func11.symm.trans hfn)).symm
      exact ⟨by kernel_rfl, fun j t ht => by
        rw [Tryd.params11] at ht
        have hm : t ∈ [] := by simpa using Array.mem_of_getElem? ht
        have hall : ([].all fun u => !Tryd.prog.wantsStandIn u) = true := by kernel_rfl
        exact (show Tryd.prog.wantsStandIn t = false by simpa using List.all_eq_true.1 hall t hm)⟩)
    (by kernel_rfl)

end Go.Proofs.YtokdjjebnomciaaDoor.sherdKnown
namespace Go.Proofs.YtokdjjebnomciaaDoor
/-- The statement. -/
theorem sherdKnown_proved : Rows.SherdKnownCardSaid := sherdKnown.card
#print axioms sherdKnown_proved
end Go.Proofs.YtokdjjebnomciaaDoor
