/-
  WHAT IS PROVED HERE, TEXT BY TEXT (several texts of one prover, joined to one file; the conditions stand in each statement):
  * WHAT IS PROVED HERE: what functions of layer 5 hand back, each out of its own code; the conditions stand in each statement.
  * WHAT IS PROVED HERE: what functions of layer 5 hand back, each out of its own code; the conditions stand in each statement.
  * WHAT IS PROVED HERE: what functions of layer 5 hand back, each out of its own code; the conditions stand in each statement.
  * WHAT IS PROVED HERE: what functions of layer 5 hand back, each out of its own code; the conditions stand in each statement.
  * WHAT IS PROVED HERE: what functions of layer 5 hand back, each out of its own code; the conditions stand in each statement.
  * WHAT IS PROVED HERE: where the row's listed variables read as the program's text lays them, the library's tables read as the shelf's contracts want it. Conditions stand in each statement.
  * WHAT IS PROVED HERE: arrays of arrays of numbers as they are read at the start. Conditions: the types' closed facts, as hypotheses.
  * WHAT IS PROVED HERE: the given statement of SherdOpposite: for every input it returns true, and each argument reads as it did. Conditions: none.
-/
import Derived.Test.YtokdjjebnomciaaDoorProg
import Derived.Test.YtokdjjebnomciaaDoorU2
import Derived.Test.YtokdjjebnomciaaDoorU3
import Derived.Test.YtokdjjebnomciaaDoorU5
import Derived.Test.YtokdjjebnomciaaDoorRows
import Derived.Lib.LaidCaseMet
import Derived.Lib.LaidRTab
import Derived.PinnedBridge
import Derived.ProofKit
import Derived.Lay
import Derived.LaidMore
import Derived.Deep.DeepHandedRow
import Derived.WalkKit
import Derived.OpenShut
import Derived.Carry
import Derived.Lib.SmallJoins
import Derived.Test.YtokdjjebnomciaaDoorCards
import Derived.Test.YtokdjjebnomciaaDoorTie
import Derived.SevenTiedAt
import Derived.Stop.Joined

set_option linter.unusedVariables false
set_option linter.unusedSimpArgs false

namespace Go.Proofs.YtokdjjebnomciaaDoor
open Go.Wk Go.RowKit Go.Lib
set_option linter.unusedVariables false
set_option linter.unusedSimpArgs false
theorem elHm_60 : ElemI Tryd.prog 60 3 (.int .i64 0) 1 8 := ElemI.of Tryd.underlying60 (by kernel_rfl) (by first | rfl | kernel_rfl) (by decide)

theorem F16 {O : List (Option Nat)} {w : World} (hO : ∀ b, some b ∈ O → b < w.heap.size) (hG : Laid w) : Calls Tryd.prog 16 #[] w (Ret w (fun r _ => r = .bool true)) := by
  have hS := St.start w O hO
  refine enterR Tryd.func16 rfl Tryd.ntmps16 Tryd.results16 rfl ?_
  refine W.seq ?_
  refine W.reg ?_
  refine Wx.rd (v := .bool false) (rd_assign rfl) rfl ?_
  refine Wx.nil ?_
  refine W.seq ?_
  refine W.reg ?_
  refine Wx.callF (run_callF Tryd.call21 rfl) (F21 (by first | assumption | (simp only [maxLen]; omega) | (simp only [ByteArray.size_extract, ByteArray.size_append, maxLen] at *; omega) | decide) (hG.ext hS.bel)) rfl ?_
  rintro r_1 w_2 hx_3 rfl
  have hS := hS.ext hx_3
  refine Wx.rd (v := .tuple #[.int .i64 (mostV rQ), .int .i64 (rimE rQ)]) (rd_move rfl) rfl ?_
  refine Wx.rd (v := .int .i64 (mostV rQ)) (rd_extract rfl rfl) rfl ?_
  refine Wx.rd (v := .int .i64 (rimE rQ)) (rd_extract rfl rfl) rfl ?_
  refine Wx.rd (v := .int .i64 1) (Rd.to (v := .int .i64 (mostV rQ)) (rd_assign rfl) (congrArg (Value.int .i64) (show (1 : Int) = (mostV rQ : Int) from (by decide +kernel)).symm)) rfl ?_
  refine Wx.rd (v := .int .i64 0) (Rd.to (v := .int .i64 (rimE rQ)) (rd_assign rfl) (congrArg (Value.int .i64) (show (0 : Int) = (rimE rQ : Int) from (by decide +kernel)).symm)) rfl ?_
  refine Wx.nil ?_
  refine W.seq ?_
  refine W.reg ?_
  refine Wx.callF (run_callF Tryd.call25 rfl) (F25 (by first | assumption | (simp only [maxLen]; omega) | (simp only [ByteArray.size_extract, ByteArray.size_append, maxLen] at *; omega) | decide) (hG.ext hS.bel)) rfl ?_
  rintro r_4 w_5 hx_6 ⟨v_7, rfl, hv_8⟩
  have hS := hS.pushFr hx_6 hv_8
  refine Wx.rd (v := .tuple #[v_7, .int .i64 (rimE rR)]) (rd_move rfl) rfl ?_
  refine Wx.rd (v := v_7) (rd_extract rfl rfl) rfl ?_
  refine Wx.rd (v := .int .i64 (rimE rR)) (rd_extract rfl rfl) rfl ?_
  refine Wx.rd (v := v_7) (rd_assign rfl) rfl ?_
  refine Wx.rd (v := .int .i64 0) (Rd.to (v := .int .i64 (rimE rR)) (rd_assign rfl) (congrArg (Value.int .i64) (show (0 : Int) = (rimE rR : Int) from (by decide +kernel)).symm)) rfl ?_
  refine Wx.nil ?_
  refine W.seq ?_
  refine W.reg ?_
  refine Wx.callF (run_callF Tryd.call23 rfl) (F23 (by first | assumption | (simp only [maxLen]; omega) | (simp only [ByteArray.size_extract, ByteArray.size_append, maxLen] at *; omega) | decide) (hG.ext hS.bel)) rfl ?_
  rintro r_10 w_11 hx_12 rfl
  have hS := hS.ext hx_12
  refine Wx.rd (v := .tuple #[.int .i64 (countV rR), .int .i64 (rimE rR)]) (rd_move rfl) rfl ?_
  refine Wx.rd (v := .int .i64 (countV rR)) (rd_extract rfl rfl) rfl ?_
  refine Wx.rd (v := .int .i64 (rimE rR)) (rd_extract rfl rfl) rfl ?_
  refine Wx.rd (v := .int .i64 2) (Rd.to (v := .int .i64 (countV rR)) (rd_assign rfl) (congrArg (Value.int .i64) (show (2 : Int) = (countV rR : Int) from (by decide +kernel)).symm)) rfl ?_
  refine Wx.rd (v := .int .i64 0) (Rd.to (v := .int .i64 (rimE rR)) (rd_assign rfl) (congrArg (Value.int .i64) (show (0 : Int) = (rimE rR : Int) from (by decide +kernel)).symm)) rfl ?_
  refine Wx.nil ?_
  refine W.seq ?_
  refine W.reg ?_
  refine Wx.callF (run_callF Tryd.call27 rfl) (F27 (by first | assumption | (simp only [maxLen]; omega) | (simp only [ByteArray.size_extract, ByteArray.size_append, maxLen] at *; omega) | decide) (hG.ext hS.bel)) rfl ?_
  rintro r_13 w_14 hx_15 ⟨v_16, rfl, hv_17⟩
  have hS := hS.pushFr hx_15 hv_17
  refine Wx.rd (v := .tuple #[v_16, .int .i64 (rimE rP)]) (rd_move rfl) rfl ?_
  refine Wx.rd (v := v_16) (rd_extract rfl rfl) rfl ?_
  refine Wx.rd (v := .int .i64 (rimE rP)) (rd_extract rfl rfl) rfl ?_
  refine Wx.rd (v := v_16) (rd_assign rfl) rfl ?_
  refine Wx.rd (v := .int .i64 0) (Rd.to (v := .int .i64 (rimE rP)) (rd_assign rfl) (congrArg (Value.int .i64) (show (0 : Int) = (rimE rP : Int) from (by decide +kernel)).symm)) rfl ?_
  refine Wx.nil ?_
  refine W.seq ?_
  refine W.reg ?_
  refine Wx.callF (run_callF Tryd.call30 rfl) (F30 (by first | assumption | (simp only [maxLen]; omega) | (simp only [ByteArray.size_extract, ByteArray.size_append, maxLen] at *; omega) | decide) hS.fb_lt (hG.ext hS.bel)) rfl ?_
  rintro r_19 w_20 hx_21 ⟨v_22, rfl, hv_23⟩
  have ln_25 := hv_23.len63
  have hS := hS.ext hx_21
  have hS := hS.add hv_23
  refine Wx.rd (v := .tuple #[v_22, .int .i64 (rimE rP)]) (rd_move rfl) rfl ?_
  refine Wx.rd (v := v_22) (rd_extract rfl rfl) rfl ?_
  refine Wx.rd (v := .int .i64 (rimE rP)) (rd_extract rfl rfl) rfl ?_
  refine Wx.rd (v := v_22) (rd_assign rfl) rfl ?_
  refine Wx.rd (v := .int .i64 0) (Rd.to (v := .int .i64 (rimE rP)) (rd_assign rfl) (congrArg (Value.int .i64) (show (0 : Int) = (rimE rP : Int) from (by decide +kernel)).symm)) rfl ?_
  refine Wx.nil ?_
  refine W.seq ?_
  refine W.reg ?_
  refine Wx.callF (run_callF Tryd.call32 rfl) (F32 (by first | assumption | (simp only [maxLen]; omega) | (simp only [ByteArray.size_extract, ByteArray.size_append, maxLen] at *; omega) | decide) (hG.ext hS.bel)) rfl ?_
  rintro r_26 w_27 hx_28 rfl
  have hS := hS.ext hx_28
  refine Wx.rd (v := .tuple #[.string (restE rQ), .int .i64 (rimE rQ)]) (rd_move rfl) rfl ?_
  refine Wx.rd (v := .string (restE rQ)) (rd_extract rfl rfl) rfl ?_
  refine Wx.rd (v := .int .i64 (rimE rQ)) (rd_extract rfl rfl) rfl ?_
  refine Wx.rd (v := .string (restE rQ)) (rd_assign rfl) rfl ?_
  refine Wx.rd (v := .int .i64 0) (Rd.to (v := .int .i64 (rimE rQ)) (rd_assign rfl) (congrArg (Value.int .i64) (show (0 : Int) = (rimE rQ : Int) from (by decide +kernel)).symm)) rfl ?_
  refine Wx.nil ?_
  refine W.seq ?_
  refine W.seq ?_
  refine W.reg ?_
  refine Wx.rd (v := .int .i64 0) (rd_move rfl) rfl ?_
  refine Wx.rd (v := .bool (decide ((0 : Int) ≠ 0))) (rd_neq rfl rfl) rfl ?_
  refine Wx.rd (v := .bool (decide ((0 : Int) ≠ 0))) (rd_move rfl) rfl ?_
  refine Wx.cut (X := Unit) 3 [48, 49, 50] (fun _ => [(50, .bool (decide ((0 : Int) ≠ 0) || decide ((0 : Int) ≠ 0)))]) (fun _ w' => St w O w' [Ob.v (tSl (tP (tI .i64) (tI .i64))) (stepsV rP) v_22, .row (tP (tI .i64) (tI .i64)) 58 v_16 (forcedP rP), .row (tP (tI .i64) (tI .i64)) 58 v_7 (firstV rR)]) ?_ ?_
  · rcases Bool.eq_false_or_eq_true (decide ((0 : Int) ≠ 0)) with g_29 | g_29
    · -- True
      have gp_30 := of_decide_eq_true g_29
      refine Wx.gnoB rfl rfl (congrArg Value.bool g_29) rfl rfl ?_
      refine Wx.gnoB rfl rfl (congrArg Value.bool g_29) rfl rfl ?_
      refine Wx.rd (v := .bool true) (rd_pickT (congrArg Value.bool g_29) rfl) rfl ?_
      refine Wx.nil ⟨(), hS, ⟨?_, trivial⟩, Out.look rfl Out.refl⟩
      show Value.bool true = Value.bool (decide ((0 : Int) ≠ 0) || decide ((0 : Int) ≠ 0))
      rw [g_29]; rfl
    · -- False
      have gp_31 := of_decide_eq_false g_29
      refine Wx.gyes rfl rfl (congrArg Value.bool g_29) ?_
      refine Wx.rd (v := .int .i64 0) (rd_move rfl) rfl ?_
      refine Wx.gyes rfl rfl (congrArg Value.bool g_29) ?_
      refine Wx.rd (v := .bool (decide ((0 : Int) ≠ 0))) (rd_neq rfl rfl) rfl ?_
      refine Wx.rd (v := .bool (decide ((0 : Int) ≠ 0))) (rd_pickF (congrArg Value.bool g_29) rfl) rfl ?_
      refine Wx.nil ⟨(), hS, ⟨?_, trivial⟩, Out.look rfl Out.refl⟩
      show Value.bool (decide ((0 : Int) ≠ 0)) = Value.bool (decide ((0 : Int) ≠ 0) || decide ((0 : Int) ≠ 0))
      rw [g_29]; rfl
  rintro ⟨⟩ u_33 w_32 hS
  refine Wx.rd (v := .bool (decide ((0 : Int) ≠ 0) || decide ((0 : Int) ≠ 0))) (rd_move rfl) rfl ?_
  refine Wx.cut (X := Unit) 3 [52, 53, 54] (fun _ => [(54, .bool ((decide ((0 : Int) ≠ 0) || decide ((0 : Int) ≠ 0)) || decide ((0 : Int) ≠ 0)))]) (fun _ w' => St w O w' [Ob.v (tSl (tP (tI .i64) (tI .i64))) (stepsV rP) v_22, .row (tP (tI .i64) (tI .i64)) 58 v_16 (forcedP rP), .row (tP (tI .i64) (tI .i64)) 58 v_7 (firstV rR)]) ?_ ?_
  · rcases Bool.eq_false_or_eq_true (decide ((0 : Int) ≠ 0) || decide ((0 : Int) ≠ 0)) with g_34 | g_34
    · -- True
      have gp_35 := g_34
      try simp only [Bool.and_eq_true, Bool.or_eq_true, Bool.not_eq_true', Bool.and_eq_false_iff, Bool.or_eq_false_iff, Bool.not_eq_false', decide_eq_true_eq, decide_eq_false_iff_not, not_or, Bool.false_eq_true, Bool.true_eq_false, false_or, or_false, not_false_eq_true] at gp_35
      refine Wx.gnoB rfl rfl (congrArg Value.bool g_34) rfl rfl ?_
      refine Wx.gnoB rfl rfl (congrArg Value.bool g_34) rfl rfl ?_
      refine Wx.rd (v := .bool true) (rd_pickT (congrArg Value.bool g_34) rfl) rfl ?_
      refine Wx.nil ⟨(), hS, ⟨?_, trivial⟩, Out.look rfl Out.refl⟩
      show Value.bool true = Value.bool ((decide ((0 : Int) ≠ 0) || decide ((0 : Int) ≠ 0)) || decide ((0 : Int) ≠ 0))
      rw [g_34]; rfl
    · -- False
      have gp_36 := g_34
      try simp only [Bool.and_eq_true, Bool.or_eq_true, Bool.not_eq_true', Bool.and_eq_false_iff, Bool.or_eq_false_iff, Bool.not_eq_false', decide_eq_true_eq, decide_eq_false_iff_not, not_or, Bool.false_eq_true, Bool.true_eq_false, false_or, or_false, not_false_eq_true] at gp_36
      refine Wx.gyes rfl rfl (congrArg Value.bool g_34) ?_
      refine Wx.rd (v := .int .i64 0) (rd_move rfl) rfl ?_
      refine Wx.gyes rfl rfl (congrArg Value.bool g_34) ?_
      refine Wx.rd (v := .bool (decide ((0 : Int) ≠ 0))) (rd_neq rfl rfl) rfl ?_
      refine Wx.rd (v := .bool (decide ((0 : Int) ≠ 0))) (rd_pickF (congrArg Value.bool g_34) rfl) rfl ?_
      refine Wx.nil ⟨(), hS, ⟨?_, trivial⟩, Out.look rfl Out.refl⟩
      show Value.bool (decide ((0 : Int) ≠ 0)) = Value.bool ((decide ((0 : Int) ≠ 0) || decide ((0 : Int) ≠ 0)) || decide ((0 : Int) ≠ 0))
      rw [g_34]; rfl
  rintro ⟨⟩ u_38 w_37 hS
  refine Wx.rd (v := .bool ((decide ((0 : Int) ≠ 0) || decide ((0 : Int) ≠ 0)) || decide ((0 : Int) ≠ 0))) (rd_move rfl) rfl ?_
  refine Wx.cut (X := Unit) 3 [56, 57, 58] (fun _ => [(58, .bool (((decide ((0 : Int) ≠ 0) || decide ((0 : Int) ≠ 0)) || decide ((0 : Int) ≠ 0)) || decide ((0 : Int) ≠ 0)))]) (fun _ w' => St w O w' [Ob.v (tSl (tP (tI .i64) (tI .i64))) (stepsV rP) v_22, .row (tP (tI .i64) (tI .i64)) 58 v_16 (forcedP rP), .row (tP (tI .i64) (tI .i64)) 58 v_7 (firstV rR)]) ?_ ?_
  · rcases Bool.eq_false_or_eq_true ((decide ((0 : Int) ≠ 0) || decide ((0 : Int) ≠ 0)) || decide ((0 : Int) ≠ 0)) with g_39 | g_39
    · -- True
      have gp_40 := g_39
      try simp only [Bool.and_eq_true, Bool.or_eq_true, Bool.not_eq_true', Bool.and_eq_false_iff, Bool.or_eq_false_iff, Bool.not_eq_false', decide_eq_true_eq, decide_eq_false_iff_not, not_or, Bool.false_eq_true, Bool.true_eq_false, false_or, or_false, not_false_eq_true] at gp_40
      refine Wx.gnoB rfl rfl (congrArg Value.bool g_39) rfl rfl ?_
      refine Wx.gnoB rfl rfl (congrArg Value.bool g_39) rfl rfl ?_
      refine Wx.rd (v := .bool true) (rd_pickT (congrArg Value.bool g_39) rfl) rfl ?_
      refine Wx.nil ⟨(), hS, ⟨?_, trivial⟩, Out.look rfl Out.refl⟩
      show Value.bool true = Value.bool (((decide ((0 : Int) ≠ 0) || decide ((0 : Int) ≠ 0)) || decide ((0 : Int) ≠ 0)) || decide ((0 : Int) ≠ 0))
      rw [g_39]; rfl
    · -- False
      have gp_41 := g_39
      try simp only [Bool.and_eq_true, Bool.or_eq_true, Bool.not_eq_true', Bool.and_eq_false_iff, Bool.or_eq_false_iff, Bool.not_eq_false', decide_eq_true_eq, decide_eq_false_iff_not, not_or, Bool.false_eq_true, Bool.true_eq_false, false_or, or_false, not_false_eq_true] at gp_41
      refine Wx.gyes rfl rfl (congrArg Value.bool g_39) ?_
      refine Wx.rd (v := .int .i64 0) (rd_move rfl) rfl ?_
      refine Wx.gyes rfl rfl (congrArg Value.bool g_39) ?_
      refine Wx.rd (v := .bool (decide ((0 : Int) ≠ 0))) (rd_neq rfl rfl) rfl ?_
      refine Wx.rd (v := .bool (decide ((0 : Int) ≠ 0))) (rd_pickF (congrArg Value.bool g_39) rfl) rfl ?_
      refine Wx.nil ⟨(), hS, ⟨?_, trivial⟩, Out.look rfl Out.refl⟩
      show Value.bool (decide ((0 : Int) ≠ 0)) = Value.bool (((decide ((0 : Int) ≠ 0) || decide ((0 : Int) ≠ 0)) || decide ((0 : Int) ≠ 0)) || decide ((0 : Int) ≠ 0))
      rw [g_39]; rfl
  rintro ⟨⟩ u_43 w_42 hS
  refine Wx.rd (v := .bool (((decide ((0 : Int) ≠ 0) || decide ((0 : Int) ≠ 0)) || decide ((0 : Int) ≠ 0)) || decide ((0 : Int) ≠ 0))) (rd_move rfl) rfl ?_
  refine Wx.cut (X := Unit) 3 [60, 61, 62] (fun _ => [(62, .bool ((((decide ((0 : Int) ≠ 0) || decide ((0 : Int) ≠ 0)) || decide ((0 : Int) ≠ 0)) || decide ((0 : Int) ≠ 0)) || decide ((0 : Int) ≠ 0)))]) (fun _ w' => St w O w' [Ob.v (tSl (tP (tI .i64) (tI .i64))) (stepsV rP) v_22, .row (tP (tI .i64) (tI .i64)) 58 v_16 (forcedP rP), .row (tP (tI .i64) (tI .i64)) 58 v_7 (firstV rR)]) ?_ ?_
  · rcases Bool.eq_false_or_eq_true (((decide ((0 : Int) ≠ 0) || decide ((0 : Int) ≠ 0)) || decide ((0 : Int) ≠ 0)) || decide ((0 : Int) ≠ 0)) with g_44 | g_44
    · -- True
      have gp_45 := g_44
      try simp only [Bool.and_eq_true, Bool.or_eq_true, Bool.not_eq_true', Bool.and_eq_false_iff, Bool.or_eq_false_iff, Bool.not_eq_false', decide_eq_true_eq, decide_eq_false_iff_not, not_or, Bool.false_eq_true, Bool.true_eq_false, false_or, or_false, not_false_eq_true] at gp_45
      refine Wx.gnoB rfl rfl (congrArg Value.bool g_44) rfl rfl ?_
      refine Wx.gnoB rfl rfl (congrArg Value.bool g_44) rfl rfl ?_
      refine Wx.rd (v := .bool true) (rd_pickT (congrArg Value.bool g_44) rfl) rfl ?_
      refine Wx.nil ⟨(), hS, ⟨?_, trivial⟩, Out.look rfl Out.refl⟩
      show Value.bool true = Value.bool ((((decide ((0 : Int) ≠ 0) || decide ((0 : Int) ≠ 0)) || decide ((0 : Int) ≠ 0)) || decide ((0 : Int) ≠ 0)) || decide ((0 : Int) ≠ 0))
      rw [g_44]; rfl
    · -- False
      have gp_46 := g_44
      try simp only [Bool.and_eq_true, Bool.or_eq_true, Bool.not_eq_true', Bool.and_eq_false_iff, Bool.or_eq_false_iff, Bool.not_eq_false', decide_eq_true_eq, decide_eq_false_iff_not, not_or, Bool.false_eq_true, Bool.true_eq_false, false_or, or_false, not_false_eq_true] at gp_46
      refine Wx.gyes rfl rfl (congrArg Value.bool g_44) ?_
      refine Wx.rd (v := .int .i64 0) (rd_move rfl) rfl ?_
      refine Wx.gyes rfl rfl (congrArg Value.bool g_44) ?_
      refine Wx.rd (v := .bool (decide ((0 : Int) ≠ 0))) (rd_neq rfl rfl) rfl ?_
      refine Wx.rd (v := .bool (decide ((0 : Int) ≠ 0))) (rd_pickF (congrArg Value.bool g_44) rfl) rfl ?_
      refine Wx.nil ⟨(), hS, ⟨?_, trivial⟩, Out.look rfl Out.refl⟩
      show Value.bool (decide ((0 : Int) ≠ 0)) = Value.bool ((((decide ((0 : Int) ≠ 0) || decide ((0 : Int) ≠ 0)) || decide ((0 : Int) ≠ 0)) || decide ((0 : Int) ≠ 0)) || decide ((0 : Int) ≠ 0))
      rw [g_44]; rfl
  rintro ⟨⟩ u_48 w_47 hS
  refine Wx.rd (v := .bool ((((decide ((0 : Int) ≠ 0) || decide ((0 : Int) ≠ 0)) || decide ((0 : Int) ≠ 0)) || decide ((0 : Int) ≠ 0)) || decide ((0 : Int) ≠ 0))) (rd_move rfl) rfl ?_
  refine Wx.cut (X := Unit) 3 [64, 65, 66] (fun _ => [(66, .bool (((((decide ((0 : Int) ≠ 0) || decide ((0 : Int) ≠ 0)) || decide ((0 : Int) ≠ 0)) || decide ((0 : Int) ≠ 0)) || decide ((0 : Int) ≠ 0)) || decide ((0 : Int) ≠ 0)))]) (fun _ w' => St w O w' [Ob.v (tSl (tP (tI .i64) (tI .i64))) (stepsV rP) v_22, .row (tP (tI .i64) (tI .i64)) 58 v_16 (forcedP rP), .row (tP (tI .i64) (tI .i64)) 58 v_7 (firstV rR)]) ?_ ?_
  · rcases Bool.eq_false_or_eq_true ((((decide ((0 : Int) ≠ 0) || decide ((0 : Int) ≠ 0)) || decide ((0 : Int) ≠ 0)) || decide ((0 : Int) ≠ 0)) || decide ((0 : Int) ≠ 0)) with g_49 | g_49
    · -- True
      have gp_50 := g_49
      try simp only [Bool.and_eq_true, Bool.or_eq_true, Bool.not_eq_true', Bool.and_eq_false_iff, Bool.or_eq_false_iff, Bool.not_eq_false', decide_eq_true_eq, decide_eq_false_iff_not, not_or, Bool.false_eq_true, Bool.true_eq_false, false_or, or_false, not_false_eq_true] at gp_50
      refine Wx.gnoB rfl rfl (congrArg Value.bool g_49) rfl rfl ?_
      refine Wx.gnoB rfl rfl (congrArg Value.bool g_49) rfl rfl ?_
      refine Wx.rd (v := .bool true) (rd_pickT (congrArg Value.bool g_49) rfl) rfl ?_
      refine Wx.nil ⟨(), hS, ⟨?_, trivial⟩, Out.look rfl Out.refl⟩
      show Value.bool true = Value.bool (((((decide ((0 : Int) ≠ 0) || decide ((0 : Int) ≠ 0)) || decide ((0 : Int) ≠ 0)) || decide ((0 : Int) ≠ 0)) || decide ((0 : Int) ≠ 0)) || decide ((0 : Int) ≠ 0))
      rw [g_49]; rfl
    · -- False
      have gp_51 := g_49
      try simp only [Bool.and_eq_true, Bool.or_eq_true, Bool.not_eq_true', Bool.and_eq_false_iff, Bool.or_eq_false_iff, Bool.not_eq_false', decide_eq_true_eq, decide_eq_false_iff_not, not_or, Bool.false_eq_true, Bool.true_eq_false, false_or, or_false, not_false_eq_true] at gp_51
      refine Wx.gyes rfl rfl (congrArg Value.bool g_49) ?_
      refine Wx.rd (v := .int .i64 0) (rd_move rfl) rfl ?_
      refine Wx.gyes rfl rfl (congrArg Value.bool g_49) ?_
      refine Wx.rd (v := .bool (decide ((0 : Int) ≠ 0))) (rd_neq rfl rfl) rfl ?_
      refine Wx.rd (v := .bool (decide ((0 : Int) ≠ 0))) (rd_pickF (congrArg Value.bool g_49) rfl) rfl ?_
      refine Wx.nil ⟨(), hS, ⟨?_, trivial⟩, Out.look rfl Out.refl⟩
      show Value.bool (decide ((0 : Int) ≠ 0)) = Value.bool (((((decide ((0 : Int) ≠ 0) || decide ((0 : Int) ≠ 0)) || decide ((0 : Int) ≠ 0)) || decide ((0 : Int) ≠ 0)) || decide ((0 : Int) ≠ 0)) || decide ((0 : Int) ≠ 0))
      rw [g_49]; rfl
  rintro ⟨⟩ u_53 w_52 hS
  refine Wx.nil ?_
  refine W.cond rfl (fun c0 => ?_) (fun c0 => ?_)
  · -- yes
    try simp only [Bool.and_eq_true, Bool.or_eq_true, Bool.not_eq_true', Bool.and_eq_false_iff, Bool.or_eq_false_iff, Bool.not_eq_false', decide_eq_true_eq, decide_eq_false_iff_not, not_or, Bool.false_eq_true, Bool.true_eq_false, false_or, or_false, not_false_eq_true] at c0
    refine W.seq ?_
    refine W.reg ?_
    refine Wx.rd (v := .bool false) (rd_assign rfl) rfl ?_
    refine Wx.nil ?_
    have e0_0 : false = true := by first | rfl | omega
    exact W.ret ⟨.bool false, ResIs.one, hS.bel, (by rw [e0_0])⟩
  · -- no
    try simp only [Bool.and_eq_true, Bool.or_eq_true, Bool.not_eq_true', Bool.and_eq_false_iff, Bool.or_eq_false_iff, Bool.not_eq_false', decide_eq_true_eq, decide_eq_false_iff_not, not_or, Bool.false_eq_true, Bool.true_eq_false, false_or, or_false, not_false_eq_true] at c0
    refine W.skip ?_
    refine W.seq ?_
    refine W.reg ?_
    refine Wx.callF (run_callF Tryd.call34 rfl) (F34 (by first | assumption | (simp only [maxLen]; omega) | (simp only [ByteArray.size_extract, ByteArray.size_append, maxLen] at *; omega) | decide) (hG.ext hS.bel)) rfl ?_
    rintro r_54 w_55 hx_56 rfl
    have hS := hS.ext hx_56
    refine Wx.rd (v := .tuple #[.bool (fullP rP), .int .i64 (rimE rP)]) (rd_move rfl) rfl ?_
    refine Wx.rd (v := .bool (fullP rP)) (rd_extract rfl rfl) rfl ?_
    refine Wx.rd (v := .int .i64 (rimE rP)) (rd_extract rfl rfl) rfl ?_
    refine Wx.rd (v := .bool true) (Rd.to (v := .bool (fullP rP)) (rd_assign rfl) (congrArg (Value.bool) (show (true : Bool) = (fullP rP : Bool) from (by decide +kernel)).symm)) rfl ?_
    refine Wx.rd (v := .int .i64 0) (Rd.to (v := .int .i64 (rimE rP)) (rd_assign rfl) (congrArg (Value.int .i64) (show (0 : Int) = (rimE rP : Int) from (by decide +kernel)).symm)) rfl ?_
    refine Wx.nil ?_
    refine W.seq ?_
    refine W.reg ?_
    refine Wx.callF (run_callF Tryd.call34 rfl) (F34 (by first | assumption | (simp only [maxLen]; omega) | (simp only [ByteArray.size_extract, ByteArray.size_append, maxLen] at *; omega) | decide) (hG.ext hS.bel)) rfl ?_
    rintro r_57 w_58 hx_59 rfl
    have hS := hS.ext hx_59
    refine Wx.rd (v := .tuple #[.bool (fullP rQ), .int .i64 (rimE rQ)]) (rd_move rfl) rfl ?_
    refine Wx.rd (v := .bool (fullP rQ)) (rd_extract rfl rfl) rfl ?_
    refine Wx.rd (v := .int .i64 (rimE rQ)) (rd_extract rfl rfl) rfl ?_
    refine Wx.rd (v := .bool false) (Rd.to (v := .bool (fullP rQ)) (rd_assign rfl) (congrArg (Value.bool) (show (false : Bool) = (fullP rQ : Bool) from (by decide +kernel)).symm)) rfl ?_
    refine Wx.rd (v := .int .i64 0) (Rd.to (v := .int .i64 (rimE rQ)) (rd_assign rfl) (congrArg (Value.int .i64) (show (0 : Int) = (rimE rQ : Int) from (by decide +kernel)).symm)) rfl ?_
    refine Wx.nil ?_
    refine W.seq ?_
    refine W.reg ?_
    refine Wx.callF (run_callF Tryd.call36 rfl) (F36 (by first | assumption | (simp only [maxLen]; omega) | (simp only [ByteArray.size_extract, ByteArray.size_append, maxLen] at *; omega) | decide) (hG.ext hS.bel)) rfl ?_
    rintro r_60 w_61 hx_62 rfl
    have hS := hS.ext hx_62
    refine Wx.rd (v := .tuple #[.string (coreV r1), .int .i64 (rimE r1)]) (rd_move rfl) rfl ?_
    refine Wx.rd (v := .string (coreV r1)) (rd_extract rfl rfl) rfl ?_
    refine Wx.rd (v := .int .i64 (rimE r1)) (rd_extract rfl rfl) rfl ?_
    refine Wx.rd (v := .string (coreV r1)) (rd_assign rfl) rfl ?_
    refine Wx.rd (v := .int .i64 0) (Rd.to (v := .int .i64 (rimE r1)) (rd_assign rfl) (congrArg (Value.int .i64) (show (0 : Int) = (rimE r1 : Int) from (by decide +kernel)).symm)) rfl ?_
    refine Wx.nil ?_
    refine W.seq ?_
    refine W.reg ?_
    refine Wx.callF (run_callF Tryd.call38 rfl) (F38 (by first | assumption | (simp only [maxLen]; omega) | (simp only [ByteArray.size_extract, ByteArray.size_append, maxLen] at *; omega) | decide) (in_i64 (by omega) (by omega)) (hG.ext hS.bel)) rfl ?_
    rintro r_63 w_64 hx_65 rfl
    have hS := hS.ext hx_65
    refine Wx.rd (v := .tuple #[.string (turnS rQ 1), .int .i64 (turnE rQ 1)]) (rd_move rfl) rfl ?_
    refine Wx.rd (v := .string (turnS rQ 1)) (rd_extract rfl rfl) rfl ?_
    refine Wx.rd (v := .int .i64 (turnE rQ 1)) (rd_extract rfl rfl) rfl ?_
    refine Wx.rd (v := .string (turnS rQ 1)) (rd_assign rfl) rfl ?_
    refine Wx.rd (v := .int .i64 0) (Rd.to (v := .int .i64 (turnE rQ 1)) (rd_assign rfl) (congrArg (Value.int .i64) (show (0 : Int) = (turnE rQ 1 : Int) from (by decide +kernel)).symm)) rfl ?_
    refine Wx.nil ?_
    refine W.seq ?_
    refine W.reg ?_
    refine Wx.callF (run_callF Tryd.call40 rfl) (F40 (by first | assumption | (simp only [maxLen]; omega) | (simp only [ByteArray.size_extract, ByteArray.size_append, maxLen] at *; omega) | decide) (hG.ext hS.bel)) rfl ?_
    rintro r_66 w_67 hx_68 rfl
    have hS := hS.ext hx_68
    refine Wx.rd (v := .tuple #[.string (oppV r2), .int .i64 (rimE r2)]) (rd_move rfl) rfl ?_
    refine Wx.rd (v := .string (oppV r2)) (rd_extract rfl rfl) rfl ?_
    refine Wx.rd (v := .int .i64 (rimE r2)) (rd_extract rfl rfl) rfl ?_
    refine Wx.rd (v := .string (oppV r2)) (rd_assign rfl) rfl ?_
    refine Wx.rd (v := .int .i64 0) (Rd.to (v := .int .i64 (rimE r2)) (rd_assign rfl) (congrArg (Value.int .i64) (show (0 : Int) = (rimE r2 : Int) from (by decide +kernel)).symm)) rfl ?_
    refine Wx.nil ?_
    refine W.seq ?_
    refine W.reg ?_
    refine Wx.callF (run_callF Tryd.call42 rfl) (F42 (by first | assumption | (simp only [maxLen]; omega) | (simp only [ByteArray.size_extract, ByteArray.size_append, maxLen] at *; omega) | decide) (by first | assumption | (simp only [maxLen]; omega) | (simp only [ByteArray.size_extract, ByteArray.size_append, maxLen] at *; omega) | decide) (hG.ext hS.bel)) rfl ?_
    rintro r_69 w_70 hx_71 rfl
    have hS := hS.ext hx_71
    refine Wx.rd (v := .tuple #[.bool (alikeP r3 r4), .int .i64 (alikeE r3 r4)]) (rd_move rfl) rfl ?_
    refine Wx.rd (v := .bool (alikeP r3 r4)) (rd_extract rfl rfl) rfl ?_
    refine Wx.rd (v := .int .i64 (alikeE r3 r4)) (rd_extract rfl rfl) rfl ?_
    refine Wx.rd (v := .bool true) (Rd.to (v := .bool (alikeP r3 r4)) (rd_assign rfl) (congrArg (Value.bool) (show (true : Bool) = (alikeP r3 r4 : Bool) from (by decide +kernel)).symm)) rfl ?_
    refine Wx.rd (v := .int .i64 0) (Rd.to (v := .int .i64 (alikeE r3 r4)) (rd_assign rfl) (congrArg (Value.int .i64) (show (0 : Int) = (alikeE r3 r4 : Int) from (by decide +kernel)).symm)) rfl ?_
    refine Wx.nil ?_
    refine W.seq ?_
    refine W.reg ?_
    refine Wx.callF (run_callF Tryd.call42 rfl) (F42 (by first | assumption | (simp only [maxLen]; omega) | (simp only [ByteArray.size_extract, ByteArray.size_append, maxLen] at *; omega) | decide) (by first | assumption | (simp only [maxLen]; omega) | (simp only [ByteArray.size_extract, ByteArray.size_append, maxLen] at *; omega) | decide) (hG.ext hS.bel)) rfl ?_
    rintro r_72 w_73 hx_74 rfl
    have hS := hS.ext hx_74
    refine Wx.rd (v := .tuple #[.bool (alikeP r5 r6), .int .i64 (alikeE r5 r6)]) (rd_move rfl) rfl ?_
    refine Wx.rd (v := .bool (alikeP r5 r6)) (rd_extract rfl rfl) rfl ?_
    refine Wx.rd (v := .int .i64 (alikeE r5 r6)) (rd_extract rfl rfl) rfl ?_
    refine Wx.rd (v := .bool false) (Rd.to (v := .bool (alikeP r5 r6)) (rd_assign rfl) (congrArg (Value.bool) (show (false : Bool) = (alikeP r5 r6 : Bool) from (by decide +kernel)).symm)) rfl ?_
    refine Wx.rd (v := .int .i64 0) (Rd.to (v := .int .i64 (alikeE r5 r6)) (rd_assign rfl) (congrArg (Value.int .i64) (show (0 : Int) = (alikeE r5 r6 : Int) from (by decide +kernel)).symm)) rfl ?_
    refine Wx.nil ?_
    refine W.seq ?_
    refine W.reg ?_
    refine Wx.rd (v := .int .i64 0) (rd_move rfl) rfl ?_
    refine Wx.rd (v := .bool (decide ((0 : Int) = 0))) (rd_eql rfl rfl) rfl ?_
    refine Wx.rd (v := .bool (decide ((0 : Int) = 0))) (rd_move rfl) rfl ?_
    refine Wx.cut (X := Unit) 3 [98, 99, 100] (fun _ => [(100, .bool (decide ((0 : Int) = 0) && decide ((0 : Int) = 0)))]) (fun _ w' => St w O w' [Ob.v (tSl (tP (tI .i64) (tI .i64))) (stepsV rP) v_22, .row (tP (tI .i64) (tI .i64)) 58 v_16 (forcedP rP), .row (tP (tI .i64) (tI .i64)) 58 v_7 (firstV rR)]) ?_ ?_
    · rcases Bool.eq_false_or_eq_true (decide ((0 : Int) = 0)) with g_75 | g_75
      · -- True
        have gp_76 := of_decide_eq_true g_75
        refine Wx.gyes rfl rfl (congrArg Value.bool g_75) ?_
        refine Wx.rd (v := .int .i64 0) (rd_move rfl) rfl ?_
        refine Wx.gyes rfl rfl (congrArg Value.bool g_75) ?_
        refine Wx.rd (v := .bool (decide ((0 : Int) = 0))) (rd_eql rfl rfl) rfl ?_
        refine Wx.rd (v := .bool (decide ((0 : Int) = 0))) (rd_pickT (congrArg Value.bool g_75) rfl) rfl ?_
        refine Wx.nil ⟨(), hS, ⟨?_, trivial⟩, Out.look rfl Out.refl⟩
        show Value.bool (decide ((0 : Int) = 0)) = Value.bool (decide ((0 : Int) = 0) && decide ((0 : Int) = 0))
        rw [g_75]; rfl
      · -- False
        have gp_77 := of_decide_eq_false g_75
        refine Wx.gnoB rfl rfl (congrArg Value.bool g_75) rfl rfl ?_
        refine Wx.gnoB rfl rfl (congrArg Value.bool g_75) rfl rfl ?_
        refine Wx.rd (v := .bool false) (rd_pickF (congrArg Value.bool g_75) rfl) rfl ?_
        refine Wx.nil ⟨(), hS, ⟨?_, trivial⟩, Out.look rfl Out.refl⟩
        show Value.bool false = Value.bool (decide ((0 : Int) = 0) && decide ((0 : Int) = 0))
        rw [g_75]; rfl
    rintro ⟨⟩ u_79 w_78 hS
    refine Wx.rd (v := .bool (decide ((0 : Int) = 0) && decide ((0 : Int) = 0))) (rd_move rfl) rfl ?_
    refine Wx.cut (X := Unit) 3 [102, 103, 104] (fun _ => [(104, .bool ((decide ((0 : Int) = 0) && decide ((0 : Int) = 0)) && decide ((0 : Int) = 0)))]) (fun _ w' => St w O w' [Ob.v (tSl (tP (tI .i64) (tI .i64))) (stepsV rP) v_22, .row (tP (tI .i64) (tI .i64)) 58 v_16 (forcedP rP), .row (tP (tI .i64) (tI .i64)) 58 v_7 (firstV rR)]) ?_ ?_
    · rcases Bool.eq_false_or_eq_true (decide ((0 : Int) = 0) && decide ((0 : Int) = 0)) with g_80 | g_80
      · -- True
        have gp_81 := g_80
        try simp only [Bool.and_eq_true, Bool.or_eq_true, Bool.not_eq_true', Bool.and_eq_false_iff, Bool.or_eq_false_iff, Bool.not_eq_false', decide_eq_true_eq, decide_eq_false_iff_not, not_or, Bool.false_eq_true, Bool.true_eq_false, false_or, or_false, not_false_eq_true] at gp_81
        refine Wx.gyes rfl rfl (congrArg Value.bool g_80) ?_
        refine Wx.rd (v := .int .i64 0) (rd_move rfl) rfl ?_
        refine Wx.gyes rfl rfl (congrArg Value.bool g_80) ?_
        refine Wx.rd (v := .bool (decide ((0 : Int) = 0))) (rd_eql rfl rfl) rfl ?_
        refine Wx.rd (v := .bool (decide ((0 : Int) = 0))) (rd_pickT (congrArg Value.bool g_80) rfl) rfl ?_
        refine Wx.nil ⟨(), hS, ⟨?_, trivial⟩, Out.look rfl Out.refl⟩
        show Value.bool (decide ((0 : Int) = 0)) = Value.bool ((decide ((0 : Int) = 0) && decide ((0 : Int) = 0)) && decide ((0 : Int) = 0))
        rw [g_80]; rfl
      · -- False
        have gp_82 := g_80
        try simp only [Bool.and_eq_true, Bool.or_eq_true, Bool.not_eq_true', Bool.and_eq_false_iff, Bool.or_eq_false_iff, Bool.not_eq_false', decide_eq_true_eq, decide_eq_false_iff_not, not_or, Bool.false_eq_true, Bool.true_eq_false, false_or, or_false, not_false_eq_true] at gp_82
        refine Wx.gnoB rfl rfl (congrArg Value.bool g_80) rfl rfl ?_
        refine Wx.gnoB rfl rfl (congrArg Value.bool g_80) rfl rfl ?_
        refine Wx.rd (v := .bool false) (rd_pickF (congrArg Value.bool g_80) rfl) rfl ?_
        refine Wx.nil ⟨(), hS, ⟨?_, trivial⟩, Out.look rfl Out.refl⟩
        show Value.bool false = Value.bool ((decide ((0 : Int) = 0) && decide ((0 : Int) = 0)) && decide ((0 : Int) = 0))
        rw [g_80]; rfl
    rintro ⟨⟩ u_84 w_83 hS
    refine Wx.rd (v := .bool ((decide ((0 : Int) = 0) && decide ((0 : Int) = 0)) && decide ((0 : Int) = 0))) (rd_move rfl) rfl ?_
    refine Wx.cut (X := Unit) 3 [106, 107, 108] (fun _ => [(108, .bool (((decide ((0 : Int) = 0) && decide ((0 : Int) = 0)) && decide ((0 : Int) = 0)) && decide ((0 : Int) = 0)))]) (fun _ w' => St w O w' [Ob.v (tSl (tP (tI .i64) (tI .i64))) (stepsV rP) v_22, .row (tP (tI .i64) (tI .i64)) 58 v_16 (forcedP rP), .row (tP (tI .i64) (tI .i64)) 58 v_7 (firstV rR)]) ?_ ?_
    · rcases Bool.eq_false_or_eq_true ((decide ((0 : Int) = 0) && decide ((0 : Int) = 0)) && decide ((0 : Int) = 0)) with g_85 | g_85
      · -- True
        have gp_86 := g_85
        try simp only [Bool.and_eq_true, Bool.or_eq_true, Bool.not_eq_true', Bool.and_eq_false_iff, Bool.or_eq_false_iff, Bool.not_eq_false', decide_eq_true_eq, decide_eq_false_iff_not, not_or, Bool.false_eq_true, Bool.true_eq_false, false_or, or_false, not_false_eq_true] at gp_86
        refine Wx.gyes rfl rfl (congrArg Value.bool g_85) ?_
        refine Wx.rd (v := .int .i64 0) (rd_move rfl) rfl ?_
        refine Wx.gyes rfl rfl (congrArg Value.bool g_85) ?_
        refine Wx.rd (v := .bool (decide ((0 : Int) = 0))) (rd_eql rfl rfl) rfl ?_
        refine Wx.rd (v := .bool (decide ((0 : Int) = 0))) (rd_pickT (congrArg Value.bool g_85) rfl) rfl ?_
        refine Wx.nil ⟨(), hS, ⟨?_, trivial⟩, Out.look rfl Out.refl⟩
        show Value.bool (decide ((0 : Int) = 0)) = Value.bool (((decide ((0 : Int) = 0) && decide ((0 : Int) = 0)) && decide ((0 : Int) = 0)) && decide ((0 : Int) = 0))
        rw [g_85]; rfl
      · -- False
        have gp_87 := g_85
        try simp only [Bool.and_eq_true, Bool.or_eq_true, Bool.not_eq_true', Bool.and_eq_false_iff, Bool.or_eq_false_iff, Bool.not_eq_false', decide_eq_true_eq, decide_eq_false_iff_not, not_or, Bool.false_eq_true, Bool.true_eq_false, false_or, or_false, not_false_eq_true] at gp_87
        refine Wx.gnoB rfl rfl (congrArg Value.bool g_85) rfl rfl ?_
        refine Wx.gnoB rfl rfl (congrArg Value.bool g_85) rfl rfl ?_
        refine Wx.rd (v := .bool false) (rd_pickF (congrArg Value.bool g_85) rfl) rfl ?_
        refine Wx.nil ⟨(), hS, ⟨?_, trivial⟩, Out.look rfl Out.refl⟩
        show Value.bool false = Value.bool (((decide ((0 : Int) = 0) && decide ((0 : Int) = 0)) && decide ((0 : Int) = 0)) && decide ((0 : Int) = 0))
        rw [g_85]; rfl
    rintro ⟨⟩ u_89 w_88 hS
    refine Wx.rd (v := .bool (((decide ((0 : Int) = 0) && decide ((0 : Int) = 0)) && decide ((0 : Int) = 0)) && decide ((0 : Int) = 0))) (rd_move rfl) rfl ?_
    refine Wx.cut (X := Unit) 3 [110, 111, 112] (fun _ => [(112, .bool ((((decide ((0 : Int) = 0) && decide ((0 : Int) = 0)) && decide ((0 : Int) = 0)) && decide ((0 : Int) = 0)) && decide ((0 : Int) = 0)))]) (fun _ w' => St w O w' [Ob.v (tSl (tP (tI .i64) (tI .i64))) (stepsV rP) v_22, .row (tP (tI .i64) (tI .i64)) 58 v_16 (forcedP rP), .row (tP (tI .i64) (tI .i64)) 58 v_7 (firstV rR)]) ?_ ?_
    · rcases Bool.eq_false_or_eq_true (((decide ((0 : Int) = 0) && decide ((0 : Int) = 0)) && decide ((0 : Int) = 0)) && decide ((0 : Int) = 0)) with g_90 | g_90
      · -- True
        have gp_91 := g_90
        try simp only [Bool.and_eq_true, Bool.or_eq_true, Bool.not_eq_true', Bool.and_eq_false_iff, Bool.or_eq_false_iff, Bool.not_eq_false', decide_eq_true_eq, decide_eq_false_iff_not, not_or, Bool.false_eq_true, Bool.true_eq_false, false_or, or_false, not_false_eq_true] at gp_91
        refine Wx.gyes rfl rfl (congrArg Value.bool g_90) ?_
        refine Wx.rd (v := .int .i64 0) (rd_move rfl) rfl ?_
        refine Wx.gyes rfl rfl (congrArg Value.bool g_90) ?_
        refine Wx.rd (v := .bool (decide ((0 : Int) = 0))) (rd_eql rfl rfl) rfl ?_
        refine Wx.rd (v := .bool (decide ((0 : Int) = 0))) (rd_pickT (congrArg Value.bool g_90) rfl) rfl ?_
        refine Wx.nil ⟨(), hS, ⟨?_, trivial⟩, Out.look rfl Out.refl⟩
        show Value.bool (decide ((0 : Int) = 0)) = Value.bool ((((decide ((0 : Int) = 0) && decide ((0 : Int) = 0)) && decide ((0 : Int) = 0)) && decide ((0 : Int) = 0)) && decide ((0 : Int) = 0))
        rw [g_90]; rfl
      · -- False
        have gp_92 := g_90
        try simp only [Bool.and_eq_true, Bool.or_eq_true, Bool.not_eq_true', Bool.and_eq_false_iff, Bool.or_eq_false_iff, Bool.not_eq_false', decide_eq_true_eq, decide_eq_false_iff_not, not_or, Bool.false_eq_true, Bool.true_eq_false, false_or, or_false, not_false_eq_true] at gp_92
        refine Wx.gnoB rfl rfl (congrArg Value.bool g_90) rfl rfl ?_
        refine Wx.gnoB rfl rfl (congrArg Value.bool g_90) rfl rfl ?_
        refine Wx.rd (v := .bool false) (rd_pickF (congrArg Value.bool g_90) rfl) rfl ?_
        refine Wx.nil ⟨(), hS, ⟨?_, trivial⟩, Out.look rfl Out.refl⟩
        show Value.bool false = Value.bool ((((decide ((0 : Int) = 0) && decide ((0 : Int) = 0)) && decide ((0 : Int) = 0)) && decide ((0 : Int) = 0)) && decide ((0 : Int) = 0))
        rw [g_90]; rfl
    rintro ⟨⟩ u_94 w_93 hS
    refine Wx.rd (v := .bool ((((decide ((0 : Int) = 0) && decide ((0 : Int) = 0)) && decide ((0 : Int) = 0)) && decide ((0 : Int) = 0)) && decide ((0 : Int) = 0))) (rd_move rfl) rfl ?_
    refine Wx.cut (X := Unit) 3 [114, 115, 116] (fun _ => [(116, .bool (((((decide ((0 : Int) = 0) && decide ((0 : Int) = 0)) && decide ((0 : Int) = 0)) && decide ((0 : Int) = 0)) && decide ((0 : Int) = 0)) && decide ((0 : Int) = 0)))]) (fun _ w' => St w O w' [Ob.v (tSl (tP (tI .i64) (tI .i64))) (stepsV rP) v_22, .row (tP (tI .i64) (tI .i64)) 58 v_16 (forcedP rP), .row (tP (tI .i64) (tI .i64)) 58 v_7 (firstV rR)]) ?_ ?_
    · rcases Bool.eq_false_or_eq_true ((((decide ((0 : Int) = 0) && decide ((0 : Int) = 0)) && decide ((0 : Int) = 0)) && decide ((0 : Int) = 0)) && decide ((0 : Int) = 0)) with g_95 | g_95
      · -- True
        have gp_96 := g_95
        try simp only [Bool.and_eq_true, Bool.or_eq_true, Bool.not_eq_true', Bool.and_eq_false_iff, Bool.or_eq_false_iff, Bool.not_eq_false', decide_eq_true_eq, decide_eq_false_iff_not, not_or, Bool.false_eq_true, Bool.true_eq_false, false_or, or_false, not_false_eq_true] at gp_96
        refine Wx.gyes rfl rfl (congrArg Value.bool g_95) ?_
        refine Wx.rd (v := .int .i64 0) (rd_move rfl) rfl ?_
        refine Wx.gyes rfl rfl (congrArg Value.bool g_95) ?_
        refine Wx.rd (v := .bool (decide ((0 : Int) = 0))) (rd_eql rfl rfl) rfl ?_
        refine Wx.rd (v := .bool (decide ((0 : Int) = 0))) (rd_pickT (congrArg Value.bool g_95) rfl) rfl ?_
        refine Wx.nil ⟨(), hS, ⟨?_, trivial⟩, Out.look rfl Out.refl⟩
        show Value.bool (decide ((0 : Int) = 0)) = Value.bool (((((decide ((0 : Int) = 0) && decide ((0 : Int) = 0)) && decide ((0 : Int) = 0)) && decide ((0 : Int) = 0)) && decide ((0 : Int) = 0)) && decide ((0 : Int) = 0))
        rw [g_95]; rfl
      · -- False
        have gp_97 := g_95
        try simp only [Bool.and_eq_true, Bool.or_eq_true, Bool.not_eq_true', Bool.and_eq_false_iff, Bool.or_eq_false_iff, Bool.not_eq_false', decide_eq_true_eq, decide_eq_false_iff_not, not_or, Bool.false_eq_true, Bool.true_eq_false, false_or, or_false, not_false_eq_true] at gp_97
        refine Wx.gnoB rfl rfl (congrArg Value.bool g_95) rfl rfl ?_
        refine Wx.gnoB rfl rfl (congrArg Value.bool g_95) rfl rfl ?_
        refine Wx.rd (v := .bool false) (rd_pickF (congrArg Value.bool g_95) rfl) rfl ?_
        refine Wx.nil ⟨(), hS, ⟨?_, trivial⟩, Out.look rfl Out.refl⟩
        show Value.bool false = Value.bool (((((decide ((0 : Int) = 0) && decide ((0 : Int) = 0)) && decide ((0 : Int) = 0)) && decide ((0 : Int) = 0)) && decide ((0 : Int) = 0)) && decide ((0 : Int) = 0))
        rw [g_95]; rfl
    rintro ⟨⟩ u_99 w_98 hS
    refine Wx.rd (v := .bool (((((decide ((0 : Int) = 0) && decide ((0 : Int) = 0)) && decide ((0 : Int) = 0)) && decide ((0 : Int) = 0)) && decide ((0 : Int) = 0)) && decide ((0 : Int) = 0))) (rd_move rfl) rfl ?_
    refine Wx.cut (X := Unit) 3 [118, 119, 120] (fun _ => [(120, .bool ((((((decide ((0 : Int) = 0) && decide ((0 : Int) = 0)) && decide ((0 : Int) = 0)) && decide ((0 : Int) = 0)) && decide ((0 : Int) = 0)) && decide ((0 : Int) = 0)) && decide ((0 : Int) = 0)))]) (fun _ w' => St w O w' [Ob.v (tSl (tP (tI .i64) (tI .i64))) (stepsV rP) v_22, .row (tP (tI .i64) (tI .i64)) 58 v_16 (forcedP rP), .row (tP (tI .i64) (tI .i64)) 58 v_7 (firstV rR)]) ?_ ?_
    · rcases Bool.eq_false_or_eq_true (((((decide ((0 : Int) = 0) && decide ((0 : Int) = 0)) && decide ((0 : Int) = 0)) && decide ((0 : Int) = 0)) && decide ((0 : Int) = 0)) && decide ((0 : Int) = 0)) with g_100 | g_100
      · -- True
        have gp_101 := g_100
        try simp only [Bool.and_eq_true, Bool.or_eq_true, Bool.not_eq_true', Bool.and_eq_false_iff, Bool.or_eq_false_iff, Bool.not_eq_false', decide_eq_true_eq, decide_eq_false_iff_not, not_or, Bool.false_eq_true, Bool.true_eq_false, false_or, or_false, not_false_eq_true] at gp_101
        refine Wx.gyes rfl rfl (congrArg Value.bool g_100) ?_
        refine Wx.rd (v := .int .i64 0) (rd_move rfl) rfl ?_
        refine Wx.gyes rfl rfl (congrArg Value.bool g_100) ?_
        refine Wx.rd (v := .bool (decide ((0 : Int) = 0))) (rd_eql rfl rfl) rfl ?_
        refine Wx.rd (v := .bool (decide ((0 : Int) = 0))) (rd_pickT (congrArg Value.bool g_100) rfl) rfl ?_
        refine Wx.nil ⟨(), hS, ⟨?_, trivial⟩, Out.look rfl Out.refl⟩
        show Value.bool (decide ((0 : Int) = 0)) = Value.bool ((((((decide ((0 : Int) = 0) && decide ((0 : Int) = 0)) && decide ((0 : Int) = 0)) && decide ((0 : Int) = 0)) && decide ((0 : Int) = 0)) && decide ((0 : Int) = 0)) && decide ((0 : Int) = 0))
        rw [g_100]; rfl
      · -- False
        have gp_102 := g_100
        try simp only [Bool.and_eq_true, Bool.or_eq_true, Bool.not_eq_true', Bool.and_eq_false_iff, Bool.or_eq_false_iff, Bool.not_eq_false', decide_eq_true_eq, decide_eq_false_iff_not, not_or, Bool.false_eq_true, Bool.true_eq_false, false_or, or_false, not_false_eq_true] at gp_102
        refine Wx.gnoB rfl rfl (congrArg Value.bool g_100) rfl rfl ?_
        refine Wx.gnoB rfl rfl (congrArg Value.bool g_100) rfl rfl ?_
        refine Wx.rd (v := .bool false) (rd_pickF (congrArg Value.bool g_100) rfl) rfl ?_
        refine Wx.nil ⟨(), hS, ⟨?_, trivial⟩, Out.look rfl Out.refl⟩
        show Value.bool false = Value.bool ((((((decide ((0 : Int) = 0) && decide ((0 : Int) = 0)) && decide ((0 : Int) = 0)) && decide ((0 : Int) = 0)) && decide ((0 : Int) = 0)) && decide ((0 : Int) = 0)) && decide ((0 : Int) = 0))
        rw [g_100]; rfl
    rintro ⟨⟩ u_104 w_103 hS
    refine Wx.rd (v := .bool ((((((decide ((0 : Int) = 0) && decide ((0 : Int) = 0)) && decide ((0 : Int) = 0)) && decide ((0 : Int) = 0)) && decide ((0 : Int) = 0)) && decide ((0 : Int) = 0)) && decide ((0 : Int) = 0))) (rd_move rfl) rfl ?_
    refine Wx.cut (X := Unit) 3 [122, 123, 124] (fun _ => [(124, .bool (((((((decide ((0 : Int) = 0) && decide ((0 : Int) = 0)) && decide ((0 : Int) = 0)) && decide ((0 : Int) = 0)) && decide ((0 : Int) = 0)) && decide ((0 : Int) = 0)) && decide ((0 : Int) = 0)) && decide ((1 : Int) = 1)))]) (fun _ w' => St w O w' [Ob.v (tSl (tP (tI .i64) (tI .i64))) (stepsV rP) v_22, .row (tP (tI .i64) (tI .i64)) 58 v_16 (forcedP rP), .row (tP (tI .i64) (tI .i64)) 58 v_7 (firstV rR)]) ?_ ?_
    · rcases Bool.eq_false_or_eq_true ((((((decide ((0 : Int) = 0) && decide ((0 : Int) = 0)) && decide ((0 : Int) = 0)) && decide ((0 : Int) = 0)) && decide ((0 : Int) = 0)) && decide ((0 : Int) = 0)) && decide ((0 : Int) = 0)) with g_105 | g_105
      · -- True
        have gp_106 := g_105
        try simp only [Bool.and_eq_true, Bool.or_eq_true, Bool.not_eq_true', Bool.and_eq_false_iff, Bool.or_eq_false_iff, Bool.not_eq_false', decide_eq_true_eq, decide_eq_false_iff_not, not_or, Bool.false_eq_true, Bool.true_eq_false, false_or, or_false, not_false_eq_true] at gp_106
        refine Wx.gyes rfl rfl (congrArg Value.bool g_105) ?_
        refine Wx.rd (v := .int .i64 1) (rd_move rfl) rfl ?_
        refine Wx.gyes rfl rfl (congrArg Value.bool g_105) ?_
        refine Wx.rd (v := .bool (decide ((1 : Int) = 1))) (rd_eql rfl rfl) rfl ?_
        refine Wx.rd (v := .bool (decide ((1 : Int) = 1))) (rd_pickT (congrArg Value.bool g_105) rfl) rfl ?_
        refine Wx.nil ⟨(), hS, ⟨?_, trivial⟩, Out.look rfl Out.refl⟩
        show Value.bool (decide ((1 : Int) = 1)) = Value.bool (((((((decide ((0 : Int) = 0) && decide ((0 : Int) = 0)) && decide ((0 : Int) = 0)) && decide ((0 : Int) = 0)) && decide ((0 : Int) = 0)) && decide ((0 : Int) = 0)) && decide ((0 : Int) = 0)) && decide ((1 : Int) = 1))
        rw [g_105]; rfl
      · -- False
        have gp_107 := g_105
        try simp only [Bool.and_eq_true, Bool.or_eq_true, Bool.not_eq_true', Bool.and_eq_false_iff, Bool.or_eq_false_iff, Bool.not_eq_false', decide_eq_true_eq, decide_eq_false_iff_not, not_or, Bool.false_eq_true, Bool.true_eq_false, false_or, or_false, not_false_eq_true] at gp_107
        refine Wx.gnoB rfl rfl (congrArg Value.bool g_105) rfl rfl ?_
        refine Wx.gnoB rfl rfl (congrArg Value.bool g_105) rfl rfl ?_
        refine Wx.rd (v := .bool false) (rd_pickF (congrArg Value.bool g_105) rfl) rfl ?_
        refine Wx.nil ⟨(), hS, ⟨?_, trivial⟩, Out.look rfl Out.refl⟩
        show Value.bool false = Value.bool (((((((decide ((0 : Int) = 0) && decide ((0 : Int) = 0)) && decide ((0 : Int) = 0)) && decide ((0 : Int) = 0)) && decide ((0 : Int) = 0)) && decide ((0 : Int) = 0)) && decide ((0 : Int) = 0)) && decide ((1 : Int) = 1))
        rw [g_105]; rfl
    rintro ⟨⟩ u_109 w_108 hS
    refine Wx.rd (v := .bool (((((((decide ((0 : Int) = 0) && decide ((0 : Int) = 0)) && decide ((0 : Int) = 0)) && decide ((0 : Int) = 0)) && decide ((0 : Int) = 0)) && decide ((0 : Int) = 0)) && decide ((0 : Int) = 0)) && decide ((1 : Int) = 1))) (rd_move rfl) rfl ?_
    refine Wx.cut (X := Unit) 5 [126, 127, 128, 129, 130] (fun _ => [(130, .bool ((((((((decide ((0 : Int) = 0) && decide ((0 : Int) = 0)) && decide ((0 : Int) = 0)) && decide ((0 : Int) = 0)) && decide ((0 : Int) = 0)) && decide ((0 : Int) = 0)) && decide ((0 : Int) = 0)) && decide ((1 : Int) = 1)) && true))]) (fun _ w' => St w O w' [Ob.v (tSl (tP (tI .i64) (tI .i64))) (stepsV rP) v_22, .row (tP (tI .i64) (tI .i64)) 58 v_16 (forcedP rP), .row (tP (tI .i64) (tI .i64)) 58 v_7 (firstV rR)]) ?_ ?_
    · rcases Bool.eq_false_or_eq_true (((((((decide ((0 : Int) = 0) && decide ((0 : Int) = 0)) && decide ((0 : Int) = 0)) && decide ((0 : Int) = 0)) && decide ((0 : Int) = 0)) && decide ((0 : Int) = 0)) && decide ((0 : Int) = 0)) && decide ((1 : Int) = 1)) with g_110 | g_110
      · -- True
        have gp_111 := g_110
        try simp only [Bool.and_eq_true, Bool.or_eq_true, Bool.not_eq_true', Bool.and_eq_false_iff, Bool.or_eq_false_iff, Bool.not_eq_false', decide_eq_true_eq, decide_eq_false_iff_not, not_or, Bool.false_eq_true, Bool.true_eq_false, false_or, or_false, not_false_eq_true] at gp_111
        refine Wx.gyes rfl rfl (congrArg Value.bool g_110) ?_
        refine Wx.rd (v := v_7) (rd_move rfl) rfl ?_
        refine Wx.gyes rfl rfl (congrArg Value.bool g_110) ?_
        refine Wx.lit (t := (tI .i64)) (ys := [0, 1, 2, 3]) (vs := [.int .i64 0, .int .i64 1, .int .i64 2, .int .i64 3]) elHm_60 hS rfl rfl ⟨(V.mkInt (in_i64 (by omega) (by omega))), ⟨(V.mkInt (in_i64 (by omega) (by omega))), ⟨(V.mkInt (in_i64 (by omega) (by omega))), ⟨(V.mkInt (in_i64 (by omega) (by omega))), trivial⟩⟩⟩⟩ (by decide) rfl (fun v_112 w_113 hx_114 hS => ?_)
        refine Wx.gyes rfl rfl (congrArg Value.bool g_110) ?_
        have hS := hS.freeze 0 rfl
        refine Wx.callF (run_callF Tryd.call48 rfl) (F48 (hS.v 0 rfl) (by decide) hS.fb_lt) rfl ?_
        rintro r_116 w_117 hx_118 ⟨_, rfl, hv_119⟩
        have hS := hS.pushFr hx_118 hv_119
        refine Wx.gyes rfl rfl (congrArg Value.bool g_110) ?_
        refine Wx.callF (run_callF Tryd.call29 rfl) (F29 (hS.lend 4 rfl) (hS.lend 0 rfl)) rfl ?_
        rintro r_121 w_122 hx_123 rfl
        have hS := hS.ext hx_123
        rw [show (decide ((firstV rR) = (pairsU [0, 1, 2, 3])) : Bool) = true from (by decide +kernel)]
        refine Wx.rd (v := .bool true) (rd_pickT (congrArg Value.bool g_110) rfl) rfl ?_
        refine Wx.nil ⟨(), St.tl (hS.tl), ⟨?_, trivial⟩, Out.look rfl Out.refl⟩
        show Value.bool true = Value.bool ((((((((decide ((0 : Int) = 0) && decide ((0 : Int) = 0)) && decide ((0 : Int) = 0)) && decide ((0 : Int) = 0)) && decide ((0 : Int) = 0)) && decide ((0 : Int) = 0)) && decide ((0 : Int) = 0)) && decide ((1 : Int) = 1)) && true)
        rw [g_110]; rfl
      · -- False
        have gp_124 := g_110
        try simp only [Bool.and_eq_true, Bool.or_eq_true, Bool.not_eq_true', Bool.and_eq_false_iff, Bool.or_eq_false_iff, Bool.not_eq_false', decide_eq_true_eq, decide_eq_false_iff_not, not_or, Bool.false_eq_true, Bool.true_eq_false, false_or, or_false, not_false_eq_true] at gp_124
        refine Wx.gnoB rfl rfl (congrArg Value.bool g_110) rfl rfl ?_
        refine Wx.gnoB rfl rfl (congrArg Value.bool g_110) rfl rfl ?_
        refine Wx.gnoB rfl rfl (congrArg Value.bool g_110) rfl rfl ?_
        refine Wx.gnoB rfl rfl (congrArg Value.bool g_110) rfl rfl ?_
        refine Wx.rd (v := .bool false) (rd_pickF (congrArg Value.bool g_110) rfl) rfl ?_
        refine Wx.nil ⟨(), hS, ⟨?_, trivial⟩, Out.look rfl Out.refl⟩
        show Value.bool false = Value.bool ((((((((decide ((0 : Int) = 0) && decide ((0 : Int) = 0)) && decide ((0 : Int) = 0)) && decide ((0 : Int) = 0)) && decide ((0 : Int) = 0)) && decide ((0 : Int) = 0)) && decide ((0 : Int) = 0)) && decide ((1 : Int) = 1)) && true)
        rw [g_110]; rfl
    rintro ⟨⟩ u_126 w_125 hS
    refine Wx.rd (v := .bool ((((((((decide ((0 : Int) = 0) && decide ((0 : Int) = 0)) && decide ((0 : Int) = 0)) && decide ((0 : Int) = 0)) && decide ((0 : Int) = 0)) && decide ((0 : Int) = 0)) && decide ((0 : Int) = 0)) && decide ((1 : Int) = 1)) && true)) (rd_move rfl) rfl ?_
    refine Wx.cut (X := Unit) 3 [132, 133, 134] (fun _ => [(134, .bool (((((((((decide ((0 : Int) = 0) && decide ((0 : Int) = 0)) && decide ((0 : Int) = 0)) && decide ((0 : Int) = 0)) && decide ((0 : Int) = 0)) && decide ((0 : Int) = 0)) && decide ((0 : Int) = 0)) && decide ((1 : Int) = 1)) && true) && decide ((2 : Int) = 2)))]) (fun _ w' => St w O w' [Ob.v (tSl (tP (tI .i64) (tI .i64))) (stepsV rP) v_22, .row (tP (tI .i64) (tI .i64)) 58 v_16 (forcedP rP), .row (tP (tI .i64) (tI .i64)) 58 v_7 (firstV rR)]) ?_ ?_
    · rcases Bool.eq_false_or_eq_true ((((((((decide ((0 : Int) = 0) && decide ((0 : Int) = 0)) && decide ((0 : Int) = 0)) && decide ((0 : Int) = 0)) && decide ((0 : Int) = 0)) && decide ((0 : Int) = 0)) && decide ((0 : Int) = 0)) && decide ((1 : Int) = 1)) && true) with g_127 | g_127
      · -- True
        have gp_128 := g_127
        try simp only [Bool.and_eq_true, Bool.or_eq_true, Bool.not_eq_true', Bool.and_eq_false_iff, Bool.or_eq_false_iff, Bool.not_eq_false', decide_eq_true_eq, decide_eq_false_iff_not, not_or, Bool.false_eq_true, Bool.true_eq_false, false_or, or_false, not_false_eq_true] at gp_128
        refine Wx.gyes rfl rfl (congrArg Value.bool g_127) ?_
        refine Wx.rd (v := .int .i64 2) (rd_move rfl) rfl ?_
        refine Wx.gyes rfl rfl (congrArg Value.bool g_127) ?_
        refine Wx.rd (v := .bool (decide ((2 : Int) = 2))) (rd_eql rfl rfl) rfl ?_
        refine Wx.rd (v := .bool (decide ((2 : Int) = 2))) (rd_pickT (congrArg Value.bool g_127) rfl) rfl ?_
        refine Wx.nil ⟨(), hS, ⟨?_, trivial⟩, Out.look rfl Out.refl⟩
        show Value.bool (decide ((2 : Int) = 2)) = Value.bool (((((((((decide ((0 : Int) = 0) && decide ((0 : Int) = 0)) && decide ((0 : Int) = 0)) && decide ((0 : Int) = 0)) && decide ((0 : Int) = 0)) && decide ((0 : Int) = 0)) && decide ((0 : Int) = 0)) && decide ((1 : Int) = 1)) && true) && decide ((2 : Int) = 2))
        rw [g_127]; rfl
      · -- False
        have gp_129 := g_127
        try simp only [Bool.and_eq_true, Bool.or_eq_true, Bool.not_eq_true', Bool.and_eq_false_iff, Bool.or_eq_false_iff, Bool.not_eq_false', decide_eq_true_eq, decide_eq_false_iff_not, not_or, Bool.false_eq_true, Bool.true_eq_false, false_or, or_false, not_false_eq_true] at gp_129
        refine Wx.gnoB rfl rfl (congrArg Value.bool g_127) rfl rfl ?_
        refine Wx.gnoB rfl rfl (congrArg Value.bool g_127) rfl rfl ?_
        refine Wx.rd (v := .bool false) (rd_pickF (congrArg Value.bool g_127) rfl) rfl ?_
        refine Wx.nil ⟨(), hS, ⟨?_, trivial⟩, Out.look rfl Out.refl⟩
        show Value.bool false = Value.bool (((((((((decide ((0 : Int) = 0) && decide ((0 : Int) = 0)) && decide ((0 : Int) = 0)) && decide ((0 : Int) = 0)) && decide ((0 : Int) = 0)) && decide ((0 : Int) = 0)) && decide ((0 : Int) = 0)) && decide ((1 : Int) = 1)) && true) && decide ((2 : Int) = 2))
        rw [g_127]; rfl
    rintro ⟨⟩ u_131 w_130 hS
    refine Wx.rd (v := .bool (((((((((decide ((0 : Int) = 0) && decide ((0 : Int) = 0)) && decide ((0 : Int) = 0)) && decide ((0 : Int) = 0)) && decide ((0 : Int) = 0)) && decide ((0 : Int) = 0)) && decide ((0 : Int) = 0)) && decide ((1 : Int) = 1)) && true) && decide ((2 : Int) = 2))) (rd_move rfl) rfl ?_
    refine Wx.cut (X := Unit) 5 [136, 137, 138, 139, 140] (fun _ => [(140, .bool ((((((((((decide ((0 : Int) = 0) && decide ((0 : Int) = 0)) && decide ((0 : Int) = 0)) && decide ((0 : Int) = 0)) && decide ((0 : Int) = 0)) && decide ((0 : Int) = 0)) && decide ((0 : Int) = 0)) && decide ((1 : Int) = 1)) && true) && decide ((2 : Int) = 2)) && true))]) (fun _ w' => St w O w' [Ob.v (tSl (tP (tI .i64) (tI .i64))) (stepsV rP) v_22, .row (tP (tI .i64) (tI .i64)) 58 v_16 (forcedP rP), .row (tP (tI .i64) (tI .i64)) 58 v_7 (firstV rR)]) ?_ ?_
    · rcases Bool.eq_false_or_eq_true (((((((((decide ((0 : Int) = 0) && decide ((0 : Int) = 0)) && decide ((0 : Int) = 0)) && decide ((0 : Int) = 0)) && decide ((0 : Int) = 0)) && decide ((0 : Int) = 0)) && decide ((0 : Int) = 0)) && decide ((1 : Int) = 1)) && true) && decide ((2 : Int) = 2)) with g_132 | g_132
      · -- True
        have gp_133 := g_132
        try simp only [Bool.and_eq_true, Bool.or_eq_true, Bool.not_eq_true', Bool.and_eq_false_iff, Bool.or_eq_false_iff, Bool.not_eq_false', decide_eq_true_eq, decide_eq_false_iff_not, not_or, Bool.false_eq_true, Bool.true_eq_false, false_or, or_false, not_false_eq_true] at gp_133
        refine Wx.gyes rfl rfl (congrArg Value.bool g_132) ?_
        refine Wx.rd (v := v_16) (rd_move rfl) rfl ?_
        refine Wx.gyes rfl rfl (congrArg Value.bool g_132) ?_
        refine Wx.lit (t := (tI .i64)) (ys := [0, 3, 1, 2]) (vs := [.int .i64 0, .int .i64 3, .int .i64 1, .int .i64 2]) elHm_60 hS rfl rfl ⟨(V.mkInt (in_i64 (by omega) (by omega))), ⟨(V.mkInt (in_i64 (by omega) (by omega))), ⟨(V.mkInt (in_i64 (by omega) (by omega))), ⟨(V.mkInt (in_i64 (by omega) (by omega))), trivial⟩⟩⟩⟩ (by decide) rfl (fun v_134 w_135 hx_136 hS => ?_)
        refine Wx.gyes rfl rfl (congrArg Value.bool g_132) ?_
        have hS := hS.freeze 0 rfl
        refine Wx.callF (run_callF Tryd.call48 rfl) (F48 (hS.v 0 rfl) (by decide) hS.fb_lt) rfl ?_
        rintro r_138 w_139 hx_140 ⟨_, rfl, hv_141⟩
        have hS := hS.pushFr hx_140 hv_141
        refine Wx.gyes rfl rfl (congrArg Value.bool g_132) ?_
        refine Wx.callF (run_callF Tryd.call29 rfl) (F29 (hS.lend 3 rfl) (hS.lend 0 rfl)) rfl ?_
        rintro r_143 w_144 hx_145 rfl
        have hS := hS.ext hx_145
        rw [show (decide ((forcedP rP) = (pairsU [0, 3, 1, 2])) : Bool) = true from (by decide +kernel)]
        refine Wx.rd (v := .bool true) (rd_pickT (congrArg Value.bool g_132) rfl) rfl ?_
        refine Wx.nil ⟨(), St.tl (hS.tl), ⟨?_, trivial⟩, Out.look rfl Out.refl⟩
        show Value.bool true = Value.bool ((((((((((decide ((0 : Int) = 0) && decide ((0 : Int) = 0)) && decide ((0 : Int) = 0)) && decide ((0 : Int) = 0)) && decide ((0 : Int) = 0)) && decide ((0 : Int) = 0)) && decide ((0 : Int) = 0)) && decide ((1 : Int) = 1)) && true) && decide ((2 : Int) = 2)) && true)
        rw [g_132]; rfl
      · -- False
        have gp_146 := g_132
        try simp only [Bool.and_eq_true, Bool.or_eq_true, Bool.not_eq_true', Bool.and_eq_false_iff, Bool.or_eq_false_iff, Bool.not_eq_false', decide_eq_true_eq, decide_eq_false_iff_not, not_or, Bool.false_eq_true, Bool.true_eq_false, false_or, or_false, not_false_eq_true] at gp_146
        refine Wx.gnoB rfl rfl (congrArg Value.bool g_132) rfl rfl ?_
        refine Wx.gnoB rfl rfl (congrArg Value.bool g_132) rfl rfl ?_
        refine Wx.gnoB rfl rfl (congrArg Value.bool g_132) rfl rfl ?_
        refine Wx.gnoB rfl rfl (congrArg Value.bool g_132) rfl rfl ?_
        refine Wx.rd (v := .bool false) (rd_pickF (congrArg Value.bool g_132) rfl) rfl ?_
        refine Wx.nil ⟨(), hS, ⟨?_, trivial⟩, Out.look rfl Out.refl⟩
        show Value.bool false = Value.bool ((((((((((decide ((0 : Int) = 0) && decide ((0 : Int) = 0)) && decide ((0 : Int) = 0)) && decide ((0 : Int) = 0)) && decide ((0 : Int) = 0)) && decide ((0 : Int) = 0)) && decide ((0 : Int) = 0)) && decide ((1 : Int) = 1)) && true) && decide ((2 : Int) = 2)) && true)
        rw [g_132]; rfl
    rintro ⟨⟩ u_148 w_147 hS
    refine Wx.rd (v := .bool ((((((((((decide ((0 : Int) = 0) && decide ((0 : Int) = 0)) && decide ((0 : Int) = 0)) && decide ((0 : Int) = 0)) && decide ((0 : Int) = 0)) && decide ((0 : Int) = 0)) && decide ((0 : Int) = 0)) && decide ((1 : Int) = 1)) && true) && decide ((2 : Int) = 2)) && true)) (rd_move rfl) rfl ?_
    refine Wx.cut (X := Unit) 5 [142, 143, 144, 145, 146] (fun _ => [(146, .bool (((((((((((decide ((0 : Int) = 0) && decide ((0 : Int) = 0)) && decide ((0 : Int) = 0)) && decide ((0 : Int) = 0)) && decide ((0 : Int) = 0)) && decide ((0 : Int) = 0)) && decide ((0 : Int) = 0)) && decide ((1 : Int) = 1)) && true) && decide ((2 : Int) = 2)) && true) && true))]) (fun _ w' => St w O w' [Ob.v (tSl (tP (tI .i64) (tI .i64))) (stepsV rP) v_22, .row (tP (tI .i64) (tI .i64)) 58 v_16 (forcedP rP), .row (tP (tI .i64) (tI .i64)) 58 v_7 (firstV rR)]) ?_ ?_
    · rcases Bool.eq_false_or_eq_true ((((((((((decide ((0 : Int) = 0) && decide ((0 : Int) = 0)) && decide ((0 : Int) = 0)) && decide ((0 : Int) = 0)) && decide ((0 : Int) = 0)) && decide ((0 : Int) = 0)) && decide ((0 : Int) = 0)) && decide ((1 : Int) = 1)) && true) && decide ((2 : Int) = 2)) && true) with g_149 | g_149
      · -- True
        have gp_150 := g_149
        try simp only [Bool.and_eq_true, Bool.or_eq_true, Bool.not_eq_true', Bool.and_eq_false_iff, Bool.or_eq_false_iff, Bool.not_eq_false', decide_eq_true_eq, decide_eq_false_iff_not, not_or, Bool.false_eq_true, Bool.true_eq_false, false_or, or_false, not_false_eq_true] at gp_150
        refine Wx.gyes rfl rfl (congrArg Value.bool g_149) ?_
        refine Wx.rd (v := v_22) (rd_move rfl) rfl ?_
        refine Wx.gyes rfl rfl (congrArg Value.bool g_149) ?_
        refine Wx.lit (t := (tI .i64)) (ys := [1, 2, 0, 3]) (vs := [.int .i64 1, .int .i64 2, .int .i64 0, .int .i64 3]) elHm_60 hS rfl rfl ⟨(V.mkInt (in_i64 (by omega) (by omega))), ⟨(V.mkInt (in_i64 (by omega) (by omega))), ⟨(V.mkInt (in_i64 (by omega) (by omega))), ⟨(V.mkInt (in_i64 (by omega) (by omega))), trivial⟩⟩⟩⟩ (by decide) rfl (fun v_151 w_152 hx_153 hS => ?_)
        refine Wx.gyes rfl rfl (congrArg Value.bool g_149) ?_
        have hS := hS.freeze 0 rfl
        refine Wx.callF (run_callF Tryd.call48 rfl) (F48 (hS.v 0 rfl) (by decide) hS.fb_lt) rfl ?_
        rintro r_155 w_156 hx_157 ⟨_, rfl, hv_158⟩
        have hS := hS.pushFr hx_157 hv_158
        refine Wx.gyes rfl rfl (congrArg Value.bool g_149) ?_
        refine Wx.callF (run_callF Tryd.call29 rfl) (F29 (hS.v 2 rfl) (hS.lend 0 rfl)) rfl ?_
        rintro r_160 w_161 hx_162 rfl
        have hS := hS.ext hx_162
        rw [show (decide ((stepsV rP) = (pairsU [1, 2, 0, 3])) : Bool) = true from (by decide +kernel)]
        refine Wx.rd (v := .bool true) (rd_pickT (congrArg Value.bool g_149) rfl) rfl ?_
        refine Wx.nil ⟨(), St.tl (hS.tl), ⟨?_, trivial⟩, Out.look rfl Out.refl⟩
        show Value.bool true = Value.bool (((((((((((decide ((0 : Int) = 0) && decide ((0 : Int) = 0)) && decide ((0 : Int) = 0)) && decide ((0 : Int) = 0)) && decide ((0 : Int) = 0)) && decide ((0 : Int) = 0)) && decide ((0 : Int) = 0)) && decide ((1 : Int) = 1)) && true) && decide ((2 : Int) = 2)) && true) && true)
        rw [g_149]; rfl
      · -- False
        have gp_163 := g_149
        try simp only [Bool.and_eq_true, Bool.or_eq_true, Bool.not_eq_true', Bool.and_eq_false_iff, Bool.or_eq_false_iff, Bool.not_eq_false', decide_eq_true_eq, decide_eq_false_iff_not, not_or, Bool.false_eq_true, Bool.true_eq_false, false_or, or_false, not_false_eq_true] at gp_163
        refine Wx.gnoB rfl rfl (congrArg Value.bool g_149) rfl rfl ?_
        refine Wx.gnoB rfl rfl (congrArg Value.bool g_149) rfl rfl ?_
        refine Wx.gnoB rfl rfl (congrArg Value.bool g_149) rfl rfl ?_
        refine Wx.gnoB rfl rfl (congrArg Value.bool g_149) rfl rfl ?_
        refine Wx.rd (v := .bool false) (rd_pickF (congrArg Value.bool g_149) rfl) rfl ?_
        refine Wx.nil ⟨(), hS, ⟨?_, trivial⟩, Out.look rfl Out.refl⟩
        show Value.bool false = Value.bool (((((((((((decide ((0 : Int) = 0) && decide ((0 : Int) = 0)) && decide ((0 : Int) = 0)) && decide ((0 : Int) = 0)) && decide ((0 : Int) = 0)) && decide ((0 : Int) = 0)) && decide ((0 : Int) = 0)) && decide ((1 : Int) = 1)) && true) && decide ((2 : Int) = 2)) && true) && true)
        rw [g_149]; rfl
    rintro ⟨⟩ u_165 w_164 hS
    refine Wx.rd (v := .bool (((((((((((decide ((0 : Int) = 0) && decide ((0 : Int) = 0)) && decide ((0 : Int) = 0)) && decide ((0 : Int) = 0)) && decide ((0 : Int) = 0)) && decide ((0 : Int) = 0)) && decide ((0 : Int) = 0)) && decide ((1 : Int) = 1)) && true) && decide ((2 : Int) = 2)) && true) && true)) (rd_move rfl) rfl ?_
    refine Wx.cut (X := Unit) 3 [148, 149, 150] (fun _ => [(150, .bool ((((((((((((decide ((0 : Int) = 0) && decide ((0 : Int) = 0)) && decide ((0 : Int) = 0)) && decide ((0 : Int) = 0)) && decide ((0 : Int) = 0)) && decide ((0 : Int) = 0)) && decide ((0 : Int) = 0)) && decide ((1 : Int) = 1)) && true) && decide ((2 : Int) = 2)) && true) && true) && true))]) (fun _ w' => St w O w' [Ob.v (tSl (tP (tI .i64) (tI .i64))) (stepsV rP) v_22, .row (tP (tI .i64) (tI .i64)) 58 v_16 (forcedP rP), .row (tP (tI .i64) (tI .i64)) 58 v_7 (firstV rR)]) ?_ ?_
    · rcases Bool.eq_false_or_eq_true (((((((((((decide ((0 : Int) = 0) && decide ((0 : Int) = 0)) && decide ((0 : Int) = 0)) && decide ((0 : Int) = 0)) && decide ((0 : Int) = 0)) && decide ((0 : Int) = 0)) && decide ((0 : Int) = 0)) && decide ((1 : Int) = 1)) && true) && decide ((2 : Int) = 2)) && true) && true) with g_166 | g_166
      · -- True
        have gp_167 := g_166
        try simp only [Bool.and_eq_true, Bool.or_eq_true, Bool.not_eq_true', Bool.and_eq_false_iff, Bool.or_eq_false_iff, Bool.not_eq_false', decide_eq_true_eq, decide_eq_false_iff_not, not_or, Bool.false_eq_true, Bool.true_eq_false, false_or, or_false, not_false_eq_true] at gp_167
        refine Wx.gyes rfl rfl (congrArg Value.bool g_166) ?_
        refine Wx.rd (v := .string (restE rQ)) (rd_move rfl) rfl ?_
        refine Wx.gyes rfl rfl (congrArg Value.bool g_166) ?_
        refine Wx.rd (v := .bool true) (Rd.to (v := .bool ((restE rQ) == rQ)) (rd_eqlS rfl rfl) (congrArg (Value.bool) (show (true : Bool) = ((restE rQ) == rQ : Bool) from (by decide +kernel)).symm)) rfl ?_
        refine Wx.rd (v := .bool true) (rd_pickT (congrArg Value.bool g_166) rfl) rfl ?_
        refine Wx.nil ⟨(), hS, ⟨?_, trivial⟩, Out.look rfl Out.refl⟩
        show Value.bool true = Value.bool ((((((((((((decide ((0 : Int) = 0) && decide ((0 : Int) = 0)) && decide ((0 : Int) = 0)) && decide ((0 : Int) = 0)) && decide ((0 : Int) = 0)) && decide ((0 : Int) = 0)) && decide ((0 : Int) = 0)) && decide ((1 : Int) = 1)) && true) && decide ((2 : Int) = 2)) && true) && true) && true)
        rw [g_166]; rfl
      · -- False
        have gp_168 := g_166
        try simp only [Bool.and_eq_true, Bool.or_eq_true, Bool.not_eq_true', Bool.and_eq_false_iff, Bool.or_eq_false_iff, Bool.not_eq_false', decide_eq_true_eq, decide_eq_false_iff_not, not_or, Bool.false_eq_true, Bool.true_eq_false, false_or, or_false, not_false_eq_true] at gp_168
        refine Wx.gnoB rfl rfl (congrArg Value.bool g_166) rfl rfl ?_
        refine Wx.gnoB rfl rfl (congrArg Value.bool g_166) rfl rfl ?_
        refine Wx.rd (v := .bool false) (rd_pickF (congrArg Value.bool g_166) rfl) rfl ?_
        refine Wx.nil ⟨(), hS, ⟨?_, trivial⟩, Out.look rfl Out.refl⟩
        show Value.bool false = Value.bool ((((((((((((decide ((0 : Int) = 0) && decide ((0 : Int) = 0)) && decide ((0 : Int) = 0)) && decide ((0 : Int) = 0)) && decide ((0 : Int) = 0)) && decide ((0 : Int) = 0)) && decide ((0 : Int) = 0)) && decide ((1 : Int) = 1)) && true) && decide ((2 : Int) = 2)) && true) && true) && true)
        rw [g_166]; rfl
    rintro ⟨⟩ u_170 w_169 hS
    refine Wx.rd (v := .bool ((((((((((((decide ((0 : Int) = 0) && decide ((0 : Int) = 0)) && decide ((0 : Int) = 0)) && decide ((0 : Int) = 0)) && decide ((0 : Int) = 0)) && decide ((0 : Int) = 0)) && decide ((0 : Int) = 0)) && decide ((1 : Int) = 1)) && true) && decide ((2 : Int) = 2)) && true) && true) && true)) (rd_move rfl) rfl ?_
    refine Wx.cut (X := Unit) 2 [152, 153] (fun _ => [(153, .bool (((((((((((((decide ((0 : Int) = 0) && decide ((0 : Int) = 0)) && decide ((0 : Int) = 0)) && decide ((0 : Int) = 0)) && decide ((0 : Int) = 0)) && decide ((0 : Int) = 0)) && decide ((0 : Int) = 0)) && decide ((1 : Int) = 1)) && true) && decide ((2 : Int) = 2)) && true) && true) && true) && true))]) (fun _ w' => St w O w' [Ob.v (tSl (tP (tI .i64) (tI .i64))) (stepsV rP) v_22, .row (tP (tI .i64) (tI .i64)) 58 v_16 (forcedP rP), .row (tP (tI .i64) (tI .i64)) 58 v_7 (firstV rR)]) ?_ ?_
    · rcases Bool.eq_false_or_eq_true ((((((((((((decide ((0 : Int) = 0) && decide ((0 : Int) = 0)) && decide ((0 : Int) = 0)) && decide ((0 : Int) = 0)) && decide ((0 : Int) = 0)) && decide ((0 : Int) = 0)) && decide ((0 : Int) = 0)) && decide ((1 : Int) = 1)) && true) && decide ((2 : Int) = 2)) && true) && true) && true) with g_171 | g_171
      · -- True
        have gp_172 := g_171
        try simp only [Bool.and_eq_true, Bool.or_eq_true, Bool.not_eq_true', Bool.and_eq_false_iff, Bool.or_eq_false_iff, Bool.not_eq_false', decide_eq_true_eq, decide_eq_false_iff_not, not_or, Bool.false_eq_true, Bool.true_eq_false, false_or, or_false, not_false_eq_true] at gp_172
        refine Wx.gyes rfl rfl (congrArg Value.bool g_171) ?_
        refine Wx.rd (v := .bool true) (rd_move rfl) rfl ?_
        refine Wx.rd (v := .bool true) (rd_pickT (congrArg Value.bool g_171) rfl) rfl ?_
        refine Wx.nil ⟨(), hS, ⟨?_, trivial⟩, Out.look rfl Out.refl⟩
        show Value.bool true = Value.bool (((((((((((((decide ((0 : Int) = 0) && decide ((0 : Int) = 0)) && decide ((0 : Int) = 0)) && decide ((0 : Int) = 0)) && decide ((0 : Int) = 0)) && decide ((0 : Int) = 0)) && decide ((0 : Int) = 0)) && decide ((1 : Int) = 1)) && true) && decide ((2 : Int) = 2)) && true) && true) && true) && true)
        rw [g_171]; rfl
      · -- False
        have gp_173 := g_171
        try simp only [Bool.and_eq_true, Bool.or_eq_true, Bool.not_eq_true', Bool.and_eq_false_iff, Bool.or_eq_false_iff, Bool.not_eq_false', decide_eq_true_eq, decide_eq_false_iff_not, not_or, Bool.false_eq_true, Bool.true_eq_false, false_or, or_false, not_false_eq_true] at gp_173
        refine Wx.gnoB rfl rfl (congrArg Value.bool g_171) rfl rfl ?_
        refine Wx.rd (v := .bool false) (rd_pickF (congrArg Value.bool g_171) rfl) rfl ?_
        refine Wx.nil ⟨(), hS, ⟨?_, trivial⟩, Out.look rfl Out.refl⟩
        show Value.bool false = Value.bool (((((((((((((decide ((0 : Int) = 0) && decide ((0 : Int) = 0)) && decide ((0 : Int) = 0)) && decide ((0 : Int) = 0)) && decide ((0 : Int) = 0)) && decide ((0 : Int) = 0)) && decide ((0 : Int) = 0)) && decide ((1 : Int) = 1)) && true) && decide ((2 : Int) = 2)) && true) && true) && true) && true)
        rw [g_171]; rfl
    rintro ⟨⟩ u_175 w_174 hS
    refine Wx.rd (v := .bool (((((((((((((decide ((0 : Int) = 0) && decide ((0 : Int) = 0)) && decide ((0 : Int) = 0)) && decide ((0 : Int) = 0)) && decide ((0 : Int) = 0)) && decide ((0 : Int) = 0)) && decide ((0 : Int) = 0)) && decide ((1 : Int) = 1)) && true) && decide ((2 : Int) = 2)) && true) && true) && true) && true)) (rd_move rfl) rfl ?_
    refine Wx.cut (X := Unit) 3 [155, 156, 157] (fun _ => [(157, .bool ((((((((((((((decide ((0 : Int) = 0) && decide ((0 : Int) = 0)) && decide ((0 : Int) = 0)) && decide ((0 : Int) = 0)) && decide ((0 : Int) = 0)) && decide ((0 : Int) = 0)) && decide ((0 : Int) = 0)) && decide ((1 : Int) = 1)) && true) && decide ((2 : Int) = 2)) && true) && true) && true) && true) && !false))]) (fun _ w' => St w O w' [Ob.v (tSl (tP (tI .i64) (tI .i64))) (stepsV rP) v_22, .row (tP (tI .i64) (tI .i64)) 58 v_16 (forcedP rP), .row (tP (tI .i64) (tI .i64)) 58 v_7 (firstV rR)]) ?_ ?_
    · rcases Bool.eq_false_or_eq_true (((((((((((((decide ((0 : Int) = 0) && decide ((0 : Int) = 0)) && decide ((0 : Int) = 0)) && decide ((0 : Int) = 0)) && decide ((0 : Int) = 0)) && decide ((0 : Int) = 0)) && decide ((0 : Int) = 0)) && decide ((1 : Int) = 1)) && true) && decide ((2 : Int) = 2)) && true) && true) && true) && true) with g_176 | g_176
      · -- True
        have gp_177 := g_176
        try simp only [Bool.and_eq_true, Bool.or_eq_true, Bool.not_eq_true', Bool.and_eq_false_iff, Bool.or_eq_false_iff, Bool.not_eq_false', decide_eq_true_eq, decide_eq_false_iff_not, not_or, Bool.false_eq_true, Bool.true_eq_false, false_or, or_false, not_false_eq_true] at gp_177
        refine Wx.gyes rfl rfl (congrArg Value.bool g_176) ?_
        refine Wx.rd (v := .bool false) (rd_move rfl) rfl ?_
        refine Wx.gyes rfl rfl (congrArg Value.bool g_176) ?_
        refine Wx.rd (v := .bool (!false)) (rd_not rfl) rfl ?_
        refine Wx.rd (v := .bool (!false)) (rd_pickT (congrArg Value.bool g_176) rfl) rfl ?_
        refine Wx.nil ⟨(), hS, ⟨?_, trivial⟩, Out.look rfl Out.refl⟩
        show Value.bool (!false) = Value.bool ((((((((((((((decide ((0 : Int) = 0) && decide ((0 : Int) = 0)) && decide ((0 : Int) = 0)) && decide ((0 : Int) = 0)) && decide ((0 : Int) = 0)) && decide ((0 : Int) = 0)) && decide ((0 : Int) = 0)) && decide ((1 : Int) = 1)) && true) && decide ((2 : Int) = 2)) && true) && true) && true) && true) && !false)
        rw [g_176]; rfl
      · -- False
        have gp_178 := g_176
        try simp only [Bool.and_eq_true, Bool.or_eq_true, Bool.not_eq_true', Bool.and_eq_false_iff, Bool.or_eq_false_iff, Bool.not_eq_false', decide_eq_true_eq, decide_eq_false_iff_not, not_or, Bool.false_eq_true, Bool.true_eq_false, false_or, or_false, not_false_eq_true] at gp_178
        refine Wx.gnoB rfl rfl (congrArg Value.bool g_176) rfl rfl ?_
        refine Wx.gnoB rfl rfl (congrArg Value.bool g_176) rfl rfl ?_
        refine Wx.rd (v := .bool false) (rd_pickF (congrArg Value.bool g_176) rfl) rfl ?_
        refine Wx.nil ⟨(), hS, ⟨?_, trivial⟩, Out.look rfl Out.refl⟩
        show Value.bool false = Value.bool ((((((((((((((decide ((0 : Int) = 0) && decide ((0 : Int) = 0)) && decide ((0 : Int) = 0)) && decide ((0 : Int) = 0)) && decide ((0 : Int) = 0)) && decide ((0 : Int) = 0)) && decide ((0 : Int) = 0)) && decide ((1 : Int) = 1)) && true) && decide ((2 : Int) = 2)) && true) && true) && true) && true) && !false)
        rw [g_176]; rfl
    rintro ⟨⟩ u_180 w_179 hS
    refine Wx.rd (v := .bool ((((((((((((((decide ((0 : Int) = 0) && decide ((0 : Int) = 0)) && decide ((0 : Int) = 0)) && decide ((0 : Int) = 0)) && decide ((0 : Int) = 0)) && decide ((0 : Int) = 0)) && decide ((0 : Int) = 0)) && decide ((1 : Int) = 1)) && true) && decide ((2 : Int) = 2)) && true) && true) && true) && true) && !false)) (rd_move rfl) rfl ?_
    refine Wx.cut (X := Unit) 3 [159, 160, 161] (fun _ => [(161, .bool (((((((((((((((decide ((0 : Int) = 0) && decide ((0 : Int) = 0)) && decide ((0 : Int) = 0)) && decide ((0 : Int) = 0)) && decide ((0 : Int) = 0)) && decide ((0 : Int) = 0)) && decide ((0 : Int) = 0)) && decide ((1 : Int) = 1)) && true) && decide ((2 : Int) = 2)) && true) && true) && true) && true) && !false) && true))]) (fun _ w' => St w O w' [Ob.v (tSl (tP (tI .i64) (tI .i64))) (stepsV rP) v_22, .row (tP (tI .i64) (tI .i64)) 58 v_16 (forcedP rP), .row (tP (tI .i64) (tI .i64)) 58 v_7 (firstV rR)]) ?_ ?_
    · rcases Bool.eq_false_or_eq_true ((((((((((((((decide ((0 : Int) = 0) && decide ((0 : Int) = 0)) && decide ((0 : Int) = 0)) && decide ((0 : Int) = 0)) && decide ((0 : Int) = 0)) && decide ((0 : Int) = 0)) && decide ((0 : Int) = 0)) && decide ((1 : Int) = 1)) && true) && decide ((2 : Int) = 2)) && true) && true) && true) && true) && !false) with g_181 | g_181
      · -- True
        have gp_182 := g_181
        try simp only [Bool.and_eq_true, Bool.or_eq_true, Bool.not_eq_true', Bool.and_eq_false_iff, Bool.or_eq_false_iff, Bool.not_eq_false', decide_eq_true_eq, decide_eq_false_iff_not, not_or, Bool.false_eq_true, Bool.true_eq_false, false_or, or_false, not_false_eq_true] at gp_182
        refine Wx.gyes rfl rfl (congrArg Value.bool g_181) ?_
        refine Wx.rd (v := .string (coreV r1)) (rd_move rfl) rfl ?_
        refine Wx.gyes rfl rfl (congrArg Value.bool g_181) ?_
        refine Wx.rd (v := .bool true) (Rd.to (v := .bool ((coreV r1) == ({ data := #[99] } : ByteArray))) (rd_eqlS rfl rfl) (congrArg (Value.bool) (show (true : Bool) = ((coreV r1) == ({ data := #[99] } : ByteArray) : Bool) from (by decide +kernel)).symm)) rfl ?_
        refine Wx.rd (v := .bool true) (rd_pickT (congrArg Value.bool g_181) rfl) rfl ?_
        refine Wx.nil ⟨(), hS, ⟨?_, trivial⟩, Out.look rfl Out.refl⟩
        show Value.bool true = Value.bool (((((((((((((((decide ((0 : Int) = 0) && decide ((0 : Int) = 0)) && decide ((0 : Int) = 0)) && decide ((0 : Int) = 0)) && decide ((0 : Int) = 0)) && decide ((0 : Int) = 0)) && decide ((0 : Int) = 0)) && decide ((1 : Int) = 1)) && true) && decide ((2 : Int) = 2)) && true) && true) && true) && true) && !false) && true)
        rw [g_181]; rfl
      · -- False
        have gp_183 := g_181
        try simp only [Bool.and_eq_true, Bool.or_eq_true, Bool.not_eq_true', Bool.and_eq_false_iff, Bool.or_eq_false_iff, Bool.not_eq_false', decide_eq_true_eq, decide_eq_false_iff_not, not_or, Bool.false_eq_true, Bool.true_eq_false, false_or, or_false, not_false_eq_true] at gp_183
        refine Wx.gnoB rfl rfl (congrArg Value.bool g_181) rfl rfl ?_
        refine Wx.gnoB rfl rfl (congrArg Value.bool g_181) rfl rfl ?_
        refine Wx.rd (v := .bool false) (rd_pickF (congrArg Value.bool g_181) rfl) rfl ?_
        refine Wx.nil ⟨(), hS, ⟨?_, trivial⟩, Out.look rfl Out.refl⟩
        show Value.bool false = Value.bool (((((((((((((((decide ((0 : Int) = 0) && decide ((0 : Int) = 0)) && decide ((0 : Int) = 0)) && decide ((0 : Int) = 0)) && decide ((0 : Int) = 0)) && decide ((0 : Int) = 0)) && decide ((0 : Int) = 0)) && decide ((1 : Int) = 1)) && true) && decide ((2 : Int) = 2)) && true) && true) && true) && true) && !false) && true)
        rw [g_181]; rfl
    rintro ⟨⟩ u_185 w_184 hS
    refine Wx.rd (v := .bool (((((((((((((((decide ((0 : Int) = 0) && decide ((0 : Int) = 0)) && decide ((0 : Int) = 0)) && decide ((0 : Int) = 0)) && decide ((0 : Int) = 0)) && decide ((0 : Int) = 0)) && decide ((0 : Int) = 0)) && decide ((1 : Int) = 1)) && true) && decide ((2 : Int) = 2)) && true) && true) && true) && true) && !false) && true)) (rd_move rfl) rfl ?_
    refine Wx.cut (X := Unit) 3 [163, 164, 165] (fun _ => [(165, .bool ((((((((((((((((decide ((0 : Int) = 0) && decide ((0 : Int) = 0)) && decide ((0 : Int) = 0)) && decide ((0 : Int) = 0)) && decide ((0 : Int) = 0)) && decide ((0 : Int) = 0)) && decide ((0 : Int) = 0)) && decide ((1 : Int) = 1)) && true) && decide ((2 : Int) = 2)) && true) && true) && true) && true) && !false) && true) && true))]) (fun _ w' => St w O w' [Ob.v (tSl (tP (tI .i64) (tI .i64))) (stepsV rP) v_22, .row (tP (tI .i64) (tI .i64)) 58 v_16 (forcedP rP), .row (tP (tI .i64) (tI .i64)) 58 v_7 (firstV rR)]) ?_ ?_
    · rcases Bool.eq_false_or_eq_true (((((((((((((((decide ((0 : Int) = 0) && decide ((0 : Int) = 0)) && decide ((0 : Int) = 0)) && decide ((0 : Int) = 0)) && decide ((0 : Int) = 0)) && decide ((0 : Int) = 0)) && decide ((0 : Int) = 0)) && decide ((1 : Int) = 1)) && true) && decide ((2 : Int) = 2)) && true) && true) && true) && true) && !false) && true) with g_186 | g_186
      · -- True
        have gp_187 := g_186
        try simp only [Bool.and_eq_true, Bool.or_eq_true, Bool.not_eq_true', Bool.and_eq_false_iff, Bool.or_eq_false_iff, Bool.not_eq_false', decide_eq_true_eq, decide_eq_false_iff_not, not_or, Bool.false_eq_true, Bool.true_eq_false, false_or, or_false, not_false_eq_true] at gp_187
        refine Wx.gyes rfl rfl (congrArg Value.bool g_186) ?_
        refine Wx.rd (v := .string (turnS rQ 1)) (rd_move rfl) rfl ?_
        refine Wx.gyes rfl rfl (congrArg Value.bool g_186) ?_
        refine Wx.rd (v := .bool true) (Rd.to (v := .bool ((turnS rQ 1) == ({ data := #[98, 65, 66, 97] } : ByteArray))) (rd_eqlS rfl rfl) (congrArg (Value.bool) (show (true : Bool) = ((turnS rQ 1) == ({ data := #[98, 65, 66, 97] } : ByteArray) : Bool) from (by decide +kernel)).symm)) rfl ?_
        refine Wx.rd (v := .bool true) (rd_pickT (congrArg Value.bool g_186) rfl) rfl ?_
        refine Wx.nil ⟨(), hS, ⟨?_, trivial⟩, Out.look rfl Out.refl⟩
        show Value.bool true = Value.bool ((((((((((((((((decide ((0 : Int) = 0) && decide ((0 : Int) = 0)) && decide ((0 : Int) = 0)) && decide ((0 : Int) = 0)) && decide ((0 : Int) = 0)) && decide ((0 : Int) = 0)) && decide ((0 : Int) = 0)) && decide ((1 : Int) = 1)) && true) && decide ((2 : Int) = 2)) && true) && true) && true) && true) && !false) && true) && true)
        rw [g_186]; rfl
      · -- False
        have gp_188 := g_186
        try simp only [Bool.and_eq_true, Bool.or_eq_true, Bool.not_eq_true', Bool.and_eq_false_iff, Bool.or_eq_false_iff, Bool.not_eq_false', decide_eq_true_eq, decide_eq_false_iff_not, not_or, Bool.false_eq_true, Bool.true_eq_false, false_or, or_false, not_false_eq_true] at gp_188
        refine Wx.gnoB rfl rfl (congrArg Value.bool g_186) rfl rfl ?_
        refine Wx.gnoB rfl rfl (congrArg Value.bool g_186) rfl rfl ?_
        refine Wx.rd (v := .bool false) (rd_pickF (congrArg Value.bool g_186) rfl) rfl ?_
        refine Wx.nil ⟨(), hS, ⟨?_, trivial⟩, Out.look rfl Out.refl⟩
        show Value.bool false = Value.bool ((((((((((((((((decide ((0 : Int) = 0) && decide ((0 : Int) = 0)) && decide ((0 : Int) = 0)) && decide ((0 : Int) = 0)) && decide ((0 : Int) = 0)) && decide ((0 : Int) = 0)) && decide ((0 : Int) = 0)) && decide ((1 : Int) = 1)) && true) && decide ((2 : Int) = 2)) && true) && true) && true) && true) && !false) && true) && true)
        rw [g_186]; rfl
    rintro ⟨⟩ u_190 w_189 hS
    refine Wx.rd (v := .bool ((((((((((((((((decide ((0 : Int) = 0) && decide ((0 : Int) = 0)) && decide ((0 : Int) = 0)) && decide ((0 : Int) = 0)) && decide ((0 : Int) = 0)) && decide ((0 : Int) = 0)) && decide ((0 : Int) = 0)) && decide ((1 : Int) = 1)) && true) && decide ((2 : Int) = 2)) && true) && true) && true) && true) && !false) && true) && true)) (rd_move rfl) rfl ?_
    refine Wx.cut (X := Unit) 3 [167, 168, 169] (fun _ => [(169, .bool (((((((((((((((((decide ((0 : Int) = 0) && decide ((0 : Int) = 0)) && decide ((0 : Int) = 0)) && decide ((0 : Int) = 0)) && decide ((0 : Int) = 0)) && decide ((0 : Int) = 0)) && decide ((0 : Int) = 0)) && decide ((1 : Int) = 1)) && true) && decide ((2 : Int) = 2)) && true) && true) && true) && true) && !false) && true) && true) && true))]) (fun _ w' => St w O w' [Ob.v (tSl (tP (tI .i64) (tI .i64))) (stepsV rP) v_22, .row (tP (tI .i64) (tI .i64)) 58 v_16 (forcedP rP), .row (tP (tI .i64) (tI .i64)) 58 v_7 (firstV rR)]) ?_ ?_
    · rcases Bool.eq_false_or_eq_true ((((((((((((((((decide ((0 : Int) = 0) && decide ((0 : Int) = 0)) && decide ((0 : Int) = 0)) && decide ((0 : Int) = 0)) && decide ((0 : Int) = 0)) && decide ((0 : Int) = 0)) && decide ((0 : Int) = 0)) && decide ((1 : Int) = 1)) && true) && decide ((2 : Int) = 2)) && true) && true) && true) && true) && !false) && true) && true) with g_191 | g_191
      · -- True
        have gp_192 := g_191
        try simp only [Bool.and_eq_true, Bool.or_eq_true, Bool.not_eq_true', Bool.and_eq_false_iff, Bool.or_eq_false_iff, Bool.not_eq_false', decide_eq_true_eq, decide_eq_false_iff_not, not_or, Bool.false_eq_true, Bool.true_eq_false, false_or, or_false, not_false_eq_true] at gp_192
        refine Wx.gyes rfl rfl (congrArg Value.bool g_191) ?_
        refine Wx.rd (v := .string (oppV r2)) (rd_move rfl) rfl ?_
        refine Wx.gyes rfl rfl (congrArg Value.bool g_191) ?_
        refine Wx.rd (v := .bool true) (Rd.to (v := .bool ((oppV r2) == ({ data := #[99, 66, 65] } : ByteArray))) (rd_eqlS rfl rfl) (congrArg (Value.bool) (show (true : Bool) = ((oppV r2) == ({ data := #[99, 66, 65] } : ByteArray) : Bool) from (by decide +kernel)).symm)) rfl ?_
        refine Wx.rd (v := .bool true) (rd_pickT (congrArg Value.bool g_191) rfl) rfl ?_
        refine Wx.nil ⟨(), hS, ⟨?_, trivial⟩, Out.look rfl Out.refl⟩
        show Value.bool true = Value.bool (((((((((((((((((decide ((0 : Int) = 0) && decide ((0 : Int) = 0)) && decide ((0 : Int) = 0)) && decide ((0 : Int) = 0)) && decide ((0 : Int) = 0)) && decide ((0 : Int) = 0)) && decide ((0 : Int) = 0)) && decide ((1 : Int) = 1)) && true) && decide ((2 : Int) = 2)) && true) && true) && true) && true) && !false) && true) && true) && true)
        rw [g_191]; rfl
      · -- False
        have gp_193 := g_191
        try simp only [Bool.and_eq_true, Bool.or_eq_true, Bool.not_eq_true', Bool.and_eq_false_iff, Bool.or_eq_false_iff, Bool.not_eq_false', decide_eq_true_eq, decide_eq_false_iff_not, not_or, Bool.false_eq_true, Bool.true_eq_false, false_or, or_false, not_false_eq_true] at gp_193
        refine Wx.gnoB rfl rfl (congrArg Value.bool g_191) rfl rfl ?_
        refine Wx.gnoB rfl rfl (congrArg Value.bool g_191) rfl rfl ?_
        refine Wx.rd (v := .bool false) (rd_pickF (congrArg Value.bool g_191) rfl) rfl ?_
        refine Wx.nil ⟨(), hS, ⟨?_, trivial⟩, Out.look rfl Out.refl⟩
        show Value.bool false = Value.bool (((((((((((((((((decide ((0 : Int) = 0) && decide ((0 : Int) = 0)) && decide ((0 : Int) = 0)) && decide ((0 : Int) = 0)) && decide ((0 : Int) = 0)) && decide ((0 : Int) = 0)) && decide ((0 : Int) = 0)) && decide ((1 : Int) = 1)) && true) && decide ((2 : Int) = 2)) && true) && true) && true) && true) && !false) && true) && true) && true)
        rw [g_191]; rfl
    rintro ⟨⟩ u_195 w_194 hS
    refine Wx.rd (v := .bool (((((((((((((((((decide ((0 : Int) = 0) && decide ((0 : Int) = 0)) && decide ((0 : Int) = 0)) && decide ((0 : Int) = 0)) && decide ((0 : Int) = 0)) && decide ((0 : Int) = 0)) && decide ((0 : Int) = 0)) && decide ((1 : Int) = 1)) && true) && decide ((2 : Int) = 2)) && true) && true) && true) && true) && !false) && true) && true) && true)) (rd_move rfl) rfl ?_
    refine Wx.cut (X := Unit) 2 [171, 172] (fun _ => [(172, .bool ((((((((((((((((((decide ((0 : Int) = 0) && decide ((0 : Int) = 0)) && decide ((0 : Int) = 0)) && decide ((0 : Int) = 0)) && decide ((0 : Int) = 0)) && decide ((0 : Int) = 0)) && decide ((0 : Int) = 0)) && decide ((1 : Int) = 1)) && true) && decide ((2 : Int) = 2)) && true) && true) && true) && true) && !false) && true) && true) && true) && true))]) (fun _ w' => St w O w' [Ob.v (tSl (tP (tI .i64) (tI .i64))) (stepsV rP) v_22, .row (tP (tI .i64) (tI .i64)) 58 v_16 (forcedP rP), .row (tP (tI .i64) (tI .i64)) 58 v_7 (firstV rR)]) ?_ ?_
    · rcases Bool.eq_false_or_eq_true (((((((((((((((((decide ((0 : Int) = 0) && decide ((0 : Int) = 0)) && decide ((0 : Int) = 0)) && decide ((0 : Int) = 0)) && decide ((0 : Int) = 0)) && decide ((0 : Int) = 0)) && decide ((0 : Int) = 0)) && decide ((1 : Int) = 1)) && true) && decide ((2 : Int) = 2)) && true) && true) && true) && true) && !false) && true) && true) && true) with g_196 | g_196
      · -- True
        have gp_197 := g_196
        try simp only [Bool.and_eq_true, Bool.or_eq_true, Bool.not_eq_true', Bool.and_eq_false_iff, Bool.or_eq_false_iff, Bool.not_eq_false', decide_eq_true_eq, decide_eq_false_iff_not, not_or, Bool.false_eq_true, Bool.true_eq_false, false_or, or_false, not_false_eq_true] at gp_197
        refine Wx.gyes rfl rfl (congrArg Value.bool g_196) ?_
        refine Wx.rd (v := .bool true) (rd_move rfl) rfl ?_
        refine Wx.rd (v := .bool true) (rd_pickT (congrArg Value.bool g_196) rfl) rfl ?_
        refine Wx.nil ⟨(), hS, ⟨?_, trivial⟩, Out.look rfl Out.refl⟩
        show Value.bool true = Value.bool ((((((((((((((((((decide ((0 : Int) = 0) && decide ((0 : Int) = 0)) && decide ((0 : Int) = 0)) && decide ((0 : Int) = 0)) && decide ((0 : Int) = 0)) && decide ((0 : Int) = 0)) && decide ((0 : Int) = 0)) && decide ((1 : Int) = 1)) && true) && decide ((2 : Int) = 2)) && true) && true) && true) && true) && !false) && true) && true) && true) && true)
        rw [g_196]; rfl
      · -- False
        have gp_198 := g_196
        try simp only [Bool.and_eq_true, Bool.or_eq_true, Bool.not_eq_true', Bool.and_eq_false_iff, Bool.or_eq_false_iff, Bool.not_eq_false', decide_eq_true_eq, decide_eq_false_iff_not, not_or, Bool.false_eq_true, Bool.true_eq_false, false_or, or_false, not_false_eq_true] at gp_198
        refine Wx.gnoB rfl rfl (congrArg Value.bool g_196) rfl rfl ?_
        refine Wx.rd (v := .bool false) (rd_pickF (congrArg Value.bool g_196) rfl) rfl ?_
        refine Wx.nil ⟨(), hS, ⟨?_, trivial⟩, Out.look rfl Out.refl⟩
        show Value.bool false = Value.bool ((((((((((((((((((decide ((0 : Int) = 0) && decide ((0 : Int) = 0)) && decide ((0 : Int) = 0)) && decide ((0 : Int) = 0)) && decide ((0 : Int) = 0)) && decide ((0 : Int) = 0)) && decide ((0 : Int) = 0)) && decide ((1 : Int) = 1)) && true) && decide ((2 : Int) = 2)) && true) && true) && true) && true) && !false) && true) && true) && true) && true)
        rw [g_196]; rfl
    rintro ⟨⟩ u_200 w_199 hS
    refine Wx.rd (v := .bool ((((((((((((((((((decide ((0 : Int) = 0) && decide ((0 : Int) = 0)) && decide ((0 : Int) = 0)) && decide ((0 : Int) = 0)) && decide ((0 : Int) = 0)) && decide ((0 : Int) = 0)) && decide ((0 : Int) = 0)) && decide ((1 : Int) = 1)) && true) && decide ((2 : Int) = 2)) && true) && true) && true) && true) && !false) && true) && true) && true) && true)) (rd_move rfl) rfl ?_
    refine Wx.cut (X := Unit) 3 [174, 175, 176] (fun _ => [(176, .bool (((((((((((((((((((decide ((0 : Int) = 0) && decide ((0 : Int) = 0)) && decide ((0 : Int) = 0)) && decide ((0 : Int) = 0)) && decide ((0 : Int) = 0)) && decide ((0 : Int) = 0)) && decide ((0 : Int) = 0)) && decide ((1 : Int) = 1)) && true) && decide ((2 : Int) = 2)) && true) && true) && true) && true) && !false) && true) && true) && true) && true) && !false))]) (fun _ w' => St w O w' [Ob.v (tSl (tP (tI .i64) (tI .i64))) (stepsV rP) v_22, .row (tP (tI .i64) (tI .i64)) 58 v_16 (forcedP rP), .row (tP (tI .i64) (tI .i64)) 58 v_7 (firstV rR)]) ?_ ?_
    · rcases Bool.eq_false_or_eq_true ((((((((((((((((((decide ((0 : Int) = 0) && decide ((0 : Int) = 0)) && decide ((0 : Int) = 0)) && decide ((0 : Int) = 0)) && decide ((0 : Int) = 0)) && decide ((0 : Int) = 0)) && decide ((0 : Int) = 0)) && decide ((1 : Int) = 1)) && true) && decide ((2 : Int) = 2)) && true) && true) && true) && true) && !false) && true) && true) && true) && true) with g_201 | g_201
      · -- True
        have gp_202 := g_201
        try simp only [Bool.and_eq_true, Bool.or_eq_true, Bool.not_eq_true', Bool.and_eq_false_iff, Bool.or_eq_false_iff, Bool.not_eq_false', decide_eq_true_eq, decide_eq_false_iff_not, not_or, Bool.false_eq_true, Bool.true_eq_false, false_or, or_false, not_false_eq_true] at gp_202
        refine Wx.gyes rfl rfl (congrArg Value.bool g_201) ?_
        refine Wx.rd (v := .bool false) (rd_move rfl) rfl ?_
        refine Wx.gyes rfl rfl (congrArg Value.bool g_201) ?_
        refine Wx.rd (v := .bool (!false)) (rd_not rfl) rfl ?_
        refine Wx.rd (v := .bool (!false)) (rd_pickT (congrArg Value.bool g_201) rfl) rfl ?_
        refine Wx.nil ⟨(), hS, ⟨?_, trivial⟩, Out.look rfl Out.refl⟩
        show Value.bool (!false) = Value.bool (((((((((((((((((((decide ((0 : Int) = 0) && decide ((0 : Int) = 0)) && decide ((0 : Int) = 0)) && decide ((0 : Int) = 0)) && decide ((0 : Int) = 0)) && decide ((0 : Int) = 0)) && decide ((0 : Int) = 0)) && decide ((1 : Int) = 1)) && true) && decide ((2 : Int) = 2)) && true) && true) && true) && true) && !false) && true) && true) && true) && true) && !false)
        rw [g_201]; rfl
      · -- False
        have gp_203 := g_201
        try simp only [Bool.and_eq_true, Bool.or_eq_true, Bool.not_eq_true', Bool.and_eq_false_iff, Bool.or_eq_false_iff, Bool.not_eq_false', decide_eq_true_eq, decide_eq_false_iff_not, not_or, Bool.false_eq_true, Bool.true_eq_false, false_or, or_false, not_false_eq_true] at gp_203
        refine Wx.gnoB rfl rfl (congrArg Value.bool g_201) rfl rfl ?_
        refine Wx.gnoB rfl rfl (congrArg Value.bool g_201) rfl rfl ?_
        refine Wx.rd (v := .bool false) (rd_pickF (congrArg Value.bool g_201) rfl) rfl ?_
        refine Wx.nil ⟨(), hS, ⟨?_, trivial⟩, Out.look rfl Out.refl⟩
        show Value.bool false = Value.bool (((((((((((((((((((decide ((0 : Int) = 0) && decide ((0 : Int) = 0)) && decide ((0 : Int) = 0)) && decide ((0 : Int) = 0)) && decide ((0 : Int) = 0)) && decide ((0 : Int) = 0)) && decide ((0 : Int) = 0)) && decide ((1 : Int) = 1)) && true) && decide ((2 : Int) = 2)) && true) && true) && true) && true) && !false) && true) && true) && true) && true) && !false)
        rw [g_201]; rfl
    rintro ⟨⟩ u_205 w_204 hS
    refine Wx.rd (v := .bool (((((((((((((((((((decide ((0 : Int) = 0) && decide ((0 : Int) = 0)) && decide ((0 : Int) = 0)) && decide ((0 : Int) = 0)) && decide ((0 : Int) = 0)) && decide ((0 : Int) = 0)) && decide ((0 : Int) = 0)) && decide ((1 : Int) = 1)) && true) && decide ((2 : Int) = 2)) && true) && true) && true) && true) && !false) && true) && true) && true) && true) && !false)) (rd_move rfl) rfl ?_
    refine Wx.cut (X := Unit) 5 [178, 179, 180, 181, 182] (fun _ => [(182, .bool ((((((((((((((((((((decide ((0 : Int) = 0) && decide ((0 : Int) = 0)) && decide ((0 : Int) = 0)) && decide ((0 : Int) = 0)) && decide ((0 : Int) = 0)) && decide ((0 : Int) = 0)) && decide ((0 : Int) = 0)) && decide ((1 : Int) = 1)) && true) && decide ((2 : Int) = 2)) && true) && true) && true) && true) && !false) && true) && true) && true) && true) && !false) && true))]) (fun _ w' => St w O w' [Ob.v (tSl (tP (tI .i64) (tI .i64))) (stepsV rP) v_22, .row (tP (tI .i64) (tI .i64)) 58 v_16 (forcedP rP), .row (tP (tI .i64) (tI .i64)) 58 v_7 (firstV rR)]) ?_ ?_
    · rcases Bool.eq_false_or_eq_true (((((((((((((((((((decide ((0 : Int) = 0) && decide ((0 : Int) = 0)) && decide ((0 : Int) = 0)) && decide ((0 : Int) = 0)) && decide ((0 : Int) = 0)) && decide ((0 : Int) = 0)) && decide ((0 : Int) = 0)) && decide ((1 : Int) = 1)) && true) && decide ((2 : Int) = 2)) && true) && true) && true) && true) && !false) && true) && true) && true) && true) && !false) with g_206 | g_206
      · -- True
        have gp_207 := g_206
        try simp only [Bool.and_eq_true, Bool.or_eq_true, Bool.not_eq_true', Bool.and_eq_false_iff, Bool.or_eq_false_iff, Bool.not_eq_false', decide_eq_true_eq, decide_eq_false_iff_not, not_or, Bool.false_eq_true, Bool.true_eq_false, false_or, or_false, not_false_eq_true] at gp_207
        refine Wx.gyes rfl rfl (congrArg Value.bool g_206) ?_
        refine Wx.lit (t := (tI .i64)) (ys := [0, 3, 1, 2]) (vs := [.int .i64 0, .int .i64 3, .int .i64 1, .int .i64 2]) elHm_60 hS rfl rfl ⟨(V.mkInt (in_i64 (by omega) (by omega))), ⟨(V.mkInt (in_i64 (by omega) (by omega))), ⟨(V.mkInt (in_i64 (by omega) (by omega))), ⟨(V.mkInt (in_i64 (by omega) (by omega))), trivial⟩⟩⟩⟩ (by decide) rfl (fun v_208 w_209 hx_210 hS => ?_)
        refine Wx.gyes rfl rfl (congrArg Value.bool g_206) ?_
        have hS := hS.freeze 0 rfl
        refine Wx.callF (run_callF Tryd.call48 rfl) (F48 (hS.v 0 rfl) (by decide) hS.fb_lt) rfl ?_
        rintro r_212 w_213 hx_214 ⟨_, rfl, hv_215⟩
        have hS := hS.pushFr hx_214 hv_215
        refine Wx.gyes rfl rfl (congrArg Value.bool g_206) ?_
        refine Wx.callF (run_callF Tryd.call19 rfl) (F19 (by first | assumption | (simp only [maxLen]; omega) | (simp only [ByteArray.size_extract, ByteArray.size_append, maxLen] at *; omega) | decide) (hS.lend 0 rfl) (hG.ext hS.bel)) rfl ?_
        rintro r_217 w_218 hx_219 rfl
        have hS := hS.ext hx_219
        refine Wx.gyes rfl rfl (congrArg Value.bool g_206) ?_
        refine Wx.rd (v := .bool true) (Rd.to (v := .bool (decide ((validE rP (pairsU [0, 3, 1, 2])) = 0))) (rd_eql rfl rfl) (congrArg (Value.bool) (show (true : Bool) = (decide ((validE rP (pairsU [0, 3, 1, 2])) = 0) : Bool) from (by decide +kernel)).symm)) rfl ?_
        refine Wx.rd (v := .bool true) (rd_pickT (congrArg Value.bool g_206) rfl) rfl ?_
        refine Wx.nil ⟨(), St.tl (hS.tl), ⟨?_, trivial⟩, Out.look rfl Out.refl⟩
        show Value.bool true = Value.bool ((((((((((((((((((((decide ((0 : Int) = 0) && decide ((0 : Int) = 0)) && decide ((0 : Int) = 0)) && decide ((0 : Int) = 0)) && decide ((0 : Int) = 0)) && decide ((0 : Int) = 0)) && decide ((0 : Int) = 0)) && decide ((1 : Int) = 1)) && true) && decide ((2 : Int) = 2)) && true) && true) && true) && true) && !false) && true) && true) && true) && true) && !false) && true)
        rw [g_206]; rfl
      · -- False
        have gp_220 := g_206
        try simp only [Bool.and_eq_true, Bool.or_eq_true, Bool.not_eq_true', Bool.and_eq_false_iff, Bool.or_eq_false_iff, Bool.not_eq_false', decide_eq_true_eq, decide_eq_false_iff_not, not_or, Bool.false_eq_true, Bool.true_eq_false, false_or, or_false, not_false_eq_true] at gp_220
        refine Wx.gnoB rfl rfl (congrArg Value.bool g_206) rfl rfl ?_
        refine Wx.gnoB rfl rfl (congrArg Value.bool g_206) rfl rfl ?_
        refine Wx.gnoB rfl rfl (congrArg Value.bool g_206) rfl rfl ?_
        refine Wx.gnoB rfl rfl (congrArg Value.bool g_206) rfl rfl ?_
        refine Wx.rd (v := .bool false) (rd_pickF (congrArg Value.bool g_206) rfl) rfl ?_
        refine Wx.nil ⟨(), hS, ⟨?_, trivial⟩, Out.look rfl Out.refl⟩
        show Value.bool false = Value.bool ((((((((((((((((((((decide ((0 : Int) = 0) && decide ((0 : Int) = 0)) && decide ((0 : Int) = 0)) && decide ((0 : Int) = 0)) && decide ((0 : Int) = 0)) && decide ((0 : Int) = 0)) && decide ((0 : Int) = 0)) && decide ((1 : Int) = 1)) && true) && decide ((2 : Int) = 2)) && true) && true) && true) && true) && !false) && true) && true) && true) && true) && !false) && true)
        rw [g_206]; rfl
    rintro ⟨⟩ u_222 w_221 hS
    refine Wx.rd (v := .bool ((((((((((((((((((((decide ((0 : Int) = 0) && decide ((0 : Int) = 0)) && decide ((0 : Int) = 0)) && decide ((0 : Int) = 0)) && decide ((0 : Int) = 0)) && decide ((0 : Int) = 0)) && decide ((0 : Int) = 0)) && decide ((1 : Int) = 1)) && true) && decide ((2 : Int) = 2)) && true) && true) && true) && true) && !false) && true) && true) && true) && true) && !false) && true)) (rd_move rfl) rfl ?_
    refine Wx.cut (X := Unit) 5 [184, 185, 186, 187, 188] (fun _ => [(188, .bool (((((((((((((((((((((decide ((0 : Int) = 0) && decide ((0 : Int) = 0)) && decide ((0 : Int) = 0)) && decide ((0 : Int) = 0)) && decide ((0 : Int) = 0)) && decide ((0 : Int) = 0)) && decide ((0 : Int) = 0)) && decide ((1 : Int) = 1)) && true) && decide ((2 : Int) = 2)) && true) && true) && true) && true) && !false) && true) && true) && true) && true) && !false) && true) && true))]) (fun _ w' => St w O w' [Ob.v (tSl (tP (tI .i64) (tI .i64))) (stepsV rP) v_22, .row (tP (tI .i64) (tI .i64)) 58 v_16 (forcedP rP), .row (tP (tI .i64) (tI .i64)) 58 v_7 (firstV rR)]) ?_ ?_
    · rcases Bool.eq_false_or_eq_true ((((((((((((((((((((decide ((0 : Int) = 0) && decide ((0 : Int) = 0)) && decide ((0 : Int) = 0)) && decide ((0 : Int) = 0)) && decide ((0 : Int) = 0)) && decide ((0 : Int) = 0)) && decide ((0 : Int) = 0)) && decide ((1 : Int) = 1)) && true) && decide ((2 : Int) = 2)) && true) && true) && true) && true) && !false) && true) && true) && true) && true) && !false) && true) with g_223 | g_223
      · -- True
        have gp_224 := g_223
        try simp only [Bool.and_eq_true, Bool.or_eq_true, Bool.not_eq_true', Bool.and_eq_false_iff, Bool.or_eq_false_iff, Bool.not_eq_false', decide_eq_true_eq, decide_eq_false_iff_not, not_or, Bool.false_eq_true, Bool.true_eq_false, false_or, or_false, not_false_eq_true] at gp_224
        refine Wx.gyes rfl rfl (congrArg Value.bool g_223) ?_
        refine Wx.lit (t := (tI .i64)) (ys := [0, 2, 1, 3]) (vs := [.int .i64 0, .int .i64 2, .int .i64 1, .int .i64 3]) elHm_60 hS rfl rfl ⟨(V.mkInt (in_i64 (by omega) (by omega))), ⟨(V.mkInt (in_i64 (by omega) (by omega))), ⟨(V.mkInt (in_i64 (by omega) (by omega))), ⟨(V.mkInt (in_i64 (by omega) (by omega))), trivial⟩⟩⟩⟩ (by decide) rfl (fun v_225 w_226 hx_227 hS => ?_)
        refine Wx.gyes rfl rfl (congrArg Value.bool g_223) ?_
        have hS := hS.freeze 0 rfl
        refine Wx.callF (run_callF Tryd.call48 rfl) (F48 (hS.v 0 rfl) (by decide) hS.fb_lt) rfl ?_
        rintro r_229 w_230 hx_231 ⟨_, rfl, hv_232⟩
        have hS := hS.pushFr hx_231 hv_232
        refine Wx.gyes rfl rfl (congrArg Value.bool g_223) ?_
        refine Wx.callF (run_callF Tryd.call19 rfl) (F19 (by first | assumption | (simp only [maxLen]; omega) | (simp only [ByteArray.size_extract, ByteArray.size_append, maxLen] at *; omega) | decide) (hS.lend 0 rfl) (hG.ext hS.bel)) rfl ?_
        rintro r_234 w_235 hx_236 rfl
        have hS := hS.ext hx_236
        refine Wx.gyes rfl rfl (congrArg Value.bool g_223) ?_
        refine Wx.rd (v := .bool true) (Rd.to (v := .bool (decide ((validE rQ (pairsU [0, 2, 1, 3])) = 5))) (rd_eql rfl rfl) (congrArg (Value.bool) (show (true : Bool) = (decide ((validE rQ (pairsU [0, 2, 1, 3])) = 5) : Bool) from (by decide +kernel)).symm)) rfl ?_
        refine Wx.rd (v := .bool true) (rd_pickT (congrArg Value.bool g_223) rfl) rfl ?_
        refine Wx.nil ⟨(), St.tl (hS.tl), ⟨?_, trivial⟩, Out.look rfl Out.refl⟩
        show Value.bool true = Value.bool (((((((((((((((((((((decide ((0 : Int) = 0) && decide ((0 : Int) = 0)) && decide ((0 : Int) = 0)) && decide ((0 : Int) = 0)) && decide ((0 : Int) = 0)) && decide ((0 : Int) = 0)) && decide ((0 : Int) = 0)) && decide ((1 : Int) = 1)) && true) && decide ((2 : Int) = 2)) && true) && true) && true) && true) && !false) && true) && true) && true) && true) && !false) && true) && true)
        rw [g_223]; rfl
      · -- False
        have gp_237 := g_223
        try simp only [Bool.and_eq_true, Bool.or_eq_true, Bool.not_eq_true', Bool.and_eq_false_iff, Bool.or_eq_false_iff, Bool.not_eq_false', decide_eq_true_eq, decide_eq_false_iff_not, not_or, Bool.false_eq_true, Bool.true_eq_false, false_or, or_false, not_false_eq_true] at gp_237
        refine Wx.gnoB rfl rfl (congrArg Value.bool g_223) rfl rfl ?_
        refine Wx.gnoB rfl rfl (congrArg Value.bool g_223) rfl rfl ?_
        refine Wx.gnoB rfl rfl (congrArg Value.bool g_223) rfl rfl ?_
        refine Wx.gnoB rfl rfl (congrArg Value.bool g_223) rfl rfl ?_
        refine Wx.rd (v := .bool false) (rd_pickF (congrArg Value.bool g_223) rfl) rfl ?_
        refine Wx.nil ⟨(), hS, ⟨?_, trivial⟩, Out.look rfl Out.refl⟩
        show Value.bool false = Value.bool (((((((((((((((((((((decide ((0 : Int) = 0) && decide ((0 : Int) = 0)) && decide ((0 : Int) = 0)) && decide ((0 : Int) = 0)) && decide ((0 : Int) = 0)) && decide ((0 : Int) = 0)) && decide ((0 : Int) = 0)) && decide ((1 : Int) = 1)) && true) && decide ((2 : Int) = 2)) && true) && true) && true) && true) && !false) && true) && true) && true) && true) && !false) && true) && true)
        rw [g_223]; rfl
    rintro ⟨⟩ u_239 w_238 hS
    refine Wx.rd (v := .bool (((((((((((((((((((((decide ((0 : Int) = 0) && decide ((0 : Int) = 0)) && decide ((0 : Int) = 0)) && decide ((0 : Int) = 0)) && decide ((0 : Int) = 0)) && decide ((0 : Int) = 0)) && decide ((0 : Int) = 0)) && decide ((1 : Int) = 1)) && true) && decide ((2 : Int) = 2)) && true) && true) && true) && true) && !false) && true) && true) && true) && true) && !false) && true) && true)) (rd_assign rfl) rfl ?_
    refine Wx.nil ?_
    have e1_0 : (((((((((((((((((((((decide ((0 : Int) = 0) && decide ((0 : Int) = 0)) && decide ((0 : Int) = 0)) && decide ((0 : Int) = 0)) && decide ((0 : Int) = 0)) && decide ((0 : Int) = 0)) && decide ((0 : Int) = 0)) && decide ((1 : Int) = 1)) && true) && decide ((2 : Int) = 2)) && true) && true) && true) && true) && !false) && true) && true) && true) && true) && !false) && true) && true) = true := by first | rfl | omega
    exact W.ret ⟨.bool (((((((((((((((((((((decide ((0 : Int) = 0) && decide ((0 : Int) = 0)) && decide ((0 : Int) = 0)) && decide ((0 : Int) = 0)) && decide ((0 : Int) = 0)) && decide ((0 : Int) = 0)) && decide ((0 : Int) = 0)) && decide ((1 : Int) = 1)) && true) && decide ((2 : Int) = 2)) && true) && true) && true) && true) && !false) && true) && true) && true) && true) && !false) && true) && true), ResIs.one, hS.bel, (by rw [e1_0])⟩
end Go.Proofs.YtokdjjebnomciaaDoor

namespace Go.Proofs.YtokdjjebnomciaaDoor
open Go.Wk Go.RowKit Go.Lib
set_option linter.unusedVariables false
set_option linter.unusedSimpArgs false
theorem mixedHq_ : Tryd.prog.follows .mixedOrders = true := by kernel_rfl
theorem elHq_60 : ElemI Tryd.prog 60 3 (.int .i64 0) 1 8 := ElemI.of Tryd.underlying60 (by kernel_rfl) (by first | rfl | kernel_rfl) (by decide)

theorem F58 {a : Int} {b : Int} {w : World} (i_a : InK .u8 a) (i_b : InK .u8 b) : Calls Tryd.prog 58 #[.int .u8 a, .int .u8 b] w (Ret w (fun r _ => r = .bool (fitC a b))) := by
  have b_b := bd_u8 i_b
  have b_a := bd_u8 i_a
  have hS := St.start0 w
  refine enterR Tryd.func58 rfl Tryd.ntmps58 Tryd.results58 rfl ?_
  refine W.seq ?_
  refine W.reg ?_
  refine Wx.rd (v := .bool false) (rd_assign rfl) rfl ?_
  refine Wx.nil ?_
  refine W.seq ?_
  refine W.reg ?_
  refine Wx.rd (v := .int .u8 a) (rd_move rfl) rfl ?_
  refine Wx.rd (v := .int .u8 b) (rd_move rfl) rfl ?_
  refine Wx.rd (v := .int .u8 (max a b)) (rd_max rfl rfl) rfl ?_
  refine Wx.rd (v := .int .u8 a) (rd_move rfl) rfl ?_
  refine Wx.rd (v := .int .u8 b) (rd_move rfl) rfl ?_
  refine Wx.rd (v := .int .u8 (min a b)) (rd_min rfl rfl) rfl ?_
  refine Wx.rd (v := .int .u8 ((max a b) - (min a b))) (rd_sub rfl rfl (in_u8 (by omega) (by omega))) rfl ?_
  refine Wx.rd (v := .bool (decide (((max a b) - (min a b)) = 32))) (rd_eql rfl rfl) rfl ?_
  refine Wx.rd (v := .bool (decide (((max a b) - (min a b)) = 32))) (rd_assign rfl) rfl ?_
  refine Wx.nil ?_
  have e0_0 : (fitC a b) = (decide (((max a b) - (min a b)) = 32)) := by rw [fitC]; exact decide_eq_decide.2 ⟨fun h => by omega, fun h => by omega⟩
  exact W.ret ⟨.bool (decide (((max a b) - (min a b)) = 32)), ResIs.one, hS.bel, (by rw [e0_0])⟩

theorem F81 {s : ByteArray} {n : Int} {w : World} (s_s : s.size ≤ maxLen) (i_n : InK .i64 n) (p_n : 0 ≤ n) (p_s : (s.size : Int) ≤ 100) : Calls Tryd.prog 81 #[.string s, .int .i64 n] w (Ret w (fun r _ => r = .tuple #[.string (lessS s n), .bool (decide (atsL s ≠ []))])) := by
  have b_n := bd_i64 i_n
  have hS := St.start0 w
  refine enterR Tryd.func81 rfl Tryd.ntmps81 Tryd.results81 rfl ?_
  refine W.seq ?_
  refine W.reg ?_
  refine Wx.rd (v := .string ({ data := #[] } : ByteArray)) (rd_assign rfl) rfl ?_
  refine Wx.rd (v := .bool false) (rd_assign rfl) rfl ?_
  refine Wx.nil ?_
  refine W.seq ?_
  refine W.reg ?_
  refine Wx.rd (v := (.slice none 0 0)) (rd_assign rfl) rfl ?_
  refine Wx.nil ?_
  refine W.seq ?_
  refine W.seq ?_
  refine W.reg ?_
  refine Wx.rd (v := .int .i64 0) (rd_assign rfl) rfl ?_
  refine Wx.nil ?_
  refine W.block ?_
  have hS := hS.addNil (tI .i64) 3
  refine W.loop [6, 7, 9, 10, 11, 12, 13, 14, 15, 16, 17, 18, 19, 20, 21, 22, 23, 24, 25, 26, 27] (fun x : Int × Value × (List Int) => match x with | (i, ov, out) => [(7, .int .i64 i), (6, ov)]) (fun (x : Int × Value × (List Int)) w' => match x with | (i, ov, out) => St w [] w' [.row (tI .i64) 3 ov out] ∧ 0 ≤ i ∧ (i + 1 ≤ s.size ∨ i = 0) ∧ out = (rng 0 i).filter (fun i => fitR s i (i + 1)) ∧ (out.length : Int) ≤ i) (fun x : Int × Value × (List Int) => match x with | (i, ov, out) => (s.size - i).toNat) (0, (.slice none 0 0), []) ⟨rfl, rfl, trivial⟩ ⟨hS, (by first | omega | simp), (by first | omega | simp), (rfl), (Int.le_refl 0)⟩ ?_
  rintro ⟨i, ov, out⟩ u_2 w_1 ⟨hS, h0, h1, h2, h3⟩
  refine W.seq ?_
  refine W.seq ?_
  refine W.reg ?_
  refine Wx.rd (v := .int .i64 i) (rd_move rfl) rfl ?_
  refine Wx.rd (v := .int .i64 (i + 1)) (rd_add rfl rfl (in_i64 (by omega) (by omega))) rfl ?_
  refine Wx.rd (v := .string s) (rd_move rfl) rfl ?_
  refine Wx.rd (v := .int .i64 (s.size : Int)) (rd_lenS rfl Tryd.underlying9) rfl ?_
  refine Wx.rd (v := .bool (decide ((i + 1) < (s.size : Int)))) (rd_lss rfl rfl) rfl ?_
  refine Wx.nil ?_
  refine W.condD rfl (fun c0 => ?_) (fun c0 => ?_)
  · -- yes
    refine W.skip ?_
    refine W.seq ?_
    refine W.block ?_
    refine W.seq ?_
    refine W.regQ mixedHq_ (by kernel_rfl) ?_
    refine Wx.rd (v := .string s) (rd_move rfl) rfl ?_
    refine Wx.rd (v := .int .i64 i) (rd_move rfl) rfl ?_
    refine Wx.rd (v := .int .u8 (tabAt s i)) (rd_indexS' (by kernel_rfl) rfl Tryd.underlying9 (by omega) (by omega)) rfl ?_
    have bd_3 := tabAt_bd s i
    refine Wx.rd (v := .string s) (rd_move rfl) rfl ?_
    refine Wx.rd (v := .int .i64 i) (rd_move rfl) rfl ?_
    refine Wx.rd (v := .int .i64 (i + 1)) (rd_add rfl rfl (in_i64 (by omega) (by omega))) rfl ?_
    refine Wx.rd (v := .int .u8 (tabAt s (i + 1))) (rd_indexS' (by kernel_rfl) rfl Tryd.underlying9 (by omega) (by omega)) rfl ?_
    have bd_4 := tabAt_bd s (i + 1)
    refine Wx.callV (v := .bool (fitC (tabAt s i) (tabAt s (i + 1)))) (run_callF Tryd.call58 rfl) (fun w_5 hw_6 => (F58 (in_u8 (by omega) (by omega)) (in_u8 (by omega) (by omega)))) rfl ?_
    refine Wx.nilQ (fun w_7 hx_8 => ?_)
    have hS := hS.ext hx_8
    refine W.cond rfl (fun c1 => ?_) (fun c1 => ?_)
    · -- yes
      try simp only [Bool.and_eq_true, Bool.or_eq_true, Bool.not_eq_true', Bool.and_eq_false_iff, Bool.or_eq_false_iff, Bool.not_eq_false', decide_eq_true_eq, decide_eq_false_iff_not, not_or, Bool.false_eq_true, Bool.true_eq_false, false_or, or_false, not_false_eq_true] at c1
      refine W.reg ?_
      refine Wx.rd (v := ov) (rd_move rfl) rfl ?_
      refine Wx.rd (v := .int .i64 i) (rd_move rfl) rfl ?_
      refine Wx.lit (t := (tI .i64)) (ys := [i]) (vs := [.int .i64 i]) elHq_60 hS rfl rfl ⟨(V.mkInt (in_i64 (by omega) (by omega))), trivial⟩ (by decide) rfl (fun v_9 w_10 hx_11 hS => ?_)
      refine Wx.append elHq_60 hS 1 rfl rfl rfl (Src.ofR hS 0 rfl) (by simp only [maxLen]; simp; omega) (by simp; omega) rfl (fun v_12 w_13 hz_14 hS => ?_)
      refine Wx.rd (v := v_12) (rd_assign rfl) rfl ?_
      refine Wx.nil ?_
      refine W.reg ?_
      refine Wx.rd (v := .int .i64 i) (rd_move rfl) rfl ?_
      refine Wx.rd (v := .int .i64 (i + 1)) (rd_add rfl rfl (in_i64 (by omega) (by omega))) rfl ?_
      refine Wx.rd (v := .int .i64 (i + 1)) (rd_assign rfl) rfl ?_
      refine Wx.nil ?_
      refine ⟨(i + 1, v_12, out ++ [i]), (by show (s.size - (i + 1)).toNat < (s.size - i).toNat; omega), ?_, ?_, Out.look rfl Out.self⟩
      · exact ⟨hS.tl, (by first | omega | assumption), (by first | omega | assumption), (by rw [h2, rng_snoc h0, List.filter_append, List.filter_cons, if_pos (by exact c1)]; rfl), (by simp only [List.length_append, List.length_cons, List.length_nil]; omega)⟩
      · exact ⟨rfl, rfl, trivial⟩
    · -- no
      try simp only [Bool.and_eq_true, Bool.or_eq_true, Bool.not_eq_true', Bool.and_eq_false_iff, Bool.or_eq_false_iff, Bool.not_eq_false', decide_eq_true_eq, decide_eq_false_iff_not, not_or, Bool.false_eq_true, Bool.true_eq_false, false_or, or_false, not_false_eq_true] at c1
      refine W.skip ?_
      refine W.reg ?_
      refine Wx.rd (v := .int .i64 i) (rd_move rfl) rfl ?_
      refine Wx.rd (v := .int .i64 (i + 1)) (rd_add rfl rfl (in_i64 (by omega) (by omega))) rfl ?_
      refine Wx.rd (v := .int .i64 (i + 1)) (rd_assign rfl) rfl ?_
      refine Wx.nil ?_
      refine ⟨(i + 1, ov, out), (by show (s.size - (i + 1)).toNat < (s.size - i).toNat; omega), ?_, ?_, Out.look rfl Out.self⟩
      · exact ⟨hS, (by first | omega | assumption), (by first | omega | assumption), (by rw [h2, rng_snoc h0, List.filter_append, List.filter_cons, if_neg (by show ¬ fitC _ _ = true; rw [c1]; decide), List.filter_nil, List.append_nil]), (by first | omega | assumption)⟩
      · exact ⟨rfl, rfl, trivial⟩
  · -- no
    refine W.exit rfl ?_
    refine W.seq ?_
    refine W.seq ?_
    refine W.reg ?_
    refine Wx.rd (v := ov) (rd_move rfl) rfl ?_
    refine Wx.rd (v := .int .i64 (out.length : Int)) (rd_lenR hS 0 rfl rfl Tryd.underlying60) rfl ?_
    refine Wx.rd (v := .bool (decide ((out.length : Int) = 0))) (rd_eql rfl rfl) rfl ?_
    refine Wx.nil ?_
    refine W.condD rfl (fun c2 => ?_) (fun c2 => ?_)
    · -- yes
      have hat : atsL s = out := ats_end h0 h1 (by omega) h2
      have hat0 : atsL s = [] := by rw [hat]; exact List.eq_nil_of_length_eq_zero (by omega)
      refine W.seq ?_
      refine W.reg ?_
      refine Wx.rd (v := .string s) (rd_move rfl) rfl ?_
      refine Wx.rd (v := .string s) (rd_assign rfl) rfl ?_
      refine Wx.rd (v := .bool false) (rd_assign rfl) rfl ?_
      refine Wx.nil ?_
      have e0_0 : (lessS s n) = s := by rw [lessS, if_pos hat0]
      have e0_1 : (decide (atsL s ≠ [])) = false := by exact decide_eq_false (not_not_intro hat0)
      exact W.ret ⟨.tuple #[.string s, .bool false], ResIs.two, hS.bel, (by rw [e0_0, e0_1])⟩
    · -- no
      have hat : atsL s = out := ats_end h0 h1 (by omega) h2
      have hne : atsL s ≠ [] := by rw [hat]; rintro rfl; exact c2 rfl
      have hm := less_at (s := s) p_n hne
      obtain ⟨⟨hm0, hm1⟩, _⟩ := atsL_mem.1 hm
      rw [hat] at hm0 hm1
      refine W.skip ?_
      refine W.seq ?_
      refine W.reg ?_
      refine Wx.rd (v := ov) (rd_move rfl) rfl ?_
      refine Wx.rd (v := .int .i64 n) (rd_move rfl) rfl ?_
      refine Wx.rd (v := ov) (rd_move rfl) rfl ?_
      refine Wx.rd (v := .int .i64 (out.length : Int)) (rd_lenR hS 0 rfl rfl Tryd.underlying60) rfl ?_
      refine Wx.rd (v := .int .i64 (n % (out.length : Int))) (rd_rem rfl rfl p_n (by omega)) rfl ?_
      refine Wx.indexR hS 0 rfl rfl rfl Tryd.underlying60 Tryd.sizeOf3 (Int.emod_nonneg _ (by omega)) (Int.emod_lt_of_pos _ (by omega)) rfl (fun g_15 hg_16 => ?_)
      refine Wx.rd (v := .int .i64 (ix 0 out (n % (out.length : Int)))) (rd_loadRI' hS 0 rfl hg_16 rfl (Int.emod_nonneg _ (by omega)) (Int.emod_lt_of_pos _ (by omega)) Tryd.isAgg3 Tryd.sizeOf3) rfl ?_
      have bd_17 := bd_i64 (hS.rowInK' 0 rfl (Int.emod_nonneg _ (by omega)) (Int.emod_lt_of_pos _ (by omega)) : InK .i64 (ix 0 out (n % (out.length : Int))))
      refine Wx.rd (v := .int .i64 (ix 0 out (n % (out.length : Int)))) (rd_assign rfl) rfl ?_
      refine Wx.nil ?_
      refine W.seq ?_
      refine W.regQ mixedHq_ (by kernel_rfl) ?_
      refine Wx.rd (v := .string s) (rd_move rfl) rfl ?_
      refine Wx.rd (v := .int .i64 (ix 0 out (n % (out.length : Int)))) (rd_move rfl) rfl ?_
      refine Wx.rd (v := .string ((s).extract 0 (ix 0 out (n % (out.length : Int))).toNat)) (rd_sliceS_H Tryd.underlying9 rfl rfl (by omega) (by omega)) rfl ?_
      refine Wx.rd (v := .string s) (rd_move rfl) rfl ?_
      refine Wx.rd (v := .int .i64 (ix 0 out (n % (out.length : Int)))) (rd_move rfl) rfl ?_
      refine Wx.rd (v := .int .i64 ((ix 0 out (n % (out.length : Int))) + 2)) (rd_add rfl rfl (in_i64 (by omega) (by omega))) rfl ?_
      refine Wx.rd (v := .string ((s).extract ((ix 0 out (n % (out.length : Int))) + 2).toNat s.size)) (rd_sliceS_L Tryd.underlying9 rfl rfl (by omega) (by omega)) rfl ?_
      refine Wx.rd (v := .string (((s).extract 0 (ix 0 out (n % (out.length : Int))).toNat) ++ ((s).extract ((ix 0 out (n % (out.length : Int))) + 2).toNat s.size))) (rd_addS rfl rfl (by rw [ByteArray.size_extract, ByteArray.size_extract]; omega)) rfl ?_
      refine Wx.rd (v := .string (((s).extract 0 (ix 0 out (n % (out.length : Int))).toNat) ++ ((s).extract ((ix 0 out (n % (out.length : Int))) + 2).toNat s.size))) (rd_assign rfl) rfl ?_
      refine Wx.rd (v := .bool true) (rd_assign rfl) rfl ?_
      refine Wx.nilQ (fun w_18 hx_19 => ?_)
      have hS := hS.ext hx_19
      have e1_0 : (lessS s n) = (((s).extract 0 (ix 0 out (n % (out.length : Int))).toNat) ++ ((s).extract ((ix 0 out (n % (out.length : Int))) + 2).toNat s.size)) := by rw [lessS, if_neg hne, hat, cutS, show ix 0 out (n % (out.length : Int)) + 1 + 1 = ix 0 out (n % (out.length : Int)) + 2 by omega]
      have e1_1 : (decide (atsL s ≠ [])) = true := by exact decide_eq_true hne
      exact W.ret ⟨.tuple #[.string (((s).extract 0 (ix 0 out (n % (out.length : Int))).toNat) ++ ((s).extract ((ix 0 out (n % (out.length : Int))) + 2).toNat s.size)), .bool true], ResIs.two, hS.bel, (by rw [e1_0, e1_1])⟩

set_option maxHeartbeats 1000000 in
theorem F45 {s : ByteArray} {b0 : Int} {b1 : Int} {b2 : Int} {b3 : Int} {b4 : Int} {b5 : Int} {w : World} (s_s : s.size ≤ maxLen) (i_b0 : InK .u8 b0) (i_b1 : InK .u8 b1) (i_b2 : InK .u8 b2) (i_b3 : InK .u8 b3) (i_b4 : InK .u8 b4) (i_b5 : InK .u8 b5) (p_s : (s.size : Int) ≤ 100) : Calls Tryd.prog 45 #[.string s, .agg #[.int .u8 b0, .int .u8 b1, .int .u8 b2, .int .u8 b3, .int .u8 b4, .int .u8 b5]] w (Ret w (fun r _ => r = .string (restN s [b0, b1, b2, b3, b4, b5]))) := by
  have b_b5 := bd_u8 i_b5
  have b_b4 := bd_u8 i_b4
  have b_b3 := bd_u8 i_b3
  have b_b2 := bd_u8 i_b2
  have b_b1 := bd_u8 i_b1
  have b_b0 := bd_u8 i_b0
  have hS := St.start0 w
  refine enterR Tryd.func45 rfl Tryd.ntmps45 Tryd.results45 rfl ?_
  refine W.seq ?_
  refine W.reg ?_
  refine Wx.box (cs := [.int .u8 b0, .int .u8 b1, .int .u8 b2, .int .u8 b3, .int .u8 b4, .int .u8 b5]) hS rfl rfl rfl (fun g_1 w_2 hx_4 hb_3 hS => ?_)
  refine Wx.rd (v := .string ({ data := #[] } : ByteArray)) (rd_assign rfl) rfl ?_
  refine Wx.nil ?_
  refine W.seq ?_
  refine W.seq ?_
  refine W.reg ?_
  refine Wx.rd (v := .agg #[.int .u8 b0, .int .u8 b1, .int .u8 b2, .int .u8 b3, .int .u8 b4, .int .u8 b5]) (rd_loadXs (ds := [.int .u8 b0, .int .u8 b1, .int .u8 b2, .int .u8 b3, .int .u8 b4, .int .u8 b5]) hS 0 rfl rfl rfl rfl Tryd.isAgg44 Tryd.sizeOf44) rfl ?_
  refine Wx.rd (v := .int .i64 0) (rd_move rfl) rfl ?_
  refine Wx.nil ?_
  refine W.block ?_
  refine W.loop [0, 6, 8, 9, 10, 11, 12, 13, 14, 15, 16, 17, 18] (fun x : ByteArray × Int => match x with | (cur, k) => [(0, .string cur), (8, .int .i64 k)]) (fun (x : ByteArray × Int) w' => match x with | (cur, k) => St w [] w' [.box g_1 44 [.int .u8 b0, .int .u8 b1, .int .u8 b2, .int .u8 b3, .int .u8 b4, .int .u8 b5]] ∧ 0 ≤ k ∧ k ≤ 6 ∧ restN cur ([b0, b1, b2, b3, b4, b5].drop k.toNat) = restN s [b0, b1, b2, b3, b4, b5] ∧ (cur.size : Int) ≤ 100) (fun x : ByteArray × Int => match x with | (cur, k) => (6 - k).toNat) (s, 0) ⟨rfl, rfl, trivial⟩ ⟨hS, (by first | omega | simp), (by first | omega | simp), (rfl), (by first | omega | simp)⟩ ?_
  rintro ⟨cur, k⟩ u_6 w_5 ⟨hS, h0, h1, h2, h3⟩
  refine W.seq ?_
  refine W.reg ?_
  refine Wx.rd (v := .bool (decide (k < 6))) (rd_lss rfl rfl) rfl ?_
  refine Wx.nil ?_
  refine W.seq ?_
  refine W.condD rfl (fun c0 => ?_) (fun c0 => ?_)
  · -- yes
    refine W.skip ?_
    refine W.seq ?_
    refine W.block ?_
    refine W.seq ?_
    refine W.reg ?_
    refine Wx.rd (v := .int .u8 (ix 0 [b0, b1, b2, b3, b4, b5] k)) (rd_indexVi (d := (0 : Int)) (f := Value.int .u8) (xs := [b0, b1, b2, b3, b4, b5]) rfl rfl Tryd.underlying44 Tryd.sizeOf5 Tryd.isAgg5 rfl rfl (by omega) (by simp; omega)) rfl ?_
    have hxm := ix_mem (d := (0 : Int)) (xs := [b0, b1, b2, b3, b4, b5]) h0 (by simp; omega)
    simp only [List.mem_cons, List.not_mem_nil, or_false] at hxm
    have hxb : 0 ≤ ix 0 [b0, b1, b2, b3, b4, b5] k ∧ ix 0 [b0, b1, b2, b3, b4, b5] k ≤ 255 := by rcases hxm with h | h | h | h | h | h <;> (rw [h]; omega)
    refine Wx.rd (v := .int .u8 (ix 0 [b0, b1, b2, b3, b4, b5] k)) (rd_assign rfl) rfl ?_
    refine Wx.nil ?_
    refine W.reg ?_
    refine Wx.rd (v := .string cur) (rd_move rfl) rfl ?_
    refine Wx.rd (v := .int .u8 (ix 0 [b0, b1, b2, b3, b4, b5] k)) (rd_move rfl) rfl ?_
    refine Wx.rd (v := .int .i64 (ix 0 [b0, b1, b2, b3, b4, b5] k)) (rd_convIn rfl Tryd.underlying5 Tryd.underlying3 (in_i64 (by omega) (by omega))) rfl ?_
    refine Wx.callF (run_callF Tryd.call81 rfl) (F81 (by first | assumption | (simp only [maxLen]; omega) | (simp only [ByteArray.size_extract, ByteArray.size_append, maxLen] at *; omega) | decide) (in_i64 (by omega) (by omega)) (by omega) (by omega)) rfl ?_
    rintro r_7 w_8 hx_9 rfl
    have hS := hS.ext hx_9
    refine Wx.rd (v := .tuple #[.string (lessS cur (ix 0 [b0, b1, b2, b3, b4, b5] k)), .bool (decide (atsL cur ≠ []))]) (rd_move rfl) rfl ?_
    refine Wx.rd (v := .string (lessS cur (ix 0 [b0, b1, b2, b3, b4, b5] k))) (rd_extract rfl rfl) rfl ?_
    refine Wx.rd (v := .bool (decide (atsL cur ≠ []))) (rd_extract rfl rfl) rfl ?_
    refine Wx.rd (v := .string (lessS cur (ix 0 [b0, b1, b2, b3, b4, b5] k))) (rd_assign rfl) rfl ?_
    refine Wx.nil ?_
    refine W.reg ?_
    refine Wx.rd (v := .int .i64 (k + 1)) (rd_add rfl rfl (in_i64 (by omega) (by omega))) rfl ?_
    refine Wx.rd (v := .int .i64 (k + 1)) (rd_move rfl) rfl ?_
    refine Wx.nil ?_
    refine ⟨(lessS cur (ix 0 [b0, b1, b2, b3, b4, b5] k), k + 1), (by show (6 - (k + 1)).toNat < (6 - k).toNat; omega), ?_, ?_, Out.look rfl Out.self⟩
    · exact ⟨hS, (by first | omega | assumption), (by first | omega | assumption), (by rw [← h2, drop_ix (d := 0) h0 (by simp; omega)]; rfl), (by have := less_size cur hxb.1; omega)⟩
    · exact ⟨rfl, rfl, trivial⟩
  · -- no
    refine W.exit rfl ?_
    refine W.seq ?_
    refine W.reg ?_
    refine Wx.rd (v := .string cur) (rd_move rfl) rfl ?_
    refine Wx.rd (v := .string cur) (rd_assign rfl) rfl ?_
    refine Wx.nil ?_
    have e0_0 : (restN s [b0, b1, b2, b3, b4, b5]) = cur := by rw [← h2, show k = 6 by omega]; rfl
    exact W.ret ⟨.string cur, ResIs.one, hS.bel, (by rw [e0_0])⟩

theorem F46 {rim : ByteArray} {w : World} (s_rim : rim.size ≤ maxLen) (p_s : (rim.size : Int) ≤ 100) : Calls Tryd.prog 46 #[.string rim] w (Ret w (fun r _ => r = .string (coreF rim))) := by
  have hS := St.start0 w
  refine enterR Tryd.func46 rfl Tryd.ntmps46 Tryd.results46 rfl ?_
  refine W.seq ?_
  refine W.reg ?_
  refine Wx.rd (v := .string ({ data := #[] } : ByteArray)) (rd_assign rfl) rfl ?_
  refine Wx.nil ?_
  refine W.seq ?_
  refine W.block ?_
  refine W.loop [0, 3, 4, 5, 6, 7, 8, 9, 10, 11, 12, 13, 14, 15, 16, 17, 18, 19, 20] (fun (cur : ByteArray) => [(0, .string cur)]) (fun (cur : ByteArray) w' => St w [] w' [] ∧ coreF cur = coreF rim ∧ (cur.size : Int) ≤ 100) (fun (cur : ByteArray) => cur.size) rim ⟨rfl, trivial⟩ ⟨hS, (rfl), (by first | omega | simp)⟩ ?_
  rintro cur u_2 w_1 ⟨hS, h1, h3⟩
  refine W.seq ?_
  refine W.seq ?_
  refine W.regQ mixedHq_ (by kernel_rfl) ?_
  refine Wx.rd (v := .string cur) (rd_move rfl) rfl ?_
  refine Wx.rd (v := .int .i64 (cur.size : Int)) (rd_lenS rfl Tryd.underlying9) rfl ?_
  refine Wx.rd (v := .bool (decide (1 < (cur.size : Int)))) (rd_gtr rfl rfl) rfl ?_
  refine Wx.rd (v := .bool (decide (1 < (cur.size : Int)))) (rd_move rfl) rfl ?_
  refine Wx.cutQ (X := Unit) 9 [7, 8, 9, 10, 11, 12, 13, 14, 15] (fun _ => [(15, .bool (decide (1 < (cur.size : Int)) && fitC (tabAt cur 0) (tabAt cur ((cur.size : Int) - 1))))]) (fun _ => True) ?_ ?_
  · rcases Bool.eq_false_or_eq_true (decide (1 < (cur.size : Int))) with g_3 | g_3
    · -- True
      have gp_4 := of_decide_eq_true g_3
      refine Wx.gyes rfl rfl (congrArg Value.bool g_3) ?_
      refine Wx.rd (v := .string cur) (rd_move rfl) rfl ?_
      refine Wx.gyes rfl rfl (congrArg Value.bool g_3) ?_
      refine Wx.rd (v := .int .u8 (tabAt cur 0)) (rd_indexS' (by kernel_rfl) rfl Tryd.underlying9 (by omega) (by omega)) rfl ?_
      have bd_5 := tabAt_bd cur 0
      refine Wx.gyes rfl rfl (congrArg Value.bool g_3) ?_
      refine Wx.rd (v := .string cur) (rd_move rfl) rfl ?_
      refine Wx.gyes rfl rfl (congrArg Value.bool g_3) ?_
      refine Wx.rd (v := .string cur) (rd_move rfl) rfl ?_
      refine Wx.gyes rfl rfl (congrArg Value.bool g_3) ?_
      refine Wx.rd (v := .int .i64 (cur.size : Int)) (rd_lenS rfl Tryd.underlying9) rfl ?_
      refine Wx.gyes rfl rfl (congrArg Value.bool g_3) ?_
      refine Wx.rd (v := .int .i64 ((cur.size : Int) - 1)) (rd_sub rfl rfl (in_i64 (by omega) (by omega))) rfl ?_
      refine Wx.gyes rfl rfl (congrArg Value.bool g_3) ?_
      refine Wx.rd (v := .int .u8 (tabAt cur ((cur.size : Int) - 1))) (rd_indexS' (by kernel_rfl) rfl Tryd.underlying9 (by omega) (by omega)) rfl ?_
      have bd_6 := tabAt_bd cur ((cur.size : Int) - 1)
      refine Wx.gyes rfl rfl (congrArg Value.bool g_3) ?_
      refine Wx.callV (v := .bool (fitC (tabAt cur 0) (tabAt cur ((cur.size : Int) - 1)))) (run_callF Tryd.call58 rfl) (fun w_7 hw_8 => (F58 (in_u8 (by omega) (by omega)) (in_u8 (by omega) (by omega)))) rfl ?_
      refine Wx.rd (v := .bool (fitC (tabAt cur 0) (tabAt cur ((cur.size : Int) - 1)))) (rd_pickT (congrArg Value.bool g_3) rfl) rfl ?_
      refine Wx.nilQ (fun _ _ => ⟨(), trivial, ⟨?_, trivial⟩, Out.look rfl Out.refl⟩)
      show Value.bool (fitC (tabAt cur 0) (tabAt cur ((cur.size : Int) - 1))) = Value.bool (decide (1 < (cur.size : Int)) && fitC (tabAt cur 0) (tabAt cur ((cur.size : Int) - 1)))
      rw [g_3]; rfl
    · -- False
      have gp_9 := of_decide_eq_false g_3
      refine Wx.gnoB rfl rfl (congrArg Value.bool g_3) rfl rfl ?_
      refine Wx.gnoB rfl rfl (congrArg Value.bool g_3) rfl rfl ?_
      refine Wx.gnoB rfl rfl (congrArg Value.bool g_3) rfl rfl ?_
      refine Wx.gnoB rfl rfl (congrArg Value.bool g_3) rfl rfl ?_
      refine Wx.gnoB rfl rfl (congrArg Value.bool g_3) rfl rfl ?_
      refine Wx.gnoB rfl rfl (congrArg Value.bool g_3) rfl rfl ?_
      refine Wx.gnoB rfl rfl (congrArg Value.bool g_3) rfl rfl ?_
      refine Wx.gnoB rfl rfl (congrArg Value.bool g_3) rfl rfl ?_
      refine Wx.rd (v := .bool false) (rd_pickF (congrArg Value.bool g_3) rfl) rfl ?_
      refine Wx.nilQ (fun _ _ => ⟨(), trivial, ⟨?_, trivial⟩, Out.look rfl Out.refl⟩)
      show Value.bool false = Value.bool (decide (1 < (cur.size : Int)) && fitC (tabAt cur 0) (tabAt cur ((cur.size : Int) - 1)))
      rw [g_3]; rfl
  rintro ⟨⟩ u_11 -
  refine Wx.nilQ (fun w_12 hx_13 => ?_)
  have hS := hS.ext hx_13
  refine W.cond rfl (fun c0 => ?_) (fun c0 => ?_)
  · -- yes
    try simp only [Bool.and_eq_true, Bool.or_eq_true, Bool.not_eq_true', Bool.and_eq_false_iff, Bool.or_eq_false_iff, Bool.not_eq_false', decide_eq_true_eq, decide_eq_false_iff_not, not_or, Bool.false_eq_true, Bool.true_eq_false, false_or, or_false, not_false_eq_true] at c0
    refine W.skip ?_
    refine W.block ?_
    refine W.reg ?_
    refine Wx.rd (v := .string cur) (rd_move rfl) rfl ?_
    refine Wx.rd (v := .string cur) (rd_move rfl) rfl ?_
    refine Wx.rd (v := .int .i64 (cur.size : Int)) (rd_lenS rfl Tryd.underlying9) rfl ?_
    refine Wx.rd (v := .int .i64 ((cur.size : Int) - 1)) (rd_sub rfl rfl (in_i64 (by omega) (by omega))) rfl ?_
    refine Wx.rd (v := .string ((cur).extract (1 : Int).toNat ((cur.size : Int) - 1).toNat)) (rd_sliceS_LH Tryd.underlying9 rfl rfl rfl (by omega) (by omega) (by omega)) rfl ?_
    refine Wx.rd (v := .string ((cur).extract (1 : Int).toNat ((cur.size : Int) - 1).toNat)) (rd_assign rfl) rfl ?_
    refine Wx.nil ?_
    refine ⟨(cur).extract (1 : Int).toNat ((cur.size : Int) - 1).toNat, (by exact inner_lt c0.1), ?_, ?_, Out.look rfl (Out.hav rfl (Out.look rfl Out.self))⟩
    · exact ⟨hS, ((coreF_yes c0).trans h1), (by have := inner_size cur; rw [inner] at this; omega)⟩
    · exact ⟨rfl, trivial⟩
  · -- no
    try simp only [Bool.and_eq_true, Bool.or_eq_true, Bool.not_eq_true', Bool.and_eq_false_iff, Bool.or_eq_false_iff, Bool.not_eq_false', decide_eq_true_eq, decide_eq_false_iff_not, not_or, Bool.false_eq_true, Bool.true_eq_false, false_or, or_false, not_false_eq_true] at c0
    refine W.exit rfl ?_
    refine W.seq ?_
    refine W.reg ?_
    refine Wx.rd (v := .string cur) (rd_move rfl) rfl ?_
    refine Wx.rd (v := .string cur) (rd_assign rfl) rfl ?_
    refine Wx.nil ?_
    have e0_0 : (coreF rim) = cur := by rw [← h1, coreF_no c0]
    exact W.ret ⟨.string cur, ResIs.one, hS.bel, (by rw [e0_0])⟩
end Go.Proofs.YtokdjjebnomciaaDoor

namespace Go.Proofs.YtokdjjebnomciaaDoor
open Go.Wk Go.RowKit Go.Lib
set_option linter.unusedVariables false
set_option linter.unusedSimpArgs false
theorem foHs_43_1 : fldOff Tryd.prog 43 1 = some 1 := by kernel_rfl
theorem foHs_43_2 : fldOff Tryd.prog 43 2 = some 2 := by kernel_rfl
theorem foHs_43_0 : fldOff Tryd.prog 43 0 = some 0 := by kernel_rfl

set_option maxHeartbeats 2000000 in
theorem F44 {e : Int} {kd : Int} {x0 : Int} {x1 : Int} {x2 : Int} {x3 : Int} {x4 : Int} {x5 : Int} {x6 : Int} {x7 : Int} {x8 : Int} {x9 : Int} {x10 : Int} {x11 : Int} {most : Int} {w : World} (i_e : InK .u8 e) (i_kd : InK .u8 kd) (i_x0 : InK .u8 x0) (i_x1 : InK .u8 x1) (i_x2 : InK .u8 x2) (i_x3 : InK .u8 x3) (i_x4 : InK .u8 x4) (i_x5 : InK .u8 x5) (i_x6 : InK .u8 x6) (i_x7 : InK .u8 x7) (i_x8 : InK .u8 x8) (i_x9 : InK .u8 x9) (i_x10 : InK .u8 x10) (i_x11 : InK .u8 x11) (i_most : InK .i64 most) (p_m : 0 ≤ most) (p_12 : most ≤ 12) : Calls Tryd.prog 44 #[.agg #[.int .u8 e, .int .u8 kd, .int .u8 x0, .int .u8 x1, .int .u8 x2, .int .u8 x3, .int .u8 x4, .int .u8 x5, .int .u8 x6, .int .u8 x7, .int .u8 x8, .int .u8 x9, .int .u8 x10, .int .u8 x11], .int .i64 most] w (Ret w (fun r _ => r = .string (madeS e kd [x0, x1, x2, x3, x4, x5, x6, x7, x8, x9, x10, x11] most))) := by
  have b_most := bd_i64 i_most
  have b_x11 := bd_u8 i_x11
  have b_x10 := bd_u8 i_x10
  have b_x9 := bd_u8 i_x9
  have b_x8 := bd_u8 i_x8
  have b_x7 := bd_u8 i_x7
  have b_x6 := bd_u8 i_x6
  have b_x5 := bd_u8 i_x5
  have b_x4 := bd_u8 i_x4
  have b_x3 := bd_u8 i_x3
  have b_x2 := bd_u8 i_x2
  have b_x1 := bd_u8 i_x1
  have b_x0 := bd_u8 i_x0
  have b_kd := bd_u8 i_kd
  have b_e := bd_u8 i_e
  have he0 := Int.emod_nonneg e (show most + 1 ≠ 0 by omega)
  have he1 := Int.emod_lt_of_pos e (show 0 < most + 1 by omega)
  have hk0 : 1 ≤ (1 + kd % 3) ∧ (1 + kd % 3) ≤ 3 := ⟨by omega, by omega⟩
  have hzl : (((([x0, x1, x2, x3, x4, x5, x6, x7, x8, x9, x10, x11] : List Int).take (e % (most + 1)).toNat)).length : Int) ≤ 12 := by rw [List.length_take]; simp; omega
  have hS := St.start0 w
  refine enterR Tryd.func44 rfl Tryd.ntmps44 Tryd.results44 rfl ?_
  refine W.seq ?_
  refine W.reg ?_
  refine Wx.box (cs := [.int .u8 e, .int .u8 kd, .int .u8 x0, .int .u8 x1, .int .u8 x2, .int .u8 x3, .int .u8 x4, .int .u8 x5, .int .u8 x6, .int .u8 x7, .int .u8 x8, .int .u8 x9, .int .u8 x10, .int .u8 x11]) hS rfl rfl rfl (fun g_1 w_2 hx_4 hb_3 hS => ?_)
  refine Wx.rd (v := .string ({ data := #[] } : ByteArray)) (rd_assign rfl) rfl ?_
  refine Wx.nil ?_
  refine W.seq ?_
  refine W.reg ?_
  refine Wx.rd (v := .pointer (some ⟨g_1, 1, none⟩)) (rd_fieldAddr rfl foHs_43_1) rfl ?_
  refine Wx.rd (v := .int .u8 kd) (rd_loadX hS 0 rfl rfl rfl Tryd.isAgg5) rfl ?_
  refine Wx.rd (v := .int .i64 kd) (rd_convIn rfl Tryd.underlying5 Tryd.underlying3 (in_i64 (by omega) (by omega))) rfl ?_
  refine Wx.rd (v := .int .i64 (kd % 3)) (rd_rem rfl rfl (by omega) (by omega)) rfl ?_
  refine Wx.rd (v := .int .i64 (1 + (kd % 3))) (rd_add rfl rfl (in_i64 (by omega) (by omega))) rfl ?_
  refine Wx.rd (v := .int .i64 (1 + (kd % 3))) (rd_assign rfl) rfl ?_
  refine Wx.nil ?_
  refine W.seq ?_
  refine W.reg ?_
  refine Wx.rd (v := .string ({ data := #[] } : ByteArray)) (rd_assign rfl) rfl ?_
  refine Wx.nil ?_
  refine W.seq ?_
  refine W.seq ?_
  refine W.reg ?_
  refine Wx.rd (v := .pointer (some ⟨g_1, 2, none⟩)) (rd_fieldAddr rfl foHs_43_2) rfl ?_
  refine Wx.rd (v := .pointer (some ⟨g_1, 0, none⟩)) (rd_fieldAddr rfl foHs_43_0) rfl ?_
  refine Wx.rd (v := .int .u8 e) (rd_loadX hS 0 rfl rfl rfl Tryd.isAgg5) rfl ?_
  refine Wx.rd (v := .int .i64 e) (rd_convIn rfl Tryd.underlying5 Tryd.underlying3 (in_i64 (by omega) (by omega))) rfl ?_
  refine Wx.rd (v := .int .i64 most) (rd_move rfl) rfl ?_
  refine Wx.rd (v := .int .i64 (most + 1)) (rd_add rfl rfl (in_i64 (by omega) (by omega))) rfl ?_
  refine Wx.rd (v := .int .i64 (e % (most + 1))) (rd_rem rfl rfl (by omega) (by omega)) rfl ?_
  refine Wx.rd (v := (.slice (some ⟨g_1, 2, none⟩) (e % (most + 1)).toNat 12)) (rd_sliceArrH (m := 12) Tryd.underlying41 Tryd.sizeOf5 rfl rfl (by omega) (by omega)) rfl ?_
  have hS := hS.sliceBox (o := 2) (k := .u8) (m := (e % (most + 1)).toNat) (xs := ([x0, x1, x2, x3, x4, x5, x6, x7, x8, x9, x10, x11] : List Int).take (e % (most + 1)).toNat) (cap := 12) 0 rfl (by exact take_map_take (Value.int .u8) [x0, x1, x2, x3, x4, x5, x6, x7, x8, x9, x10, x11] _) (fun x hx => by have hx := List.mem_of_mem_take hx; simp only [List.mem_cons, List.not_mem_nil, or_false] at hx; rcases hx with rfl | rfl | rfl | rfl | rfl | rfl | rfl | rfl | rfl | rfl | rfl | rfl <;> assumption) (by simp; omega) (by omega) (by decide)
  refine Wx.rd (v := .int .i64 ((([x0, x1, x2, x3, x4, x5, x6, x7, x8, x9, x10, x11] : List Int).take (e % (most + 1)).toNat).length : Int)) (rd_lenV rfl (hS.v 0 rfl) Tryd.underlying102) rfl ?_
  refine Wx.rd (v := .int .i64 0) (rd_move rfl) rfl ?_
  refine Wx.nil ?_
  refine W.block ?_
  refine W.loop [6, 8, 9, 24, 25, 26, 27, 28, 29, 30, 31, 32, 33, 34, 35, 36, 37, 38, 39] (fun x : ByteArray × Int => match x with | (out, j) => [(6, .string out), (24, .int .i64 j)]) (fun (x : ByteArray × Int) w' => match x with | (out, j) => St w [] w' [Ob.v (tSl (tI .u8)) (([x0, x1, x2, x3, x4, x5, x6, x7, x8, x9, x10, x11] : List Int).take (e % (most + 1)).toNat) (.slice (some ⟨g_1, 2, none⟩) (e % (most + 1)).toNat 12)] ∧ 0 ≤ j ∧ j ≤ ((([x0, x1, x2, x3, x4, x5, x6, x7, x8, x9, x10, x11] : List Int).take (e % (most + 1)).toNat)).length ∧ out = mkB ((((([x0, x1, x2, x3, x4, x5, x6, x7, x8, x9, x10, x11] : List Int).take (e % (most + 1)).toNat)).take j.toNat).map (letK (1 + kd % 3)))) (fun x : ByteArray × Int => match x with | (out, j) => (((([x0, x1, x2, x3, x4, x5, x6, x7, x8, x9, x10, x11] : List Int).take (e % (most + 1)).toNat)).length - j).toNat) (({ data := #[] } : ByteArray), 0) ⟨rfl, rfl, trivial⟩ ⟨hS, (by first | omega | simp), (by first | omega | simp), (rfl)⟩ ?_
  rintro ⟨out, j⟩ u_7 w_6 ⟨hS, h0, h1, h2⟩
  refine W.seq ?_
  refine W.reg ?_
  refine Wx.rd (v := .bool (decide (j < ((([x0, x1, x2, x3, x4, x5, x6, x7, x8, x9, x10, x11] : List Int).take (e % (most + 1)).toNat).length : Int)))) (rd_lss rfl rfl) rfl ?_
  refine Wx.nil ?_
  refine W.seq ?_
  refine W.condD rfl (fun c0 => ?_) (fun c0 => ?_)
  · -- yes
    refine W.skip ?_
    refine W.seq ?_
    refine W.block ?_
    refine W.seq ?_
    refine W.reg ?_
    refine Wx.ex (rd_index 0 (hS.v 0 rfl) rfl rfl Tryd.underlying102 Tryd.sizeOf5 (by first | omega | (simp only [List.length_set, List.length_append, List.length_cons, List.length_nil, List.length_replicate]; omega)) (by first | omega | (simp only [List.length_set, List.length_append, List.length_cons, List.length_nil, List.length_replicate]; omega))) rfl (fun p_8 hp_9 => ?_)
    refine Wx.rd (v := .int .u8 (ix 0 (([x0, x1, x2, x3, x4, x5, x6, x7, x8, x9, x10, x11] : List Int).take (e % (most + 1)).toNat) j)) (rd_loadI hp_9 rfl Tryd.isAgg5 Tryd.sizeOf5) rfl ?_
    have bd_10 := bd_u8 hp_9.inK
    refine Wx.rd (v := .int .u8 (ix 0 (([x0, x1, x2, x3, x4, x5, x6, x7, x8, x9, x10, x11] : List Int).take (e % (most + 1)).toNat) j)) (rd_assign rfl) rfl ?_
    refine Wx.nil ?_
    refine W.seq ?_
    refine W.reg ?_
    refine Wx.rd (v := .int .u8 (ix 0 (([x0, x1, x2, x3, x4, x5, x6, x7, x8, x9, x10, x11] : List Int).take (e % (most + 1)).toNat) j)) (rd_move rfl) rfl ?_
    refine Wx.rd (v := .int .i64 (ix 0 (([x0, x1, x2, x3, x4, x5, x6, x7, x8, x9, x10, x11] : List Int).take (e % (most + 1)).toNat) j)) (rd_convIn rfl Tryd.underlying5 Tryd.underlying3 (in_i64 (by omega) (by omega))) rfl ?_
    refine Wx.rd (v := .int .i64 (1 + (kd % 3))) (rd_move rfl) rfl ?_
    refine Wx.rd (v := .int .i64 (2 * (1 + (kd % 3)))) (rd_mul rfl rfl (in_i64 (by omega) (by omega))) rfl ?_
    refine Wx.rd (v := .int .i64 ((ix 0 (([x0, x1, x2, x3, x4, x5, x6, x7, x8, x9, x10, x11] : List Int).take (e % (most + 1)).toNat) j) % (2 * (1 + (kd % 3))))) (rd_rem rfl rfl (by omega) (by omega)) rfl ?_
    refine Wx.rd (v := .int .i64 ((ix 0 (([x0, x1, x2, x3, x4, x5, x6, x7, x8, x9, x10, x11] : List Int).take (e % (most + 1)).toNat) j) % (2 * (1 + (kd % 3))))) (rd_assign rfl) rfl ?_
    refine Wx.nil ?_
    refine W.reg ?_
    have hq0 := Int.emod_nonneg (ix 0 (([x0, x1, x2, x3, x4, x5, x6, x7, x8, x9, x10, x11] : List Int).take (e % (most + 1)).toNat) j) (b := 2 * (1 + kd % 3)) (by omega)
    have hq1 := Int.emod_lt_of_pos (ix 0 (([x0, x1, x2, x3, x4, x5, x6, x7, x8, x9, x10, x11] : List Int).take (e % (most + 1)).toNat) j) (b := 2 * (1 + kd % 3)) (by omega)
    have h6 : (sixS.size : Int) = 6 := rfl
    have hos : (out.size : Int) = j := by rw [h2, mkB_size, List.length_map, List.length_take]; omega
    refine Wx.rd (v := .string out) (rd_move rfl) rfl ?_
    refine Wx.rd (v := .int .i64 ((ix 0 (([x0, x1, x2, x3, x4, x5, x6, x7, x8, x9, x10, x11] : List Int).take (e % (most + 1)).toNat) j) % (2 * (1 + (kd % 3))))) (rd_move rfl) rfl ?_
    refine Wx.rd (v := .int .i64 ((ix 0 (([x0, x1, x2, x3, x4, x5, x6, x7, x8, x9, x10, x11] : List Int).take (e % (most + 1)).toNat) j) % (2 * (1 + (kd % 3))))) (rd_move rfl) rfl ?_
    refine Wx.rd (v := .int .i64 (((ix 0 (([x0, x1, x2, x3, x4, x5, x6, x7, x8, x9, x10, x11] : List Int).take (e % (most + 1)).toNat) j) % (2 * (1 + (kd % 3)))) + 1)) (rd_add rfl rfl (in_i64 (by omega) (by omega))) rfl ?_
    refine Wx.rd (v := .string ((sixS).extract ((ix 0 (([x0, x1, x2, x3, x4, x5, x6, x7, x8, x9, x10, x11] : List Int).take (e % (most + 1)).toNat) j) % (2 * (1 + (kd % 3)))).toNat (((ix 0 (([x0, x1, x2, x3, x4, x5, x6, x7, x8, x9, x10, x11] : List Int).take (e % (most + 1)).toNat) j) % (2 * (1 + (kd % 3)))) + 1).toNat)) (rd_sliceS_LH Tryd.underlying9 rfl rfl rfl (by omega) (by omega) (by omega)) rfl ?_
    refine Wx.rd (v := .string (out ++ ((sixS).extract ((ix 0 (([x0, x1, x2, x3, x4, x5, x6, x7, x8, x9, x10, x11] : List Int).take (e % (most + 1)).toNat) j) % (2 * (1 + (kd % 3)))).toNat (((ix 0 (([x0, x1, x2, x3, x4, x5, x6, x7, x8, x9, x10, x11] : List Int).take (e % (most + 1)).toNat) j) % (2 * (1 + (kd % 3)))) + 1).toNat))) (rd_addS rfl rfl (by rw [ByteArray.size_extract]; omega)) rfl ?_
    refine Wx.rd (v := .string (out ++ ((sixS).extract ((ix 0 (([x0, x1, x2, x3, x4, x5, x6, x7, x8, x9, x10, x11] : List Int).take (e % (most + 1)).toNat) j) % (2 * (1 + (kd % 3)))).toNat (((ix 0 (([x0, x1, x2, x3, x4, x5, x6, x7, x8, x9, x10, x11] : List Int).take (e % (most + 1)).toNat) j) % (2 * (1 + (kd % 3)))) + 1).toNat))) (rd_assign rfl) rfl ?_
    refine Wx.nil ?_
    refine W.reg ?_
    refine Wx.rd (v := .int .i64 (j + 1)) (rd_add rfl rfl (in_i64 (by omega) (by omega))) rfl ?_
    refine Wx.rd (v := .int .i64 (j + 1)) (rd_move rfl) rfl ?_
    refine Wx.nil ?_
    refine ⟨(out ++ ((sixS).extract ((ix 0 (([x0, x1, x2, x3, x4, x5, x6, x7, x8, x9, x10, x11] : List Int).take (e % (most + 1)).toNat) j) % (2 * (1 + (kd % 3)))).toNat (((ix 0 (([x0, x1, x2, x3, x4, x5, x6, x7, x8, x9, x10, x11] : List Int).take (e % (most + 1)).toNat) j) % (2 * (1 + (kd % 3)))) + 1).toNat), j + 1), (by show (((([x0, x1, x2, x3, x4, x5, x6, x7, x8, x9, x10, x11] : List Int).take (e % (most + 1)).toNat)).length - (j + 1)).toNat < (((([x0, x1, x2, x3, x4, x5, x6, x7, x8, x9, x10, x11] : List Int).take (e % (most + 1)).toNat)).length - j).toNat; omega), ?_, ?_, Out.look rfl Out.self⟩
    · exact ⟨hS, (by first | omega | assumption), (by first | omega | assumption), (by rw [take_ix (d := 0) h0 c0, List.map_append, ← mkB_app, ← h2, mkB_one hq0 (by omega)]; rfl)⟩
    · exact ⟨rfl, rfl, trivial⟩
  · -- no
    refine W.exit rfl ?_
    refine W.seq ?_
    refine W.reg ?_
    refine Wx.rd (v := .string out) (rd_move rfl) rfl ?_
    refine Wx.rd (v := .string out) (rd_assign rfl) rfl ?_
    refine Wx.nil ?_
    have e0_0 : (madeS e kd [x0, x1, x2, x3, x4, x5, x6, x7, x8, x9, x10, x11] most) = out := by rw [h2, madeS, List.take_of_length_le (i := j.toNat) (by omega)]
    exact W.ret ⟨.string out, ResIs.one, hS.bel, (by rw [e0_0])⟩
end Go.Proofs.YtokdjjebnomciaaDoor

namespace Go.Proofs.YtokdjjebnomciaaDoor
open Go.Wk Go.RowKit Go.Lib
set_option linter.unusedVariables false
set_option linter.unusedSimpArgs false


theorem F55 {rim : ByteArray} {w : World} (s_rim : rim.size ≤ maxLen) (p_s : (rim.size : Int) ≤ 100) (p_l : Lets rim) : Calls Tryd.prog 55 #[.string rim] w (Ret w (fun r _ => r = .string (oppS rim))) := by
  have hS := St.start0 w
  refine enterR Tryd.func55 rfl Tryd.ntmps55 Tryd.results55 rfl ?_
  refine W.seq ?_
  refine W.reg ?_
  refine Wx.rd (v := .string ({ data := #[] } : ByteArray)) (rd_assign rfl) rfl ?_
  refine Wx.nil ?_
  refine W.seq ?_
  refine W.reg ?_
  refine Wx.rd (v := .string ({ data := #[] } : ByteArray)) (rd_assign rfl) rfl ?_
  refine Wx.nil ?_
  refine W.seq ?_
  refine W.seq ?_
  refine W.reg ?_
  refine Wx.rd (v := .string rim) (rd_move rfl) rfl ?_
  refine Wx.rd (v := .int .i64 (rim.size : Int)) (rd_lenS rfl Tryd.underlying9) rfl ?_
  refine Wx.rd (v := .int .i64 ((rim.size : Int) - 1)) (rd_sub rfl rfl (in_i64 (by omega) (by omega))) rfl ?_
  refine Wx.rd (v := .int .i64 ((rim.size : Int) - 1)) (rd_assign rfl) rfl ?_
  refine Wx.nil ?_
  refine W.block ?_
  refine W.loop [3, 4, 5, 9, 10, 11, 12, 13, 14, 15, 16, 17, 18, 19, 20, 21, 22, 23, 24, 25, 26, 27] (fun x : ByteArray × Int => match x with | (out, i) => [(3, .string out), (4, .int .i64 i)]) (fun (x : ByteArray × Int) w' => match x with | (out, i) => St w [] w' [] ∧ -1 ≤ i ∧ i < rim.size ∧ out = mkB ((rim.data.toList.map swB).drop (i + 1).toNat).reverse) (fun x : ByteArray × Int => match x with | (out, i) => (i + 1).toNat) (({ data := #[] } : ByteArray), (rim.size : Int) - 1) ⟨rfl, rfl, trivial⟩ ⟨hS, (by first | omega | simp), (by first | omega | simp), (opp_start)⟩ ?_
  rintro ⟨out, i⟩ u_2 w_1 ⟨hS, h0, h1, h2⟩
  refine W.seq ?_
  refine W.seq ?_
  refine W.reg ?_
  refine Wx.rd (v := .int .i64 i) (rd_move rfl) rfl ?_
  refine Wx.rd (v := .bool (decide (0 ≤ i))) (rd_geq rfl rfl) rfl ?_
  refine Wx.nil ?_
  refine W.condD rfl (fun c0 => ?_) (fun c0 => ?_)
  · -- yes
    have hos := opp_size h2
    have hes : ((rim.extract i.toNat (i + 1).toNat).size : Int) = 1 := by rw [ByteArray.size_extract]; omega
    have hasc := one_ascii p_l (by omega) h1
    refine W.skip ?_
    refine W.seq ?_
    refine W.block ?_
    refine W.seq ?_
    refine W.reg ?_
    refine Wx.rd (v := .string rim) (rd_move rfl) rfl ?_
    refine Wx.rd (v := .int .i64 i) (rd_move rfl) rfl ?_
    refine Wx.rd (v := .int .i64 i) (rd_move rfl) rfl ?_
    refine Wx.rd (v := .int .i64 (i + 1)) (rd_add rfl rfl (in_i64 (by omega) (by omega))) rfl ?_
    refine Wx.rd (v := .string ((rim).extract i.toNat (i + 1).toNat)) (rd_sliceS_LH Tryd.underlying9 rfl rfl rfl (by omega) (by omega) (by omega)) rfl ?_
    refine Wx.rd (v := .string ((rim).extract i.toNat (i + 1).toNat)) (rd_assign rfl) rfl ?_
    refine Wx.nil ?_
    refine W.seq ?_
    refine W.reg ?_
    refine Wx.rd (v := .string ((rim).extract i.toNat (i + 1).toNat)) (rd_move rfl) rfl ?_
    refine Wx.rd (v := .bool (geqB ((rim).extract i.toNat (i + 1).toNat) aS)) (rd_geqS rfl rfl) rfl ?_
    refine Wx.nil ?_
    refine W.cond rfl (fun c1 => ?_) (fun c1 => ?_)
    · -- yes
      try simp only [Bool.and_eq_true, Bool.or_eq_true, Bool.not_eq_true', Bool.and_eq_false_iff, Bool.or_eq_false_iff, Bool.not_eq_false', decide_eq_true_eq, decide_eq_false_iff_not, not_or, Bool.false_eq_true, Bool.true_eq_false, false_or, or_false, not_false_eq_true] at c1
      refine W.reg ?_
      refine Wx.rd (v := .string out) (rd_move rfl) rfl ?_
      refine Wx.rd (v := .string ((rim).extract i.toNat (i + 1).toNat)) (rd_move rfl) rfl ?_
      refine Wx.callF (run_callF Tryd.call85 rfl) (F85 (by first | assumption | (simp only [maxLen]; omega) | (simp only [ByteArray.size_extract, ByteArray.size_append, maxLen] at *; omega) | decide) (by omega) hasc) rfl ?_
      rintro r_3 w_4 hx_5 rfl
      have hS := hS.ext hx_5
      have hup := one_up p_l (by omega) h1 c1
      have hus : ((mkB (toUpperA (rim.extract i.toNat (i + 1).toNat).data.toList)).size : Int) = 1 := by rw [hup]; rfl
      refine Wx.rd (v := .string (out ++ (mkB (toUpperA ((rim).extract i.toNat (i + 1).toNat).data.toList)))) (rd_addS rfl rfl (by omega)) rfl ?_
      refine Wx.rd (v := .string (out ++ (mkB (toUpperA ((rim).extract i.toNat (i + 1).toNat).data.toList)))) (rd_assign rfl) rfl ?_
      refine Wx.nil ?_
      refine W.reg ?_
      refine Wx.rd (v := .int .i64 i) (rd_move rfl) rfl ?_
      refine Wx.rd (v := .int .i64 (i - 1)) (rd_sub rfl rfl (in_i64 (by omega) (by omega))) rfl ?_
      refine Wx.rd (v := .int .i64 (i - 1)) (rd_assign rfl) rfl ?_
      refine Wx.nil ?_
      refine ⟨(out ++ (mkB (toUpperA ((rim).extract i.toNat (i + 1).toNat).data.toList)), i - 1), (by show ((i - 1) + 1).toNat < (i + 1).toNat; omega), ?_, ?_, Out.look rfl Out.self⟩
      · exact ⟨hS, (by first | omega | assumption), (by first | omega | assumption), (opp_step (by omega) h1 h2 hup)⟩
      · exact ⟨rfl, rfl, trivial⟩
    · -- no
      try simp only [Bool.and_eq_true, Bool.or_eq_true, Bool.not_eq_true', Bool.and_eq_false_iff, Bool.or_eq_false_iff, Bool.not_eq_false', decide_eq_true_eq, decide_eq_false_iff_not, not_or, Bool.false_eq_true, Bool.true_eq_false, false_or, or_false, not_false_eq_true] at c1
      refine W.reg ?_
      refine Wx.rd (v := .string out) (rd_move rfl) rfl ?_
      refine Wx.rd (v := .string ((rim).extract i.toNat (i + 1).toNat)) (rd_move rfl) rfl ?_
      refine Wx.callF (run_callF Tryd.call86 rfl) (F86 (by first | assumption | (simp only [maxLen]; omega) | (simp only [ByteArray.size_extract, ByteArray.size_append, maxLen] at *; omega) | decide) (by omega) hasc) rfl ?_
      rintro r_6 w_7 hx_8 rfl
      have hS := hS.ext hx_8
      have hup := one_low p_l (by omega) h1 c1
      have hus : ((mkB (toLowerA (rim.extract i.toNat (i + 1).toNat).data.toList)).size : Int) = 1 := by rw [hup]; rfl
      refine Wx.rd (v := .string (out ++ (mkB (toLowerA ((rim).extract i.toNat (i + 1).toNat).data.toList)))) (rd_addS rfl rfl (by omega)) rfl ?_
      refine Wx.rd (v := .string (out ++ (mkB (toLowerA ((rim).extract i.toNat (i + 1).toNat).data.toList)))) (rd_assign rfl) rfl ?_
      refine Wx.nil ?_
      refine W.reg ?_
      refine Wx.rd (v := .int .i64 i) (rd_move rfl) rfl ?_
      refine Wx.rd (v := .int .i64 (i - 1)) (rd_sub rfl rfl (in_i64 (by omega) (by omega))) rfl ?_
      refine Wx.rd (v := .int .i64 (i - 1)) (rd_assign rfl) rfl ?_
      refine Wx.nil ?_
      refine ⟨(out ++ (mkB (toLowerA ((rim).extract i.toNat (i + 1).toNat).data.toList)), i - 1), (by show ((i - 1) + 1).toNat < (i + 1).toNat; omega), ?_, ?_, Out.look rfl Out.self⟩
      · exact ⟨hS, (by first | omega | assumption), (by first | omega | assumption), (opp_step (by omega) h1 h2 hup)⟩
      · exact ⟨rfl, rfl, trivial⟩
  · -- no
    refine W.exit rfl ?_
    refine W.seq ?_
    refine W.reg ?_
    refine Wx.rd (v := .string out) (rd_move rfl) rfl ?_
    refine Wx.rd (v := .string out) (rd_assign rfl) rfl ?_
    refine Wx.nil ?_
    have e0_0 : (oppS rim) = out := by rw [h2]; exact (opp_end (by omega)).symm
    exact W.ret ⟨.string out, ResIs.one, hS.bel, (by rw [e0_0])⟩
end Go.Proofs.YtokdjjebnomciaaDoor

namespace Go.Proofs.YtokdjjebnomciaaDoor
open Go.Wk Go.RowKit Go.Lib
set_option linter.unusedVariables false
set_option linter.unusedSimpArgs false


set_option maxHeartbeats 2000000 in
theorem F13 {e : Int} {kd : Int} {x0 : Int} {x1 : Int} {x2 : Int} {x3 : Int} {x4 : Int} {x5 : Int} {x6 : Int} {x7 : Int} {x8 : Int} {x9 : Int} {x10 : Int} {x11 : Int} {b0 : Int} {b1 : Int} {b2 : Int} {b3 : Int} {b4 : Int} {b5 : Int} {O : List (Option Nat)} {w : World} (i_e : InK .u8 e) (i_kd : InK .u8 kd) (i_x0 : InK .u8 x0) (i_x1 : InK .u8 x1) (i_x2 : InK .u8 x2) (i_x3 : InK .u8 x3) (i_x4 : InK .u8 x4) (i_x5 : InK .u8 x5) (i_x6 : InK .u8 x6) (i_x7 : InK .u8 x7) (i_x8 : InK .u8 x8) (i_x9 : InK .u8 x9) (i_x10 : InK .u8 x10) (i_x11 : InK .u8 x11) (i_b0 : InK .u8 b0) (i_b1 : InK .u8 b1) (i_b2 : InK .u8 b2) (i_b3 : InK .u8 b3) (i_b4 : InK .u8 b4) (i_b5 : InK .u8 b5) (hO : ∀ b, some b ∈ O → b < w.heap.size) (hG : Laid w) : Calls Tryd.prog 13 #[.agg #[.int .u8 e, .int .u8 kd, .int .u8 x0, .int .u8 x1, .int .u8 x2, .int .u8 x3, .int .u8 x4, .int .u8 x5, .int .u8 x6, .int .u8 x7, .int .u8 x8, .int .u8 x9, .int .u8 x10, .int .u8 x11], .agg #[.int .u8 b0, .int .u8 b1, .int .u8 b2, .int .u8 b3, .int .u8 b4, .int .u8 b5]] w (Ret w (fun r _ => r = .bool true)) := by
  have b_b5 := bd_u8 i_b5
  have b_b4 := bd_u8 i_b4
  have b_b3 := bd_u8 i_b3
  have b_b2 := bd_u8 i_b2
  have b_b1 := bd_u8 i_b1
  have b_b0 := bd_u8 i_b0
  have b_x11 := bd_u8 i_x11
  have b_x10 := bd_u8 i_x10
  have b_x9 := bd_u8 i_x9
  have b_x8 := bd_u8 i_x8
  have b_x7 := bd_u8 i_x7
  have b_x6 := bd_u8 i_x6
  have b_x5 := bd_u8 i_x5
  have b_x4 := bd_u8 i_x4
  have b_x3 := bd_u8 i_x3
  have b_x2 := bd_u8 i_x2
  have b_x1 := bd_u8 i_x1
  have b_x0 := bd_u8 i_x0
  have b_kd := bd_u8 i_kd
  have b_e := bd_u8 i_e
  have hbn : ∀ n ∈ ([b0, b1, b2, b3, b4, b5] : List Int), 0 ≤ n := by intro n hn; simp only [List.mem_cons, List.not_mem_nil, or_false] at hn; omega
  have hS := St.start w O hO
  refine enterR Tryd.func13 rfl Tryd.ntmps13 Tryd.results13 rfl ?_
  refine W.seq ?_
  refine W.reg ?_
  refine Wx.box (cs := [.int .u8 e, .int .u8 kd, .int .u8 x0, .int .u8 x1, .int .u8 x2, .int .u8 x3, .int .u8 x4, .int .u8 x5, .int .u8 x6, .int .u8 x7, .int .u8 x8, .int .u8 x9, .int .u8 x10, .int .u8 x11]) hS rfl rfl rfl (fun g_1 w_2 hx_4 hb_3 hS => ?_)
  refine Wx.box (cs := [.int .u8 b0, .int .u8 b1, .int .u8 b2, .int .u8 b3, .int .u8 b4, .int .u8 b5]) hS rfl rfl rfl (fun g_5 w_6 hx_8 hb_7 hS => ?_)
  refine Wx.rd (v := .bool false) (rd_assign rfl) rfl ?_
  refine Wx.nil ?_
  refine W.seq ?_
  refine W.reg ?_
  refine Wx.rd (v := .agg #[.int .u8 e, .int .u8 kd, .int .u8 x0, .int .u8 x1, .int .u8 x2, .int .u8 x3, .int .u8 x4, .int .u8 x5, .int .u8 x6, .int .u8 x7, .int .u8 x8, .int .u8 x9, .int .u8 x10, .int .u8 x11]) (rd_loadXs (ds := [.int .u8 e, .int .u8 kd, .int .u8 x0, .int .u8 x1, .int .u8 x2, .int .u8 x3, .int .u8 x4, .int .u8 x5, .int .u8 x6, .int .u8 x7, .int .u8 x8, .int .u8 x9, .int .u8 x10, .int .u8 x11]) hS 1 rfl rfl rfl rfl Tryd.isAgg43 Tryd.sizeOf43) rfl ?_
  refine Wx.callF (run_callF Tryd.call44 rfl) (F44 i_e i_kd i_x0 i_x1 i_x2 i_x3 i_x4 i_x5 i_x6 i_x7 i_x8 i_x9 i_x10 i_x11 (in_i64 (by omega) (by omega)) (by omega) (by omega)) rfl ?_
  rintro r_9 w_10 hx_11 rfl
  have hS := hS.ext hx_11
  generalize h_M : madeS e kd [x0, x1, x2, x3, x4, x5, x6, x7, x8, x9, x10, x11] 12 = M
  have hLM : Lets M := by rw [← h_M]; exact made_lets (by omega)
  have hzM : (M.size : Int) ≤ 12 := by rw [← h_M]; exact made_size (by omega)
  have hrM : rimE M = 0 := rimE_good (by omega) hLM
  refine Wx.rd (v := .string M) (rd_assign rfl) rfl ?_
  refine Wx.nil ?_
  refine W.seq ?_
  refine W.reg ?_
  clear b_e b_kd b_x0 b_x1 b_x2 b_x3 b_x4 b_x5 b_x6 b_x7 b_x8 b_x9 b_x10 b_x11
  clear b_b0 b_b1 b_b2 b_b3 b_b4 b_b5
  have hrn : restN M [b0, b1, b2, b3, b4, b5] = restV M := restN_eq hLM hbn (by simp; omega)
  have hrz := rest_size (s := M)
  refine Wx.rd (v := .string M) (rd_move rfl) rfl ?_
  refine Wx.callF (run_callF Tryd.call40 rfl) (F40 (by first | assumption | (simp only [maxLen]; omega) | (simp only [ByteArray.size_extract, ByteArray.size_append, maxLen] at *; omega) | decide) (hG.ext hS.bel)) rfl ?_
  rintro r_12 w_13 hx_14 rfl
  have hS := hS.ext hx_14
  generalize h_Ov : oppV M = Ov
  have hO : Ov = oppS M := h_Ov.symm.trans (opp_v hrM)
  have hLO : Lets Ov := by rw [hO]; exact opp_let hLM
  have hzO : Ov.size = M.size := by rw [hO, opp_len]
  have hrO : rimE Ov = 0 := rimE_good (by omega) hLO
  have hall : allV Ov = allV M := by rw [hO]; exact all_opp hLM
  refine Wx.rd (v := .tuple #[.string Ov, .int .i64 (rimE M)]) (rd_move rfl) rfl ?_
  refine Wx.rd (v := .string Ov) (rd_extract rfl rfl) rfl ?_
  refine Wx.rd (v := .int .i64 (rimE M)) (rd_extract rfl rfl) rfl ?_
  refine Wx.rd (v := .string Ov) (rd_assign rfl) rfl ?_
  refine Wx.rd (v := .int .i64 0) (Rd.to (v := .int .i64 (rimE M)) (rd_assign rfl) (congrArg (Value.int .i64) (show (0 : Int) = (rimE M : Int) from hrM.symm).symm)) rfl ?_
  refine Wx.nil ?_
  refine W.seq ?_
  refine W.seq ?_
  refine W.reg ?_
  refine Wx.rd (v := .int .i64 0) (rd_move rfl) rfl ?_
  refine Wx.rd (v := .bool false) (Rd.to (v := .bool (decide ((0 : Int) ≠ 0))) (rd_neq rfl rfl) (congrArg (Value.bool) (show (false : Bool) = (decide ((0 : Int) ≠ 0) : Bool) from (by decide)).symm)) rfl ?_
  refine Wx.rd (v := .bool false) (rd_move rfl) rfl ?_
  refine Wx.gyes rfl rfl rfl ?_
  refine Wx.rd (v := .string Ov) (rd_move rfl) rfl ?_
  refine Wx.gyes rfl rfl rfl ?_
  refine Wx.rd (v := .string M) (rd_move rfl) rfl ?_
  refine Wx.gyes rfl rfl rfl ?_
  refine Wx.callF (run_callF Tryd.call55 rfl) (F55 (by first | assumption | (simp only [maxLen]; omega) | (simp only [ByteArray.size_extract, ByteArray.size_append, maxLen] at *; omega) | decide) (by omega) hLM) rfl ?_
  rintro r_15 w_16 hx_17 rfl
  have hS := hS.ext hx_17
  refine Wx.gyes rfl rfl rfl ?_
  refine Wx.rd (v := .bool false) (Rd.to (v := .bool (!(Ov == (oppS M)))) (rd_neqS rfl rfl) (congrArg (Value.bool) (show (false : Bool) = (!(Ov == (oppS M)) : Bool) from (by rw [ba_beq.2 hO]; rfl)).symm)) rfl ?_
  refine Wx.rd (v := .bool false) (rd_pickF rfl rfl) rfl ?_
  refine Wx.nil ?_
  refine W.condF rfl rfl ?_
  refine W.skip ?_
  refine W.seq ?_
  refine W.reg ?_
  refine Wx.rd (v := .string Ov) (rd_move rfl) rfl ?_
  refine Wx.callF (run_callF Tryd.call40 rfl) (F40 (by first | assumption | (simp only [maxLen]; omega) | (simp only [ByteArray.size_extract, ByteArray.size_append, maxLen] at *; omega) | decide) (hG.ext hS.bel)) rfl ?_
  rintro r_18 w_19 hx_20 rfl
  have hS := hS.ext hx_20
  refine Wx.rd (v := .tuple #[.string (oppV Ov), .int .i64 (rimE Ov)]) (rd_move rfl) rfl ?_
  refine Wx.rd (v := .string (oppV Ov)) (rd_extract rfl rfl) rfl ?_
  refine Wx.rd (v := .int .i64 (rimE Ov)) (rd_extract rfl rfl) rfl ?_
  refine Wx.rd (v := .string (oppV Ov)) (rd_assign rfl) rfl ?_
  refine Wx.rd (v := .int .i64 0) (Rd.to (v := .int .i64 (rimE Ov)) (rd_assign rfl) (congrArg (Value.int .i64) (show (0 : Int) = (rimE Ov : Int) from hrO.symm).symm)) rfl ?_
  refine Wx.nil ?_
  refine W.seq ?_
  refine W.reg ?_
  refine Wx.rd (v := .string Ov) (rd_move rfl) rfl ?_
  refine Wx.callF (run_callF Tryd.call32 rfl) (F32 (by first | assumption | (simp only [maxLen]; omega) | (simp only [ByteArray.size_extract, ByteArray.size_append, maxLen] at *; omega) | decide) (hG.ext hS.bel)) rfl ?_
  rintro r_21 w_22 hx_23 rfl
  have hS := hS.ext hx_23
  refine Wx.rd (v := .tuple #[.string (restE Ov), .int .i64 (rimE Ov)]) (rd_move rfl) rfl ?_
  refine Wx.rd (v := .string (restE Ov)) (rd_extract rfl rfl) rfl ?_
  refine Wx.rd (v := .int .i64 (rimE Ov)) (rd_extract rfl rfl) rfl ?_
  refine Wx.rd (v := .string (restE Ov)) (rd_assign rfl) rfl ?_
  refine Wx.rd (v := .int .i64 0) (Rd.to (v := .int .i64 (rimE Ov)) (rd_assign rfl) (congrArg (Value.int .i64) (show (0 : Int) = (rimE Ov : Int) from hrO.symm).symm)) rfl ?_
  refine Wx.nil ?_
  refine W.seq ?_
  refine W.reg ?_
  refine Wx.rd (v := .string M) (rd_move rfl) rfl ?_
  refine Wx.callF (run_callF Tryd.call21 rfl) (F21 (by first | assumption | (simp only [maxLen]; omega) | (simp only [ByteArray.size_extract, ByteArray.size_append, maxLen] at *; omega) | decide) (hG.ext hS.bel)) rfl ?_
  rintro r_24 w_25 hx_26 rfl
  have hS := hS.ext hx_26
  refine Wx.rd (v := .tuple #[.int .i64 (mostV M), .int .i64 (rimE M)]) (rd_move rfl) rfl ?_
  refine Wx.rd (v := .int .i64 (mostV M)) (rd_extract rfl rfl) rfl ?_
  refine Wx.rd (v := .int .i64 (rimE M)) (rd_extract rfl rfl) rfl ?_
  refine Wx.rd (v := .int .i64 (mostV M)) (rd_assign rfl) rfl ?_
  refine Wx.rd (v := .int .i64 0) (Rd.to (v := .int .i64 (rimE M)) (rd_assign rfl) (congrArg (Value.int .i64) (show (0 : Int) = (rimE M : Int) from hrM.symm).symm)) rfl ?_
  refine Wx.nil ?_
  refine W.seq ?_
  refine W.reg ?_
  refine Wx.rd (v := .string Ov) (rd_move rfl) rfl ?_
  refine Wx.callF (run_callF Tryd.call21 rfl) (F21 (by first | assumption | (simp only [maxLen]; omega) | (simp only [ByteArray.size_extract, ByteArray.size_append, maxLen] at *; omega) | decide) (hG.ext hS.bel)) rfl ?_
  rintro r_27 w_28 hx_29 rfl
  have hS := hS.ext hx_29
  refine Wx.rd (v := .tuple #[.int .i64 (mostV Ov), .int .i64 (rimE Ov)]) (rd_move rfl) rfl ?_
  refine Wx.rd (v := .int .i64 (mostV Ov)) (rd_extract rfl rfl) rfl ?_
  refine Wx.rd (v := .int .i64 (rimE Ov)) (rd_extract rfl rfl) rfl ?_
  refine Wx.rd (v := .int .i64 (mostV Ov)) (rd_assign rfl) rfl ?_
  refine Wx.rd (v := .int .i64 0) (Rd.to (v := .int .i64 (rimE Ov)) (rd_assign rfl) (congrArg (Value.int .i64) (show (0 : Int) = (rimE Ov : Int) from hrO.symm).symm)) rfl ?_
  refine Wx.nil ?_
  refine W.seq ?_
  refine W.seq ?_
  refine W.reg ?_
  refine Wx.rd (v := .int .i64 0) (rd_move rfl) rfl ?_
  refine Wx.rd (v := .bool false) (Rd.to (v := .bool (decide ((0 : Int) ≠ 0))) (rd_neq rfl rfl) (congrArg (Value.bool) (show (false : Bool) = (decide ((0 : Int) ≠ 0) : Bool) from (by decide)).symm)) rfl ?_
  refine Wx.rd (v := .bool false) (rd_move rfl) rfl ?_
  refine Wx.gyes rfl rfl rfl ?_
  refine Wx.rd (v := .int .i64 0) (rd_move rfl) rfl ?_
  refine Wx.gyes rfl rfl rfl ?_
  refine Wx.rd (v := .bool false) (Rd.to (v := .bool (decide ((0 : Int) ≠ 0))) (rd_neq rfl rfl) (congrArg (Value.bool) (show (false : Bool) = (decide ((0 : Int) ≠ 0) : Bool) from (by decide)).symm)) rfl ?_
  refine Wx.rd (v := .bool false) (rd_pickF rfl rfl) rfl ?_
  refine Wx.rd (v := .bool false) (rd_move rfl) rfl ?_
  refine Wx.gyes rfl rfl rfl ?_
  refine Wx.rd (v := .int .i64 0) (rd_move rfl) rfl ?_
  refine Wx.gyes rfl rfl rfl ?_
  refine Wx.rd (v := .bool false) (Rd.to (v := .bool (decide ((0 : Int) ≠ 0))) (rd_neq rfl rfl) (congrArg (Value.bool) (show (false : Bool) = (decide ((0 : Int) ≠ 0) : Bool) from (by decide)).symm)) rfl ?_
  refine Wx.rd (v := .bool false) (rd_pickF rfl rfl) rfl ?_
  refine Wx.rd (v := .bool false) (rd_move rfl) rfl ?_
  refine Wx.gyes rfl rfl rfl ?_
  refine Wx.rd (v := .int .i64 0) (rd_move rfl) rfl ?_
  refine Wx.gyes rfl rfl rfl ?_
  refine Wx.rd (v := .bool false) (Rd.to (v := .bool (decide ((0 : Int) ≠ 0))) (rd_neq rfl rfl) (congrArg (Value.bool) (show (false : Bool) = (decide ((0 : Int) ≠ 0) : Bool) from (by decide)).symm)) rfl ?_
  refine Wx.rd (v := .bool false) (rd_pickF rfl rfl) rfl ?_
  refine Wx.rd (v := .bool false) (rd_move rfl) rfl ?_
  refine Wx.gyes rfl rfl rfl ?_
  refine Wx.rd (v := .string (oppV Ov)) (rd_move rfl) rfl ?_
  refine Wx.gyes rfl rfl rfl ?_
  refine Wx.rd (v := .string M) (rd_move rfl) rfl ?_
  refine Wx.gyes rfl rfl rfl ?_
  refine Wx.rd (v := .bool false) (Rd.to (v := .bool (!((oppV Ov) == M))) (rd_neqS rfl rfl) (congrArg (Value.bool) (show (false : Bool) = (!((oppV Ov) == M) : Bool) from (by rw [ba_beq.2 (by rw [opp_v hrO, hO, opp_opp hLM])]; rfl)).symm)) rfl ?_
  refine Wx.rd (v := .bool false) (rd_pickF rfl rfl) rfl ?_
  refine Wx.rd (v := .bool false) (rd_move rfl) rfl ?_
  refine Wx.gyes rfl rfl rfl ?_
  refine Wx.rd (v := .string (restE Ov)) (rd_move rfl) rfl ?_
  refine Wx.gyes rfl rfl rfl ?_
  refine Wx.rd (v := .string M) (rd_move rfl) rfl ?_
  refine Wx.gyes rfl rfl rfl ?_
  refine Wx.rd (v := .agg #[.int .u8 b0, .int .u8 b1, .int .u8 b2, .int .u8 b3, .int .u8 b4, .int .u8 b5]) (rd_loadXs (ds := [.int .u8 b0, .int .u8 b1, .int .u8 b2, .int .u8 b3, .int .u8 b4, .int .u8 b5]) hS 0 rfl rfl rfl rfl Tryd.isAgg44 Tryd.sizeOf44) rfl ?_
  refine Wx.gyes rfl rfl rfl ?_
  refine Wx.callF (run_callF Tryd.call45 rfl) (F45 (by first | assumption | (simp only [maxLen]; omega) | (simp only [ByteArray.size_extract, ByteArray.size_append, maxLen] at *; omega) | decide) i_b0 i_b1 i_b2 i_b3 i_b4 i_b5 (by omega)) rfl ?_
  rintro r_30 w_31 hx_32 rfl
  have hS := hS.ext hx_32
  refine Wx.gyes rfl rfl rfl ?_
  refine Wx.callF (run_callF Tryd.call55 rfl) (F55 (by rw [hrn]; simp only [maxLen]; omega) (by rw [hrn]; omega) (by rw [hrn]; exact hLM.rest)) rfl ?_
  rintro r_33 w_34 hx_35 rfl
  have hS := hS.ext hx_35
  refine Wx.gyes rfl rfl rfl ?_
  refine Wx.rd (v := .bool false) (Rd.to (v := .bool (!((restE Ov) == (oppS (restN M [b0, b1, b2, b3, b4, b5]))))) (rd_neqS rfl rfl) (congrArg (Value.bool) (show (false : Bool) = (!((restE Ov) == (oppS (restN M [b0, b1, b2, b3, b4, b5]))) : Bool) from (by rw [ba_beq.2 (by rw [rest_e hrO, hO, rest_opp hLM, hrn])]; rfl)).symm)) rfl ?_
  refine Wx.rd (v := .bool false) (rd_pickF rfl rfl) rfl ?_
  refine Wx.rd (v := .bool false) (rd_move rfl) rfl ?_
  refine Wx.gyes rfl rfl rfl ?_
  refine Wx.rd (v := .int .i64 (mostV M)) (rd_move rfl) rfl ?_
  refine Wx.gyes rfl rfl rfl ?_
  refine Wx.rd (v := .int .i64 (mostV Ov)) (rd_move rfl) rfl ?_
  refine Wx.gyes rfl rfl rfl ?_
  refine Wx.rd (v := .bool false) (Rd.to (v := .bool (decide ((mostV M) ≠ (mostV Ov)))) (rd_neq rfl rfl) (congrArg (Value.bool) (show (false : Bool) = (decide ((mostV M) ≠ (mostV Ov)) : Bool) from (decide_eq_false (not_not_intro (by rw [most_v hrM, most_v hrO, hall]))).symm).symm)) rfl ?_
  refine Wx.rd (v := .bool false) (rd_pickF rfl rfl) rfl ?_
  refine Wx.nil ?_
  refine W.condF rfl rfl ?_
  refine W.skip ?_
  refine W.seq ?_
  refine W.reg ?_
  refine Wx.rd (v := .string M) (rd_move rfl) rfl ?_
  refine Wx.callF (run_callF Tryd.call23 rfl) (F23 (by first | assumption | (simp only [maxLen]; omega) | (simp only [ByteArray.size_extract, ByteArray.size_append, maxLen] at *; omega) | decide) (hG.ext hS.bel)) rfl ?_
  rintro r_36 w_37 hx_38 rfl
  have hS := hS.ext hx_38
  refine Wx.rd (v := .tuple #[.int .i64 (countV M), .int .i64 (rimE M)]) (rd_move rfl) rfl ?_
  refine Wx.rd (v := .int .i64 (countV M)) (rd_extract rfl rfl) rfl ?_
  refine Wx.rd (v := .int .i64 (rimE M)) (rd_extract rfl rfl) rfl ?_
  refine Wx.rd (v := .int .i64 (countV M)) (rd_assign rfl) rfl ?_
  refine Wx.rd (v := .int .i64 0) (Rd.to (v := .int .i64 (rimE M)) (rd_assign rfl) (congrArg (Value.int .i64) (show (0 : Int) = (rimE M : Int) from hrM.symm).symm)) rfl ?_
  refine Wx.nil ?_
  refine W.seq ?_
  refine W.reg ?_
  refine Wx.rd (v := .string Ov) (rd_move rfl) rfl ?_
  refine Wx.callF (run_callF Tryd.call23 rfl) (F23 (by first | assumption | (simp only [maxLen]; omega) | (simp only [ByteArray.size_extract, ByteArray.size_append, maxLen] at *; omega) | decide) (hG.ext hS.bel)) rfl ?_
  rintro r_39 w_40 hx_41 rfl
  have hS := hS.ext hx_41
  refine Wx.rd (v := .tuple #[.int .i64 (countV Ov), .int .i64 (rimE Ov)]) (rd_move rfl) rfl ?_
  refine Wx.rd (v := .int .i64 (countV Ov)) (rd_extract rfl rfl) rfl ?_
  refine Wx.rd (v := .int .i64 (rimE Ov)) (rd_extract rfl rfl) rfl ?_
  refine Wx.rd (v := .int .i64 (countV Ov)) (rd_assign rfl) rfl ?_
  refine Wx.rd (v := .int .i64 0) (Rd.to (v := .int .i64 (rimE Ov)) (rd_assign rfl) (congrArg (Value.int .i64) (show (0 : Int) = (rimE Ov : Int) from hrO.symm).symm)) rfl ?_
  refine Wx.nil ?_
  refine W.seq ?_
  refine W.reg ?_
  refine Wx.rd (v := .string M) (rd_move rfl) rfl ?_
  refine Wx.rd (v := .string M) (rd_move rfl) rfl ?_
  refine Wx.rd (v := .int .i64 (M.size : Int)) (rd_lenS rfl Tryd.underlying9) rfl ?_
  refine Wx.rd (v := .int .i64 ((M.size : Int) / 2)) (rd_quo rfl rfl (by omega) (by omega) (in_i64 (by omega) (by omega))) rfl ?_
  refine Wx.rd (v := .string ((M).extract 0 ((M.size : Int) / 2).toNat)) (rd_sliceS_H Tryd.underlying9 rfl rfl (by omega) (by omega)) rfl ?_
  generalize h_Hf : (M).extract 0 ((M.size : Int) / 2).toNat = Hf
  have hLH : Lets Hf := by rw [← h_Hf]; exact hLM.extract _ _
  have hzH : (Hf.size : Int) ≤ 6 := by rw [← h_Hf, ByteArray.size_extract]; omega
  have hzo := opp_len Hf
  refine Wx.rd (v := .string Hf) (rd_assign rfl) rfl ?_
  refine Wx.nil ?_
  refine W.seq ?_
  refine W.reg ?_
  refine Wx.rd (v := .string Hf) (rd_move rfl) rfl ?_
  refine Wx.rd (v := .string Hf) (rd_move rfl) rfl ?_
  refine Wx.callF (run_callF Tryd.call55 rfl) (F55 (by first | assumption | (simp only [maxLen]; omega) | (simp only [ByteArray.size_extract, ByteArray.size_append, maxLen] at *; omega) | decide) (by omega) hLH) rfl ?_
  rintro r_42 w_43 hx_44 rfl
  have hS := hS.ext hx_44
  refine Wx.rd (v := .string (Hf ++ (oppS Hf))) (rd_addS rfl rfl (by omega)) rfl ?_
  generalize h_Hh : Hf ++ (oppS Hf) = Hh
  have hLh : Lets Hh := by rw [← h_Hh]; exact hLH.app (opp_let hLH)
  have hrh : rimE Hh = 0 := rimE_good (by rw [← h_Hh, ByteArray.size_append]; omega) hLh
  have hzh : (Hh.size : Int) ≤ 12 := by rw [← h_Hh, ByteArray.size_append]; omega
  have hee : restE Hh = ByteArray.empty := by rw [rest_e hrh, ← h_Hh]; exact rest_half hLH
  refine Wx.callF (run_callF Tryd.call32 rfl) (F32 (by first | assumption | (simp only [maxLen]; omega) | (simp only [ByteArray.size_extract, ByteArray.size_append, maxLen] at *; omega) | decide) (hG.ext hS.bel)) rfl ?_
  rintro r_45 w_46 hx_47 rfl
  have hS := hS.ext hx_47
  refine Wx.rd (v := .tuple #[.string (restE Hh), .int .i64 (rimE Hh)]) (rd_move rfl) rfl ?_
  refine Wx.rd (v := .string (restE Hh)) (rd_extract rfl rfl) rfl ?_
  refine Wx.rd (v := .int .i64 (rimE Hh)) (rd_extract rfl rfl) rfl ?_
  refine Wx.rd (v := .string (restE Hh)) (rd_assign rfl) rfl ?_
  refine Wx.rd (v := .int .i64 0) (Rd.to (v := .int .i64 (rimE Hh)) (rd_assign rfl) (congrArg (Value.int .i64) (show (0 : Int) = (rimE Hh : Int) from hrh.symm).symm)) rfl ?_
  refine Wx.nil ?_
  refine W.seq ?_
  refine W.reg ?_
  refine Wx.rd (v := .int .i64 0) (rd_move rfl) rfl ?_
  refine Wx.rd (v := .bool true) (Rd.to (v := .bool (decide ((0 : Int) = 0))) (rd_eql rfl rfl) (congrArg (Value.bool) (show (true : Bool) = (decide ((0 : Int) = 0) : Bool) from (by decide)).symm)) rfl ?_
  refine Wx.rd (v := .bool true) (rd_move rfl) rfl ?_
  refine Wx.gyes rfl rfl rfl ?_
  refine Wx.rd (v := .int .i64 0) (rd_move rfl) rfl ?_
  refine Wx.gyes rfl rfl rfl ?_
  refine Wx.rd (v := .bool true) (Rd.to (v := .bool (decide ((0 : Int) = 0))) (rd_eql rfl rfl) (congrArg (Value.bool) (show (true : Bool) = (decide ((0 : Int) = 0) : Bool) from (by decide)).symm)) rfl ?_
  refine Wx.rd (v := .bool true) (rd_pickT rfl rfl) rfl ?_
  refine Wx.rd (v := .bool true) (rd_move rfl) rfl ?_
  refine Wx.gyes rfl rfl rfl ?_
  refine Wx.rd (v := .int .i64 0) (rd_move rfl) rfl ?_
  refine Wx.gyes rfl rfl rfl ?_
  refine Wx.rd (v := .bool true) (Rd.to (v := .bool (decide ((0 : Int) = 0))) (rd_eql rfl rfl) (congrArg (Value.bool) (show (true : Bool) = (decide ((0 : Int) = 0) : Bool) from (by decide)).symm)) rfl ?_
  refine Wx.rd (v := .bool true) (rd_pickT rfl rfl) rfl ?_
  refine Wx.rd (v := .bool true) (rd_move rfl) rfl ?_
  refine Wx.gyes rfl rfl rfl ?_
  refine Wx.rd (v := .int .i64 (countV M)) (rd_move rfl) rfl ?_
  refine Wx.gyes rfl rfl rfl ?_
  refine Wx.rd (v := .int .i64 (countV Ov)) (rd_move rfl) rfl ?_
  refine Wx.gyes rfl rfl rfl ?_
  refine Wx.rd (v := .bool true) (Rd.to (v := .bool (decide ((countV M) = (countV Ov)))) (rd_eql rfl rfl) (congrArg (Value.bool) (show (true : Bool) = (decide ((countV M) = (countV Ov)) : Bool) from (decide_eq_true (by rw [count_v hrM, count_v hrO, hall])).symm).symm)) rfl ?_
  refine Wx.rd (v := .bool true) (rd_pickT rfl rfl) rfl ?_
  refine Wx.rd (v := .bool true) (rd_move rfl) rfl ?_
  refine Wx.gyes rfl rfl rfl ?_
  refine Wx.rd (v := .string (restE Hh)) (rd_move rfl) rfl ?_
  refine Wx.gyes rfl rfl rfl ?_
  refine Wx.rd (v := .bool true) (Rd.to (v := .bool ((restE Hh) == ({ data := #[] } : ByteArray))) (rd_eqlS rfl rfl) (congrArg (Value.bool) (show (true : Bool) = ((restE Hh) == ({ data := #[] } : ByteArray) : Bool) from (ba_beq.2 (hee)).symm).symm)) rfl ?_
  refine Wx.rd (v := .bool true) (rd_pickT rfl rfl) rfl ?_
  refine Wx.rd (v := .bool true) (rd_move rfl) rfl ?_
  refine Wx.gyes rfl rfl rfl ?_
  refine Wx.callF (run_callF Tryd.call16 rfl) (F16 hS.fb_lt (hG.ext hS.bel)) rfl ?_
  rintro r_48 w_49 hx_50 rfl
  have hS := hS.ext hx_50
  refine Wx.rd (v := .bool true) (rd_pickT rfl rfl) rfl ?_
  refine Wx.rd (v := .bool true) (rd_assign rfl) rfl ?_
  refine Wx.nil ?_
  exact W.ret ⟨.bool true, ResIs.one, hS.bel, rfl⟩
end Go.Proofs.YtokdjjebnomciaaDoor

namespace Go.Proofs.YtokdjjebnomciaaDoor
open Go.Wk Go.RowKit Go.Lib Go Go.Proofs
set_option maxRecDepth 100000

/-- What the rows list. -/
def theLaid : List (String × DataW Unit) := [("unicode/utf8.acceptRanges", Rows.laid_unicode_utf8_acceptRanges), ("unicode.properties", Rows.laid_unicode_properties), ("unicode.CaseRanges", Rows.laid_unicode_CaseRanges), ("unicode.Upper", Rows.laid_unicode_Upper), ("unicode/utf8.first", Rows.laid_unicode_utf8_first)]
theorem gProps : ∃ g, Tryd.prog.globalNamed "unicode.properties" = some g ∧ ∃ t, (Tryd.prog.globals[g]?).map (·.type) = some t ∧ Tryd.prog.underlying t = some (.array 256 5) ∧ Tryd.prog.cellsOf t = 256 :=
  ⟨0, by kernel_rfl, 139, by kernel_rfl, by kernel_rfl, by kernel_rfl⟩
theorem acc_eq : (Rows.laid_unicode_utf8_acceptRanges : DataW Unit) = acceptData := by kernel_rfl
theorem props_eq : (Rows.laid_unicode_properties : DataW Unit) = tabData .u8 propertiesTab := by kernel_rfl
theorem laid_of {W : World} (h : laidMetH Tryd.prog theLaid W) (hsh : W.ShapedOpen Tryd.prog) : Laid W := by
  have hL : laidMet Tryd.prog theLaid W := by rwa [MakeChecks.laidMetH_plain _ _ _ (by kernel_rfl)] at h
  have r1 := Lib.laidMet.reads hL (.head _)
  have r2 := Lib.laidMet.reads hL (.tail _ (.head _))
  have r3 := Lib.laidMet.reads hL (.tail _ (.tail _ (.head _)))
  have r4 := Lib.laidMet.reads hL (.tail _ (.tail _ (.tail _ (.head _))))
  have r5 := Lib.laidMet.reads hL (.tail _ (.tail _ (.tail _ (.tail _ (.head _)))))
  rw [acc_eq] at r1
  rw [props_eq] at r2
  rw [show Rows.laid_unicode_CaseRanges = caseData from Pinned.caseRanges_eq] at r3
  rw [show Rows.laid_unicode_Upper = rtabData upperT from Pinned.upper_eq] at r4
  rw [show Rows.laid_unicode_utf8_first = firstData from Pinned.utf8First_eq] at r5
  refine ⟨?_, ?_, ?_, ?_, ?_⟩
  · obtain ⟨g, hg, t, hty, ht, hct⟩ := gProps
    obtain ⟨g', t', cs, fuel, p, hg', ht', hvar, hd⟩ := r2
    obtain rfl := Option.some.inj (hg.symm.trans hg')
    obtain rfl := Option.some.inj (hty.symm.trans ht')
    unfold TabIs
    rw [hvar, ← cells_of_tab ht Tryd.underlying5 (by kernel_rfl) hct hd]
  · exact rvar_of_reads Tryd.lays261 ⟨by kernel_rfl, by kernel_rfl, by kernel_rfl, by kernel_rfl, by kernel_rfl, by kernel_rfl, by kernel_rfl, by kernel_rfl⟩ (by kernel_rfl) (by kernel_rfl) r4
  · exact caseVar_of_reads { Tryd.lays158 with } (by kernel_rfl) ⟨by kernel_rfl, by kernel_rfl, by kernel_rfl, by kernel_rfl, by kernel_rfl, by kernel_rfl⟩ r3
  · exact utf8Tabs_of_reads Tryd.lays260 ⟨by kernel_rfl, by kernel_rfl, by kernel_rfl, by kernel_rfl, by kernel_rfl, by kernel_rfl, by kernel_rfl⟩ r5 r1
  · exact Tryd.laysM144.s1_3 W hsh
/-- The world of the witnesses: the listed variables hold what the text lays. -/
theorem w_shaped (os : Os) (args : Array Value) : ((World.laidAll Tryd.prog os theLaid).forCall (fun _ _ => 0) ⟨#[], args, []⟩).Shaped Tryd.prog := World.shaped_of_ZipB (by kernel_rfl) (by kernel_rfl)
theorem w_laid (os : Os) (args : Array Value) : laidMetH Tryd.prog theLaid ((World.laidAll Tryd.prog os theLaid).forCall (fun _ _ => 0) ⟨#[], args, []⟩).memory := by rw [MakeChecks.laidMetH_plain _ _ _ (by kernel_rfl)]; exact laidMet_laidAll _ (by kernel_rfl) (by kernel_rfl)
end Go.Proofs.YtokdjjebnomciaaDoor

namespace Go.Wk
open Go.RowKit Go.ChangeShapes
section
variable {H : Type} {enc : TypeId × Value → H} {P : Program} {W : World}
theorem RdI.arrayN {k : IntKind} {n m : Nat} {e t : TypeId} (hu : P.underlying t = some (.array n e)) (he : RdI enc P W k m e) (hc : P.cellsOf e = m) (hn : P.cellsOf t = n * m) : RdI enc P W k (n * m) t := by
  intro fuel cs x h
  obtain ⟨xs, f', _, _, hl, hx, hel⟩ := DataW.trod_array hu h
  rw [hc] at hel
  rw [hn] at hl
  have h1 : ∀ j, j ≤ n → ∃ zs : List Int, zs.length = j * m ∧ cs.take (j * m) = zs.map (Value.int k) ∧ ∀ z ∈ zs, InK k z := by
    intro j
    induction j with
    | zero => exact fun _ => ⟨[], by simp, by simp, fun z hz => by cases hz⟩
    | succ j ih =>
      intro hj
      obtain ⟨zs, l1, l2, l3⟩ := ih (by omega)
      have := hel j (by omega)
      cases hxi : xs[j]? with
      | none => rw [List.getElem?_eq_none_iff] at hxi; omega
      | some y =>
        rw [hxi] at this
        obtain ⟨zt, m1, m2, m3⟩ := he _ _ _ this
        refine ⟨zs ++ zt, by rw [List.length_append, l1, m1, Nat.succ_mul], ?_, fun z hz => (List.mem_append.1 hz).elim (l3 z) (m3 z)⟩
        rw [Nat.succ_mul, List.take_add, l2, List.map_append, ← m2]
  obtain ⟨zs, l1, l2, l3⟩ := h1 n (Nat.le_refl n)
  exact ⟨zs, l1, by rw [← l2, List.take_of_length_le (by omega)], l3⟩
end
end Go.Wk

namespace Go.Proofs.YtokdjjebnomciaaDoor.sherdOpposite
open Go.ChangeShapes Go.WideShapes Go.ChangeAt Go.RowKit Go.Joins Go.Wk
set_option linter.unusedVariables false

theorem own : ownKnob Tryd.prog.godebug = none := by kernel_rfl
theorem laidOut : laidOutB Tryd.prog = true := by kernel_rfl
theorem cells5 : Tryd.prog.cellsOf 5 = 1 := by kernel_rfl
theorem cells41 : Tryd.prog.cellsOf 41 = 12 := by kernel_rfl
theorem cells43 : Tryd.prog.cellsOf 43 = 14 := by kernel_rfl
theorem cells44 : Tryd.prog.cellsOf 44 = 6 := by kernel_rfl
theorem len14 : ∀ zs : List Int, zs.length = 14 → ∃ b0 b1 b2 b3 b4 b5 b6 b7 b8 b9 b10 b11 b12 b13, zs = [b0, b1, b2, b3, b4, b5, b6, b7, b8, b9, b10, b11, b12, b13]
  | [b0, b1, b2, b3, b4, b5, b6, b7, b8, b9, b10, b11, b12, b13], _ => ⟨_, _, _, _, _, _, _, _, _, _, _, _, _, _, rfl⟩
theorem len6 : ∀ zs : List Int, zs.length = 6 → ∃ b0 b1 b2 b3 b4 b5, zs = [b0, b1, b2, b3, b4, b5]
  | [b0, b1, b2, b3, b4, b5], _ => ⟨_, _, _, _, _, _, rfl⟩
theorem okWide_array {P : Program} {w : World} {r : Reach} {base : Nat} {t : TypeId} {v : Value} {n : Nat} {e : TypeId} (ht : P.underlying t = some (.array n e)) (h : Value.okWide P w r base t v) : ∃ cs, v = .agg cs ∧ cs.size = P.cellsOf t := by
  simp only [Value.okWide, ht] at h
  obtain ⟨cs, h1, h2, _⟩ := h
  exact ⟨cs, h1, h2⟩

set_option maxRecDepth 100000 in
theorem lifted (os : Os) (started : os.Started) (H : Type) (enc : TypeId × Value → H) :
    ReturnsInHanded {} Tryd.checked os 13 .any (OpenSpec.preRow enc Tryd.prog Tryd.f13 (OpenSpec.ofChange Rows.sherdOppositeSpec) Rows.sherdOppositeRow.domain false Rows.sherdOppositeRow.laid) (Rows.sherdOppositeSpec.post enc Tryd.prog Tryd.f13 false true false false) := by
  refine returnsInHanded_of_row (C := Tryd.checked) (s := OpenSpec.ofChange Rows.sherdOppositeSpec) (F := fun _ _ _ => 0) own started (by kernel_rfl) Tryd.func13 ?_ ?_
  · exact ChangeSpec.witness_shaped (enc := enc) (C := Tryd.checked) (os := os) (X := fun w _ => laidMetH Tryd.prog Rows.sherdOppositeRow.laid w) false (World.laidAll Tryd.prog os Rows.sherdOppositeRow.laid) #[.agg #[.int .u8 0, .int .u8 0, .int .u8 0, .int .u8 0, .int .u8 0, .int .u8 0, .int .u8 0, .int .u8 0, .int .u8 0, .int .u8 0, .int .u8 0, .int .u8 0, .int .u8 0, .int .u8 0], .agg #[.int .u8 0, .int .u8 0, .int .u8 0, .int .u8 0, .int .u8 0, .int .u8 0]] 8 (World.laidAll_os _ _ _) (w_shaped os _) (by kernel_rfl) (by kernel_rfl) (by kernel_rfl) (w_laid os _)
  intro W base args ds gs before hval0 hW hcnd _ _ hL hsh _
  have hval : ∀ (j : Nat) t v, Tryd.f13.params[j]? = some t → args[j]? = some v → Value.okWide Tryd.prog W .any base t v := hval0
  have hW' := hW
  obtain ⟨p, q, hA0, hV, rfl, hfz, hnd⟩ := hW
  have hA : DataW.TrodAll enc Tryd.prog W 0 (fun _ => true) true Tryd.f13.params.toList args.toList ds p := hA0
  rw [Tryd.params13] at hA hval
  obtain ⟨v0, vs0, d0, ds0, p0, q0, hargs, rfl, rfl, h0, r0⟩ := trodAll_cons hA
  obtain ⟨v1, vs1, d1, ds1, p1, q1, rfl, rfl, rfl, h1, r1⟩ := trodAll_cons r0
  obtain ⟨rfl, rfl, rfl⟩ := trodAll_nil r1
  obtain rfl : args = #[v0, v1] := by cases args; simp_all
  obtain ⟨rfl, rfl⟩ := trodVars_none hV
  have k0 := h0
  have lt0 : ∀ x ∈ p0, x.block < W.heap.size := by obtain ⟨m, hm⟩ := k0; exact DataW.trod_lt m _ _ _ hm
  obtain ⟨cs0, rfl, hsz0⟩ := okWide_struct Tryd.underlying43 (hval 0 43 v0 rfl rfl)
  obtain ⟨zs0, hz0, rfl, hin0⟩ := RdI.v (RdI.struct3 Tryd.underlying43 (RdI.int Tryd.underlying5) (RdI.int Tryd.underlying5) (RdI.array Tryd.underlying41 Tryd.underlying5 cells5 cells41) cells5 cells5 cells41 rfl rfl rfl cells43) h0
  obtain ⟨a0_0, a0_1, a0_2, a0_3, a0_4, a0_5, a0_6, a0_7, a0_8, a0_9, a0_10, a0_11, a0_12, a0_13, rfl⟩ := len14 zs0 hz0
  have k1 := h1
  have lt1 : ∀ x ∈ p1, x.block < W.heap.size := by obtain ⟨m, hm⟩ := k1; exact DataW.trod_lt m _ _ _ hm
  obtain ⟨cs1, rfl, hsz1⟩ := okWide_array Tryd.underlying44 (hval 1 44 v1 rfl rfl)
  obtain ⟨zs1, hz1, rfl, hin1⟩ := RdI.v (RdI.array Tryd.underlying44 Tryd.underlying5 cells5 cells44) h1
  obtain ⟨a1_0, a1_1, a1_2, a1_3, a1_4, a1_5, rfl⟩ := len6 zs1 hz1
  clear hA0 hval0
  refine (F13 (hin0 _ (by simp)) (hin0 _ (by simp)) (hin0 _ (by simp)) (hin0 _ (by simp)) (hin0 _ (by simp)) (hin0 _ (by simp)) (hin0 _ (by simp)) (hin0 _ (by simp)) (hin0 _ (by simp)) (hin0 _ (by simp)) (hin0 _ (by simp)) (hin0 _ (by simp)) (hin0 _ (by simp)) (hin0 _ (by simp)) (hin1 _ (by simp)) (hin1 _ (by simp)) (hin1 _ (by simp)) (hin1 _ (by simp)) (hin1 _ (by simp)) (hin1 _ (by simp)) (fun b (h : some b ∈ ([] : List (Option Nat))) => nomatch h) (laid_of hL hsh)).mono fun e W' hE => ?_
  obtain ⟨r, he, bel, hr⟩ := hE
  subst he
  subst hr
  exact ⟨_, rfl, _, _, _, [], _, [], hW', trodAll_mk1 (shut_bool Tryd.underlying4 _), (trodAll_cons_mk (Below.trod laidOut (by kernel_rfl) (of_decide_eq_true (by kernel_rfl)) k0 bel lt0) (trodAll_cons_mk (Below.trod laidOut (by kernel_rfl) (of_decide_eq_true (by kernel_rfl)) k1 bel lt1) trodAll_mk0)), rfl, bel.frame _, fun h => by cases h⟩

theorem over : Rows.sherdOppositeRow.holds Tryd.pinned (OpenSpec.ofChange Rows.sherdOppositeSpec) :=
  OpenClaim.holds_of_wide 13 Tryd.f13 rfl rfl rfl rfl rfl rfl rfl ⟨rfl, rfl, rfl, rfl, rfl⟩ rfl rfl rfl rfl rfl (by kernel_rfl) Tryd.func13 (by kernel_rfl)
    (of_decide_eq_true (by kernel_rfl)) (by unfold Func.isWrapper; first | (rw [if_pos (by decide +kernel)]; kernel_rfl) | (rw [if_neg (by decide +kernel)]; exact ⟨rfl, rfl⟩))
    (fun os started H enc _ => by rw [OpenClaim.pre_eq_preRow]; exact lifted os started H enc)

theorem card : Rows.SherdOppositeCardSaid :=
  Claim7.holds_tied_plain_at .later [] [.data, .data, .pinned, .pinned, .pinned] true (true, "b19d624c57feb4ddc557949d072a9df9920d9c9c6e671a3722e11c1f7f3b75a8") false over (fun _ h => by cases h) (by kernel_rfl) (fun _ h => by cases h) sherdOpposite_row_tie rfl ⟨rfl, rfl⟩ (by kernel_rfl) rfl
    (fun f fn hf hfn => by
      obtain rfl : f = 13 := Option.some.inj ((show Tryd.prog.funcNamed "bellarmine/bellarminelaw05.SherdOpposite" = some 13 by kernel_rfl).symm.trans hf) |>.symm
      obtain rfl : fn = Tryd.f13 := (Option.some.inj (Tryd.func13.symm.trans hfn)).symm
      exact ⟨by kernel_rfl, fun j t ht => by
        rw [Tryd.params13] at ht
        have hm : t ∈ [43, 44] := by simpa using Array.mem_of_getElem? ht
        have hall : ([43, 44].all fun u => !Tryd.prog.wantsStandIn u) = true := by kernel_rfl
        exact (show Tryd.prog.wantsStandIn t = false by simpa using List.all_eq_true.1 hall t hm)⟩)
    (by kernel_rfl)

end Go.Proofs.YtokdjjebnomciaaDoor.sherdOpposite
namespace Go.Proofs.YtokdjjebnomciaaDoor
/-- The statement. -/
theorem sherdOpposite_proved : Rows.SherdOppositeCardSaid := sherdOpposite.card
#print axioms sherdOpposite_proved
end Go.Proofs.YtokdjjebnomciaaDoor
