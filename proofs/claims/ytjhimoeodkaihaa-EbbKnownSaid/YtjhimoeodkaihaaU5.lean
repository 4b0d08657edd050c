/-
  WHAT IS PROVED HERE, TEXT BY TEXT (several texts of one prover, joined to one file; the conditions stand in each statement):
  * WHAT IS PROVED HERE: what functions of layer 1 hand back, each out of its own code; the conditions stand in each statement.
  * WHAT IS PROVED HERE: what functions of layer 1 hand back, each out of its own code; the conditions stand in each statement.
  * WHAT IS PROVED HERE: an argument that reads as data is, in the world at the start, a value that stands for a plain list, number, or pair (V of Wk2). Conditions: the types' closed facts, as hypotheses.
  * WHAT IS PROVED HERE: the given statement of EbbKnown: for every input it returns true, and each argument reads as it did. Conditions: none.
-/
import Derived.Test.YtjhimoeodkaihaaProg
import Derived.Test.YtjhimoeodkaihaaU2
import Derived.Test.YtjhimoeodkaihaaU4
import Derived.Test.YtjhimoeodkaihaaU1
import Derived.Deep.Slices
import Derived.Deep.Strs
import Derived.Lib.SmallJoins
import Derived.OpenShut
import Derived.Carry
import Derived.ProofKit
import Derived.Test.YtjhimoeodkaihaaRows
import Derived.WalkKit

set_option linter.unusedVariables false
set_option linter.unusedSimpArgs false

namespace Go.Proofs.Ytjhimoeodkaihaa
open Go.Wk Go.RowKit Go.Lib
set_option linter.unusedVariables false
set_option linter.unusedSimpArgs false
theorem elMb_22 : ElemI Try.prog 22 3 (.int .i64 0) 1 8 := ElemI.of Try.underlying22 (by kernel_rfl) (by first | rfl | kernel_rfl) (by decide)
theorem elMb_37 : ElemI Try.prog 37 22 ((.slice none 0 0)) 1 24 := ElemI.of Try.underlying37 (by kernel_rfl) (by first | rfl | kernel_rfl) (by decide)
theorem elMb_52 : ElemI Try.prog 52 74 (.agg #[.int .i64 0, .int .i64 0]) 2 16 := ElemI.of Try.underlying52 (by kernel_rfl) (by first | rfl | kernel_rfl) (by decide)

set_option maxHeartbeats 4000000 in
set_option maxRecDepth 10000 in
theorem F16  {w : World}  : Calls Try.prog 16 #[] w (Ret w (fun r _ => r = .bool true)) := by
  have hS := St.start0 w
  refine enterR Try.func16 rfl Try.ntmps16 Try.results16 rfl ?_
  refine W.seq ?_
  refine W.reg ?_
  refine Wx.rd (v := .bool false) (rd_assign rfl) rfl ?_
  refine Wx.nil ?_
  refine W.seq ?_
  refine W.reg ?_
  refine Wx.callF (run_callF Try.call48 rfl) (F48 hS.fb_lt) rfl ?_
  rintro r_1 w_2 hx_3 ⟨v_4, rfl, hv_5⟩
  have ln_7 := hv_5.len63
  have hS := hS.ext hx_3
  have hS := hS.add hv_5
  refine Wx.callF (run_callF Try.call17 rfl) (F17 (in_i64 (by omega) (by omega)) (in_i64 (by omega) (by omega)) (hS.v 0 rfl) hS.fb_lt) rfl ?_
  rintro r_8 w_9 hx_10 ⟨v_11, rfl, hv_12⟩
  have hS := hS.pushFr hx_10 hv_12
  refine Wx.rd (v := .tuple #[v_11, .int .i64 (checkS 3 3 sS)]) (rd_move rfl) rfl ?_
  refine Wx.rd (v := v_11) (rd_extract rfl rfl) rfl ?_
  refine Wx.rd (v := .int .i64 (checkS 3 3 sS)) (rd_extract rfl rfl) rfl ?_
  refine Wx.rd (v := v_11) (rd_assign rfl) rfl ?_
  refine Wx.rd (v := .int .i64 0) (Rd.to (v := .int .i64 (checkS 3 3 sS)) (rd_assign rfl) (congrArg (Value.int .i64) (show (0 : Int) = (checkS 3 3 sS : Int) from (by decide +kernel)).symm)) rfl ?_
  refine Wx.nil ?_
  refine W.seq ?_
  refine W.reg ?_
  refine Wx.callF (run_callF Try.call48 rfl) (F48 hS.fb_lt) rfl ?_
  rintro r_14 w_15 hx_16 ⟨v_17, rfl, hv_18⟩
  have ln_20 := hv_18.len63
  have hS := hS.ext hx_16
  have hS := hS.add hv_18
  refine Wx.callF (run_callF Try.call19 rfl) (F19 (in_i64 (by omega) (by omega)) (in_i64 (by omega) (by omega)) (hS.v 0 rfl) (in_i64 (by omega) (by omega)) hS.fb_lt) rfl ?_
  rintro r_21 w_22 hx_23 ⟨v_24, rfl, hv_25⟩
  have hS := hS.pushFr hx_23 hv_25
  refine Wx.rd (v := .tuple #[v_24, .int .i64 (levelE 3 3 sS 5)]) (rd_move rfl) rfl ?_
  refine Wx.rd (v := v_24) (rd_extract rfl rfl) rfl ?_
  refine Wx.rd (v := .int .i64 (levelE 3 3 sS 5)) (rd_extract rfl rfl) rfl ?_
  refine Wx.rd (v := v_24) (rd_assign rfl) rfl ?_
  refine Wx.rd (v := .int .i64 0) (Rd.to (v := .int .i64 (levelE 3 3 sS 5)) (rd_assign rfl) (congrArg (Value.int .i64) (show (0 : Int) = (levelE 3 3 sS 5 : Int) from (by decide +kernel)).symm)) rfl ?_
  refine Wx.nil ?_
  refine W.seq ?_
  refine W.reg ?_
  refine Wx.callF (run_callF Try.call48 rfl) (F48 hS.fb_lt) rfl ?_
  rintro r_27 w_28 hx_29 ⟨v_30, rfl, hv_31⟩
  have ln_33 := hv_31.len63
  have hS := hS.ext hx_29
  have hS := hS.add hv_31
  refine Wx.callF (run_callF Try.call24 rfl) (F24 (in_i64 (by omega) (by omega)) (in_i64 (by omega) (by omega)) (hS.v 0 rfl) (in_i64 (by omega) (by omega)) hS.fb_lt) rfl ?_
  rintro r_34 w_35 hx_36 ⟨v_37, rfl, hv_38⟩
  have hS := hS.pushFr hx_36 hv_38
  refine Wx.rd (v := .tuple #[v_37, .int .i64 (levelE 3 3 sS 0)]) (rd_move rfl) rfl ?_
  refine Wx.rd (v := v_37) (rd_extract rfl rfl) rfl ?_
  refine Wx.rd (v := .int .i64 (levelE 3 3 sS 0)) (rd_extract rfl rfl) rfl ?_
  refine Wx.rd (v := v_37) (rd_assign rfl) rfl ?_
  refine Wx.rd (v := .int .i64 0) (Rd.to (v := .int .i64 (levelE 3 3 sS 0)) (rd_assign rfl) (congrArg (Value.int .i64) (show (0 : Int) = (levelE 3 3 sS 0 : Int) from (by decide +kernel)).symm)) rfl ?_
  refine Wx.nil ?_
  refine W.seq ?_
  refine W.reg ?_
  refine Wx.callF (run_callF Try.call47 rfl) (F47 hS.fb_lt) rfl ?_
  rintro r_40 w_41 hx_42 ⟨v_43, rfl, hv_44⟩
  have ln_46 := hv_44.len63
  have hS := hS.ext hx_42
  have hS := hS.add hv_44
  refine Wx.callF (run_callF Try.call26 rfl) (F26 (in_i64 (by omega) (by omega)) (in_i64 (by omega) (by omega)) (hS.v 0 rfl) (in_i64 (by omega) (by omega)) hS.fb_lt) rfl ?_
  rintro r_47 w_48 hx_49 ⟨v_50, rfl, hv_51⟩
  have hS := hS.pushFrO hx_49 hv_51
  refine Wx.rd (v := .tuple #[v_50, .int .i64 (levelE 4 1 sT 2)]) (rd_move rfl) rfl ?_
  refine Wx.rd (v := v_50) (rd_extract rfl rfl) rfl ?_
  refine Wx.rd (v := .int .i64 (levelE 4 1 sT 2)) (rd_extract rfl rfl) rfl ?_
  refine Wx.rd (v := v_50) (rd_assign rfl) rfl ?_
  refine Wx.rd (v := .int .i64 0) (Rd.to (v := .int .i64 (levelE 4 1 sT 2)) (rd_assign rfl) (congrArg (Value.int .i64) (show (0 : Int) = (levelE 4 1 sT 2 : Int) from (by decide +kernel)).symm)) rfl ?_
  refine Wx.nil ?_
  refine W.seq ?_
  refine W.reg ?_
  refine Wx.callF (run_callF Try.call48 rfl) (F48 hS.fb_lt) rfl ?_
  rintro r_53 w_54 hx_55 ⟨v_56, rfl, hv_57⟩
  have ln_59 := hv_57.len63
  have hS := hS.ext hx_55
  have hS := hS.add hv_57
  refine Wx.lit (t := (tI .i64)) (ys := [6, 5, 4, 3]) (vs := [.int .i64 6, .int .i64 5, .int .i64 4, .int .i64 3]) elMb_22 hS rfl rfl ⟨(V.mkInt (in_i64 (by omega) (by omega))), ⟨(V.mkInt (in_i64 (by omega) (by omega))), ⟨(V.mkInt (in_i64 (by omega) (by omega))), ⟨(V.mkInt (in_i64 (by omega) (by omega))), trivial⟩⟩⟩⟩ (by decide) rfl (fun v_60 w_61 hx_62 hS => ?_)
  have hS := hS.freeze 0 rfl
  refine Wx.callF (run_callF Try.call49 rfl) (F49 (hS.v 0 rfl) hS.fb_lt) rfl ?_
  rintro r_64 w_65 hx_66 ⟨_, rfl, hv_67⟩
  have ln_69 := hv_67.len63
  have hS := hS.ext hx_66
  have hS := hS.add hv_67
  refine Wx.callF (run_callF Try.call29 rfl) (F29 (in_i64 (by omega) (by omega)) (in_i64 (by omega) (by omega)) (hS.v 2 rfl) (hS.v 0 rfl) (in_i64 (by omega) (by omega))) rfl ?_
  rintro r_70 w_71 hx_72 rfl
  have hS := hS.ext hx_72
  refine Wx.rd (v := .tuple #[.int .i64 (hourV 3 3 sS [6, 5, 4, 3] 7), .int .i64 (hourX 3 3 sS [6, 5, 4, 3] 7)]) (rd_move rfl) rfl ?_
  refine Wx.rd (v := .int .i64 (hourV 3 3 sS [6, 5, 4, 3] 7)) (rd_extract rfl rfl) rfl ?_
  refine Wx.rd (v := .int .i64 (hourX 3 3 sS [6, 5, 4, 3] 7)) (rd_extract rfl rfl) rfl ?_
  refine Wx.rd (v := .int .i64 2) (Rd.to (v := .int .i64 (hourV 3 3 sS [6, 5, 4, 3] 7)) (rd_assign rfl) (congrArg (Value.int .i64) (show (2 : Int) = (hourV 3 3 sS [6, 5, 4, 3] 7 : Int) from (by decide +kernel)).symm)) rfl ?_
  refine Wx.rd (v := .int .i64 0) (Rd.to (v := .int .i64 (hourX 3 3 sS [6, 5, 4, 3] 7)) (rd_assign rfl) (congrArg (Value.int .i64) (show (0 : Int) = (hourX 3 3 sS [6, 5, 4, 3] 7 : Int) from (by decide +kernel)).symm)) rfl ?_
  refine Wx.nil ?_
  refine W.seq ?_
  refine W.reg ?_
  refine Wx.callF (run_callF Try.call48 rfl) (F48 hS.fb_lt) rfl ?_
  rintro r_73 w_74 hx_75 ⟨v_76, rfl, hv_77⟩
  have ln_79 := hv_77.len63
  have hS := hS.ext hx_75
  have hS := hS.add hv_77
  refine Wx.callF (run_callF Try.call31 rfl) (F31 (in_i64 (by omega) (by omega)) (in_i64 (by omega) (by omega)) (hS.v 0 rfl) (in_i64 (by omega) (by omega)) hS.fb_lt) rfl ?_
  rintro r_80 w_81 hx_82 ⟨v_83, rfl, hv_84⟩
  have hS := hS.pushFr hx_82 hv_84
  refine Wx.rd (v := .tuple #[v_83, .int .i64 (atE 3 3 sS 0)]) (rd_move rfl) rfl ?_
  refine Wx.rd (v := v_83) (rd_extract rfl rfl) rfl ?_
  refine Wx.rd (v := .int .i64 (atE 3 3 sS 0)) (rd_extract rfl rfl) rfl ?_
  refine Wx.rd (v := v_83) (rd_assign rfl) rfl ?_
  refine Wx.rd (v := .int .i64 0) (Rd.to (v := .int .i64 (atE 3 3 sS 0)) (rd_assign rfl) (congrArg (Value.int .i64) (show (0 : Int) = (atE 3 3 sS 0 : Int) from (by decide +kernel)).symm)) rfl ?_
  refine Wx.nil ?_
  refine W.seq ?_
  refine W.seq ?_
  refine W.reg ?_
  refine Wx.rd (v := .int .i64 0) (rd_move rfl) rfl ?_
  refine Wx.rd (v := .bool false) (Rd.to (v := .bool (decide ((0 : Int) ≠ 0))) (rd_neq rfl rfl) rfl) rfl ?_
  refine Wx.rd (v := .bool false) (rd_move rfl) rfl ?_
  refine Wx.gyes rfl rfl rfl ?_
  refine Wx.rd (v := .int .i64 0) (rd_move rfl) rfl ?_
  refine Wx.gyes rfl rfl rfl ?_
  refine Wx.rd (v := .bool false) (Rd.to (v := .bool (decide ((0 : Int) ≠ 0))) (rd_neq rfl rfl) rfl) rfl ?_
  refine Wx.rd (v := .bool false) (rd_pickF rfl rfl) rfl ?_
  refine Wx.rd (v := .bool false) (rd_move rfl) rfl ?_
  refine Wx.gyes rfl rfl rfl ?_
  refine Wx.rd (v := .int .i64 0) (rd_move rfl) rfl ?_
  refine Wx.gyes rfl rfl rfl ?_
  refine Wx.rd (v := .bool false) (Rd.to (v := .bool (decide ((0 : Int) ≠ 0))) (rd_neq rfl rfl) rfl) rfl ?_
  refine Wx.rd (v := .bool false) (rd_pickF rfl rfl) rfl ?_
  refine Wx.rd (v := .bool false) (rd_move rfl) rfl ?_
  refine Wx.gyes rfl rfl rfl ?_
  refine Wx.rd (v := .int .i64 0) (rd_move rfl) rfl ?_
  refine Wx.gyes rfl rfl rfl ?_
  refine Wx.rd (v := .bool false) (Rd.to (v := .bool (decide ((0 : Int) ≠ 0))) (rd_neq rfl rfl) rfl) rfl ?_
  refine Wx.rd (v := .bool false) (rd_pickF rfl rfl) rfl ?_
  refine Wx.rd (v := .bool false) (rd_move rfl) rfl ?_
  refine Wx.gyes rfl rfl rfl ?_
  refine Wx.rd (v := .int .i64 0) (rd_move rfl) rfl ?_
  refine Wx.gyes rfl rfl rfl ?_
  refine Wx.rd (v := .bool false) (Rd.to (v := .bool (decide ((0 : Int) ≠ 0))) (rd_neq rfl rfl) rfl) rfl ?_
  refine Wx.rd (v := .bool false) (rd_pickF rfl rfl) rfl ?_
  refine Wx.rd (v := .bool false) (rd_move rfl) rfl ?_
  refine Wx.gyes rfl rfl rfl ?_
  refine Wx.rd (v := .int .i64 0) (rd_move rfl) rfl ?_
  refine Wx.gyes rfl rfl rfl ?_
  refine Wx.rd (v := .bool false) (Rd.to (v := .bool (decide ((0 : Int) ≠ 0))) (rd_neq rfl rfl) rfl) rfl ?_
  refine Wx.rd (v := .bool false) (rd_pickF rfl rfl) rfl ?_
  refine Wx.nil ?_
  refine W.condF rfl rfl ?_
  refine W.skip ?_
  refine W.seq ?_
  refine W.reg ?_
  refine Wx.callF (run_callF Try.call48 rfl) (F48 hS.fb_lt) rfl ?_
  rintro r_86 w_87 hx_88 ⟨v_89, rfl, hv_90⟩
  have ln_92 := hv_90.len63
  have hS := hS.ext hx_88
  have hS := hS.add hv_90
  refine Wx.callF (run_callF Try.call33 rfl) (F33 (in_i64 (by omega) (by omega)) (in_i64 (by omega) (by omega)) (hS.v 0 rfl) (in_i64 (by omega) (by omega)) hS.fb_lt) rfl ?_
  rintro r_93 w_94 hx_95 ⟨v_96, rfl, hv_97⟩
  have hS := hS.pushFr hx_95 hv_97
  refine Wx.rd (v := .tuple #[v_96, .int .i64 (atE 3 3 sS 4)]) (rd_move rfl) rfl ?_
  refine Wx.rd (v := v_96) (rd_extract rfl rfl) rfl ?_
  refine Wx.rd (v := .int .i64 (atE 3 3 sS 4)) (rd_extract rfl rfl) rfl ?_
  refine Wx.rd (v := v_96) (rd_assign rfl) rfl ?_
  refine Wx.rd (v := .int .i64 0) (Rd.to (v := .int .i64 (atE 3 3 sS 4)) (rd_assign rfl) (congrArg (Value.int .i64) (show (0 : Int) = (atE 3 3 sS 4 : Int) from (by decide +kernel)).symm)) rfl ?_
  refine Wx.nil ?_
  refine W.seq ?_
  refine W.reg ?_
  refine Wx.callF (run_callF Try.call48 rfl) (F48 hS.fb_lt) rfl ?_
  rintro r_99 w_100 hx_101 ⟨v_102, rfl, hv_103⟩
  have ln_105 := hv_103.len63
  have hS := hS.ext hx_101
  have hS := hS.add hv_103
  refine Wx.callF (run_callF Try.call37 rfl) (F37 (in_i64 (by omega) (by omega)) (in_i64 (by omega) (by omega)) (hS.v 0 rfl) (in_i64 (by omega) (by omega)) (in_i64 (by omega) (by omega)) hS.fb_lt) rfl ?_
  rintro r_106 w_107 hx_108 rfl
  have hS := hS.ext hx_108
  refine Wx.rd (v := .tuple #[.int .i64 (betwE 3 3 sS 4 0), .int .i64 (betwX 3 3 sS 4 0)]) (rd_move rfl) rfl ?_
  refine Wx.rd (v := .int .i64 (betwE 3 3 sS 4 0)) (rd_extract rfl rfl) rfl ?_
  refine Wx.rd (v := .int .i64 (betwX 3 3 sS 4 0)) (rd_extract rfl rfl) rfl ?_
  refine Wx.rd (v := .int .i64 5) (Rd.to (v := .int .i64 (betwE 3 3 sS 4 0)) (rd_assign rfl) (congrArg (Value.int .i64) (show (5 : Int) = (betwE 3 3 sS 4 0 : Int) from (by decide +kernel)).symm)) rfl ?_
  refine Wx.rd (v := .int .i64 0) (Rd.to (v := .int .i64 (betwX 3 3 sS 4 0)) (rd_assign rfl) (congrArg (Value.int .i64) (show (0 : Int) = (betwX 3 3 sS 4 0 : Int) from (by decide +kernel)).symm)) rfl ?_
  refine Wx.nil ?_
  refine W.seq ?_
  refine W.reg ?_
  refine Wx.callF (run_callF Try.call48 rfl) (F48 hS.fb_lt) rfl ?_
  rintro r_109 w_110 hx_111 ⟨v_112, rfl, hv_113⟩
  have ln_115 := hv_113.len63
  have hS := hS.ext hx_111
  have hS := hS.add hv_113
  refine Wx.callF (run_callF Try.call37 rfl) (F37 (in_i64 (by omega) (by omega)) (in_i64 (by omega) (by omega)) (hS.v 0 rfl) (in_i64 (by omega) (by omega)) (in_i64 (by omega) (by omega)) hS.fb_lt) rfl ?_
  rintro r_116 w_117 hx_118 rfl
  have hS := hS.ext hx_118
  refine Wx.rd (v := .tuple #[.int .i64 (betwE 3 3 sS 4 9), .int .i64 (betwX 3 3 sS 4 9)]) (rd_move rfl) rfl ?_
  refine Wx.rd (v := .int .i64 (betwE 3 3 sS 4 9)) (rd_extract rfl rfl) rfl ?_
  refine Wx.rd (v := .int .i64 (betwX 3 3 sS 4 9)) (rd_extract rfl rfl) rfl ?_
  refine Wx.rd (v := .int .i64 4) (Rd.to (v := .int .i64 (betwE 3 3 sS 4 9)) (rd_assign rfl) (congrArg (Value.int .i64) (show (4 : Int) = (betwE 3 3 sS 4 9 : Int) from (by decide +kernel)).symm)) rfl ?_
  refine Wx.rd (v := .int .i64 0) (Rd.to (v := .int .i64 (betwX 3 3 sS 4 9)) (rd_assign rfl) (congrArg (Value.int .i64) (show (0 : Int) = (betwX 3 3 sS 4 9 : Int) from (by decide +kernel)).symm)) rfl ?_
  refine Wx.nil ?_
  refine W.seq ?_
  refine W.reg ?_
  refine Wx.callF (run_callF Try.call47 rfl) (F47 hS.fb_lt) rfl ?_
  rintro r_119 w_120 hx_121 ⟨v_122, rfl, hv_123⟩
  have ln_125 := hv_123.len63
  have hS := hS.ext hx_121
  have hS := hS.add hv_123
  refine Wx.callF (run_callF Try.call39 rfl) (F39 (in_i64 (by omega) (by omega)) (in_i64 (by omega) (by omega)) (hS.v 0 rfl) hS.fb_lt) rfl ?_
  rintro r_126 w_127 hx_128 ⟨v_129, rfl, hv_130⟩
  have hS := hS.pushFr hx_128 hv_130
  refine Wx.rd (v := .tuple #[v_129, .int .i64 (checkS 4 1 sT)]) (rd_move rfl) rfl ?_
  refine Wx.rd (v := v_129) (rd_extract rfl rfl) rfl ?_
  refine Wx.rd (v := .int .i64 (checkS 4 1 sT)) (rd_extract rfl rfl) rfl ?_
  refine Wx.rd (v := v_129) (rd_assign rfl) rfl ?_
  refine Wx.rd (v := .int .i64 0) (Rd.to (v := .int .i64 (checkS 4 1 sT)) (rd_assign rfl) (congrArg (Value.int .i64) (show (0 : Int) = (checkS 4 1 sT : Int) from (by decide +kernel)).symm)) rfl ?_
  refine Wx.nil ?_
  refine W.seq ?_
  refine W.reg ?_
  refine Wx.callF (run_callF Try.call48 rfl) (F48 hS.fb_lt) rfl ?_
  rintro r_132 w_133 hx_134 ⟨v_135, rfl, hv_136⟩
  have ln_138 := hv_136.len63
  have hS := hS.ext hx_134
  have hS := hS.add hv_136
  refine Wx.lit (t := (tI .i64)) (ys := [6, 5, 4, 3]) (vs := [.int .i64 6, .int .i64 5, .int .i64 4, .int .i64 3]) elMb_22 hS rfl rfl ⟨(V.mkInt (in_i64 (by omega) (by omega))), ⟨(V.mkInt (in_i64 (by omega) (by omega))), ⟨(V.mkInt (in_i64 (by omega) (by omega))), ⟨(V.mkInt (in_i64 (by omega) (by omega))), trivial⟩⟩⟩⟩ (by decide) rfl (fun v_139 w_140 hx_141 hS => ?_)
  have hS := hS.freeze 0 rfl
  refine Wx.callF (run_callF Try.call49 rfl) (F49 (hS.v 0 rfl) hS.fb_lt) rfl ?_
  rintro r_143 w_144 hx_145 ⟨_, rfl, hv_146⟩
  have ln_148 := hv_146.len63
  have hS := hS.ext hx_145
  have hS := hS.add hv_146
  refine Wx.callF (run_callF Try.call29 rfl) (F29 (in_i64 (by omega) (by omega)) (in_i64 (by omega) (by omega)) (hS.v 2 rfl) (hS.v 0 rfl) (in_i64 (by omega) (by omega))) rfl ?_
  rintro r_149 w_150 hx_151 rfl
  have hS := hS.ext hx_151
  refine Wx.rd (v := .tuple #[.int .i64 (hourV 3 3 sS [6, 5, 4, 3] 4), .int .i64 (hourX 3 3 sS [6, 5, 4, 3] 4)]) (rd_move rfl) rfl ?_
  refine Wx.rd (v := .int .i64 (hourV 3 3 sS [6, 5, 4, 3] 4)) (rd_extract rfl rfl) rfl ?_
  refine Wx.rd (v := .int .i64 (hourX 3 3 sS [6, 5, 4, 3] 4)) (rd_extract rfl rfl) rfl ?_
  refine Wx.rd (v := .int .i64 12) (Rd.to (v := .int .i64 (hourX 3 3 sS [6, 5, 4, 3] 4)) (rd_assign rfl) (congrArg (Value.int .i64) (show (12 : Int) = (hourX 3 3 sS [6, 5, 4, 3] 4 : Int) from (by decide +kernel)).symm)) rfl ?_
  refine Wx.nil ?_
  refine W.seq ?_
  refine W.reg ?_
  refine Wx.callF (run_callF Try.call48 rfl) (F48 hS.fb_lt) rfl ?_
  rintro r_152 w_153 hx_154 ⟨v_155, rfl, hv_156⟩
  have ln_158 := hv_156.len63
  have hS := hS.ext hx_154
  have hS := hS.add hv_156
  refine Wx.callF (run_callF Try.call37 rfl) (F37 (in_i64 (by omega) (by omega)) (in_i64 (by omega) (by omega)) (hS.v 0 rfl) (in_i64 (by omega) (by omega)) (in_i64 (by omega) (by omega)) hS.fb_lt) rfl ?_
  rintro r_159 w_160 hx_161 rfl
  have hS := hS.ext hx_161
  refine Wx.rd (v := .tuple #[.int .i64 (betwE 3 3 sS 4 10), .int .i64 (betwX 3 3 sS 4 10)]) (rd_move rfl) rfl ?_
  refine Wx.rd (v := .int .i64 (betwE 3 3 sS 4 10)) (rd_extract rfl rfl) rfl ?_
  refine Wx.rd (v := .int .i64 (betwX 3 3 sS 4 10)) (rd_extract rfl rfl) rfl ?_
  refine Wx.rd (v := .int .i64 (betwX 3 3 sS 4 10)) (rd_assign rfl) rfl ?_
  refine Wx.nil ?_
  refine W.seq ?_
  refine W.reg ?_
  refine Wx.rd (v := .int .i64 0) (rd_move rfl) rfl ?_
  refine Wx.rd (v := .bool true) (Rd.to (v := .bool (decide ((0 : Int) = 0))) (rd_eql rfl rfl) rfl) rfl ?_
  refine Wx.rd (v := .bool true) (rd_move rfl) rfl ?_
  refine Wx.gyes rfl rfl rfl ?_
  refine Wx.rd (v := .int .i64 0) (rd_move rfl) rfl ?_
  refine Wx.gyes rfl rfl rfl ?_
  refine Wx.rd (v := .bool true) (Rd.to (v := .bool (decide ((0 : Int) = 0))) (rd_eql rfl rfl) rfl) rfl ?_
  refine Wx.rd (v := .bool true) (rd_pickT rfl rfl) rfl ?_
  refine Wx.rd (v := .bool true) (rd_move rfl) rfl ?_
  refine Wx.gyes rfl rfl rfl ?_
  refine Wx.rd (v := .int .i64 0) (rd_move rfl) rfl ?_
  refine Wx.gyes rfl rfl rfl ?_
  refine Wx.rd (v := .bool true) (Rd.to (v := .bool (decide ((0 : Int) = 0))) (rd_eql rfl rfl) rfl) rfl ?_
  refine Wx.rd (v := .bool true) (rd_pickT rfl rfl) rfl ?_
  refine Wx.rd (v := .bool true) (rd_move rfl) rfl ?_
  refine Wx.gyes rfl rfl rfl ?_
  refine Wx.rd (v := .int .i64 0) (rd_move rfl) rfl ?_
  refine Wx.gyes rfl rfl rfl ?_
  refine Wx.rd (v := .bool true) (Rd.to (v := .bool (decide ((0 : Int) = 0))) (rd_eql rfl rfl) rfl) rfl ?_
  refine Wx.rd (v := .bool true) (rd_pickT rfl rfl) rfl ?_
  refine Wx.rd (v := .bool true) (rd_move rfl) rfl ?_
  refine Wx.gyes rfl rfl rfl ?_
  refine Wx.rd (v := .int .i64 12) (rd_move rfl) rfl ?_
  refine Wx.gyes rfl rfl rfl ?_
  refine Wx.rd (v := .bool true) (Rd.to (v := .bool (decide ((12 : Int) = 12))) (rd_eql rfl rfl) rfl) rfl ?_
  refine Wx.rd (v := .bool true) (rd_pickT rfl rfl) rfl ?_
  refine Wx.rd (v := .bool true) (rd_move rfl) rfl ?_
  refine Wx.gyes rfl rfl rfl ?_
  refine Wx.rd (v := .int .i64 (betwX 3 3 sS 4 10)) (rd_move rfl) rfl ?_
  refine Wx.gyes rfl rfl rfl ?_
  refine Wx.rd (v := .bool (decide ((betwX 3 3 sS 4 10) = 2))) (rd_eql rfl rfl) rfl ?_
  refine Wx.rd (v := .bool (decide ((betwX 3 3 sS 4 10) = 2))) (rd_pickT rfl rfl) rfl ?_
  refine Wx.rd (v := .bool (decide ((betwX 3 3 sS 4 10) = 2))) (rd_move rfl) rfl ?_
  refine Wx.cut (X := Unit) 5 [126, 127, 128, 129, 130] (fun _ => [(130, .bool (decide ((betwX 3 3 sS 4 10) = 2) && true))]) (fun _ w' => St w [] w' [Ob.v (tSl (tI .i64)) sS v_155, Ob.v (tSl (tI .i64)) [6, 5, 4, 3] r_143, Ob.v (tSl (tI .i64)) [6, 5, 4, 3] v_139, Ob.v (tSl (tI .i64)) sS v_135, .row (tP (tI .i64) (tI .i64)) 74 v_129 (treeE 4 1 sT), Ob.v (tSl (tI .i64)) sT v_122, Ob.v (tSl (tI .i64)) sS v_112, Ob.v (tSl (tI .i64)) sS v_102, .row (tI .i64) 3 v_96 (basinE 3 3 sS 4), Ob.v (tSl (tI .i64)) sS v_89, .row (tI .i64) 3 v_83 (wayE 3 3 sS 0), Ob.v (tSl (tI .i64)) sS v_76, Ob.v (tSl (tI .i64)) [6, 5, 4, 3] r_64, Ob.v (tSl (tI .i64)) [6, 5, 4, 3] v_60, Ob.v (tSl (tI .i64)) sS v_56, .row (tSl (tI .i64)) 22 v_50 (poolsE 4 1 sT 2), Ob.v (tSl (tI .i64)) sT v_43, .row (tI .i64) 3 v_37 (bareE 3 3 sS 0), Ob.v (tSl (tI .i64)) sS v_30, .row (tI .i64) 3 v_24 (depthsE 3 3 sS 5), Ob.v (tSl (tI .i64)) sS v_17, .row (tI .i64) 3 v_11 (sillsE 3 3 sS), Ob.v (tSl (tI .i64)) sS v_4]) ?_ ?_
  · rcases Bool.eq_false_or_eq_true (decide ((betwX 3 3 sS 4 10) = 2)) with g_162 | g_162
    · -- True
      have gp_163 := of_decide_eq_true g_162
      refine Wx.gyes rfl rfl (congrArg Value.bool g_162) ?_
      refine Wx.rd (v := v_11) (rd_move rfl) rfl ?_
      refine Wx.gyes rfl rfl (congrArg Value.bool g_162) ?_
      refine Wx.lit (t := (tI .i64)) (ys := [5, 5, 5, 5, 4, 5, 5, 4, 5]) (vs := [.int .i64 5, .int .i64 5, .int .i64 5, .int .i64 5, .int .i64 4, .int .i64 5, .int .i64 5, .int .i64 4, .int .i64 5]) elMb_22 hS rfl rfl ⟨(V.mkInt (in_i64 (by omega) (by omega))), ⟨(V.mkInt (in_i64 (by omega) (by omega))), ⟨(V.mkInt (in_i64 (by omega) (by omega))), ⟨(V.mkInt (in_i64 (by omega) (by omega))), ⟨(V.mkInt (in_i64 (by omega) (by omega))), ⟨(V.mkInt (in_i64 (by omega) (by omega))), ⟨(V.mkInt (in_i64 (by omega) (by omega))), ⟨(V.mkInt (in_i64 (by omega) (by omega))), ⟨(V.mkInt (in_i64 (by omega) (by omega))), trivial⟩⟩⟩⟩⟩⟩⟩⟩⟩ (by decide) rfl (fun v_164 w_165 hx_166 hS => ?_)
      refine Wx.gyes rfl rfl (congrArg Value.bool g_162) ?_
      have hS := hS.freeze 0 rfl
      refine Wx.callF (run_callF Try.call49 rfl) (F49 (hS.v 0 rfl) hS.fb_lt) rfl ?_
      rintro r_168 w_169 hx_170 ⟨_, rfl, hv_171⟩
      have ln_173 := hv_171.len63
      have hS := hS.ext hx_170
      have hS := hS.add hv_171
      refine Wx.gyes rfl rfl (congrArg Value.bool g_162) ?_
      refine Wx.callF (run_callF Try.call21 rfl) (F21 (hS.lend 23 rfl) (hS.v 0 rfl)) rfl ?_
      rintro r_174 w_175 hx_176 rfl
      have hS := hS.ext hx_176
      rw [show (decide ((sillsE 3 3 sS) = [5, 5, 5, 5, 4, 5, 5, 4, 5]) : Bool) = true from (by decide +kernel)]
      refine Wx.rd (v := .bool true) (rd_pickT (congrArg Value.bool g_162) rfl) rfl ?_
      refine Wx.nil ⟨(), St.tl (hS.tl), ⟨?_, trivial⟩, Out.look rfl Out.refl⟩
      show Value.bool true = Value.bool (decide ((betwX 3 3 sS 4 10) = 2) && true)
      first | rw [g_162, Bool.true_and] | (rw [g_162]; rfl)
    · -- False
      have gp_177 := of_decide_eq_false g_162
      refine Wx.gnoB rfl rfl (congrArg Value.bool g_162) rfl rfl ?_
      refine Wx.gnoB rfl rfl (congrArg Value.bool g_162) rfl rfl ?_
      refine Wx.gnoB rfl rfl (congrArg Value.bool g_162) rfl rfl ?_
      refine Wx.gnoB rfl rfl (congrArg Value.bool g_162) rfl rfl ?_
      refine Wx.rd (v := .bool false) (rd_pickF (congrArg Value.bool g_162) rfl) rfl ?_
      refine Wx.nil ⟨(), hS, ⟨?_, trivial⟩, Out.look rfl Out.refl⟩
      show Value.bool false = Value.bool (decide ((betwX 3 3 sS 4 10) = 2) && true)
      first | rw [g_162, Bool.false_and] | (rw [g_162]; rfl)
  rintro ⟨⟩ u_179 w_178 hS
  refine Wx.rd (v := .bool (decide ((betwX 3 3 sS 4 10) = 2) && true)) (rd_move rfl) rfl ?_
  refine Wx.cut (X := Unit) 5 [132, 133, 134, 135, 136] (fun _ => [(136, .bool ((decide ((betwX 3 3 sS 4 10) = 2) && true) && true))]) (fun _ w' => St w [] w' [Ob.v (tSl (tI .i64)) sS v_155, Ob.v (tSl (tI .i64)) [6, 5, 4, 3] r_143, Ob.v (tSl (tI .i64)) [6, 5, 4, 3] v_139, Ob.v (tSl (tI .i64)) sS v_135, .row (tP (tI .i64) (tI .i64)) 74 v_129 (treeE 4 1 sT), Ob.v (tSl (tI .i64)) sT v_122, Ob.v (tSl (tI .i64)) sS v_112, Ob.v (tSl (tI .i64)) sS v_102, .row (tI .i64) 3 v_96 (basinE 3 3 sS 4), Ob.v (tSl (tI .i64)) sS v_89, .row (tI .i64) 3 v_83 (wayE 3 3 sS 0), Ob.v (tSl (tI .i64)) sS v_76, Ob.v (tSl (tI .i64)) [6, 5, 4, 3] r_64, Ob.v (tSl (tI .i64)) [6, 5, 4, 3] v_60, Ob.v (tSl (tI .i64)) sS v_56, .row (tSl (tI .i64)) 22 v_50 (poolsE 4 1 sT 2), Ob.v (tSl (tI .i64)) sT v_43, .row (tI .i64) 3 v_37 (bareE 3 3 sS 0), Ob.v (tSl (tI .i64)) sS v_30, .row (tI .i64) 3 v_24 (depthsE 3 3 sS 5), Ob.v (tSl (tI .i64)) sS v_17, .row (tI .i64) 3 v_11 (sillsE 3 3 sS), Ob.v (tSl (tI .i64)) sS v_4]) ?_ ?_
  · rcases Bool.eq_false_or_eq_true (decide ((betwX 3 3 sS 4 10) = 2) && true) with g_180 | g_180
    · -- True
      have gp_181 := g_180
      try simp only [Bool.and_eq_true, Bool.or_eq_true, Bool.not_eq_true', Bool.and_eq_false_iff, Bool.or_eq_false_iff, Bool.not_eq_false', decide_eq_true_eq, decide_eq_false_iff_not, not_or, Bool.false_eq_true, Bool.true_eq_false, false_or, or_false, not_false_eq_true] at gp_181
      refine Wx.gyes rfl rfl (congrArg Value.bool g_180) ?_
      refine Wx.rd (v := v_24) (rd_move rfl) rfl ?_
      refine Wx.gyes rfl rfl (congrArg Value.bool g_180) ?_
      refine Wx.lit (t := (tI .i64)) (ys := [0, 0, 0, 0, 3, 0, 0, 1, 0]) (vs := [.int .i64 0, .int .i64 0, .int .i64 0, .int .i64 0, .int .i64 3, .int .i64 0, .int .i64 0, .int .i64 1, .int .i64 0]) elMb_22 hS rfl rfl ⟨(V.mkInt (in_i64 (by omega) (by omega))), ⟨(V.mkInt (in_i64 (by omega) (by omega))), ⟨(V.mkInt (in_i64 (by omega) (by omega))), ⟨(V.mkInt (in_i64 (by omega) (by omega))), ⟨(V.mkInt (in_i64 (by omega) (by omega))), ⟨(V.mkInt (in_i64 (by omega) (by omega))), ⟨(V.mkInt (in_i64 (by omega) (by omega))), ⟨(V.mkInt (in_i64 (by omega) (by omega))), ⟨(V.mkInt (in_i64 (by omega) (by omega))), trivial⟩⟩⟩⟩⟩⟩⟩⟩⟩ (by decide) rfl (fun v_182 w_183 hx_184 hS => ?_)
      refine Wx.gyes rfl rfl (congrArg Value.bool g_180) ?_
      have hS := hS.freeze 0 rfl
      refine Wx.callF (run_callF Try.call49 rfl) (F49 (hS.v 0 rfl) hS.fb_lt) rfl ?_
      rintro r_186 w_187 hx_188 ⟨_, rfl, hv_189⟩
      have ln_191 := hv_189.len63
      have hS := hS.ext hx_188
      have hS := hS.add hv_189
      refine Wx.gyes rfl rfl (congrArg Value.bool g_180) ?_
      refine Wx.callF (run_callF Try.call21 rfl) (F21 (hS.lend 21 rfl) (hS.v 0 rfl)) rfl ?_
      rintro r_192 w_193 hx_194 rfl
      have hS := hS.ext hx_194
      rw [show (decide ((depthsE 3 3 sS 5) = [0, 0, 0, 0, 3, 0, 0, 1, 0]) : Bool) = true from (by decide +kernel)]
      refine Wx.rd (v := .bool true) (rd_pickT (congrArg Value.bool g_180) rfl) rfl ?_
      refine Wx.nil ⟨(), St.tl (hS.tl), ⟨?_, trivial⟩, Out.look rfl Out.refl⟩
      show Value.bool true = Value.bool ((decide ((betwX 3 3 sS 4 10) = 2) && true) && true)
      first | rw [g_180, Bool.true_and] | (rw [g_180]; rfl)
    · -- False
      have gp_195 := g_180
      try simp only [Bool.and_eq_true, Bool.or_eq_true, Bool.not_eq_true', Bool.and_eq_false_iff, Bool.or_eq_false_iff, Bool.not_eq_false', decide_eq_true_eq, decide_eq_false_iff_not, not_or, Bool.false_eq_true, Bool.true_eq_false, false_or, or_false, not_false_eq_true] at gp_195
      refine Wx.gnoB rfl rfl (congrArg Value.bool g_180) rfl rfl ?_
      refine Wx.gnoB rfl rfl (congrArg Value.bool g_180) rfl rfl ?_
      refine Wx.gnoB rfl rfl (congrArg Value.bool g_180) rfl rfl ?_
      refine Wx.gnoB rfl rfl (congrArg Value.bool g_180) rfl rfl ?_
      refine Wx.rd (v := .bool false) (rd_pickF (congrArg Value.bool g_180) rfl) rfl ?_
      refine Wx.nil ⟨(), hS, ⟨?_, trivial⟩, Out.look rfl Out.refl⟩
      show Value.bool false = Value.bool ((decide ((betwX 3 3 sS 4 10) = 2) && true) && true)
      first | rw [g_180, Bool.false_and] | (rw [g_180]; rfl)
  rintro ⟨⟩ u_197 w_196 hS
  refine Wx.rd (v := .bool ((decide ((betwX 3 3 sS 4 10) = 2) && true) && true)) (rd_move rfl) rfl ?_
  refine Wx.cut (X := Unit) 5 [138, 139, 140, 141, 142] (fun _ => [(142, .bool (((decide ((betwX 3 3 sS 4 10) = 2) && true) && true) && true))]) (fun _ w' => St w [] w' [Ob.v (tSl (tI .i64)) sS v_155, Ob.v (tSl (tI .i64)) [6, 5, 4, 3] r_143, Ob.v (tSl (tI .i64)) [6, 5, 4, 3] v_139, Ob.v (tSl (tI .i64)) sS v_135, .row (tP (tI .i64) (tI .i64)) 74 v_129 (treeE 4 1 sT), Ob.v (tSl (tI .i64)) sT v_122, Ob.v (tSl (tI .i64)) sS v_112, Ob.v (tSl (tI .i64)) sS v_102, .row (tI .i64) 3 v_96 (basinE 3 3 sS 4), Ob.v (tSl (tI .i64)) sS v_89, .row (tI .i64) 3 v_83 (wayE 3 3 sS 0), Ob.v (tSl (tI .i64)) sS v_76, Ob.v (tSl (tI .i64)) [6, 5, 4, 3] r_64, Ob.v (tSl (tI .i64)) [6, 5, 4, 3] v_60, Ob.v (tSl (tI .i64)) sS v_56, .row (tSl (tI .i64)) 22 v_50 (poolsE 4 1 sT 2), Ob.v (tSl (tI .i64)) sT v_43, .row (tI .i64) 3 v_37 (bareE 3 3 sS 0), Ob.v (tSl (tI .i64)) sS v_30, .row (tI .i64) 3 v_24 (depthsE 3 3 sS 5), Ob.v (tSl (tI .i64)) sS v_17, .row (tI .i64) 3 v_11 (sillsE 3 3 sS), Ob.v (tSl (tI .i64)) sS v_4]) ?_ ?_
  · rcases Bool.eq_false_or_eq_true ((decide ((betwX 3 3 sS 4 10) = 2) && true) && true) with g_198 | g_198
    · -- True
      have gp_199 := g_198
      try simp only [Bool.and_eq_true, Bool.or_eq_true, Bool.not_eq_true', Bool.and_eq_false_iff, Bool.or_eq_false_iff, Bool.not_eq_false', decide_eq_true_eq, decide_eq_false_iff_not, not_or, Bool.false_eq_true, Bool.true_eq_false, false_or, or_false, not_false_eq_true] at gp_199
      refine Wx.gyes rfl rfl (congrArg Value.bool g_198) ?_
      refine Wx.rd (v := v_37) (rd_move rfl) rfl ?_
      refine Wx.gyes rfl rfl (congrArg Value.bool g_198) ?_
      refine Wx.lit (t := (tI .i64)) (ys := [0, 1, 2, 3, 5, 6, 7, 8]) (vs := [.int .i64 0, .int .i64 1, .int .i64 2, .int .i64 3, .int .i64 5, .int .i64 6, .int .i64 7, .int .i64 8]) elMb_22 hS rfl rfl ⟨(V.mkInt (in_i64 (by omega) (by omega))), ⟨(V.mkInt (in_i64 (by omega) (by omega))), ⟨(V.mkInt (in_i64 (by omega) (by omega))), ⟨(V.mkInt (in_i64 (by omega) (by omega))), ⟨(V.mkInt (in_i64 (by omega) (by omega))), ⟨(V.mkInt (in_i64 (by omega) (by omega))), ⟨(V.mkInt (in_i64 (by omega) (by omega))), ⟨(V.mkInt (in_i64 (by omega) (by omega))), trivial⟩⟩⟩⟩⟩⟩⟩⟩ (by decide) rfl (fun v_200 w_201 hx_202 hS => ?_)
      refine Wx.gyes rfl rfl (congrArg Value.bool g_198) ?_
      have hS := hS.freeze 0 rfl
      refine Wx.callF (run_callF Try.call49 rfl) (F49 (hS.v 0 rfl) hS.fb_lt) rfl ?_
      rintro r_204 w_205 hx_206 ⟨_, rfl, hv_207⟩
      have ln_209 := hv_207.len63
      have hS := hS.ext hx_206
      have hS := hS.add hv_207
      refine Wx.gyes rfl rfl (congrArg Value.bool g_198) ?_
      refine Wx.callF (run_callF Try.call21 rfl) (F21 (hS.lend 19 rfl) (hS.v 0 rfl)) rfl ?_
      rintro r_210 w_211 hx_212 rfl
      have hS := hS.ext hx_212
      rw [show (decide ((bareE 3 3 sS 0) = [0, 1, 2, 3, 5, 6, 7, 8]) : Bool) = true from (by decide +kernel)]
      refine Wx.rd (v := .bool true) (rd_pickT (congrArg Value.bool g_198) rfl) rfl ?_
      refine Wx.nil ⟨(), St.tl (hS.tl), ⟨?_, trivial⟩, Out.look rfl Out.refl⟩
      show Value.bool true = Value.bool (((decide ((betwX 3 3 sS 4 10) = 2) && true) && true) && true)
      first | rw [g_198, Bool.true_and] | (rw [g_198]; rfl)
    · -- False
      have gp_213 := g_198
      try simp only [Bool.and_eq_true, Bool.or_eq_true, Bool.not_eq_true', Bool.and_eq_false_iff, Bool.or_eq_false_iff, Bool.not_eq_false', decide_eq_true_eq, decide_eq_false_iff_not, not_or, Bool.false_eq_true, Bool.true_eq_false, false_or, or_false, not_false_eq_true] at gp_213
      refine Wx.gnoB rfl rfl (congrArg Value.bool g_198) rfl rfl ?_
      refine Wx.gnoB rfl rfl (congrArg Value.bool g_198) rfl rfl ?_
      refine Wx.gnoB rfl rfl (congrArg Value.bool g_198) rfl rfl ?_
      refine Wx.gnoB rfl rfl (congrArg Value.bool g_198) rfl rfl ?_
      refine Wx.rd (v := .bool false) (rd_pickF (congrArg Value.bool g_198) rfl) rfl ?_
      refine Wx.nil ⟨(), hS, ⟨?_, trivial⟩, Out.look rfl Out.refl⟩
      show Value.bool false = Value.bool (((decide ((betwX 3 3 sS 4 10) = 2) && true) && true) && true)
      first | rw [g_198, Bool.false_and] | (rw [g_198]; rfl)
  rintro ⟨⟩ u_215 w_214 hS
  refine Wx.rd (v := .bool (((decide ((betwX 3 3 sS 4 10) = 2) && true) && true) && true)) (rd_move rfl) rfl ?_
  refine Wx.cut (X := Unit) 5 [144, 145, 146, 147, 148] (fun _ => [(148, .bool ((((decide ((betwX 3 3 sS 4 10) = 2) && true) && true) && true) && true))]) (fun _ w' => St w [] w' [Ob.v (tSl (tI .i64)) sS v_155, Ob.v (tSl (tI .i64)) [6, 5, 4, 3] r_143, Ob.v (tSl (tI .i64)) [6, 5, 4, 3] v_139, Ob.v (tSl (tI .i64)) sS v_135, .row (tP (tI .i64) (tI .i64)) 74 v_129 (treeE 4 1 sT), Ob.v (tSl (tI .i64)) sT v_122, Ob.v (tSl (tI .i64)) sS v_112, Ob.v (tSl (tI .i64)) sS v_102, .row (tI .i64) 3 v_96 (basinE 3 3 sS 4), Ob.v (tSl (tI .i64)) sS v_89, .row (tI .i64) 3 v_83 (wayE 3 3 sS 0), Ob.v (tSl (tI .i64)) sS v_76, Ob.v (tSl (tI .i64)) [6, 5, 4, 3] r_64, Ob.v (tSl (tI .i64)) [6, 5, 4, 3] v_60, Ob.v (tSl (tI .i64)) sS v_56, .row (tSl (tI .i64)) 22 v_50 (poolsE 4 1 sT 2), Ob.v (tSl (tI .i64)) sT v_43, .row (tI .i64) 3 v_37 (bareE 3 3 sS 0), Ob.v (tSl (tI .i64)) sS v_30, .row (tI .i64) 3 v_24 (depthsE 3 3 sS 5), Ob.v (tSl (tI .i64)) sS v_17, .row (tI .i64) 3 v_11 (sillsE 3 3 sS), Ob.v (tSl (tI .i64)) sS v_4]) ?_ ?_
  · rcases Bool.eq_false_or_eq_true (((decide ((betwX 3 3 sS 4 10) = 2) && true) && true) && true) with g_216 | g_216
    · -- True
      have gp_217 := g_216
      try simp only [Bool.and_eq_true, Bool.or_eq_true, Bool.not_eq_true', Bool.and_eq_false_iff, Bool.or_eq_false_iff, Bool.not_eq_false', decide_eq_true_eq, decide_eq_false_iff_not, not_or, Bool.false_eq_true, Bool.true_eq_false, false_or, or_false, not_false_eq_true] at gp_217
      refine Wx.gyes rfl rfl (congrArg Value.bool g_216) ?_
      refine Wx.rd (v := v_50) (rd_move rfl) rfl ?_
      refine Wx.gyes rfl rfl (congrArg Value.bool g_216) ?_
      refine Wx.lit (t := (tI .i64)) (ys := [1]) (vs := [.int .i64 1]) elMb_22 hS rfl rfl ⟨(V.mkInt (in_i64 (by omega) (by omega))), trivial⟩ (by decide) rfl (fun v_218 w_219 hx_220 hS => ?_)
      refine Wx.gyes rfl rfl (congrArg Value.bool g_216) ?_
      have hS := hS.freeze 0 rfl
      refine Wx.lit (t := (tSl (tI .i64))) (ys := [[1]]) (vs := [v_218]) elMb_37 hS rfl rfl ⟨(hS.v 0 rfl), trivial⟩ (by decide) rfl (fun v_222 w_223 hx_224 hS => ?_)
      refine Wx.gyes rfl rfl (congrArg Value.bool g_216) ?_
      refine Wx.callF (run_callF Try.call28 rfl) (F28 (hS.lend 17 rfl) (hS.lend 0 rfl)) rfl ?_
      rintro r_225 w_226 hx_227 rfl
      have hS := hS.ext hx_227
      rw [show (decide ((poolsE 4 1 sT 2) = [[1]]) : Bool) = true from (by decide +kernel)]
      refine Wx.rd (v := .bool true) (rd_pickT (congrArg Value.bool g_216) rfl) rfl ?_
      refine Wx.nil ⟨(), St.tl (hS.tl), ⟨?_, trivial⟩, Out.look rfl Out.refl⟩
      show Value.bool true = Value.bool ((((decide ((betwX 3 3 sS 4 10) = 2) && true) && true) && true) && true)
      first | rw [g_216, Bool.true_and] | (rw [g_216]; rfl)
    · -- False
      have gp_228 := g_216
      try simp only [Bool.and_eq_true, Bool.or_eq_true, Bool.not_eq_true', Bool.and_eq_false_iff, Bool.or_eq_false_iff, Bool.not_eq_false', decide_eq_true_eq, decide_eq_false_iff_not, not_or, Bool.false_eq_true, Bool.true_eq_false, false_or, or_false, not_false_eq_true] at gp_228
      refine Wx.gnoB rfl rfl (congrArg Value.bool g_216) rfl rfl ?_
      refine Wx.gnoB rfl rfl (congrArg Value.bool g_216) rfl rfl ?_
      refine Wx.gnoB rfl rfl (congrArg Value.bool g_216) rfl rfl ?_
      refine Wx.gnoB rfl rfl (congrArg Value.bool g_216) rfl rfl ?_
      refine Wx.rd (v := .bool false) (rd_pickF (congrArg Value.bool g_216) rfl) rfl ?_
      refine Wx.nil ⟨(), hS, ⟨?_, trivial⟩, Out.look rfl Out.refl⟩
      show Value.bool false = Value.bool ((((decide ((betwX 3 3 sS 4 10) = 2) && true) && true) && true) && true)
      first | rw [g_216, Bool.false_and] | (rw [g_216]; rfl)
  rintro ⟨⟩ u_230 w_229 hS
  refine Wx.rd (v := .bool ((((decide ((betwX 3 3 sS 4 10) = 2) && true) && true) && true) && true)) (rd_move rfl) rfl ?_
  refine Wx.cut (X := Unit) 3 [150, 151, 152] (fun _ => [(152, .bool (((((decide ((betwX 3 3 sS 4 10) = 2) && true) && true) && true) && true) && true))]) (fun _ w' => St w [] w' [Ob.v (tSl (tI .i64)) sS v_155, Ob.v (tSl (tI .i64)) [6, 5, 4, 3] r_143, Ob.v (tSl (tI .i64)) [6, 5, 4, 3] v_139, Ob.v (tSl (tI .i64)) sS v_135, .row (tP (tI .i64) (tI .i64)) 74 v_129 (treeE 4 1 sT), Ob.v (tSl (tI .i64)) sT v_122, Ob.v (tSl (tI .i64)) sS v_112, Ob.v (tSl (tI .i64)) sS v_102, .row (tI .i64) 3 v_96 (basinE 3 3 sS 4), Ob.v (tSl (tI .i64)) sS v_89, .row (tI .i64) 3 v_83 (wayE 3 3 sS 0), Ob.v (tSl (tI .i64)) sS v_76, Ob.v (tSl (tI .i64)) [6, 5, 4, 3] r_64, Ob.v (tSl (tI .i64)) [6, 5, 4, 3] v_60, Ob.v (tSl (tI .i64)) sS v_56, .row (tSl (tI .i64)) 22 v_50 (poolsE 4 1 sT 2), Ob.v (tSl (tI .i64)) sT v_43, .row (tI .i64) 3 v_37 (bareE 3 3 sS 0), Ob.v (tSl (tI .i64)) sS v_30, .row (tI .i64) 3 v_24 (depthsE 3 3 sS 5), Ob.v (tSl (tI .i64)) sS v_17, .row (tI .i64) 3 v_11 (sillsE 3 3 sS), Ob.v (tSl (tI .i64)) sS v_4]) ?_ ?_
  · rcases Bool.eq_false_or_eq_true ((((decide ((betwX 3 3 sS 4 10) = 2) && true) && true) && true) && true) with g_231 | g_231
    · -- True
      have gp_232 := g_231
      try simp only [Bool.and_eq_true, Bool.or_eq_true, Bool.not_eq_true', Bool.and_eq_false_iff, Bool.or_eq_false_iff, Bool.not_eq_false', decide_eq_true_eq, decide_eq_false_iff_not, not_or, Bool.false_eq_true, Bool.true_eq_false, false_or, or_false, not_false_eq_true] at gp_232
      refine Wx.gyes rfl rfl (congrArg Value.bool g_231) ?_
      refine Wx.rd (v := .int .i64 2) (rd_move rfl) rfl ?_
      refine Wx.gyes rfl rfl (congrArg Value.bool g_231) ?_
      refine Wx.rd (v := .bool true) (Rd.to (v := .bool (decide ((2 : Int) = 2))) (rd_eql rfl rfl) rfl) rfl ?_
      refine Wx.rd (v := .bool true) (rd_pickT (congrArg Value.bool g_231) rfl) rfl ?_
      refine Wx.nil ⟨(), hS, ⟨?_, trivial⟩, Out.look rfl Out.refl⟩
      show Value.bool true = Value.bool (((((decide ((betwX 3 3 sS 4 10) = 2) && true) && true) && true) && true) && true)
      first | rw [g_231, Bool.true_and] | (rw [g_231]; rfl)
    · -- False
      have gp_233 := g_231
      try simp only [Bool.and_eq_true, Bool.or_eq_true, Bool.not_eq_true', Bool.and_eq_false_iff, Bool.or_eq_false_iff, Bool.not_eq_false', decide_eq_true_eq, decide_eq_false_iff_not, not_or, Bool.false_eq_true, Bool.true_eq_false, false_or, or_false, not_false_eq_true] at gp_233
      refine Wx.gnoB rfl rfl (congrArg Value.bool g_231) rfl rfl ?_
      refine Wx.gnoB rfl rfl (congrArg Value.bool g_231) rfl rfl ?_
      refine Wx.rd (v := .bool false) (rd_pickF (congrArg Value.bool g_231) rfl) rfl ?_
      refine Wx.nil ⟨(), hS, ⟨?_, trivial⟩, Out.look rfl Out.refl⟩
      show Value.bool false = Value.bool (((((decide ((betwX 3 3 sS 4 10) = 2) && true) && true) && true) && true) && true)
      first | rw [g_231, Bool.false_and] | (rw [g_231]; rfl)
  rintro ⟨⟩ u_235 w_234 hS
  refine Wx.rd (v := .bool (((((decide ((betwX 3 3 sS 4 10) = 2) && true) && true) && true) && true) && true)) (rd_move rfl) rfl ?_
  refine Wx.cut (X := Unit) 5 [154, 155, 156, 157, 158] (fun _ => [(158, .bool ((((((decide ((betwX 3 3 sS 4 10) = 2) && true) && true) && true) && true) && true) && true))]) (fun _ w' => St w [] w' [Ob.v (tSl (tI .i64)) sS v_155, Ob.v (tSl (tI .i64)) [6, 5, 4, 3] r_143, Ob.v (tSl (tI .i64)) [6, 5, 4, 3] v_139, Ob.v (tSl (tI .i64)) sS v_135, .row (tP (tI .i64) (tI .i64)) 74 v_129 (treeE 4 1 sT), Ob.v (tSl (tI .i64)) sT v_122, Ob.v (tSl (tI .i64)) sS v_112, Ob.v (tSl (tI .i64)) sS v_102, .row (tI .i64) 3 v_96 (basinE 3 3 sS 4), Ob.v (tSl (tI .i64)) sS v_89, .row (tI .i64) 3 v_83 (wayE 3 3 sS 0), Ob.v (tSl (tI .i64)) sS v_76, Ob.v (tSl (tI .i64)) [6, 5, 4, 3] r_64, Ob.v (tSl (tI .i64)) [6, 5, 4, 3] v_60, Ob.v (tSl (tI .i64)) sS v_56, .row (tSl (tI .i64)) 22 v_50 (poolsE 4 1 sT 2), Ob.v (tSl (tI .i64)) sT v_43, .row (tI .i64) 3 v_37 (bareE 3 3 sS 0), Ob.v (tSl (tI .i64)) sS v_30, .row (tI .i64) 3 v_24 (depthsE 3 3 sS 5), Ob.v (tSl (tI .i64)) sS v_17, .row (tI .i64) 3 v_11 (sillsE 3 3 sS), Ob.v (tSl (tI .i64)) sS v_4]) ?_ ?_
  · rcases Bool.eq_false_or_eq_true (((((decide ((betwX 3 3 sS 4 10) = 2) && true) && true) && true) && true) && true) with g_236 | g_236
    · -- True
      have gp_237 := g_236
      try simp only [Bool.and_eq_true, Bool.or_eq_true, Bool.not_eq_true', Bool.and_eq_false_iff, Bool.or_eq_false_iff, Bool.not_eq_false', decide_eq_true_eq, decide_eq_false_iff_not, not_or, Bool.false_eq_true, Bool.true_eq_false, false_or, or_false, not_false_eq_true] at gp_237
      refine Wx.gyes rfl rfl (congrArg Value.bool g_236) ?_
      refine Wx.rd (v := v_83) (rd_move rfl) rfl ?_
      refine Wx.gyes rfl rfl (congrArg Value.bool g_236) ?_
      refine Wx.lit (t := (tI .i64)) (ys := [0, 3, 6]) (vs := [.int .i64 0, .int .i64 3, .int .i64 6]) elMb_22 hS rfl rfl ⟨(V.mkInt (in_i64 (by omega) (by omega))), ⟨(V.mkInt (in_i64 (by omega) (by omega))), ⟨(V.mkInt (in_i64 (by omega) (by omega))), trivial⟩⟩⟩ (by decide) rfl (fun v_238 w_239 hx_240 hS => ?_)
      refine Wx.gyes rfl rfl (congrArg Value.bool g_236) ?_
      have hS := hS.freeze 0 rfl
      refine Wx.callF (run_callF Try.call49 rfl) (F49 (hS.v 0 rfl) hS.fb_lt) rfl ?_
      rintro r_242 w_243 hx_244 ⟨_, rfl, hv_245⟩
      have ln_247 := hv_245.len63
      have hS := hS.ext hx_244
      have hS := hS.add hv_245
      refine Wx.gyes rfl rfl (congrArg Value.bool g_236) ?_
      refine Wx.callF (run_callF Try.call21 rfl) (F21 (hS.lend 12 rfl) (hS.v 0 rfl)) rfl ?_
      rintro r_248 w_249 hx_250 rfl
      have hS := hS.ext hx_250
      rw [show (decide ((wayE 3 3 sS 0) = [0, 3, 6]) : Bool) = true from (by decide +kernel)]
      refine Wx.rd (v := .bool true) (rd_pickT (congrArg Value.bool g_236) rfl) rfl ?_
      refine Wx.nil ⟨(), St.tl (hS.tl), ⟨?_, trivial⟩, Out.look rfl Out.refl⟩
      show Value.bool true = Value.bool ((((((decide ((betwX 3 3 sS 4 10) = 2) && true) && true) && true) && true) && true) && true)
      first | rw [g_236, Bool.true_and] | (rw [g_236]; rfl)
    · -- False
      have gp_251 := g_236
      try simp only [Bool.and_eq_true, Bool.or_eq_true, Bool.not_eq_true', Bool.and_eq_false_iff, Bool.or_eq_false_iff, Bool.not_eq_false', decide_eq_true_eq, decide_eq_false_iff_not, not_or, Bool.false_eq_true, Bool.true_eq_false, false_or, or_false, not_false_eq_true] at gp_251
      refine Wx.gnoB rfl rfl (congrArg Value.bool g_236) rfl rfl ?_
      refine Wx.gnoB rfl rfl (congrArg Value.bool g_236) rfl rfl ?_
      refine Wx.gnoB rfl rfl (congrArg Value.bool g_236) rfl rfl ?_
      refine Wx.gnoB rfl rfl (congrArg Value.bool g_236) rfl rfl ?_
      refine Wx.rd (v := .bool false) (rd_pickF (congrArg Value.bool g_236) rfl) rfl ?_
      refine Wx.nil ⟨(), hS, ⟨?_, trivial⟩, Out.look rfl Out.refl⟩
      show Value.bool false = Value.bool ((((((decide ((betwX 3 3 sS 4 10) = 2) && true) && true) && true) && true) && true) && true)
      first | rw [g_236, Bool.false_and] | (rw [g_236]; rfl)
  rintro ⟨⟩ u_253 w_252 hS
  refine Wx.rd (v := .bool ((((((decide ((betwX 3 3 sS 4 10) = 2) && true) && true) && true) && true) && true) && true)) (rd_move rfl) rfl ?_
  refine Wx.cut (X := Unit) 5 [160, 161, 162, 163, 164] (fun _ => [(164, .bool (((((((decide ((betwX 3 3 sS 4 10) = 2) && true) && true) && true) && true) && true) && true) && true))]) (fun _ w' => St w [] w' [Ob.v (tSl (tI .i64)) sS v_155, Ob.v (tSl (tI .i64)) [6, 5, 4, 3] r_143, Ob.v (tSl (tI .i64)) [6, 5, 4, 3] v_139, Ob.v (tSl (tI .i64)) sS v_135, .row (tP (tI .i64) (tI .i64)) 74 v_129 (treeE 4 1 sT), Ob.v (tSl (tI .i64)) sT v_122, Ob.v (tSl (tI .i64)) sS v_112, Ob.v (tSl (tI .i64)) sS v_102, .row (tI .i64) 3 v_96 (basinE 3 3 sS 4), Ob.v (tSl (tI .i64)) sS v_89, .row (tI .i64) 3 v_83 (wayE 3 3 sS 0), Ob.v (tSl (tI .i64)) sS v_76, Ob.v (tSl (tI .i64)) [6, 5, 4, 3] r_64, Ob.v (tSl (tI .i64)) [6, 5, 4, 3] v_60, Ob.v (tSl (tI .i64)) sS v_56, .row (tSl (tI .i64)) 22 v_50 (poolsE 4 1 sT 2), Ob.v (tSl (tI .i64)) sT v_43, .row (tI .i64) 3 v_37 (bareE 3 3 sS 0), Ob.v (tSl (tI .i64)) sS v_30, .row (tI .i64) 3 v_24 (depthsE 3 3 sS 5), Ob.v (tSl (tI .i64)) sS v_17, .row (tI .i64) 3 v_11 (sillsE 3 3 sS), Ob.v (tSl (tI .i64)) sS v_4]) ?_ ?_
  · rcases Bool.eq_false_or_eq_true ((((((decide ((betwX 3 3 sS 4 10) = 2) && true) && true) && true) && true) && true) && true) with g_254 | g_254
    · -- True
      have gp_255 := g_254
      try simp only [Bool.and_eq_true, Bool.or_eq_true, Bool.not_eq_true', Bool.and_eq_false_iff, Bool.or_eq_false_iff, Bool.not_eq_false', decide_eq_true_eq, decide_eq_false_iff_not, not_or, Bool.false_eq_true, Bool.true_eq_false, false_or, or_false, not_false_eq_true] at gp_255
      refine Wx.gyes rfl rfl (congrArg Value.bool g_254) ?_
      refine Wx.rd (v := v_96) (rd_move rfl) rfl ?_
      refine Wx.gyes rfl rfl (congrArg Value.bool g_254) ?_
      refine Wx.lit (t := (tI .i64)) (ys := [4]) (vs := [.int .i64 4]) elMb_22 hS rfl rfl ⟨(V.mkInt (in_i64 (by omega) (by omega))), trivial⟩ (by decide) rfl (fun v_256 w_257 hx_258 hS => ?_)
      refine Wx.gyes rfl rfl (congrArg Value.bool g_254) ?_
      have hS := hS.freeze 0 rfl
      refine Wx.callF (run_callF Try.call49 rfl) (F49 (hS.v 0 rfl) hS.fb_lt) rfl ?_
      rintro r_260 w_261 hx_262 ⟨_, rfl, hv_263⟩
      have ln_265 := hv_263.len63
      have hS := hS.ext hx_262
      have hS := hS.add hv_263
      refine Wx.gyes rfl rfl (congrArg Value.bool g_254) ?_
      refine Wx.callF (run_callF Try.call21 rfl) (F21 (hS.lend 10 rfl) (hS.v 0 rfl)) rfl ?_
      rintro r_266 w_267 hx_268 rfl
      have hS := hS.ext hx_268
      rw [show (decide ((basinE 3 3 sS 4) = [4]) : Bool) = true from (by decide +kernel)]
      refine Wx.rd (v := .bool true) (rd_pickT (congrArg Value.bool g_254) rfl) rfl ?_
      refine Wx.nil ⟨(), St.tl (hS.tl), ⟨?_, trivial⟩, Out.look rfl Out.refl⟩
      show Value.bool true = Value.bool (((((((decide ((betwX 3 3 sS 4 10) = 2) && true) && true) && true) && true) && true) && true) && true)
      first | rw [g_254, Bool.true_and] | (rw [g_254]; rfl)
    · -- False
      have gp_269 := g_254
      try simp only [Bool.and_eq_true, Bool.or_eq_true, Bool.not_eq_true', Bool.and_eq_false_iff, Bool.or_eq_false_iff, Bool.not_eq_false', decide_eq_true_eq, decide_eq_false_iff_not, not_or, Bool.false_eq_true, Bool.true_eq_false, false_or, or_false, not_false_eq_true] at gp_269
      refine Wx.gnoB rfl rfl (congrArg Value.bool g_254) rfl rfl ?_
      refine Wx.gnoB rfl rfl (congrArg Value.bool g_254) rfl rfl ?_
      refine Wx.gnoB rfl rfl (congrArg Value.bool g_254) rfl rfl ?_
      refine Wx.gnoB rfl rfl (congrArg Value.bool g_254) rfl rfl ?_
      refine Wx.rd (v := .bool false) (rd_pickF (congrArg Value.bool g_254) rfl) rfl ?_
      refine Wx.nil ⟨(), hS, ⟨?_, trivial⟩, Out.look rfl Out.refl⟩
      show Value.bool false = Value.bool (((((((decide ((betwX 3 3 sS 4 10) = 2) && true) && true) && true) && true) && true) && true) && true)
      first | rw [g_254, Bool.false_and] | (rw [g_254]; rfl)
  rintro ⟨⟩ u_271 w_270 hS
  refine Wx.rd (v := .bool (((((((decide ((betwX 3 3 sS 4 10) = 2) && true) && true) && true) && true) && true) && true) && true)) (rd_move rfl) rfl ?_
  refine Wx.cut (X := Unit) 3 [166, 167, 168] (fun _ => [(168, .bool ((((((((decide ((betwX 3 3 sS 4 10) = 2) && true) && true) && true) && true) && true) && true) && true) && true))]) (fun _ w' => St w [] w' [Ob.v (tSl (tI .i64)) sS v_155, Ob.v (tSl (tI .i64)) [6, 5, 4, 3] r_143, Ob.v (tSl (tI .i64)) [6, 5, 4, 3] v_139, Ob.v (tSl (tI .i64)) sS v_135, .row (tP (tI .i64) (tI .i64)) 74 v_129 (treeE 4 1 sT), Ob.v (tSl (tI .i64)) sT v_122, Ob.v (tSl (tI .i64)) sS v_112, Ob.v (tSl (tI .i64)) sS v_102, .row (tI .i64) 3 v_96 (basinE 3 3 sS 4), Ob.v (tSl (tI .i64)) sS v_89, .row (tI .i64) 3 v_83 (wayE 3 3 sS 0), Ob.v (tSl (tI .i64)) sS v_76, Ob.v (tSl (tI .i64)) [6, 5, 4, 3] r_64, Ob.v (tSl (tI .i64)) [6, 5, 4, 3] v_60, Ob.v (tSl (tI .i64)) sS v_56, .row (tSl (tI .i64)) 22 v_50 (poolsE 4 1 sT 2), Ob.v (tSl (tI .i64)) sT v_43, .row (tI .i64) 3 v_37 (bareE 3 3 sS 0), Ob.v (tSl (tI .i64)) sS v_30, .row (tI .i64) 3 v_24 (depthsE 3 3 sS 5), Ob.v (tSl (tI .i64)) sS v_17, .row (tI .i64) 3 v_11 (sillsE 3 3 sS), Ob.v (tSl (tI .i64)) sS v_4]) ?_ ?_
  · rcases Bool.eq_false_or_eq_true (((((((decide ((betwX 3 3 sS 4 10) = 2) && true) && true) && true) && true) && true) && true) && true) with g_272 | g_272
    · -- True
      have gp_273 := g_272
      try simp only [Bool.and_eq_true, Bool.or_eq_true, Bool.not_eq_true', Bool.and_eq_false_iff, Bool.or_eq_false_iff, Bool.not_eq_false', decide_eq_true_eq, decide_eq_false_iff_not, not_or, Bool.false_eq_true, Bool.true_eq_false, false_or, or_false, not_false_eq_true] at gp_273
      refine Wx.gyes rfl rfl (congrArg Value.bool g_272) ?_
      refine Wx.rd (v := .int .i64 5) (rd_move rfl) rfl ?_
      refine Wx.gyes rfl rfl (congrArg Value.bool g_272) ?_
      refine Wx.rd (v := .bool true) (Rd.to (v := .bool (decide ((5 : Int) = 5))) (rd_eql rfl rfl) rfl) rfl ?_
      refine Wx.rd (v := .bool true) (rd_pickT (congrArg Value.bool g_272) rfl) rfl ?_
      refine Wx.nil ⟨(), hS, ⟨?_, trivial⟩, Out.look rfl Out.refl⟩
      show Value.bool true = Value.bool ((((((((decide ((betwX 3 3 sS 4 10) = 2) && true) && true) && true) && true) && true) && true) && true) && true)
      first | rw [g_272, Bool.true_and] | (rw [g_272]; rfl)
    · -- False
      have gp_274 := g_272
      try simp only [Bool.and_eq_true, Bool.or_eq_true, Bool.not_eq_true', Bool.and_eq_false_iff, Bool.or_eq_false_iff, Bool.not_eq_false', decide_eq_true_eq, decide_eq_false_iff_not, not_or, Bool.false_eq_true, Bool.true_eq_false, false_or, or_false, not_false_eq_true] at gp_274
      refine Wx.gnoB rfl rfl (congrArg Value.bool g_272) rfl rfl ?_
      refine Wx.gnoB rfl rfl (congrArg Value.bool g_272) rfl rfl ?_
      refine Wx.rd (v := .bool false) (rd_pickF (congrArg Value.bool g_272) rfl) rfl ?_
      refine Wx.nil ⟨(), hS, ⟨?_, trivial⟩, Out.look rfl Out.refl⟩
      show Value.bool false = Value.bool ((((((((decide ((betwX 3 3 sS 4 10) = 2) && true) && true) && true) && true) && true) && true) && true) && true)
      first | rw [g_272, Bool.false_and] | (rw [g_272]; rfl)
  rintro ⟨⟩ u_276 w_275 hS
  refine Wx.rd (v := .bool ((((((((decide ((betwX 3 3 sS 4 10) = 2) && true) && true) && true) && true) && true) && true) && true) && true)) (rd_move rfl) rfl ?_
  refine Wx.cut (X := Unit) 3 [170, 171, 172] (fun _ => [(172, .bool (((((((((decide ((betwX 3 3 sS 4 10) = 2) && true) && true) && true) && true) && true) && true) && true) && true) && true))]) (fun _ w' => St w [] w' [Ob.v (tSl (tI .i64)) sS v_155, Ob.v (tSl (tI .i64)) [6, 5, 4, 3] r_143, Ob.v (tSl (tI .i64)) [6, 5, 4, 3] v_139, Ob.v (tSl (tI .i64)) sS v_135, .row (tP (tI .i64) (tI .i64)) 74 v_129 (treeE 4 1 sT), Ob.v (tSl (tI .i64)) sT v_122, Ob.v (tSl (tI .i64)) sS v_112, Ob.v (tSl (tI .i64)) sS v_102, .row (tI .i64) 3 v_96 (basinE 3 3 sS 4), Ob.v (tSl (tI .i64)) sS v_89, .row (tI .i64) 3 v_83 (wayE 3 3 sS 0), Ob.v (tSl (tI .i64)) sS v_76, Ob.v (tSl (tI .i64)) [6, 5, 4, 3] r_64, Ob.v (tSl (tI .i64)) [6, 5, 4, 3] v_60, Ob.v (tSl (tI .i64)) sS v_56, .row (tSl (tI .i64)) 22 v_50 (poolsE 4 1 sT 2), Ob.v (tSl (tI .i64)) sT v_43, .row (tI .i64) 3 v_37 (bareE 3 3 sS 0), Ob.v (tSl (tI .i64)) sS v_30, .row (tI .i64) 3 v_24 (depthsE 3 3 sS 5), Ob.v (tSl (tI .i64)) sS v_17, .row (tI .i64) 3 v_11 (sillsE 3 3 sS), Ob.v (tSl (tI .i64)) sS v_4]) ?_ ?_
  · rcases Bool.eq_false_or_eq_true ((((((((decide ((betwX 3 3 sS 4 10) = 2) && true) && true) && true) && true) && true) && true) && true) && true) with g_277 | g_277
    · -- True
      have gp_278 := g_277
      try simp only [Bool.and_eq_true, Bool.or_eq_true, Bool.not_eq_true', Bool.and_eq_false_iff, Bool.or_eq_false_iff, Bool.not_eq_false', decide_eq_true_eq, decide_eq_false_iff_not, not_or, Bool.false_eq_true, Bool.true_eq_false, false_or, or_false, not_false_eq_true] at gp_278
      refine Wx.gyes rfl rfl (congrArg Value.bool g_277) ?_
      refine Wx.rd (v := .int .i64 4) (rd_move rfl) rfl ?_
      refine Wx.gyes rfl rfl (congrArg Value.bool g_277) ?_
      refine Wx.rd (v := .bool true) (Rd.to (v := .bool (decide ((4 : Int) = 4))) (rd_eql rfl rfl) rfl) rfl ?_
      refine Wx.rd (v := .bool true) (rd_pickT (congrArg Value.bool g_277) rfl) rfl ?_
      refine Wx.nil ⟨(), hS, ⟨?_, trivial⟩, Out.look rfl Out.refl⟩
      show Value.bool true = Value.bool (((((((((decide ((betwX 3 3 sS 4 10) = 2) && true) && true) && true) && true) && true) && true) && true) && true) && true)
      first | rw [g_277, Bool.true_and] | (rw [g_277]; rfl)
    · -- False
      have gp_279 := g_277
      try simp only [Bool.and_eq_true, Bool.or_eq_true, Bool.not_eq_true', Bool.and_eq_false_iff, Bool.or_eq_false_iff, Bool.not_eq_false', decide_eq_true_eq, decide_eq_false_iff_not, not_or, Bool.false_eq_true, Bool.true_eq_false, false_or, or_false, not_false_eq_true] at gp_279
      refine Wx.gnoB rfl rfl (congrArg Value.bool g_277) rfl rfl ?_
      refine Wx.gnoB rfl rfl (congrArg Value.bool g_277) rfl rfl ?_
      refine Wx.rd (v := .bool false) (rd_pickF (congrArg Value.bool g_277) rfl) rfl ?_
      refine Wx.nil ⟨(), hS, ⟨?_, trivial⟩, Out.look rfl Out.refl⟩
      show Value.bool false = Value.bool (((((((((decide ((betwX 3 3 sS 4 10) = 2) && true) && true) && true) && true) && true) && true) && true) && true) && true)
      first | rw [g_277, Bool.false_and] | (rw [g_277]; rfl)
  rintro ⟨⟩ u_281 w_280 hS
  refine Wx.rd (v := .bool (((((((((decide ((betwX 3 3 sS 4 10) = 2) && true) && true) && true) && true) && true) && true) && true) && true) && true)) (rd_move rfl) rfl ?_
  refine Wx.cut (X := Unit) 8 [174, 175, 176, 177, 178, 179, 180, 181] (fun _ => [(181, .bool ((((((((((decide ((betwX 3 3 sS 4 10) = 2) && true) && true) && true) && true) && true) && true) && true) && true) && true) && true))]) (fun _ w' => St w [] w' [Ob.v (tSl (tI .i64)) sS v_155, Ob.v (tSl (tI .i64)) [6, 5, 4, 3] r_143, Ob.v (tSl (tI .i64)) [6, 5, 4, 3] v_139, Ob.v (tSl (tI .i64)) sS v_135, .row (tP (tI .i64) (tI .i64)) 74 v_129 (treeE 4 1 sT), Ob.v (tSl (tI .i64)) sT v_122, Ob.v (tSl (tI .i64)) sS v_112, Ob.v (tSl (tI .i64)) sS v_102, .row (tI .i64) 3 v_96 (basinE 3 3 sS 4), Ob.v (tSl (tI .i64)) sS v_89, .row (tI .i64) 3 v_83 (wayE 3 3 sS 0), Ob.v (tSl (tI .i64)) sS v_76, Ob.v (tSl (tI .i64)) [6, 5, 4, 3] r_64, Ob.v (tSl (tI .i64)) [6, 5, 4, 3] v_60, Ob.v (tSl (tI .i64)) sS v_56, .row (tSl (tI .i64)) 22 v_50 (poolsE 4 1 sT 2), Ob.v (tSl (tI .i64)) sT v_43, .row (tI .i64) 3 v_37 (bareE 3 3 sS 0), Ob.v (tSl (tI .i64)) sS v_30, .row (tI .i64) 3 v_24 (depthsE 3 3 sS 5), Ob.v (tSl (tI .i64)) sS v_17, .row (tI .i64) 3 v_11 (sillsE 3 3 sS), Ob.v (tSl (tI .i64)) sS v_4]) ?_ ?_
  · rcases Bool.eq_false_or_eq_true (((((((((decide ((betwX 3 3 sS 4 10) = 2) && true) && true) && true) && true) && true) && true) && true) && true) && true) with g_282 | g_282
    · -- True
      have gp_283 := g_282
      try simp only [Bool.and_eq_true, Bool.or_eq_true, Bool.not_eq_true', Bool.and_eq_false_iff, Bool.or_eq_false_iff, Bool.not_eq_false', decide_eq_true_eq, decide_eq_false_iff_not, not_or, Bool.false_eq_true, Bool.true_eq_false, false_or, or_false, not_false_eq_true] at gp_283
      refine Wx.gyes rfl rfl (congrArg Value.bool g_282) ?_
      refine Wx.rd (v := v_129) (rd_move rfl) rfl ?_
      refine Wx.gyes rfl rfl (congrArg Value.bool g_282) ?_
      refine Wx.rd (v := .agg #[.int .i64 3, .int .i64 4]) (rd_build (vs := [(0, .int .i64 3), (1, .int .i64 4)]) rfl (by kernel_rfl)) rfl ?_
      refine Wx.gyes rfl rfl (congrArg Value.bool g_282) ?_
      refine Wx.rd (v := .agg #[.int .i64 1, .int .i64 2]) (rd_build (vs := [(0, .int .i64 1), (1, .int .i64 2)]) rfl (by kernel_rfl)) rfl ?_
      refine Wx.gyes rfl rfl (congrArg Value.bool g_282) ?_
      refine Wx.rd (v := .agg #[.int .i64 2, .int .i64 3]) (rd_build (vs := [(0, .int .i64 2), (1, .int .i64 3)]) rfl (by kernel_rfl)) rfl ?_
      refine Wx.gyes rfl rfl (congrArg Value.bool g_282) ?_
      refine Wx.rd (v := .agg #[.int .i64 0, .int .i64 1]) (rd_build (vs := [(0, .int .i64 0), (1, .int .i64 1)]) rfl (by kernel_rfl)) rfl ?_
      refine Wx.gyes rfl rfl (congrArg Value.bool g_282) ?_
      refine Wx.lit (t := (tP (tI .i64) (tI .i64))) (ys := [(3, 4), (1, 2), (2, 3), (0, 1)]) (vs := [.agg #[.int .i64 3, .int .i64 4], .agg #[.int .i64 1, .int .i64 2], .agg #[.int .i64 2, .int .i64 3], .agg #[.int .i64 0, .int .i64 1]]) elMb_52 hS rfl rfl ⟨(V.mk2 (in_i64 (by omega) (by omega)) (in_i64 (by omega) (by omega))), ⟨(V.mk2 (in_i64 (by omega) (by omega)) (in_i64 (by omega) (by omega))), ⟨(V.mk2 (in_i64 (by omega) (by omega)) (in_i64 (by omega) (by omega))), ⟨(V.mk2 (in_i64 (by omega) (by omega)) (in_i64 (by omega) (by omega))), trivial⟩⟩⟩⟩ (by decide) rfl (fun v_284 w_285 hx_286 hS => ?_)
      refine Wx.gyes rfl rfl (congrArg Value.bool g_282) ?_
      refine Wx.callF (run_callF Try.call41 rfl) (F41 (hS.lend 5 rfl) (hS.lend 0 rfl)) rfl ?_
      rintro r_287 w_288 hx_289 rfl
      have hS := hS.ext hx_289
      rw [show (decide ((treeE 4 1 sT) = [(3, 4), (1, 2), (2, 3), (0, 1)]) : Bool) = true from (by decide +kernel)]
      refine Wx.rd (v := .bool true) (rd_pickT (congrArg Value.bool g_282) rfl) rfl ?_
      refine Wx.nil ⟨(), hS.tl, ⟨?_, trivial⟩, Out.look rfl Out.refl⟩
      show Value.bool true = Value.bool ((((((((((decide ((betwX 3 3 sS 4 10) = 2) && true) && true) && true) && true) && true) && true) && true) && true) && true) && true)
      first | rw [g_282, Bool.true_and] | (rw [g_282]; rfl)
    · -- False
      have gp_290 := g_282
      try simp only [Bool.and_eq_true, Bool.or_eq_true, Bool.not_eq_true', Bool.and_eq_false_iff, Bool.or_eq_false_iff, Bool.not_eq_false', decide_eq_true_eq, decide_eq_false_iff_not, not_or, Bool.false_eq_true, Bool.true_eq_false, false_or, or_false, not_false_eq_true] at gp_290
      refine Wx.gnoB rfl rfl (congrArg Value.bool g_282) rfl rfl ?_
      refine Wx.gnoB rfl rfl (congrArg Value.bool g_282) rfl rfl ?_
      refine Wx.gnoB rfl rfl (congrArg Value.bool g_282) rfl rfl ?_
      refine Wx.gnoB rfl rfl (congrArg Value.bool g_282) rfl rfl ?_
      refine Wx.gnoB rfl rfl (congrArg Value.bool g_282) rfl rfl ?_
      refine Wx.gnoB rfl rfl (congrArg Value.bool g_282) rfl rfl ?_
      refine Wx.gnoB rfl rfl (congrArg Value.bool g_282) rfl rfl ?_
      refine Wx.rd (v := .bool false) (rd_pickF (congrArg Value.bool g_282) rfl) rfl ?_
      refine Wx.nil ⟨(), hS, ⟨?_, trivial⟩, Out.look rfl Out.refl⟩
      show Value.bool false = Value.bool ((((((((((decide ((betwX 3 3 sS 4 10) = 2) && true) && true) && true) && true) && true) && true) && true) && true) && true) && true)
      first | rw [g_282, Bool.false_and] | (rw [g_282]; rfl)
  rintro ⟨⟩ u_292 w_291 hS
  refine Wx.rd (v := .bool ((((((((((decide ((betwX 3 3 sS 4 10) = 2) && true) && true) && true) && true) && true) && true) && true) && true) && true) && true)) (rd_move rfl) rfl ?_
  refine Wx.cut (X := Unit) 6 [183, 184, 185, 186, 187, 188] (fun _ => [(188, .bool (((((((((((decide ((betwX 3 3 sS 4 10) = 2) && true) && true) && true) && true) && true) && true) && true) && true) && true) && true) && true))]) (fun _ w' => St w [] w' [Ob.v (tSl (tI .i64)) sS v_155, Ob.v (tSl (tI .i64)) [6, 5, 4, 3] r_143, Ob.v (tSl (tI .i64)) [6, 5, 4, 3] v_139, Ob.v (tSl (tI .i64)) sS v_135, .row (tP (tI .i64) (tI .i64)) 74 v_129 (treeE 4 1 sT), Ob.v (tSl (tI .i64)) sT v_122, Ob.v (tSl (tI .i64)) sS v_112, Ob.v (tSl (tI .i64)) sS v_102, .row (tI .i64) 3 v_96 (basinE 3 3 sS 4), Ob.v (tSl (tI .i64)) sS v_89, .row (tI .i64) 3 v_83 (wayE 3 3 sS 0), Ob.v (tSl (tI .i64)) sS v_76, Ob.v (tSl (tI .i64)) [6, 5, 4, 3] r_64, Ob.v (tSl (tI .i64)) [6, 5, 4, 3] v_60, Ob.v (tSl (tI .i64)) sS v_56, .row (tSl (tI .i64)) 22 v_50 (poolsE 4 1 sT 2), Ob.v (tSl (tI .i64)) sT v_43, .row (tI .i64) 3 v_37 (bareE 3 3 sS 0), Ob.v (tSl (tI .i64)) sS v_30, .row (tI .i64) 3 v_24 (depthsE 3 3 sS 5), Ob.v (tSl (tI .i64)) sS v_17, .row (tI .i64) 3 v_11 (sillsE 3 3 sS), Ob.v (tSl (tI .i64)) sS v_4]) ?_ ?_
  · rcases Bool.eq_false_or_eq_true ((((((((((decide ((betwX 3 3 sS 4 10) = 2) && true) && true) && true) && true) && true) && true) && true) && true) && true) && true) with g_293 | g_293
    · -- True
      have gp_294 := g_293
      try simp only [Bool.and_eq_true, Bool.or_eq_true, Bool.not_eq_true', Bool.and_eq_false_iff, Bool.or_eq_false_iff, Bool.not_eq_false', decide_eq_true_eq, decide_eq_false_iff_not, not_or, Bool.false_eq_true, Bool.true_eq_false, false_or, or_false, not_false_eq_true] at gp_294
      refine Wx.gyes rfl rfl (congrArg Value.bool g_293) ?_
      refine Wx.callF (run_callF Try.call48 rfl) (F48 hS.fb_lt) rfl ?_
      rintro r_295 w_296 hx_297 ⟨v_298, rfl, hv_299⟩
      have ln_301 := hv_299.len63
      have hS := hS.ext hx_297
      have hS := hS.add hv_299
      refine Wx.gyes rfl rfl (congrArg Value.bool g_293) ?_
      refine Wx.lit (t := (tI .i64)) (ys := [4]) (vs := [.int .i64 4]) elMb_22 hS rfl rfl ⟨(V.mkInt (in_i64 (by omega) (by omega))), trivial⟩ (by decide) rfl (fun v_302 w_303 hx_304 hS => ?_)
      refine Wx.gyes rfl rfl (congrArg Value.bool g_293) ?_
      have hS := hS.freeze 0 rfl
      refine Wx.callF (run_callF Try.call49 rfl) (F49 (hS.v 0 rfl) hS.fb_lt) rfl ?_
      rintro r_306 w_307 hx_308 ⟨_, rfl, hv_309⟩
      have ln_311 := hv_309.len63
      have hS := hS.ext hx_308
      have hS := hS.add hv_309
      refine Wx.gyes rfl rfl (congrArg Value.bool g_293) ?_
      refine Wx.callF (run_callF Try.call35 rfl) (F35 (in_i64 (by omega) (by omega)) (in_i64 (by omega) (by omega)) (hS.v 2 rfl) (hS.v 0 rfl) (in_i64 (by omega) (by omega))) rfl ?_
      rintro r_312 w_313 hx_314 rfl
      have hS := hS.ext hx_314
      rw [show (provesE 3 3 sS [4] 4 : Int) = 0 from (by decide +kernel)]
      refine Wx.gyes rfl rfl (congrArg Value.bool g_293) ?_
      refine Wx.rd (v := .bool true) (Rd.to (v := .bool (decide ((0 : Int) = 0))) (rd_eql rfl rfl) rfl) rfl ?_
      refine Wx.rd (v := .bool true) (rd_pickT (congrArg Value.bool g_293) rfl) rfl ?_
      refine Wx.nil ⟨(), St.tl (St.tl (hS.tl)), ⟨?_, trivial⟩, Out.look rfl Out.refl⟩
      show Value.bool true = Value.bool (((((((((((decide ((betwX 3 3 sS 4 10) = 2) && true) && true) && true) && true) && true) && true) && true) && true) && true) && true) && true)
      first | rw [g_293, Bool.true_and] | (rw [g_293]; rfl)
    · -- False
      have gp_315 := g_293
      try simp only [Bool.and_eq_true, Bool.or_eq_true, Bool.not_eq_true', Bool.and_eq_false_iff, Bool.or_eq_false_iff, Bool.not_eq_false', decide_eq_true_eq, decide_eq_false_iff_not, not_or, Bool.false_eq_true, Bool.true_eq_false, false_or, or_false, not_false_eq_true] at gp_315
      refine Wx.gnoB rfl rfl (congrArg Value.bool g_293) rfl rfl ?_
      refine Wx.gnoB rfl rfl (congrArg Value.bool g_293) rfl rfl ?_
      refine Wx.gnoB rfl rfl (congrArg Value.bool g_293) rfl rfl ?_
      refine Wx.gnoB rfl rfl (congrArg Value.bool g_293) rfl rfl ?_
      refine Wx.gnoB rfl rfl (congrArg Value.bool g_293) rfl rfl ?_
      refine Wx.rd (v := .bool false) (rd_pickF (congrArg Value.bool g_293) rfl) rfl ?_
      refine Wx.nil ⟨(), hS, ⟨?_, trivial⟩, Out.look rfl Out.refl⟩
      show Value.bool false = Value.bool (((((((((((decide ((betwX 3 3 sS 4 10) = 2) && true) && true) && true) && true) && true) && true) && true) && true) && true) && true) && true)
      first | rw [g_293, Bool.false_and] | (rw [g_293]; rfl)
  rintro ⟨⟩ u_317 w_316 hS
  refine Wx.rd (v := .bool (((((((((((decide ((betwX 3 3 sS 4 10) = 2) && true) && true) && true) && true) && true) && true) && true) && true) && true) && true) && true)) (rd_move rfl) rfl ?_
  refine Wx.cut (X := Unit) 6 [190, 191, 192, 193, 194, 195] (fun _ => [(195, .bool ((((((((((((decide ((betwX 3 3 sS 4 10) = 2) && true) && true) && true) && true) && true) && true) && true) && true) && true) && true) && true) && true))]) (fun _ w' => St w [] w' [Ob.v (tSl (tI .i64)) sS v_155, Ob.v (tSl (tI .i64)) [6, 5, 4, 3] r_143, Ob.v (tSl (tI .i64)) [6, 5, 4, 3] v_139, Ob.v (tSl (tI .i64)) sS v_135, .row (tP (tI .i64) (tI .i64)) 74 v_129 (treeE 4 1 sT), Ob.v (tSl (tI .i64)) sT v_122, Ob.v (tSl (tI .i64)) sS v_112, Ob.v (tSl (tI .i64)) sS v_102, .row (tI .i64) 3 v_96 (basinE 3 3 sS 4), Ob.v (tSl (tI .i64)) sS v_89, .row (tI .i64) 3 v_83 (wayE 3 3 sS 0), Ob.v (tSl (tI .i64)) sS v_76, Ob.v (tSl (tI .i64)) [6, 5, 4, 3] r_64, Ob.v (tSl (tI .i64)) [6, 5, 4, 3] v_60, Ob.v (tSl (tI .i64)) sS v_56, .row (tSl (tI .i64)) 22 v_50 (poolsE 4 1 sT 2), Ob.v (tSl (tI .i64)) sT v_43, .row (tI .i64) 3 v_37 (bareE 3 3 sS 0), Ob.v (tSl (tI .i64)) sS v_30, .row (tI .i64) 3 v_24 (depthsE 3 3 sS 5), Ob.v (tSl (tI .i64)) sS v_17, .row (tI .i64) 3 v_11 (sillsE 3 3 sS), Ob.v (tSl (tI .i64)) sS v_4]) ?_ ?_
  · rcases Bool.eq_false_or_eq_true (((((((((((decide ((betwX 3 3 sS 4 10) = 2) && true) && true) && true) && true) && true) && true) && true) && true) && true) && true) && true) with g_318 | g_318
    · -- True
      have gp_319 := g_318
      try simp only [Bool.and_eq_true, Bool.or_eq_true, Bool.not_eq_true', Bool.and_eq_false_iff, Bool.or_eq_false_iff, Bool.not_eq_false', decide_eq_true_eq, decide_eq_false_iff_not, not_or, Bool.false_eq_true, Bool.true_eq_false, false_or, or_false, not_false_eq_true] at gp_319
      refine Wx.gyes rfl rfl (congrArg Value.bool g_318) ?_
      refine Wx.callF (run_callF Try.call48 rfl) (F48 hS.fb_lt) rfl ?_
      rintro r_320 w_321 hx_322 ⟨v_323, rfl, hv_324⟩
      have ln_326 := hv_324.len63
      have hS := hS.ext hx_322
      have hS := hS.add hv_324
      refine Wx.gyes rfl rfl (congrArg Value.bool g_318) ?_
      refine Wx.lit (t := (tI .i64)) (ys := [4]) (vs := [.int .i64 4]) elMb_22 hS rfl rfl ⟨(V.mkInt (in_i64 (by omega) (by omega))), trivial⟩ (by decide) rfl (fun v_327 w_328 hx_329 hS => ?_)
      refine Wx.gyes rfl rfl (congrArg Value.bool g_318) ?_
      have hS := hS.freeze 0 rfl
      refine Wx.callF (run_callF Try.call49 rfl) (F49 (hS.v 0 rfl) hS.fb_lt) rfl ?_
      rintro r_331 w_332 hx_333 ⟨_, rfl, hv_334⟩
      have ln_336 := hv_334.len63
      have hS := hS.ext hx_333
      have hS := hS.add hv_334
      refine Wx.gyes rfl rfl (congrArg Value.bool g_318) ?_
      refine Wx.callF (run_callF Try.call35 rfl) (F35 (in_i64 (by omega) (by omega)) (in_i64 (by omega) (by omega)) (hS.v 2 rfl) (hS.v 0 rfl) (in_i64 (by omega) (by omega))) rfl ?_
      rintro r_337 w_338 hx_339 rfl
      have hS := hS.ext hx_339
      rw [show (provesE 3 3 sS [4] 5 : Int) = 14 from (by decide +kernel)]
      refine Wx.gyes rfl rfl (congrArg Value.bool g_318) ?_
      refine Wx.rd (v := .bool true) (Rd.to (v := .bool (decide ((14 : Int) = 14))) (rd_eql rfl rfl) rfl) rfl ?_
      refine Wx.rd (v := .bool true) (rd_pickT (congrArg Value.bool g_318) rfl) rfl ?_
      refine Wx.nil ⟨(), St.tl (St.tl (hS.tl)), ⟨?_, trivial⟩, Out.look rfl Out.refl⟩
      show Value.bool true = Value.bool ((((((((((((decide ((betwX 3 3 sS 4 10) = 2) && true) && true) && true) && true) && true) && true) && true) && true) && true) && true) && true) && true)
      first | rw [g_318, Bool.true_and] | (rw [g_318]; rfl)
    · -- False
      have gp_340 := g_318
      try simp only [Bool.and_eq_true, Bool.or_eq_true, Bool.not_eq_true', Bool.and_eq_false_iff, Bool.or_eq_false_iff, Bool.not_eq_false', decide_eq_true_eq, decide_eq_false_iff_not, not_or, Bool.false_eq_true, Bool.true_eq_false, false_or, or_false, not_false_eq_true] at gp_340
      refine Wx.gnoB rfl rfl (congrArg Value.bool g_318) rfl rfl ?_
      refine Wx.gnoB rfl rfl (congrArg Value.bool g_318) rfl rfl ?_
      refine Wx.gnoB rfl rfl (congrArg Value.bool g_318) rfl rfl ?_
      refine Wx.gnoB rfl rfl (congrArg Value.bool g_318) rfl rfl ?_
      refine Wx.gnoB rfl rfl (congrArg Value.bool g_318) rfl rfl ?_
      refine Wx.rd (v := .bool false) (rd_pickF (congrArg Value.bool g_318) rfl) rfl ?_
      refine Wx.nil ⟨(), hS, ⟨?_, trivial⟩, Out.look rfl Out.refl⟩
      show Value.bool false = Value.bool ((((((((((((decide ((betwX 3 3 sS 4 10) = 2) && true) && true) && true) && true) && true) && true) && true) && true) && true) && true) && true) && true)
      first | rw [g_318, Bool.false_and] | (rw [g_318]; rfl)
  rintro ⟨⟩ u_342 w_341 hS
  refine Wx.rd (v := .bool ((((((((((((decide ((betwX 3 3 sS 4 10) = 2) && true) && true) && true) && true) && true) && true) && true) && true) && true) && true) && true) && true)) (rd_assign rfl) rfl ?_
  refine Wx.nil ?_
  have e0_0 : ((((((((((((decide ((betwX 3 3 sS 4 10) = 2) && true) && true) && true) && true) && true) && true) && true) && true) && true) && true) && true) && true) = true := by first | rfl | omega
  exact W.ret ⟨.bool ((((((((((((decide ((betwX 3 3 sS 4 10) = 2) && true) && true) && true) && true) && true) && true) && true) && true) && true) && true) && true) && true), ResIs.one, hS.bel, (by rw [e0_0])⟩
end Go.Proofs.Ytjhimoeodkaihaa

namespace Go.Proofs.Ytjhimoeodkaihaa
open Go.Wk Go.RowKit Go.Lib
set_option linter.unusedVariables false
set_option linter.unusedSimpArgs false
theorem elMg_22 : ElemI Try.prog 22 3 (.int .i64 0) 1 8 := ElemI.of Try.underlying22 (by kernel_rfl) (by first | rfl | kernel_rfl) (by decide)
theorem elMg_37 : ElemI Try.prog 37 22 ((.slice none 0 0)) 1 24 := ElemI.of Try.underlying37 (by kernel_rfl) (by first | rfl | kernel_rfl) (by decide)
theorem elMg_52 : ElemI Try.prog 52 74 (.agg #[.int .i64 0, .int .i64 0]) 2 16 := ElemI.of Try.underlying52 (by kernel_rfl) (by first | rfl | kernel_rfl) (by decide)

set_option maxHeartbeats 4000000 in
set_option maxRecDepth 10000 in
theorem F11 {O : List (Option Nat)} {w : World} (hO : ∀ b, some b ∈ O → b < w.heap.size) : Calls Try.prog 11 #[] w (Ret w (fun r _ => r = .bool true)) := by
  have hS := St.start w O hO
  refine enterR Try.func11 rfl Try.ntmps11 Try.results11 rfl ?_
  refine W.seq ?_
  refine W.reg ?_
  refine Wx.rd (v := .bool false) (rd_assign rfl) rfl ?_
  refine Wx.nil ?_
  refine W.seq ?_
  refine W.reg ?_
  refine Wx.callF (run_callF Try.call47 rfl) (F47 hS.fb_lt) rfl ?_
  rintro r_1 w_2 hx_3 ⟨v_4, rfl, hv_5⟩
  have ln_7 := hv_5.len63
  have hS := hS.ext hx_3
  have hS := hS.add hv_5
  refine Wx.callF (run_callF Try.call17 rfl) (F17 (in_i64 (by omega) (by omega)) (in_i64 (by omega) (by omega)) (hS.v 0 rfl) hS.fb_lt) rfl ?_
  rintro r_8 w_9 hx_10 ⟨v_11, rfl, hv_12⟩
  have hS := hS.pushFr hx_10 hv_12
  refine Wx.rd (v := .tuple #[v_11, .int .i64 (checkS 4 1 sT)]) (rd_move rfl) rfl ?_
  refine Wx.rd (v := v_11) (rd_extract rfl rfl) rfl ?_
  refine Wx.rd (v := .int .i64 (checkS 4 1 sT)) (rd_extract rfl rfl) rfl ?_
  refine Wx.rd (v := v_11) (rd_assign rfl) rfl ?_
  refine Wx.rd (v := .int .i64 0) (Rd.to (v := .int .i64 (checkS 4 1 sT)) (rd_assign rfl) (congrArg (Value.int .i64) (show (0 : Int) = (checkS 4 1 sT : Int) from (by decide +kernel)).symm)) rfl ?_
  refine Wx.nil ?_
  refine W.seq ?_
  refine W.reg ?_
  refine Wx.callF (run_callF Try.call48 rfl) (F48 hS.fb_lt) rfl ?_
  rintro r_14 w_15 hx_16 ⟨v_17, rfl, hv_18⟩
  have ln_20 := hv_18.len63
  have hS := hS.ext hx_16
  have hS := hS.add hv_18
  refine Wx.callF (run_callF Try.call19 rfl) (F19 (in_i64 (by omega) (by omega)) (in_i64 (by omega) (by omega)) (hS.v 0 rfl) (in_i64 (by omega) (by omega)) hS.fb_lt) rfl ?_
  rintro r_21 w_22 hx_23 ⟨v_24, rfl, hv_25⟩
  have hS := hS.pushFr hx_23 hv_25
  refine Wx.rd (v := .tuple #[v_24, .int .i64 (levelE 3 3 sS 0)]) (rd_move rfl) rfl ?_
  refine Wx.rd (v := v_24) (rd_extract rfl rfl) rfl ?_
  refine Wx.rd (v := .int .i64 (levelE 3 3 sS 0)) (rd_extract rfl rfl) rfl ?_
  refine Wx.rd (v := v_24) (rd_assign rfl) rfl ?_
  refine Wx.rd (v := .int .i64 0) (Rd.to (v := .int .i64 (levelE 3 3 sS 0)) (rd_assign rfl) (congrArg (Value.int .i64) (show (0 : Int) = (levelE 3 3 sS 0 : Int) from (by decide +kernel)).symm)) rfl ?_
  refine Wx.nil ?_
  refine W.seq ?_
  refine W.reg ?_
  refine Wx.callF (run_callF Try.call48 rfl) (F48 hS.fb_lt) rfl ?_
  rintro r_27 w_28 hx_29 ⟨v_30, rfl, hv_31⟩
  have ln_33 := hv_31.len63
  have hS := hS.ext hx_29
  have hS := hS.add hv_31
  refine Wx.callF (run_callF Try.call24 rfl) (F24 (in_i64 (by omega) (by omega)) (in_i64 (by omega) (by omega)) (hS.v 0 rfl) (in_i64 (by omega) (by omega)) hS.fb_lt) rfl ?_
  rintro r_34 w_35 hx_36 ⟨v_37, rfl, hv_38⟩
  have hS := hS.pushFr hx_36 hv_38
  refine Wx.rd (v := .tuple #[v_37, .int .i64 (levelE 3 3 sS 5)]) (rd_move rfl) rfl ?_
  refine Wx.rd (v := v_37) (rd_extract rfl rfl) rfl ?_
  refine Wx.rd (v := .int .i64 (levelE 3 3 sS 5)) (rd_extract rfl rfl) rfl ?_
  refine Wx.rd (v := v_37) (rd_assign rfl) rfl ?_
  refine Wx.rd (v := .int .i64 0) (Rd.to (v := .int .i64 (levelE 3 3 sS 5)) (rd_assign rfl) (congrArg (Value.int .i64) (show (0 : Int) = (levelE 3 3 sS 5 : Int) from (by decide +kernel)).symm)) rfl ?_
  refine Wx.nil ?_
  refine W.seq ?_
  refine W.reg ?_
  refine Wx.callF (run_callF Try.call48 rfl) (F48 hS.fb_lt) rfl ?_
  rintro r_40 w_41 hx_42 ⟨v_43, rfl, hv_44⟩
  have ln_46 := hv_44.len63
  have hS := hS.ext hx_42
  have hS := hS.add hv_44
  refine Wx.callF (run_callF Try.call24 rfl) (F24 (in_i64 (by omega) (by omega)) (in_i64 (by omega) (by omega)) (hS.v 0 rfl) (in_i64 (by omega) (by omega)) hS.fb_lt) rfl ?_
  rintro r_47 w_48 hx_49 ⟨v_50, rfl, hv_51⟩
  have hS := hS.pushFr hx_49 hv_51
  refine Wx.rd (v := .tuple #[v_50, .int .i64 (levelE 3 3 sS 6)]) (rd_move rfl) rfl ?_
  refine Wx.rd (v := v_50) (rd_extract rfl rfl) rfl ?_
  refine Wx.rd (v := .int .i64 (levelE 3 3 sS 6)) (rd_extract rfl rfl) rfl ?_
  refine Wx.rd (v := v_50) (rd_assign rfl) rfl ?_
  refine Wx.rd (v := .int .i64 0) (Rd.to (v := .int .i64 (levelE 3 3 sS 6)) (rd_assign rfl) (congrArg (Value.int .i64) (show (0 : Int) = (levelE 3 3 sS 6 : Int) from (by decide +kernel)).symm)) rfl ?_
  refine Wx.nil ?_
  refine W.seq ?_
  refine W.reg ?_
  refine Wx.callF (run_callF Try.call48 rfl) (F48 hS.fb_lt) rfl ?_
  rintro r_53 w_54 hx_55 ⟨v_56, rfl, hv_57⟩
  have ln_59 := hv_57.len63
  have hS := hS.ext hx_55
  have hS := hS.add hv_57
  refine Wx.callF (run_callF Try.call26 rfl) (F26 (in_i64 (by omega) (by omega)) (in_i64 (by omega) (by omega)) (hS.v 0 rfl) (in_i64 (by omega) (by omega)) hS.fb_lt) rfl ?_
  rintro r_60 w_61 hx_62 ⟨v_63, rfl, hv_64⟩
  have hS := hS.pushFrO hx_62 hv_64
  refine Wx.rd (v := .tuple #[v_63, .int .i64 (levelE 3 3 sS 0)]) (rd_move rfl) rfl ?_
  refine Wx.rd (v := v_63) (rd_extract rfl rfl) rfl ?_
  refine Wx.rd (v := .int .i64 (levelE 3 3 sS 0)) (rd_extract rfl rfl) rfl ?_
  refine Wx.rd (v := v_63) (rd_assign rfl) rfl ?_
  refine Wx.rd (v := .int .i64 0) (Rd.to (v := .int .i64 (levelE 3 3 sS 0)) (rd_assign rfl) (congrArg (Value.int .i64) (show (0 : Int) = (levelE 3 3 sS 0 : Int) from (by decide +kernel)).symm)) rfl ?_
  refine Wx.nil ?_
  refine W.seq ?_
  refine W.reg ?_
  refine Wx.callF (run_callF Try.call48 rfl) (F48 hS.fb_lt) rfl ?_
  rintro r_66 w_67 hx_68 ⟨v_69, rfl, hv_70⟩
  have ln_72 := hv_70.len63
  have hS := hS.ext hx_68
  have hS := hS.add hv_70
  refine Wx.callF (run_callF Try.call26 rfl) (F26 (in_i64 (by omega) (by omega)) (in_i64 (by omega) (by omega)) (hS.v 0 rfl) (in_i64 (by omega) (by omega)) hS.fb_lt) rfl ?_
  rintro r_73 w_74 hx_75 ⟨v_76, rfl, hv_77⟩
  have hS := hS.pushFrO hx_75 hv_77
  refine Wx.rd (v := .tuple #[v_76, .int .i64 (levelE 3 3 sS 4)]) (rd_move rfl) rfl ?_
  refine Wx.rd (v := v_76) (rd_extract rfl rfl) rfl ?_
  refine Wx.rd (v := .int .i64 (levelE 3 3 sS 4)) (rd_extract rfl rfl) rfl ?_
  refine Wx.rd (v := v_76) (rd_assign rfl) rfl ?_
  refine Wx.rd (v := .int .i64 0) (Rd.to (v := .int .i64 (levelE 3 3 sS 4)) (rd_assign rfl) (congrArg (Value.int .i64) (show (0 : Int) = (levelE 3 3 sS 4 : Int) from (by decide +kernel)).symm)) rfl ?_
  refine Wx.nil ?_
  refine W.seq ?_
  refine W.seq ?_
  refine W.reg ?_
  refine Wx.rd (v := .int .i64 0) (rd_move rfl) rfl ?_
  refine Wx.rd (v := .bool false) (Rd.to (v := .bool (decide ((0 : Int) ≠ 0))) (rd_neq rfl rfl) rfl) rfl ?_
  refine Wx.rd (v := .bool false) (rd_move rfl) rfl ?_
  refine Wx.gyes rfl rfl rfl ?_
  refine Wx.rd (v := .int .i64 0) (rd_move rfl) rfl ?_
  refine Wx.gyes rfl rfl rfl ?_
  refine Wx.rd (v := .bool false) (Rd.to (v := .bool (decide ((0 : Int) ≠ 0))) (rd_neq rfl rfl) rfl) rfl ?_
  refine Wx.rd (v := .bool false) (rd_pickF rfl rfl) rfl ?_
  refine Wx.rd (v := .bool false) (rd_move rfl) rfl ?_
  refine Wx.gyes rfl rfl rfl ?_
  refine Wx.rd (v := .int .i64 0) (rd_move rfl) rfl ?_
  refine Wx.gyes rfl rfl rfl ?_
  refine Wx.rd (v := .bool false) (Rd.to (v := .bool (decide ((0 : Int) ≠ 0))) (rd_neq rfl rfl) rfl) rfl ?_
  refine Wx.rd (v := .bool false) (rd_pickF rfl rfl) rfl ?_
  refine Wx.rd (v := .bool false) (rd_move rfl) rfl ?_
  refine Wx.gyes rfl rfl rfl ?_
  refine Wx.rd (v := .int .i64 0) (rd_move rfl) rfl ?_
  refine Wx.gyes rfl rfl rfl ?_
  refine Wx.rd (v := .bool false) (Rd.to (v := .bool (decide ((0 : Int) ≠ 0))) (rd_neq rfl rfl) rfl) rfl ?_
  refine Wx.rd (v := .bool false) (rd_pickF rfl rfl) rfl ?_
  refine Wx.rd (v := .bool false) (rd_move rfl) rfl ?_
  refine Wx.gyes rfl rfl rfl ?_
  refine Wx.rd (v := .int .i64 0) (rd_move rfl) rfl ?_
  refine Wx.gyes rfl rfl rfl ?_
  refine Wx.rd (v := .bool false) (Rd.to (v := .bool (decide ((0 : Int) ≠ 0))) (rd_neq rfl rfl) rfl) rfl ?_
  refine Wx.rd (v := .bool false) (rd_pickF rfl rfl) rfl ?_
  refine Wx.rd (v := .bool false) (rd_move rfl) rfl ?_
  refine Wx.gyes rfl rfl rfl ?_
  refine Wx.rd (v := .int .i64 0) (rd_move rfl) rfl ?_
  refine Wx.gyes rfl rfl rfl ?_
  refine Wx.rd (v := .bool false) (Rd.to (v := .bool (decide ((0 : Int) ≠ 0))) (rd_neq rfl rfl) rfl) rfl ?_
  refine Wx.rd (v := .bool false) (rd_pickF rfl rfl) rfl ?_
  refine Wx.nil ?_
  refine W.condF rfl rfl ?_
  refine W.skip ?_
  refine W.seq ?_
  refine W.reg ?_
  refine Wx.callF (run_callF Try.call48 rfl) (F48 hS.fb_lt) rfl ?_
  rintro r_79 w_80 hx_81 ⟨v_82, rfl, hv_83⟩
  have ln_85 := hv_83.len63
  have hS := hS.ext hx_81
  have hS := hS.add hv_83
  refine Wx.lit (t := (tI .i64)) (ys := [6, 5, 4, 3]) (vs := [.int .i64 6, .int .i64 5, .int .i64 4, .int .i64 3]) elMg_22 hS rfl rfl ⟨(V.mkInt (in_i64 (by omega) (by omega))), ⟨(V.mkInt (in_i64 (by omega) (by omega))), ⟨(V.mkInt (in_i64 (by omega) (by omega))), ⟨(V.mkInt (in_i64 (by omega) (by omega))), trivial⟩⟩⟩⟩ (by decide) rfl (fun v_86 w_87 hx_88 hS => ?_)
  have hS := hS.freeze 0 rfl
  refine Wx.callF (run_callF Try.call49 rfl) (F49 (hS.v 0 rfl) hS.fb_lt) rfl ?_
  rintro r_90 w_91 hx_92 ⟨_, rfl, hv_93⟩
  have ln_95 := hv_93.len63
  have hS := hS.ext hx_92
  have hS := hS.add hv_93
  refine Wx.callF (run_callF Try.call29 rfl) (F29 (in_i64 (by omega) (by omega)) (in_i64 (by omega) (by omega)) (hS.v 2 rfl) (hS.v 0 rfl) (in_i64 (by omega) (by omega))) rfl ?_
  rintro r_96 w_97 hx_98 rfl
  have hS := hS.ext hx_98
  refine Wx.rd (v := .tuple #[.int .i64 (hourV 3 3 sS [6, 5, 4, 3] 0), .int .i64 (hourX 3 3 sS [6, 5, 4, 3] 0)]) (rd_move rfl) rfl ?_
  refine Wx.rd (v := .int .i64 (hourV 3 3 sS [6, 5, 4, 3] 0)) (rd_extract rfl rfl) rfl ?_
  refine Wx.rd (v := .int .i64 (hourX 3 3 sS [6, 5, 4, 3] 0)) (rd_extract rfl rfl) rfl ?_
  refine Wx.rd (v := .int .i64 1) (Rd.to (v := .int .i64 (hourV 3 3 sS [6, 5, 4, 3] 0)) (rd_assign rfl) (congrArg (Value.int .i64) (show (1 : Int) = (hourV 3 3 sS [6, 5, 4, 3] 0 : Int) from (by decide +kernel)).symm)) rfl ?_
  refine Wx.rd (v := .int .i64 0) (Rd.to (v := .int .i64 (hourX 3 3 sS [6, 5, 4, 3] 0)) (rd_assign rfl) (congrArg (Value.int .i64) (show (0 : Int) = (hourX 3 3 sS [6, 5, 4, 3] 0 : Int) from (by decide +kernel)).symm)) rfl ?_
  refine Wx.nil ?_
  refine W.seq ?_
  refine W.reg ?_
  refine Wx.callF (run_callF Try.call48 rfl) (F48 hS.fb_lt) rfl ?_
  rintro r_99 w_100 hx_101 ⟨v_102, rfl, hv_103⟩
  have ln_105 := hv_103.len63
  have hS := hS.ext hx_101
  have hS := hS.add hv_103
  refine Wx.callF (run_callF Try.call31 rfl) (F31 (in_i64 (by omega) (by omega)) (in_i64 (by omega) (by omega)) (hS.v 0 rfl) (in_i64 (by omega) (by omega)) hS.fb_lt) rfl ?_
  rintro r_106 w_107 hx_108 ⟨v_109, rfl, hv_110⟩
  have hS := hS.pushFr hx_108 hv_110
  refine Wx.rd (v := .tuple #[v_109, .int .i64 (atE 3 3 sS 4)]) (rd_move rfl) rfl ?_
  refine Wx.rd (v := v_109) (rd_extract rfl rfl) rfl ?_
  refine Wx.rd (v := .int .i64 (atE 3 3 sS 4)) (rd_extract rfl rfl) rfl ?_
  refine Wx.rd (v := v_109) (rd_assign rfl) rfl ?_
  refine Wx.rd (v := .int .i64 0) (Rd.to (v := .int .i64 (atE 3 3 sS 4)) (rd_assign rfl) (congrArg (Value.int .i64) (show (0 : Int) = (atE 3 3 sS 4 : Int) from (by decide +kernel)).symm)) rfl ?_
  refine Wx.nil ?_
  refine W.seq ?_
  refine W.reg ?_
  refine Wx.callF (run_callF Try.call47 rfl) (F47 hS.fb_lt) rfl ?_
  rintro r_112 w_113 hx_114 ⟨v_115, rfl, hv_116⟩
  have ln_118 := hv_116.len63
  have hS := hS.ext hx_114
  have hS := hS.add hv_116
  refine Wx.callF (run_callF Try.call31 rfl) (F31 (in_i64 (by omega) (by omega)) (in_i64 (by omega) (by omega)) (hS.v 0 rfl) (in_i64 (by omega) (by omega)) hS.fb_lt) rfl ?_
  rintro r_119 w_120 hx_121 ⟨v_122, rfl, hv_123⟩
  have hS := hS.pushFr hx_121 hv_123
  refine Wx.rd (v := .tuple #[v_122, .int .i64 (atE 4 1 sT 1)]) (rd_move rfl) rfl ?_
  refine Wx.rd (v := v_122) (rd_extract rfl rfl) rfl ?_
  refine Wx.rd (v := .int .i64 (atE 4 1 sT 1)) (rd_extract rfl rfl) rfl ?_
  refine Wx.rd (v := v_122) (rd_assign rfl) rfl ?_
  refine Wx.rd (v := .int .i64 0) (Rd.to (v := .int .i64 (atE 4 1 sT 1)) (rd_assign rfl) (congrArg (Value.int .i64) (show (0 : Int) = (atE 4 1 sT 1 : Int) from (by decide +kernel)).symm)) rfl ?_
  refine Wx.nil ?_
  refine W.seq ?_
  refine W.reg ?_
  refine Wx.callF (run_callF Try.call48 rfl) (F48 hS.fb_lt) rfl ?_
  rintro r_125 w_126 hx_127 ⟨v_128, rfl, hv_129⟩
  have ln_131 := hv_129.len63
  have hS := hS.ext hx_127
  have hS := hS.add hv_129
  refine Wx.callF (run_callF Try.call33 rfl) (F33 (in_i64 (by omega) (by omega)) (in_i64 (by omega) (by omega)) (hS.v 0 rfl) (in_i64 (by omega) (by omega)) hS.fb_lt) rfl ?_
  rintro r_132 w_133 hx_134 ⟨v_135, rfl, hv_136⟩
  have hS := hS.pushFr hx_134 hv_136
  refine Wx.rd (v := .tuple #[v_135, .int .i64 (atE 3 3 sS 7)]) (rd_move rfl) rfl ?_
  refine Wx.rd (v := v_135) (rd_extract rfl rfl) rfl ?_
  refine Wx.rd (v := .int .i64 (atE 3 3 sS 7)) (rd_extract rfl rfl) rfl ?_
  refine Wx.rd (v := v_135) (rd_assign rfl) rfl ?_
  refine Wx.rd (v := .int .i64 0) (Rd.to (v := .int .i64 (atE 3 3 sS 7)) (rd_assign rfl) (congrArg (Value.int .i64) (show (0 : Int) = (atE 3 3 sS 7 : Int) from (by decide +kernel)).symm)) rfl ?_
  refine Wx.nil ?_
  refine W.seq ?_
  refine W.reg ?_
  refine Wx.callF (run_callF Try.call48 rfl) (F48 hS.fb_lt) rfl ?_
  rintro r_138 w_139 hx_140 ⟨v_141, rfl, hv_142⟩
  have ln_144 := hv_142.len63
  have hS := hS.ext hx_140
  have hS := hS.add hv_142
  refine Wx.callF (run_callF Try.call37 rfl) (F37 (in_i64 (by omega) (by omega)) (in_i64 (by omega) (by omega)) (hS.v 0 rfl) (in_i64 (by omega) (by omega)) (in_i64 (by omega) (by omega)) hS.fb_lt) rfl ?_
  rintro r_145 w_146 hx_147 rfl
  have hS := hS.ext hx_147
  refine Wx.rd (v := .tuple #[.int .i64 (betwE 3 3 sS 4 7), .int .i64 (betwX 3 3 sS 4 7)]) (rd_move rfl) rfl ?_
  refine Wx.rd (v := .int .i64 (betwE 3 3 sS 4 7)) (rd_extract rfl rfl) rfl ?_
  refine Wx.rd (v := .int .i64 (betwX 3 3 sS 4 7)) (rd_extract rfl rfl) rfl ?_
  refine Wx.rd (v := .int .i64 4) (Rd.to (v := .int .i64 (betwE 3 3 sS 4 7)) (rd_assign rfl) (congrArg (Value.int .i64) (show (4 : Int) = (betwE 3 3 sS 4 7 : Int) from (by decide +kernel)).symm)) rfl ?_
  refine Wx.rd (v := .int .i64 0) (Rd.to (v := .int .i64 (betwX 3 3 sS 4 7)) (rd_assign rfl) (congrArg (Value.int .i64) (show (0 : Int) = (betwX 3 3 sS 4 7 : Int) from (by decide +kernel)).symm)) rfl ?_
  refine Wx.nil ?_
  refine W.seq ?_
  refine W.reg ?_
  refine Wx.callF (run_callF Try.call48 rfl) (F48 hS.fb_lt) rfl ?_
  rintro r_148 w_149 hx_150 ⟨v_151, rfl, hv_152⟩
  have ln_154 := hv_152.len63
  have hS := hS.ext hx_150
  have hS := hS.add hv_152
  refine Wx.callF (run_callF Try.call37 rfl) (F37 (in_i64 (by omega) (by omega)) (in_i64 (by omega) (by omega)) (hS.v 0 rfl) (in_i64 (by omega) (by omega)) (in_i64 (by omega) (by omega)) hS.fb_lt) rfl ?_
  rintro r_155 w_156 hx_157 rfl
  have hS := hS.ext hx_157
  refine Wx.rd (v := .tuple #[.int .i64 (betwE 3 3 sS 4 4), .int .i64 (betwX 3 3 sS 4 4)]) (rd_move rfl) rfl ?_
  refine Wx.rd (v := .int .i64 (betwE 3 3 sS 4 4)) (rd_extract rfl rfl) rfl ?_
  refine Wx.rd (v := .int .i64 (betwX 3 3 sS 4 4)) (rd_extract rfl rfl) rfl ?_
  refine Wx.rd (v := .int .i64 2) (Rd.to (v := .int .i64 (betwE 3 3 sS 4 4)) (rd_assign rfl) (congrArg (Value.int .i64) (show (2 : Int) = (betwE 3 3 sS 4 4 : Int) from (by decide +kernel)).symm)) rfl ?_
  refine Wx.rd (v := .int .i64 0) (Rd.to (v := .int .i64 (betwX 3 3 sS 4 4)) (rd_assign rfl) (congrArg (Value.int .i64) (show (0 : Int) = (betwX 3 3 sS 4 4 : Int) from (by decide +kernel)).symm)) rfl ?_
  refine Wx.nil ?_
  refine W.seq ?_
  refine W.reg ?_
  refine Wx.callF (run_callF Try.call48 rfl) (F48 hS.fb_lt) rfl ?_
  rintro r_158 w_159 hx_160 ⟨v_161, rfl, hv_162⟩
  have ln_164 := hv_162.len63
  have hS := hS.ext hx_160
  have hS := hS.add hv_162
  refine Wx.callF (run_callF Try.call39 rfl) (F39 (in_i64 (by omega) (by omega)) (in_i64 (by omega) (by omega)) (hS.v 0 rfl) hS.fb_lt) rfl ?_
  rintro r_165 w_166 hx_167 ⟨v_168, rfl, hv_169⟩
  have hS := hS.pushFr hx_167 hv_169
  refine Wx.rd (v := .tuple #[v_168, .int .i64 (checkS 3 3 sS)]) (rd_move rfl) rfl ?_
  refine Wx.rd (v := v_168) (rd_extract rfl rfl) rfl ?_
  refine Wx.rd (v := .int .i64 (checkS 3 3 sS)) (rd_extract rfl rfl) rfl ?_
  refine Wx.rd (v := v_168) (rd_assign rfl) rfl ?_
  refine Wx.rd (v := .int .i64 0) (Rd.to (v := .int .i64 (checkS 3 3 sS)) (rd_assign rfl) (congrArg (Value.int .i64) (show (0 : Int) = (checkS 3 3 sS : Int) from (by decide +kernel)).symm)) rfl ?_
  refine Wx.nil ?_
  refine W.seq ?_
  refine W.reg ?_
  refine Wx.callF (run_callF Try.call48 rfl) (F48 hS.fb_lt) rfl ?_
  rintro r_171 w_172 hx_173 ⟨v_174, rfl, hv_175⟩
  have ln_177 := hv_175.len63
  have hS := hS.ext hx_173
  have hS := hS.add hv_175
  refine Wx.lit (t := (tI .i64)) (ys := [6, 5, 4, 3]) (vs := [.int .i64 6, .int .i64 5, .int .i64 4, .int .i64 3]) elMg_22 hS rfl rfl ⟨(V.mkInt (in_i64 (by omega) (by omega))), ⟨(V.mkInt (in_i64 (by omega) (by omega))), ⟨(V.mkInt (in_i64 (by omega) (by omega))), ⟨(V.mkInt (in_i64 (by omega) (by omega))), trivial⟩⟩⟩⟩ (by decide) rfl (fun v_178 w_179 hx_180 hS => ?_)
  have hS := hS.freeze 0 rfl
  refine Wx.callF (run_callF Try.call49 rfl) (F49 (hS.v 0 rfl) hS.fb_lt) rfl ?_
  rintro r_182 w_183 hx_184 ⟨_, rfl, hv_185⟩
  have ln_187 := hv_185.len63
  have hS := hS.ext hx_184
  have hS := hS.add hv_185
  refine Wx.callF (run_callF Try.call29 rfl) (F29 (in_i64 (by omega) (by omega)) (in_i64 (by omega) (by omega)) (hS.v 2 rfl) (hS.v 0 rfl) (in_i64 (by omega) (by omega))) rfl ?_
  rintro r_188 w_189 hx_190 rfl
  have hS := hS.ext hx_190
  refine Wx.rd (v := .tuple #[.int .i64 (hourV 3 3 sS [6, 5, 4, 3] 9), .int .i64 (hourX 3 3 sS [6, 5, 4, 3] 9)]) (rd_move rfl) rfl ?_
  refine Wx.rd (v := .int .i64 (hourV 3 3 sS [6, 5, 4, 3] 9)) (rd_extract rfl rfl) rfl ?_
  refine Wx.rd (v := .int .i64 (hourX 3 3 sS [6, 5, 4, 3] 9)) (rd_extract rfl rfl) rfl ?_
  refine Wx.rd (v := .int .i64 0) (Rd.to (v := .int .i64 (hourV 3 3 sS [6, 5, 4, 3] 9)) (rd_assign rfl) (congrArg (Value.int .i64) (show (0 : Int) = (hourV 3 3 sS [6, 5, 4, 3] 9 : Int) from (by decide +kernel)).symm)) rfl ?_
  refine Wx.rd (v := .int .i64 2) (Rd.to (v := .int .i64 (hourX 3 3 sS [6, 5, 4, 3] 9)) (rd_assign rfl) (congrArg (Value.int .i64) (show (2 : Int) = (hourX 3 3 sS [6, 5, 4, 3] 9 : Int) from (by decide +kernel)).symm)) rfl ?_
  refine Wx.nil ?_
  refine W.seq ?_
  refine W.reg ?_
  refine Wx.rd (v := .int .i64 0) (rd_move rfl) rfl ?_
  refine Wx.rd (v := .bool true) (Rd.to (v := .bool (decide ((0 : Int) = 0))) (rd_eql rfl rfl) rfl) rfl ?_
  refine Wx.rd (v := .bool true) (rd_move rfl) rfl ?_
  refine Wx.gyes rfl rfl rfl ?_
  refine Wx.rd (v := .int .i64 0) (rd_move rfl) rfl ?_
  refine Wx.gyes rfl rfl rfl ?_
  refine Wx.rd (v := .bool true) (Rd.to (v := .bool (decide ((0 : Int) = 0))) (rd_eql rfl rfl) rfl) rfl ?_
  refine Wx.rd (v := .bool true) (rd_pickT rfl rfl) rfl ?_
  refine Wx.rd (v := .bool true) (rd_move rfl) rfl ?_
  refine Wx.gyes rfl rfl rfl ?_
  refine Wx.rd (v := .int .i64 0) (rd_move rfl) rfl ?_
  refine Wx.gyes rfl rfl rfl ?_
  refine Wx.rd (v := .bool true) (Rd.to (v := .bool (decide ((0 : Int) = 0))) (rd_eql rfl rfl) rfl) rfl ?_
  refine Wx.rd (v := .bool true) (rd_pickT rfl rfl) rfl ?_
  refine Wx.rd (v := .bool true) (rd_move rfl) rfl ?_
  refine Wx.gyes rfl rfl rfl ?_
  refine Wx.rd (v := .int .i64 0) (rd_move rfl) rfl ?_
  refine Wx.gyes rfl rfl rfl ?_
  refine Wx.rd (v := .bool true) (Rd.to (v := .bool (decide ((0 : Int) = 0))) (rd_eql rfl rfl) rfl) rfl ?_
  refine Wx.rd (v := .bool true) (rd_pickT rfl rfl) rfl ?_
  refine Wx.rd (v := .bool true) (rd_move rfl) rfl ?_
  refine Wx.gyes rfl rfl rfl ?_
  refine Wx.rd (v := .int .i64 0) (rd_move rfl) rfl ?_
  refine Wx.gyes rfl rfl rfl ?_
  refine Wx.rd (v := .bool true) (Rd.to (v := .bool (decide ((0 : Int) = 0))) (rd_eql rfl rfl) rfl) rfl ?_
  refine Wx.rd (v := .bool true) (rd_pickT rfl rfl) rfl ?_
  refine Wx.rd (v := .bool true) (rd_move rfl) rfl ?_
  refine Wx.gyes rfl rfl rfl ?_
  refine Wx.rd (v := .int .i64 0) (rd_move rfl) rfl ?_
  refine Wx.gyes rfl rfl rfl ?_
  refine Wx.rd (v := .bool true) (Rd.to (v := .bool (decide ((0 : Int) = 0))) (rd_eql rfl rfl) rfl) rfl ?_
  refine Wx.rd (v := .bool true) (rd_pickT rfl rfl) rfl ?_
  refine Wx.rd (v := .bool true) (rd_move rfl) rfl ?_
  refine Wx.gyes rfl rfl rfl ?_
  refine Wx.rd (v := .int .i64 0) (rd_move rfl) rfl ?_
  refine Wx.gyes rfl rfl rfl ?_
  refine Wx.rd (v := .bool true) (Rd.to (v := .bool (decide ((0 : Int) = 0))) (rd_eql rfl rfl) rfl) rfl ?_
  refine Wx.rd (v := .bool true) (rd_pickT rfl rfl) rfl ?_
  refine Wx.rd (v := .bool true) (rd_move rfl) rfl ?_
  refine Wx.gyes rfl rfl rfl ?_
  refine Wx.rd (v := .int .i64 2) (rd_move rfl) rfl ?_
  refine Wx.gyes rfl rfl rfl ?_
  refine Wx.rd (v := .bool true) (Rd.to (v := .bool (decide ((2 : Int) = 2))) (rd_eql rfl rfl) rfl) rfl ?_
  refine Wx.rd (v := .bool true) (rd_pickT rfl rfl) rfl ?_
  refine Wx.rd (v := .bool true) (rd_move rfl) rfl ?_
  refine Wx.gyes rfl rfl rfl ?_
  refine Wx.rd (v := v_11) (rd_move rfl) rfl ?_
  refine Wx.gyes rfl rfl rfl ?_
  refine Wx.lit (t := (tI .i64)) (ys := [9, 6, 6, 1]) (vs := [.int .i64 9, .int .i64 6, .int .i64 6, .int .i64 1]) elMg_22 hS rfl rfl ⟨(V.mkInt (in_i64 (by omega) (by omega))), ⟨(V.mkInt (in_i64 (by omega) (by omega))), ⟨(V.mkInt (in_i64 (by omega) (by omega))), ⟨(V.mkInt (in_i64 (by omega) (by omega))), trivial⟩⟩⟩⟩ (by decide) rfl (fun v_191 w_192 hx_193 hS => ?_)
  refine Wx.gyes rfl rfl rfl ?_
  have hS := hS.freeze 0 rfl
  refine Wx.callF (run_callF Try.call49 rfl) (F49 (hS.v 0 rfl) hS.fb_lt) rfl ?_
  rintro r_195 w_196 hx_197 ⟨_, rfl, hv_198⟩
  have ln_200 := hv_198.len63
  have hS := hS.ext hx_197
  have hS := hS.add hv_198
  refine Wx.gyes rfl rfl rfl ?_
  refine Wx.callF (run_callF Try.call21 rfl) (F21 (hS.lend 28 rfl) (hS.v 0 rfl)) rfl ?_
  rintro r_201 w_202 hx_203 rfl
  have hS := hS.ext hx_203
  rw [show (decide ((sillsE 4 1 sT) = [9, 6, 6, 1]) : Bool) = true from (by decide +kernel)]
  refine Wx.rd (v := .bool true) (rd_pickT rfl rfl) rfl ?_
  refine Wx.rd (v := .bool true) (rd_move rfl) rfl ?_
  refine Wx.gyes rfl rfl rfl ?_
  refine Wx.rd (v := v_24) (rd_move rfl) rfl ?_
  refine Wx.gyes rfl rfl rfl ?_
  refine Wx.lit (t := (tI .i64)) (ys := [0, 0, 0, 0, 2, 0, 0, 0, 0]) (vs := [.int .i64 0, .int .i64 0, .int .i64 0, .int .i64 0, .int .i64 2, .int .i64 0, .int .i64 0, .int .i64 0, .int .i64 0]) elMg_22 hS rfl rfl ⟨(V.mkInt (in_i64 (by omega) (by omega))), ⟨(V.mkInt (in_i64 (by omega) (by omega))), ⟨(V.mkInt (in_i64 (by omega) (by omega))), ⟨(V.mkInt (in_i64 (by omega) (by omega))), ⟨(V.mkInt (in_i64 (by omega) (by omega))), ⟨(V.mkInt (in_i64 (by omega) (by omega))), ⟨(V.mkInt (in_i64 (by omega) (by omega))), ⟨(V.mkInt (in_i64 (by omega) (by omega))), ⟨(V.mkInt (in_i64 (by omega) (by omega))), trivial⟩⟩⟩⟩⟩⟩⟩⟩⟩ (by decide) rfl (fun v_204 w_205 hx_206 hS => ?_)
  refine Wx.gyes rfl rfl rfl ?_
  have hS := hS.freeze 0 rfl
  refine Wx.callF (run_callF Try.call49 rfl) (F49 (hS.v 0 rfl) hS.fb_lt) rfl ?_
  rintro r_208 w_209 hx_210 ⟨_, rfl, hv_211⟩
  have ln_213 := hv_211.len63
  have hS := hS.ext hx_210
  have hS := hS.add hv_211
  refine Wx.gyes rfl rfl rfl ?_
  refine Wx.callF (run_callF Try.call21 rfl) (F21 (hS.lend 28 rfl) (hS.v 0 rfl)) rfl ?_
  rintro r_214 w_215 hx_216 rfl
  have hS := hS.ext hx_216
  rw [show (decide ((depthsE 3 3 sS 0) = [0, 0, 0, 0, 2, 0, 0, 0, 0]) : Bool) = true from (by decide +kernel)]
  refine Wx.rd (v := .bool true) (rd_pickT rfl rfl) rfl ?_
  refine Wx.rd (v := .bool true) (rd_move rfl) rfl ?_
  refine Wx.gyes rfl rfl rfl ?_
  refine Wx.rd (v := v_37) (rd_move rfl) rfl ?_
  refine Wx.gyes rfl rfl rfl ?_
  refine Wx.lit (t := (tI .i64)) (ys := [0, 1, 2, 3, 5, 6, 8]) (vs := [.int .i64 0, .int .i64 1, .int .i64 2, .int .i64 3, .int .i64 5, .int .i64 6, .int .i64 8]) elMg_22 hS rfl rfl ⟨(V.mkInt (in_i64 (by omega) (by omega))), ⟨(V.mkInt (in_i64 (by omega) (by omega))), ⟨(V.mkInt (in_i64 (by omega) (by omega))), ⟨(V.mkInt (in_i64 (by omega) (by omega))), ⟨(V.mkInt (in_i64 (by omega) (by omega))), ⟨(V.mkInt (in_i64 (by omega) (by omega))), ⟨(V.mkInt (in_i64 (by omega) (by omega))), trivial⟩⟩⟩⟩⟩⟩⟩ (by decide) rfl (fun v_217 w_218 hx_219 hS => ?_)
  refine Wx.gyes rfl rfl rfl ?_
  have hS := hS.freeze 0 rfl
  refine Wx.callF (run_callF Try.call49 rfl) (F49 (hS.v 0 rfl) hS.fb_lt) rfl ?_
  rintro r_221 w_222 hx_223 ⟨_, rfl, hv_224⟩
  have ln_226 := hv_224.len63
  have hS := hS.ext hx_223
  have hS := hS.add hv_224
  refine Wx.gyes rfl rfl rfl ?_
  refine Wx.callF (run_callF Try.call21 rfl) (F21 (hS.lend 28 rfl) (hS.v 0 rfl)) rfl ?_
  rintro r_227 w_228 hx_229 rfl
  have hS := hS.ext hx_229
  rw [show (decide ((bareE 3 3 sS 5) = [0, 1, 2, 3, 5, 6, 8]) : Bool) = true from (by decide +kernel)]
  refine Wx.rd (v := .bool true) (rd_pickT rfl rfl) rfl ?_
  refine Wx.rd (v := .bool true) (rd_move rfl) rfl ?_
  refine Wx.gyes rfl rfl rfl ?_
  refine Wx.rd (v := v_50) (rd_move rfl) rfl ?_
  refine Wx.gyes rfl rfl rfl ?_
  refine Wx.rd (v := .int .i64 0) (Rd.to (v := .int .i64 ((bareE 3 3 sS 6).length : Int)) (rd_lenR hS 26 rfl rfl Try.underlying22) (congrArg (Value.int .i64) (show (0 : Int) = (((bareE 3 3 sS 6).length : Int) : Int) from (by decide +kernel)).symm)) rfl ?_
  refine Wx.gyes rfl rfl rfl ?_
  refine Wx.rd (v := .bool true) (Rd.to (v := .bool (decide ((0 : Int) = 0))) (rd_eql rfl rfl) rfl) rfl ?_
  refine Wx.rd (v := .bool true) (rd_pickT rfl rfl) rfl ?_
  refine Wx.rd (v := .bool true) (rd_move rfl) rfl ?_
  refine Wx.gyes rfl rfl rfl ?_
  refine Wx.rd (v := v_63) (rd_move rfl) rfl ?_
  refine Wx.gyes rfl rfl rfl ?_
  refine Wx.lit (t := (tI .i64)) (ys := [4]) (vs := [.int .i64 4]) elMg_22 hS rfl rfl ⟨(V.mkInt (in_i64 (by omega) (by omega))), trivial⟩ (by decide) rfl (fun v_230 w_231 hx_232 hS => ?_)
  refine Wx.gyes rfl rfl rfl ?_
  have hS := hS.freeze 0 rfl
  refine Wx.lit (t := (tSl (tI .i64))) (ys := [[4]]) (vs := [v_230]) elMg_37 hS rfl rfl ⟨(hS.v 0 rfl), trivial⟩ (by decide) rfl (fun v_234 w_235 hx_236 hS => ?_)
  refine Wx.gyes rfl rfl rfl ?_
  refine Wx.callF (run_callF Try.call28 rfl) (F28 (hS.lend 26 rfl) (hS.lend 0 rfl)) rfl ?_
  rintro r_237 w_238 hx_239 rfl
  have hS := hS.ext hx_239
  rw [show (decide ((poolsE 3 3 sS 0) = [[4]]) : Bool) = true from (by decide +kernel)]
  refine Wx.rd (v := .bool true) (rd_pickT rfl rfl) rfl ?_
  refine Wx.rd (v := .bool true) (rd_move rfl) rfl ?_
  refine Wx.gyes rfl rfl rfl ?_
  refine Wx.rd (v := v_76) (rd_move rfl) rfl ?_
  refine Wx.gyes rfl rfl rfl ?_
  refine Wx.rd (v := .int .i64 0) (Rd.to (v := .int .i64 ((poolsE 3 3 sS 4).length : Int)) (rd_lenR hS 24 rfl rfl Try.underlying37) (congrArg (Value.int .i64) (show (0 : Int) = (((poolsE 3 3 sS 4).length : Int) : Int) from (by decide +kernel)).symm)) rfl ?_
  refine Wx.gyes rfl rfl rfl ?_
  refine Wx.rd (v := .bool true) (Rd.to (v := .bool (decide ((0 : Int) = 0))) (rd_eql rfl rfl) rfl) rfl ?_
  refine Wx.rd (v := .bool true) (rd_pickT rfl rfl) rfl ?_
  refine Wx.rd (v := .bool true) (rd_move rfl) rfl ?_
  refine Wx.gyes rfl rfl rfl ?_
  refine Wx.rd (v := .int .i64 1) (rd_move rfl) rfl ?_
  refine Wx.gyes rfl rfl rfl ?_
  refine Wx.rd (v := .bool true) (Rd.to (v := .bool (decide ((1 : Int) = 1))) (rd_eql rfl rfl) rfl) rfl ?_
  refine Wx.rd (v := .bool true) (rd_pickT rfl rfl) rfl ?_
  refine Wx.rd (v := .bool true) (rd_move rfl) rfl ?_
  refine Wx.gyes rfl rfl rfl ?_
  refine Wx.rd (v := v_109) (rd_move rfl) rfl ?_
  refine Wx.gyes rfl rfl rfl ?_
  refine Wx.lit (t := (tI .i64)) (ys := [4, 7]) (vs := [.int .i64 4, .int .i64 7]) elMg_22 hS rfl rfl ⟨(V.mkInt (in_i64 (by omega) (by omega))), ⟨(V.mkInt (in_i64 (by omega) (by omega))), trivial⟩⟩ (by decide) rfl (fun v_240 w_241 hx_242 hS => ?_)
  refine Wx.gyes rfl rfl rfl ?_
  have hS := hS.freeze 0 rfl
  refine Wx.callF (run_callF Try.call49 rfl) (F49 (hS.v 0 rfl) hS.fb_lt) rfl ?_
  rintro r_244 w_245 hx_246 ⟨_, rfl, hv_247⟩
  have ln_249 := hv_247.len63
  have hS := hS.ext hx_246
  have hS := hS.add hv_247
  refine Wx.gyes rfl rfl rfl ?_
  refine Wx.callF (run_callF Try.call21 rfl) (F21 (hS.lend 21 rfl) (hS.v 0 rfl)) rfl ?_
  rintro r_250 w_251 hx_252 rfl
  have hS := hS.ext hx_252
  rw [show (decide ((wayE 3 3 sS 4) = [4, 7]) : Bool) = true from (by decide +kernel)]
  refine Wx.rd (v := .bool true) (rd_pickT rfl rfl) rfl ?_
  refine Wx.rd (v := .bool true) (rd_move rfl) rfl ?_
  refine Wx.gyes rfl rfl rfl ?_
  refine Wx.rd (v := v_122) (rd_move rfl) rfl ?_
  refine Wx.gyes rfl rfl rfl ?_
  refine Wx.lit (t := (tI .i64)) (ys := [1, 2, 3]) (vs := [.int .i64 1, .int .i64 2, .int .i64 3]) elMg_22 hS rfl rfl ⟨(V.mkInt (in_i64 (by omega) (by omega))), ⟨(V.mkInt (in_i64 (by omega) (by omega))), ⟨(V.mkInt (in_i64 (by omega) (by omega))), trivial⟩⟩⟩ (by decide) rfl (fun v_253 w_254 hx_255 hS => ?_)
  refine Wx.gyes rfl rfl rfl ?_
  have hS := hS.freeze 0 rfl
  refine Wx.callF (run_callF Try.call49 rfl) (F49 (hS.v 0 rfl) hS.fb_lt) rfl ?_
  rintro r_257 w_258 hx_259 ⟨_, rfl, hv_260⟩
  have ln_262 := hv_260.len63
  have hS := hS.ext hx_259
  have hS := hS.add hv_260
  refine Wx.gyes rfl rfl rfl ?_
  refine Wx.callF (run_callF Try.call21 rfl) (F21 (hS.lend 21 rfl) (hS.v 0 rfl)) rfl ?_
  rintro r_263 w_264 hx_265 rfl
  have hS := hS.ext hx_265
  rw [show (decide ((wayE 4 1 sT 1) = [1, 2, 3]) : Bool) = true from (by decide +kernel)]
  refine Wx.rd (v := .bool true) (rd_pickT rfl rfl) rfl ?_
  refine Wx.rd (v := .bool true) (rd_move rfl) rfl ?_
  refine Wx.gyes rfl rfl rfl ?_
  refine Wx.rd (v := v_135) (rd_move rfl) rfl ?_
  refine Wx.gyes rfl rfl rfl ?_
  refine Wx.rd (v := .int .i64 0) (Rd.to (v := .int .i64 ((basinE 3 3 sS 7).length : Int)) (rd_lenR hS 19 rfl rfl Try.underlying22) (congrArg (Value.int .i64) (show (0 : Int) = (((basinE 3 3 sS 7).length : Int) : Int) from (by decide +kernel)).symm)) rfl ?_
  refine Wx.gyes rfl rfl rfl ?_
  refine Wx.rd (v := .bool true) (Rd.to (v := .bool (decide ((0 : Int) = 0))) (rd_eql rfl rfl) rfl) rfl ?_
  refine Wx.rd (v := .bool true) (rd_pickT rfl rfl) rfl ?_
  refine Wx.rd (v := .bool true) (rd_move rfl) rfl ?_
  refine Wx.gyes rfl rfl rfl ?_
  refine Wx.rd (v := .int .i64 4) (rd_move rfl) rfl ?_
  refine Wx.gyes rfl rfl rfl ?_
  refine Wx.rd (v := .bool true) (Rd.to (v := .bool (decide ((4 : Int) = 4))) (rd_eql rfl rfl) rfl) rfl ?_
  refine Wx.rd (v := .bool true) (rd_pickT rfl rfl) rfl ?_
  refine Wx.rd (v := .bool true) (rd_move rfl) rfl ?_
  refine Wx.gyes rfl rfl rfl ?_
  refine Wx.rd (v := .int .i64 2) (rd_move rfl) rfl ?_
  refine Wx.gyes rfl rfl rfl ?_
  refine Wx.rd (v := .bool true) (Rd.to (v := .bool (decide ((2 : Int) = 2))) (rd_eql rfl rfl) rfl) rfl ?_
  refine Wx.rd (v := .bool true) (rd_pickT rfl rfl) rfl ?_
  refine Wx.rd (v := .bool true) (rd_move rfl) rfl ?_
  refine Wx.gyes rfl rfl rfl ?_
  refine Wx.rd (v := v_168) (rd_move rfl) rfl ?_
  refine Wx.gyes rfl rfl rfl ?_
  refine Wx.rd (v := .agg #[.int .i64 4, .int .i64 7]) (rd_build (vs := [(0, .int .i64 4), (1, .int .i64 7)]) rfl (by kernel_rfl)) rfl ?_
  refine Wx.gyes rfl rfl rfl ?_
  refine Wx.rd (v := .agg #[.int .i64 7, .int .i64 9]) (rd_build (vs := [(0, .int .i64 7), (1, .int .i64 9)]) rfl (by kernel_rfl)) rfl ?_
  refine Wx.gyes rfl rfl rfl ?_
  refine Wx.rd (v := .agg #[.int .i64 0, .int .i64 1]) (rd_build (vs := [(0, .int .i64 0), (1, .int .i64 1)]) rfl (by kernel_rfl)) rfl ?_
  refine Wx.gyes rfl rfl rfl ?_
  refine Wx.rd (v := .agg #[.int .i64 0, .int .i64 3]) (rd_build (vs := [(0, .int .i64 0), (1, .int .i64 3)]) rfl (by kernel_rfl)) rfl ?_
  refine Wx.gyes rfl rfl rfl ?_
  refine Wx.rd (v := .agg #[.int .i64 1, .int .i64 2]) (rd_build (vs := [(0, .int .i64 1), (1, .int .i64 2)]) rfl (by kernel_rfl)) rfl ?_
  refine Wx.gyes rfl rfl rfl ?_
  refine Wx.rd (v := .agg #[.int .i64 1, .int .i64 4]) (rd_build (vs := [(0, .int .i64 1), (1, .int .i64 4)]) rfl (by kernel_rfl)) rfl ?_
  refine Wx.gyes rfl rfl rfl ?_
  refine Wx.rd (v := .agg #[.int .i64 2, .int .i64 5]) (rd_build (vs := [(0, .int .i64 2), (1, .int .i64 5)]) rfl (by kernel_rfl)) rfl ?_
  refine Wx.gyes rfl rfl rfl ?_
  refine Wx.rd (v := .agg #[.int .i64 3, .int .i64 6]) (rd_build (vs := [(0, .int .i64 3), (1, .int .i64 6)]) rfl (by kernel_rfl)) rfl ?_
  refine Wx.gyes rfl rfl rfl ?_
  refine Wx.rd (v := .agg #[.int .i64 5, .int .i64 8]) (rd_build (vs := [(0, .int .i64 5), (1, .int .i64 8)]) rfl (by kernel_rfl)) rfl ?_
  refine Wx.gyes rfl rfl rfl ?_
  refine Wx.lit (t := (tP (tI .i64) (tI .i64))) (ys := [(4, 7), (7, 9), (0, 1), (0, 3), (1, 2), (1, 4), (2, 5), (3, 6), (5, 8)]) (vs := [.agg #[.int .i64 4, .int .i64 7], .agg #[.int .i64 7, .int .i64 9], .agg #[.int .i64 0, .int .i64 1], .agg #[.int .i64 0, .int .i64 3], .agg #[.int .i64 1, .int .i64 2], .agg #[.int .i64 1, .int .i64 4], .agg #[.int .i64 2, .int .i64 5], .agg #[.int .i64 3, .int .i64 6], .agg #[.int .i64 5, .int .i64 8]]) elMg_52 hS rfl rfl ⟨(V.mk2 (in_i64 (by omega) (by omega)) (in_i64 (by omega) (by omega))), ⟨(V.mk2 (in_i64 (by omega) (by omega)) (in_i64 (by omega) (by omega))), ⟨(V.mk2 (in_i64 (by omega) (by omega)) (in_i64 (by omega) (by omega))), ⟨(V.mk2 (in_i64 (by omega) (by omega)) (in_i64 (by omega) (by omega))), ⟨(V.mk2 (in_i64 (by omega) (by omega)) (in_i64 (by omega) (by omega))), ⟨(V.mk2 (in_i64 (by omega) (by omega)) (in_i64 (by omega) (by omega))), ⟨(V.mk2 (in_i64 (by omega) (by omega)) (in_i64 (by omega) (by omega))), ⟨(V.mk2 (in_i64 (by omega) (by omega)) (in_i64 (by omega) (by omega))), ⟨(V.mk2 (in_i64 (by omega) (by omega)) (in_i64 (by omega) (by omega))), trivial⟩⟩⟩⟩⟩⟩⟩⟩⟩ (by decide) rfl (fun v_266 w_267 hx_268 hS => ?_)
  refine Wx.gyes rfl rfl rfl ?_
  refine Wx.callF (run_callF Try.call41 rfl) (F41 (hS.lend 16 rfl) (hS.lend 0 rfl)) rfl ?_
  rintro r_269 w_270 hx_271 rfl
  have hS := hS.ext hx_271
  rw [show (decide ((treeE 3 3 sS) = [(4, 7), (7, 9), (0, 1), (0, 3), (1, 2), (1, 4), (2, 5), (3, 6), (5, 8)]) : Bool) = true from (by decide +kernel)]
  refine Wx.rd (v := .bool true) (rd_pickT rfl rfl) rfl ?_
  refine Wx.rd (v := .bool true) (rd_move rfl) rfl ?_
  refine Wx.gyes rfl rfl rfl ?_
  refine Wx.callF (run_callF Try.call48 rfl) (F48 hS.fb_lt) rfl ?_
  rintro r_272 w_273 hx_274 ⟨v_275, rfl, hv_276⟩
  have ln_278 := hv_276.len63
  have hS := hS.ext hx_274
  have hS := hS.add hv_276
  refine Wx.gyes rfl rfl rfl ?_
  refine Wx.lit (t := (tI .i64)) (ys := [7]) (vs := [.int .i64 7]) elMg_22 hS rfl rfl ⟨(V.mkInt (in_i64 (by omega) (by omega))), trivial⟩ (by decide) rfl (fun v_279 w_280 hx_281 hS => ?_)
  refine Wx.gyes rfl rfl rfl ?_
  have hS := hS.freeze 0 rfl
  refine Wx.callF (run_callF Try.call49 rfl) (F49 (hS.v 0 rfl) hS.fb_lt) rfl ?_
  rintro r_283 w_284 hx_285 ⟨_, rfl, hv_286⟩
  have ln_288 := hv_286.len63
  have hS := hS.ext hx_285
  have hS := hS.add hv_286
  refine Wx.gyes rfl rfl rfl ?_
  refine Wx.callF (run_callF Try.call35 rfl) (F35 (in_i64 (by omega) (by omega)) (in_i64 (by omega) (by omega)) (hS.v 2 rfl) (hS.v 0 rfl) (in_i64 (by omega) (by omega))) rfl ?_
  rintro r_289 w_290 hx_291 rfl
  have hS := hS.ext hx_291
  rw [show (provesE 3 3 sS [7] 1 : Int) = 14 from (by decide +kernel)]
  refine Wx.gyes rfl rfl rfl ?_
  refine Wx.rd (v := .bool true) (Rd.to (v := .bool (decide ((14 : Int) = 14))) (rd_eql rfl rfl) rfl) rfl ?_
  refine Wx.rd (v := .bool true) (rd_pickT rfl rfl) rfl ?_
  refine Wx.rd (v := .bool true) (rd_move rfl) rfl ?_
  refine Wx.gyes rfl rfl rfl ?_
  refine Wx.callF (run_callF Try.call48 rfl) (F48 hS.fb_lt) rfl ?_
  rintro r_292 w_293 hx_294 ⟨v_295, rfl, hv_296⟩
  have ln_298 := hv_296.len63
  have hS := hS.ext hx_294
  have hS := hS.add hv_296
  refine Wx.gyes rfl rfl rfl ?_
  refine Wx.lit (t := (tI .i64)) (ys := [4, 4]) (vs := [.int .i64 4, .int .i64 4]) elMg_22 hS rfl rfl ⟨(V.mkInt (in_i64 (by omega) (by omega))), ⟨(V.mkInt (in_i64 (by omega) (by omega))), trivial⟩⟩ (by decide) rfl (fun v_299 w_300 hx_301 hS => ?_)
  refine Wx.gyes rfl rfl rfl ?_
  have hS := hS.freeze 0 rfl
  refine Wx.callF (run_callF Try.call49 rfl) (F49 (hS.v 0 rfl) hS.fb_lt) rfl ?_
  rintro r_303 w_304 hx_305 ⟨_, rfl, hv_306⟩
  have ln_308 := hv_306.len63
  have hS := hS.ext hx_305
  have hS := hS.add hv_306
  refine Wx.gyes rfl rfl rfl ?_
  refine Wx.callF (run_callF Try.call35 rfl) (F35 (in_i64 (by omega) (by omega)) (in_i64 (by omega) (by omega)) (hS.v 2 rfl) (hS.v 0 rfl) (in_i64 (by omega) (by omega))) rfl ?_
  rintro r_309 w_310 hx_311 rfl
  have hS := hS.ext hx_311
  rw [show (provesE 3 3 sS [4, 4] 4 : Int) = 7 from (by decide +kernel)]
  refine Wx.gyes rfl rfl rfl ?_
  refine Wx.rd (v := .bool true) (Rd.to (v := .bool (decide ((7 : Int) = 7))) (rd_eql rfl rfl) rfl) rfl ?_
  refine Wx.rd (v := .bool true) (rd_pickT rfl rfl) rfl ?_
  refine Wx.rd (v := .bool true) (rd_move rfl) rfl ?_
  refine Wx.gyes rfl rfl rfl ?_
  refine Wx.rd (v := .agg #[.int .i64 7, .int .i64 1, (.slice none 0 0)]) (rd_build (vs := [(0, .int .i64 7), (1, .int .i64 1)]) rfl (by kernel_rfl)) rfl ?_
  refine Wx.gyes rfl rfl rfl ?_
  refine Wx.callF (run_callF Try.call22 rfl) (F22 (in_i64 (by omega) (by omega)) (in_i64 (by omega) (by omega)) (V.nil (O := []) (t := (tI .i64)))) rfl ?_
  rintro r_312 w_313 hx_314 rfl
  have hS := hS.ext hx_314
  rw [show (checkS 7 1 ([] : List Int) : Int) = 1 from (by decide +kernel)]
  refine Wx.gyes rfl rfl rfl ?_
  refine Wx.rd (v := .bool true) (Rd.to (v := .bool (decide ((1 : Int) = 1))) (rd_eql rfl rfl) rfl) rfl ?_
  refine Wx.rd (v := .bool true) (rd_pickT rfl rfl) rfl ?_
  refine Wx.rd (v := .bool true) (rd_move rfl) rfl ?_
  refine Wx.gyes rfl rfl rfl ?_
  refine Wx.lit (t := (tI .i64)) (ys := [5]) (vs := [.int .i64 5]) elMg_22 hS rfl rfl ⟨(V.mkInt (in_i64 (by omega) (by omega))), trivial⟩ (by decide) rfl (fun v_315 w_316 hx_317 hS => ?_)
  refine Wx.gyes rfl rfl rfl ?_
  have hS := hS.freeze 0 rfl
  refine Wx.callF (run_callF Try.call49 rfl) (F49 (hS.v 0 rfl) hS.fb_lt) rfl ?_
  rintro r_319 w_320 hx_321 ⟨_, rfl, hv_322⟩
  have ln_324 := hv_322.len63
  have hS := hS.ext hx_321
  have hS := hS.add hv_322
  refine Wx.gyes rfl rfl rfl ?_
  refine Wx.rd (v := .agg #[.int .i64 1, .int .i64 2, r_319]) (rd_buildC (vs := [(0, .int .i64 1), (1, .int .i64 2), (2, r_319)]) (us := [(0, .agg #[.int .i64 1]), (1, .agg #[.int .i64 2]), (2, .agg #[r_319])]) rfl (parts_cons rfl (parts_cons rfl (parts_cons (Go.Wk.cells_one (V.oneC (hS.v 0 rfl))) parts_nil))) (by kernel_rfl)) rfl ?_
  refine Wx.gyes rfl rfl rfl ?_
  refine Wx.callF (run_callF Try.call22 rfl) (F22 (in_i64 (by omega) (by omega)) (in_i64 (by omega) (by omega)) (hS.v 0 rfl)) rfl ?_
  rintro r_325 w_326 hx_327 rfl
  have hS := hS.ext hx_327
  rw [show (checkS 1 2 [5] : Int) = 5 from (by decide +kernel)]
  refine Wx.gyes rfl rfl rfl ?_
  refine Wx.rd (v := .bool true) (Rd.to (v := .bool (decide ((5 : Int) = 5))) (rd_eql rfl rfl) rfl) rfl ?_
  refine Wx.rd (v := .bool true) (rd_pickT rfl rfl) rfl ?_
  refine Wx.rd (v := .bool true) (rd_move rfl) rfl ?_
  refine Wx.gyes rfl rfl rfl ?_
  refine Wx.lit (t := (tI .i64)) (ys := [31]) (vs := [.int .i64 31]) elMg_22 hS rfl rfl ⟨(V.mkInt (in_i64 (by omega) (by omega))), trivial⟩ (by decide) rfl (fun v_328 w_329 hx_330 hS => ?_)
  refine Wx.gyes rfl rfl rfl ?_
  have hS := hS.freeze 0 rfl
  refine Wx.callF (run_callF Try.call49 rfl) (F49 (hS.v 0 rfl) hS.fb_lt) rfl ?_
  rintro r_332 w_333 hx_334 ⟨_, rfl, hv_335⟩
  have ln_337 := hv_335.len63
  have hS := hS.ext hx_334
  have hS := hS.add hv_335
  refine Wx.gyes rfl rfl rfl ?_
  refine Wx.rd (v := .agg #[.int .i64 1, .int .i64 1, r_332]) (rd_buildC (vs := [(0, .int .i64 1), (1, .int .i64 1), (2, r_332)]) (us := [(0, .agg #[.int .i64 1]), (1, .agg #[.int .i64 1]), (2, .agg #[r_332])]) rfl (parts_cons rfl (parts_cons rfl (parts_cons (Go.Wk.cells_one (V.oneC (hS.v 0 rfl))) parts_nil))) (by kernel_rfl)) rfl ?_
  refine Wx.gyes rfl rfl rfl ?_
  refine Wx.callF (run_callF Try.call22 rfl) (F22 (in_i64 (by omega) (by omega)) (in_i64 (by omega) (by omega)) (hS.v 0 rfl)) rfl ?_
  rintro r_338 w_339 hx_340 rfl
  have hS := hS.ext hx_340
  rw [show (checkS 1 1 [31] : Int) = 1 from (by decide +kernel)]
  refine Wx.gyes rfl rfl rfl ?_
  refine Wx.rd (v := .bool true) (Rd.to (v := .bool (decide ((1 : Int) = 1))) (rd_eql rfl rfl) rfl) rfl ?_
  refine Wx.rd (v := .bool true) (rd_pickT rfl rfl) rfl ?_
  refine Wx.rd (v := .bool true) (rd_move rfl) rfl ?_
  refine Wx.gyes rfl rfl rfl ?_
  refine Wx.callF (run_callF Try.call16 rfl) (F16) rfl ?_
  rintro r_341 w_342 hx_343 rfl
  have hS := hS.ext hx_343
  refine Wx.rd (v := .bool true) (rd_pickT rfl rfl) rfl ?_
  refine Wx.rd (v := .bool true) (rd_assign rfl) rfl ?_
  refine Wx.nil ?_
  exact W.ret ⟨.bool true, ResIs.one, hS.bel, rfl⟩
end Go.Proofs.Ytjhimoeodkaihaa

namespace Go.Wk
open Go.RowKit Go.ChangeShapes

section
variable {H : Type} {enc : TypeId × Value → H} {P : Program} {W : World}

structure Rds {α : Type} (enc : TypeId × Value → H) (P : Program) (W : World) (t : Ty α) (e : TypeId) : Prop where
  n : P.cellsOf e = t.n
  pos : 0 < t.n
  get : ∀ fuel cs x, DataW.trod enc P W 0 (fun _ => true) true fuel e cs = some x → ∃ y, t.rep [] W y cs

end
end Go.Wk

namespace Go.Proofs.Ytjhimoeodkaihaa.ebbKnown
open Go.ChangeShapes Go.WideShapes Go.ChangeAt Go.RowKit Go.Joins Go.Wk
set_option linter.unusedVariables false

theorem own : ownKnob Try.prog.godebug = none := by kernel_rfl
theorem laidOut : laidOutB Try.prog = true := by kernel_rfl

set_option maxRecDepth 100000 in
theorem lifted (os : Os) (started : os.Started) (H : Type) (enc : TypeId × Value → H) :
    ReturnsInHanded {} Try.checked os 11 .any (Rows.ebbKnownSpec.pre6 enc Try.prog Try.f11 Rows.ebbKnownRow.domain false) (Rows.ebbKnownSpec.post enc Try.prog Try.f11 false true false false) := by
  refine returnsInHanded_of_change (C := Try.checked) own started (by kernel_rfl) Try.func11
    (ChangeSpec.witness6 (enc := enc) (C := Try.checked) false ⟨#[], #[], []⟩ 8 (by kernel_rfl) (by kernel_rfl) (by kernel_rfl) (by kernel_rfl)) ?_
  intro W base args ds gs before hval0 hW hcnd _
  have hval : ∀ (j : Nat) t v, Try.f11.params[j]? = some t → args[j]? = some v → Value.okWide Try.prog W .any base t v := hval0
  have hW' := hW
  obtain ⟨p, q, hA0, hV, rfl, hfz, hnd⟩ := hW
  have hA : DataW.TrodAll enc Try.prog W 0 (fun _ => true) true Try.f11.params.toList args.toList ds p := hA0
  rw [Try.params11] at hA hval
  obtain ⟨rfl, rfl, rfl⟩ := trodAll_none hA
  obtain ⟨rfl, rfl⟩ := trodVars_none hV
  clear hA0 hval0
  refine (F11 (fun b (h : some b ∈ ([] : List (Option Nat))) => nomatch h)).mono fun e W' hE => ?_
  obtain ⟨r, he, bel, hr⟩ := hE
  subst he
  subst hr
  exact ⟨_, rfl, _, _, _, [], _, [], hW', trodAll_mk1 (shut_bool Try.underlying4 _), rfl, rfl, bel.frame _, fun h => by cases h⟩

theorem over : Rows.ebbKnownRow.holds Try.pinned (OpenSpec.ofChange Rows.ebbKnownSpec) :=
  OpenClaim.holds_of_wide 11 Try.f11 rfl rfl rfl rfl rfl rfl rfl ⟨rfl, rfl, rfl, rfl, rfl⟩ rfl rfl rfl rfl rfl (by kernel_rfl) Try.func11 (by kernel_rfl)
    (of_decide_eq_true (by kernel_rfl)) (by unfold Func.isWrapper; first | (rw [if_pos (by decide +kernel)]; kernel_rfl) | (rw [if_neg (by decide +kernel)]; exact ⟨rfl, rfl⟩))
    (fun os started H enc _ => lifted os started H enc)

end Go.Proofs.Ytjhimoeodkaihaa.ebbKnown
namespace Go.Proofs.Ytjhimoeodkaihaa
/-- The statement. -/
theorem ebbKnown_proved : Rows.EbbKnownSaid := ebbKnown.over
#print axioms ebbKnown_proved
end Go.Proofs.Ytjhimoeodkaihaa
