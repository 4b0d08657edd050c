/-
  WHAT IS PROVED HERE, TEXT BY TEXT (several texts of one prover, joined to one file; the conditions stand in each statement):
  * WHAT IS PROVED HERE: what functions of layer 1 hand back, each out of its own code; the conditions stand in each statement.
  * WHAT IS PROVED HERE: what functions of layer 1 hand back, each out of its own code; the conditions stand in each statement.
  * WHAT IS PROVED HERE: what functions of layer 1 hand back, each out of its own code; the conditions stand in each statement.
-/
import Derived.Test.YtjhimoeodkaihaaProg
import Derived.Test.YtjhimoeodkaihaaU2
import Derived.Test.YtjhimoeodkaihaaU5

set_option linter.unusedVariables false
set_option linter.unusedSimpArgs false

namespace Go.Proofs.Ytjhimoeodkaihaa
open Go.Wk Go.RowKit Go.Lib
set_option linter.unusedVariables false
set_option linter.unusedSimpArgs false
theorem elMb_22 : ElemI Try.prog 22 3 (.int .i64 0) 1 8 := ElemI.of Try.underlying22 (by kernel_rfl) (by first | rfl | kernel_rfl) (by decide)
theorem elMb_37 : ElemI Try.prog 37 22 ((.slice none 0 0)) 1 24 := ElemI.of Try.underlying37 (by kernel_rfl) (by first | rfl | kernel_rfl) (by decide)
theorem elMb_52 : ElemI Try.prog 52 74 (.agg #[.int .i64 0, .int .i64 0]) 2 16 := ElemI.of Try.underlying52 (by kernel_rfl) (by first | rfl | kernel_rfl) (by decide)

set_option maxHeartbeats 4000000 in
set_option maxRecDepth 10000 in
theorem F16  {w : World}  : Calls Try.prog 16 #[] w (Ret w (fun r _ => r = .bool true)) := by
  have hS := St.start0 w
  refine enterR Try.func16 rfl Try.ntmps16 Try.results16 rfl ?_
  refine W.seq ?_
  refine W.reg ?_
  refine Wx.rd (v := .bool false) (rd_assign rfl) rfl ?_
  refine Wx.nil ?_
  refine W.seq ?_
  refine W.reg ?_
  refine Wx.callF (run_callF Try.call48 rfl) (F48 hS.fb_lt) rfl ?_
  rintro r_1 w_2 hx_3 ⟨v_4, rfl, hv_5⟩
  have ln_7 := hv_5.len63
  have hS := hS.ext hx_3
  have hS := hS.add hv_5
  refine Wx.callF (run_callF Try.call17 rfl) (F17 (in_i64 (by omega) (by omega)) (in_i64 (by omega) (by omega)) (hS.v 0 rfl) hS.fb_lt) rfl ?_
  rintro r_8 w_9 hx_10 ⟨v_11, rfl, hv_12⟩
  have hS := hS.pushFr hx_10 hv_12
  refine Wx.rd (v := .tuple #[v_11, .int .i64 (checkS 3 3 sS)]) (rd_move rfl) rfl ?_
  refine Wx.rd (v := v_11) (rd_extract rfl rfl) rfl ?_
  refine Wx.rd (v := .int .i64 (checkS 3 3 sS)) (rd_extract rfl rfl) rfl ?_
  refine Wx.rd (v := v_11) (rd_assign rfl) rfl ?_
  refine Wx.rd (v := .int .i64 0) (Rd.to (v := .int .i64 (checkS 3 3 sS)) (rd_assign rfl) (congrArg (Value.int .i64) (show (0 : Int) = (checkS 3 3 sS : Int) from (by decide +kernel)).symm)) rfl ?_
  refine Wx.nil ?_
  refine W.seq ?_
  refine W.reg ?_
  refine Wx.callF (run_callF Try.call48 rfl) (F48 hS.fb_lt) rfl ?_
  rintro r_14 w_15 hx_16 ⟨v_17, rfl, hv_18⟩
  have ln_20 := hv_18.len63
  have hS := hS.ext hx_16
  have hS := hS.add hv_18
  refine Wx.callF (run_callF Try.call19 rfl) (F19 (in_i64 (by omega) (by omega)) (in_i64 (by omega) (by omega)) (hS.v 0 rfl) (in_i64 (by omega) (by omega)) hS.fb_lt) rfl ?_
  rintro r_21 w_22 hx_23 ⟨v_24, rfl, hv_25⟩
  have hS := hS.pushFr hx_23 hv_25
  refine Wx.rd (v := .tuple #[v_24, .int .i64 (levelE 3 3 sS 5)]) (rd_move rfl) rfl ?_
  refine Wx.rd (v := v_24) (rd_extract rfl rfl) rfl ?_
  refine Wx.rd (v := .int .i64 (levelE 3 3 sS 5)) (rd_extract rfl rfl) rfl ?_
  refine Wx.rd (v := v_24) (rd_assign rfl) rfl ?_
  refine Wx.rd (v := .int .i64 0) (Rd.to (v := .int .i64 (levelE 3 3 sS 5)) (rd_assign rfl) (congrArg (Value.int .i64) (show (0 : Int) = (levelE 3 3 sS 5 : Int) from (by decide +kernel)).symm)) rfl ?_
  refine Wx.nil ?_
  refine W.seq ?_
  refine W.reg ?_
  refine Wx.callF (run_callF Try.call48 rfl) (F48 hS.fb_lt) rfl ?_
  rintro r_27 w_28 hx_29 ⟨v_30, rfl, hv_31⟩
  have ln_33 := hv_31.len63
  have hS := hS.ext hx_29
  have hS := hS.add hv_31
  refine Wx.callF (run_callF Try.call24 rfl) (F24 (in_i64 (by omega) (by omega)) (in_i64 (by omega) (by omega)) (hS.v 0 rfl) (in_i64 (by omega) (by omega)) hS.fb_lt) rfl ?_
  rintro r_34 w_35 hx_36 ⟨v_37, rfl, hv_38⟩
  have hS := hS.pushFr hx_36 hv_38
  refine Wx.rd (v := .tuple #[v_37, .int .i64 (levelE 3 3 sS 0)]) (rd_move rfl) rfl ?_
  refine Wx.rd (v := v_37) (rd_extract rfl rfl) rfl ?_
  refine Wx.rd (v := .int .i64 (levelE 3 3 sS 0)) (rd_extract rfl rfl) rfl ?_
  refine Wx.rd (v := v_37) (rd_assign rfl) rfl ?_
  refine Wx.rd (v := .int .i64 0) (Rd.to (v := .int .i64 (levelE 3 3 sS 0)) (rd_assign rfl) (congrArg (Value.int .i64) (show (0 : Int) = (levelE 3 3 sS 0 : Int) from (by decide +kernel)).symm)) rfl ?_
  refine Wx.nil ?_
  refine W.seq ?_
  refine W.reg ?_
  refine Wx.callF (run_callF Try.call47 rfl) (F47 hS.fb_lt) rfl ?_
  rintro r_40 w_41 hx_42 ⟨v_43, rfl, hv_44⟩
  have ln_46 := hv_44.len63
  have hS := hS.ext hx_42
  have hS := hS.add hv_44
  refine Wx.callF (run_callF Try.call26 rfl) (F26 (in_i64 (by omega) (by omega)) (in_i64 (by omega) (by omega)) (hS.v 0 rfl) (in_i64 (by omega) (by omega)) hS.fb_lt) rfl ?_
  rintro r_47 w_48 hx_49 ⟨v_50, rfl, hv_51⟩
  have hS := hS.pushFrO hx_49 hv_51
  refine Wx.rd (v := .tuple #[v_50, .int .i64 (levelE 4 1 sT 2)]) (rd_move rfl) rfl ?_
  refine Wx.rd (v := v_50) (rd_extract rfl rfl) rfl ?_
  refine Wx.rd (v := .int .i64 (levelE 4 1 sT 2)) (rd_extract rfl rfl) rfl ?_
  refine Wx.rd (v := v_50) (rd_assign rfl) rfl ?_
  refine Wx.rd (v := .int .i64 0) (Rd.to (v := .int .i64 (levelE 4 1 sT 2)) (rd_assign rfl) (congrArg (Value.int .i64) (show (0 : Int) = (levelE 4 1 sT 2 : Int) from (by decide +kernel)).symm)) rfl ?_
  refine Wx.nil ?_
  refine W.seq ?_
  refine W.reg ?_
  refine Wx.callF (run_callF Try.call48 rfl) (F48 hS.fb_lt) rfl ?_
  rintro r_53 w_54 hx_55 ⟨v_56, rfl, hv_57⟩
  have ln_59 := hv_57.len63
  have hS := hS.ext hx_55
  have hS := hS.add hv_57
  refine Wx.lit (t := (tI .i64)) (ys := [6, 5, 4, 3]) (vs := [.int .i64 6, .int .i64 5, .int .i64 4, .int .i64 3]) elMb_22 hS rfl rfl ⟨(V.mkInt (in_i64 (by omega) (by omega))), ⟨(V.mkInt (in_i64 (by omega) (by omega))), ⟨(V.mkInt (in_i64 (by omega) (by omega))), ⟨(V.mkInt (in_i64 (by omega) (by omega))), trivial⟩⟩⟩⟩ (by decide) rfl (fun v_60 w_61 hx_62 hS => ?_)
  have hS := hS.freeze 0 rfl
  refine Wx.callF (run_callF Try.call49 rfl) (F49 (hS.v 0 rfl) hS.fb_lt) rfl ?_
  rintro r_64 w_65 hx_66 ⟨_, rfl, hv_67⟩
  have ln_69 := hv_67.len63
  have hS := hS.ext hx_66
  have hS := hS.add hv_67
  refine Wx.callF (run_callF Try.call29 rfl) (F29 (in_i64 (by omega) (by omega)) (in_i64 (by omega) (by omega)) (hS.v 2 rfl) (hS.v 0 rfl) (in_i64 (by omega) (by omega))) rfl ?_
  rintro r_70 w_71 hx_72 rfl
  have hS := hS.ext hx_72
  refine Wx.rd (v := .tuple #[.int .i64 (hourV 3 3 sS [6, 5, 4, 3] 7), .int .i64 (hourX 3 3 sS [6, 5, 4, 3] 7)]) (rd_move rfl) rfl ?_
  refine Wx.rd (v := .int .i64 (hourV 3 3 sS [6, 5, 4, 3] 7)) (rd_extract rfl rfl) rfl ?_
  refine Wx.rd (v := .int .i64 (hourX 3 3 sS [6, 5, 4, 3] 7)) (rd_extract rfl rfl) rfl ?_
  refine Wx.rd (v := .int .i64 2) (Rd.to (v := .int .i64 (hourV 3 3 sS [6, 5, 4, 3] 7)) (rd_assign rfl) (congrArg (Value.int .i64) (show (2 : Int) = (hourV 3 3 sS [6, 5, 4, 3] 7 : Int) from (by decide +kernel)).symm)) rfl ?_
  refine Wx.rd (v := .int .i64 0) (Rd.to (v := .int .i64 (hourX 3 3 sS [6, 5, 4, 3] 7)) (rd_assign rfl) (congrArg (Value.int .i64) (show (0 : Int) = (hourX 3 3 sS [6, 5, 4, 3] 7 : Int) from (by decide +kernel)).symm)) rfl ?_
  refine Wx.nil ?_
  refine W.seq ?_
  refine W.reg ?_
  refine Wx.callF (run_callF Try.call48 rfl) (F48 hS.fb_lt) rfl ?_
  rintro r_73 w_74 hx_75 ⟨v_76, rfl, hv_77⟩
  have ln_79 := hv_77.len63
  have hS := hS.ext hx_75
  have hS := hS.add hv_77
  refine Wx.callF (run_callF Try.call31 rfl) (F31 (in_i64 (by omega) (by omega)) (in_i64 (by omega) (by omega)) (hS.v 0 rfl) (in_i64 (by omega) (by omega)) hS.fb_lt) rfl ?_
  rintro r_80 w_81 hx_82 ⟨v_83, rfl, hv_84⟩
  have hS := hS.pushFr hx_82 hv_84
  refine Wx.rd (v := .tuple #[v_83, .int .i64 (atE 3 3 sS 0)]) (rd_move rfl) rfl ?_
  refine Wx.rd (v := v_83) (rd_extract rfl rfl) rfl ?_
  refine Wx.rd (v := .int .i64 (atE 3 3 sS 0)) (rd_extract rfl rfl) rfl ?_
  refine Wx.rd (v := v_83) (rd_assign rfl) rfl ?_
  refine Wx.rd (v := .int .i64 0) (Rd.to (v := .int .i64 (atE 3 3 sS 0)) (rd_assign rfl) (congrArg (Value.int .i64) (show (0 : Int) = (atE 3 3 sS 0 : Int) from (by decide +kernel)).symm)) rfl ?_
  refine Wx.nil ?_
  refine W.seq ?_
  refine W.seq ?_
  refine W.reg ?_
  refine Wx.rd (v := .int .i64 0) (rd_move rfl) rfl ?_
  refine Wx.rd (v := .bool false) (Rd.to (v := .bool (decide ((0 : Int) ≠ 0))) (rd_neq rfl rfl) rfl) rfl ?_
  refine Wx.rd (v := .bool false) (rd_move rfl) rfl ?_
  refine Wx.gyes rfl rfl rfl ?_
  refine Wx.rd (v := .int .i64 0) (rd_move rfl) rfl ?_
  refine Wx.gyes rfl rfl rfl ?_
  refine Wx.rd (v := .bool false) (Rd.to (v := .bool (decide ((0 : Int) ≠ 0))) (rd_neq rfl rfl) rfl) rfl ?_
  refine Wx.rd (v := .bool false) (rd_pickF rfl rfl) rfl ?_
  refine Wx.rd (v := .bool false) (rd_move rfl) rfl ?_
  refine Wx.gyes rfl rfl rfl ?_
  refine Wx.rd (v := .int .i64 0) (rd_move rfl) rfl ?_
  refine Wx.gyes rfl rfl rfl ?_
  refine Wx.rd (v := .bool false) (Rd.to (v := .bool (decide ((0 : Int) ≠ 0))) (rd_neq rfl rfl) rfl) rfl ?_
  refine Wx.rd (v := .bool false) (rd_pickF rfl rfl) rfl ?_
  refine Wx.rd (v := .bool false) (rd_move rfl) rfl ?_
  refine Wx.gyes rfl rfl rfl ?_
  refine Wx.rd (v := .int .i64 0) (rd_move rfl) rfl ?_
  refine Wx.gyes rfl rfl rfl ?_
  refine Wx.rd (v := .bool false) (Rd.to (v := .bool (decide ((0 : Int) ≠ 0))) (rd_neq rfl rfl) rfl) rfl ?_
  refine Wx.rd (v := .bool false) (rd_pickF rfl rfl) rfl ?_
  refine Wx.rd (v := .bool false) (rd_move rfl) rfl ?_
  refine Wx.gyes rfl rfl rfl ?_
  refine Wx.rd (v := .int .i64 0) (rd_move rfl) rfl ?_
  refine Wx.gyes rfl rfl rfl ?_
  refine Wx.rd (v := .bool false) (Rd.to (v := .bool (decide ((0 : Int) ≠ 0))) (rd_neq rfl rfl) rfl) rfl ?_
  refine Wx.rd (v := .bool false) (rd_pickF rfl rfl) rfl ?_
  refine Wx.rd (v := .bool false) (rd_move rfl) rfl ?_
  refine Wx.gyes rfl rfl rfl ?_
  refine Wx.rd (v := .int .i64 0) (rd_move rfl) rfl ?_
  refine Wx.gyes rfl rfl rfl ?_
  refine Wx.rd (v := .bool false) (Rd.to (v := .bool (decide ((0 : Int) ≠ 0))) (rd_neq rfl rfl) rfl) rfl ?_
  refine Wx.rd (v := .bool false) (rd_pickF rfl rfl) rfl ?_
  refine Wx.nil ?_
  refine W.condF rfl rfl ?_
  refine W.skip ?_
  refine W.seq ?_
  refine W.reg ?_
  refine Wx.callF (run_callF Try.call48 rfl) (F48 hS.fb_lt) rfl ?_
  rintro r_86 w_87 hx_88 ⟨v_89, rfl, hv_90⟩
  have ln_92 := hv_90.len63
  have hS := hS.ext hx_88
  have hS := hS.add hv_90
  refine Wx.callF (run_callF Try.call33 rfl) (F33 (in_i64 (by omega) (by omega)) (in_i64 (by omega) (by omega)) (hS.v 0 rfl) (in_i64 (by omega) (by omega)) hS.fb_lt) rfl ?_
  rintro r_93 w_94 hx_95 ⟨v_96, rfl, hv_97⟩
  have hS := hS.pushFr hx_95 hv_97
  refine Wx.rd (v := .tuple #[v_96, .int .i64 (atE 3 3 sS 4)]) (rd_move rfl) rfl ?_
  refine Wx.rd (v := v_96) (rd_extract rfl rfl) rfl ?_
  refine Wx.rd (v := .int .i64 (atE 3 3 sS 4)) (rd_extract rfl rfl) rfl ?_
  refine Wx.rd (v := v_96) (rd_assign rfl) rfl ?_
  refine Wx.rd (v := .int .i64 0) (Rd.to (v := .int .i64 (atE 3 3 sS 4)) (rd_assign rfl) (congrArg (Value.int .i64) (show (0 : Int) = (atE 3 3 sS 4 : Int) from (by decide +kernel)).symm)) rfl ?_
  refine Wx.nil ?_
  refine W.seq ?_
  refine W.reg ?_
  refine Wx.callF (run_callF Try.call48 rfl) (F48 hS.fb_lt) rfl ?_
  rintro r_99 w_100 hx_101 ⟨v_102, rfl, hv_103⟩
  have ln_105 := hv_103.len63
  have hS := hS.ext hx_101
  have hS := hS.add hv_103
  refine Wx.callF (run_callF Try.call37 rfl) (F37 (in_i64 (by omega) (by omega)) (in_i64 (by omega) (by omega)) (hS.v 0 rfl) (in_i64 (by omega) (by omega)) (in_i64 (by omega) (by omega)) hS.fb_lt) rfl ?_
  rintro r_106 w_107 hx_108 rfl
  have hS := hS.ext hx_108
  refine Wx.rd (v := .tuple #[.int .i64 (betwE 3 3 sS 4 0), .int .i64 (betwX 3 3 sS 4 0)]) (rd_move rfl) rfl ?_
  refine Wx.rd (v := .int .i64 (betwE 3 3 sS 4 0)) (rd_extract rfl rfl) rfl ?_
  refine Wx.rd (v := .int .i64 (betwX 3 3 sS 4 0)) (rd_extract rfl rfl) rfl ?_
  refine Wx.rd (v := .int .i64 5) (Rd.to (v := .int .i64 (betwE 3 3 sS 4 0)) (rd_assign rfl) (congrArg (Value.int .i64) (show (5 : Int) = (betwE 3 3 sS 4 0 : Int) from (by decide +kernel)).symm)) rfl ?_
  refine Wx.rd (v := .int .i64 0) (Rd.to (v := .int .i64 (betwX 3 3 sS 4 0)) (rd_assign rfl) (congrArg (Value.int .i64) (show (0 : Int) = (betwX 3 3 sS 4 0 : Int) from (by decide +kernel)).symm)) rfl ?_
  refine Wx.nil ?_
  refine W.seq ?_
  refine W.reg ?_
  refine Wx.callF (run_callF Try.call48 rfl) (F48 hS.fb_lt) rfl ?_
  rintro r_109 w_110 hx_111 ⟨v_112, rfl, hv_113⟩
  have ln_115 := hv_113.len63
  have hS := hS.ext hx_111
  have hS := hS.add hv_113
  refine Wx.callF (run_callF Try.call37 rfl) (F37 (in_i64 (by omega) (by omega)) (in_i64 (by omega) (by omega)) (hS.v 0 rfl) (in_i64 (by omega) (by omega)) (in_i64 (by omega) (by omega)) hS.fb_lt) rfl ?_
  rintro r_116 w_117 hx_118 rfl
  have hS := hS.ext hx_118
  refine Wx.rd (v := .tuple #[.int .i64 (betwE 3 3 sS 4 9), .int .i64 (betwX 3 3 sS 4 9)]) (rd_move rfl) rfl ?_
  refine Wx.rd (v := .int .i64 (betwE 3 3 sS 4 9)) (rd_extract rfl rfl) rfl ?_
  refine Wx.rd (v := .int .i64 (betwX 3 3 sS 4 9)) (rd_extract rfl rfl) rfl ?_
  refine Wx.rd (v := .int .i64 4) (Rd.to (v := .int .i64 (betwE 3 3 sS 4 9)) (rd_assign rfl) (congrArg (Value.int .i64) (show (4 : Int) = (betwE 3 3 sS 4 9 : Int) from (by decide +kernel)).symm)) rfl ?_
  refine Wx.rd (v := .int .i64 0) (Rd.to (v := .int .i64 (betwX 3 3 sS 4 9)) (rd_assign rfl) (congrArg (Value.int .i64) (show (0 : Int) = (betwX 3 3 sS 4 9 : Int) from (by decide +kernel)).symm)) rfl ?_
  refine Wx.nil ?_
  refine W.seq ?_
  refine W.reg ?_
  refine Wx.callF (run_callF Try.call47 rfl) (F47 hS.fb_lt) rfl ?_
  rintro r_119 w_120 hx_121 ⟨v_122, rfl, hv_123⟩
  have ln_125 := hv_123.len63
  have hS := hS.ext hx_121
  have hS := hS.add hv_123
  refine Wx.callF (run_callF Try.call39 rfl) (F39 (in_i64 (by omega) (by omega)) (in_i64 (by omega) (by omega)) (hS.v 0 rfl) hS.fb_lt) rfl ?_
  rintro r_126 w_127 hx_128 ⟨v_129, rfl, hv_130⟩
  have hS := hS.pushFr hx_128 hv_130
  refine Wx.rd (v := .tuple #[v_129, .int .i64 (checkS 4 1 sT)]) (rd_move rfl) rfl ?_
  refine Wx.rd (v := v_129) (rd_extract rfl rfl) rfl ?_
  refine Wx.rd (v := .int .i64 (checkS 4 1 sT)) (rd_extract rfl rfl) rfl ?_
  refine Wx.rd (v := v_129) (rd_assign rfl) rfl ?_
  refine Wx.rd (v := .int .i64 0) (Rd.to (v := .int .i64 (checkS 4 1 sT)) (rd_assign rfl) (congrArg (Value.int .i64) (show (0 : Int) = (checkS 4 1 sT : Int) from (by decide +kernel)).symm)) rfl ?_
  refine Wx.nil ?_
  refine W.seq ?_
  refine W.reg ?_
  refine Wx.callF (run_callF Try.call48 rfl) (F48 hS.fb_lt) rfl ?_
  rintro r_132 w_133 hx_134 ⟨v_135, rfl, hv_136⟩
  have ln_138 := hv_136.len63
  have hS := hS.ext hx_134
  have hS := hS.add hv_136
  refine Wx.lit (t := (tI .i64)) (ys := [6, 5, 4, 3]) (vs := [.int .i64 6, .int .i64 5, .int .i64 4, .int .i64 3]) elMb_22 hS rfl rfl ⟨(V.mkInt (in_i64 (by omega) (by omega))), ⟨(V.mkInt (in_i64 (by omega) (by omega))), ⟨(V.mkInt (in_i64 (by omega) (by omega))), ⟨(V.mkInt (in_i64 (by omega) (by omega))), trivial⟩⟩⟩⟩ (by decide) rfl (fun v_139 w_140 hx_141 hS => ?_)
  have hS := hS.freeze 0 rfl
  refine Wx.callF (run_callF Try.call49 rfl) (F49 (hS.v 0 rfl) hS.fb_lt) rfl ?_
  rintro r_143 w_144 hx_145 ⟨_, rfl, hv_146⟩
  have ln_148 := hv_146.len63
  have hS := hS.ext hx_145
  have hS := hS.add hv_146
  refine Wx.callF (run_callF Try.call29 rfl) (F29 (in_i64 (by omega) (by omega)) (in_i64 (by omega) (by omega)) (hS.v 2 rfl) (hS.v 0 rfl) (in_i64 (by omega) (by omega))) rfl ?_
  rintro r_149 w_150 hx_151 rfl
  have hS := hS.ext hx_151
  refine Wx.rd (v := .tuple #[.int .i64 (hourV 3 3 sS [6, 5, 4, 3] 4), .int .i64 (hourX 3 3 sS [6, 5, 4, 3] 4)]) (rd_move rfl) rfl ?_
  refine Wx.rd (v := .int .i64 (hourV 3 3 sS [6, 5, 4, 3] 4)) (rd_extract rfl rfl) rfl ?_
  refine Wx.rd (v := .int .i64 (hourX 3 3 sS [6, 5, 4, 3] 4)) (rd_extract rfl rfl) rfl ?_
  refine Wx.rd (v := .int .i64 12) (Rd.to (v := .int .i64 (hourX 3 3 sS [6, 5, 4, 3] 4)) (rd_assign rfl) (congrArg (Value.int .i64) (show (12 : Int) = (hourX 3 3 sS [6, 5, 4, 3] 4 : Int) from (by decide +kernel)).symm)) rfl ?_
  refine Wx.nil ?_
  refine W.seq ?_
  refine W.reg ?_
  refine Wx.callF (run_callF Try.call48 rfl) (F48 hS.fb_lt) rfl ?_
  rintro r_152 w_153 hx_154 ⟨v_155, rfl, hv_156⟩
  have ln_158 := hv_156.len63
  have hS := hS.ext hx_154
  have hS := hS.add hv_156
  refine Wx.callF (run_callF Try.call37 rfl) (F37 (in_i64 (by omega) (by omega)) (in_i64 (by omega) (by omega)) (hS.v 0 rfl) (in_i64 (by omega) (by omega)) (in_i64 (by omega) (by omega)) hS.fb_lt) rfl ?_
  rintro r_159 w_160 hx_161 rfl
  have hS := hS.ext hx_161
  refine Wx.rd (v := .tuple #[.int .i64 (betwE 3 3 sS 4 10), .int .i64 (betwX 3 3 sS 4 10)]) (rd_move rfl) rfl ?_
  refine Wx.rd (v := .int .i64 (betwE 3 3 sS 4 10)) (rd_extract rfl rfl) rfl ?_
  refine Wx.rd (v := .int .i64 (betwX 3 3 sS 4 10)) (rd_extract rfl rfl) rfl ?_
  refine Wx.rd (v := .int .i64 (betwX 3 3 sS 4 10)) (rd_assign rfl) rfl ?_
  refine Wx.nil ?_
  refine W.seq ?_
  refine W.reg ?_
  refine Wx.rd (v := .int .i64 0) (rd_move rfl) rfl ?_
  refine Wx.rd (v := .bool true) (Rd.to (v := .bool (decide ((0 : Int) = 0))) (rd_eql rfl rfl) rfl) rfl ?_
  refine Wx.rd (v := .bool true) (rd_move rfl) rfl ?_
  refine Wx.gyes rfl rfl rfl ?_
  refine Wx.rd (v := .int .i64 0) (rd_move rfl) rfl ?_
  refine Wx.gyes rfl rfl rfl ?_
  refine Wx.rd (v := .bool true) (Rd.to (v := .bool (decide ((0 : Int) = 0))) (rd_eql rfl rfl) rfl) rfl ?_
  refine Wx.rd (v := .bool true) (rd_pickT rfl rfl) rfl ?_
  refine Wx.rd (v := .bool true) (rd_move rfl) rfl ?_
  refine Wx.gyes rfl rfl rfl ?_
  refine Wx.rd (v := .int .i64 0) (rd_move rfl) rfl ?_
  refine Wx.gyes rfl rfl rfl ?_
  refine Wx.rd (v := .bool true) (Rd.to (v := .bool (decide ((0 : Int) = 0))) (rd_eql rfl rfl) rfl) rfl ?_
  refine Wx.rd (v := .bool true) (rd_pickT rfl rfl) rfl ?_
  refine Wx.rd (v := .bool true) (rd_move rfl) rfl ?_
  refine Wx.gyes rfl rfl rfl ?_
  refine Wx.rd (v := .int .i64 0) (rd_move rfl) rfl ?_
  refine Wx.gyes rfl rfl rfl ?_
  refine Wx.rd (v := .bool true) (Rd.to (v := .bool (decide ((0 : Int) = 0))) (rd_eql rfl rfl) rfl) rfl ?_
  refine Wx.rd (v := .bool true) (rd_pickT rfl rfl) rfl ?_
  refine Wx.rd (v := .bool true) (rd_move rfl) rfl ?_
  refine Wx.gyes rfl rfl rfl ?_
  refine Wx.rd (v := .int .i64 12) (rd_move rfl) rfl ?_
  refine Wx.gyes rfl rfl rfl ?_
  refine Wx.rd (v := .bool true) (Rd.to (v := .bool (decide ((12 : Int) = 12))) (rd_eql rfl rfl) rfl) rfl ?_
  refine Wx.rd (v := .bool true) (rd_pickT rfl rfl) rfl ?_
  refine Wx.rd (v := .bool true) (rd_move rfl) rfl ?_
  refine Wx.gyes rfl rfl rfl ?_
  refine Wx.rd (v := .int .i64 (betwX 3 3 sS 4 10)) (rd_move rfl) rfl ?_
  refine Wx.gyes rfl rfl rfl ?_
  refine Wx.rd (v := .bool (decide ((betwX 3 3 sS 4 10) = 2))) (rd_eql rfl rfl) rfl ?_
  refine Wx.rd (v := .bool (decide ((betwX 3 3 sS 4 10) = 2))) (rd_pickT rfl rfl) rfl ?_
  refine Wx.rd (v := .bool (decide ((betwX 3 3 sS 4 10) = 2))) (rd_move rfl) rfl ?_
  refine Wx.cut (X := Unit) 5 [126, 127, 128, 129, 130] (fun _ => [(130, .bool (decide ((betwX 3 3 sS 4 10) = 2) && true))]) (fun _ w' => St w [] w' [Ob.v (tSl (tI .i64)) sS v_155, Ob.v (tSl (tI .i64)) [6, 5, 4, 3] r_143, Ob.v (tSl (tI .i64)) [6, 5, 4, 3] v_139, Ob.v (tSl (tI .i64)) sS v_135, .row (tP (tI .i64) (tI .i64)) 74 v_129 (treeE 4 1 sT), Ob.v (tSl (tI .i64)) sT v_122, Ob.v (tSl (tI .i64)) sS v_112, Ob.v (tSl (tI .i64)) sS v_102, .row (tI .i64) 3 v_96 (basinE 3 3 sS 4), Ob.v (tSl (tI .i64)) sS v_89, .row (tI .i64) 3 v_83 (wayE 3 3 sS 0), Ob.v (tSl (tI .i64)) sS v_76, Ob.v (tSl (tI .i64)) [6, 5, 4, 3] r_64, Ob.v (tSl (tI .i64)) [6, 5, 4, 3] v_60, Ob.v (tSl (tI .i64)) sS v_56, .row (tSl (tI .i64)) 22 v_50 (poolsE 4 1 sT 2), Ob.v (tSl (tI .i64)) sT v_43, .row (tI .i64) 3 v_37 (bareE 3 3 sS 0), Ob.v (tSl (tI .i64)) sS v_30, .row (tI .i64) 3 v_24 (depthsE 3 3 sS 5), Ob.v (tSl (tI .i64)) sS v_17, .row (tI .i64) 3 v_11 (sillsE 3 3 sS), Ob.v (tSl (tI .i64)) sS v_4]) ?_ ?_
  · rcases Bool.eq_false_or_eq_true (decide ((betwX 3 3 sS 4 10) = 2)) with g_162 | g_162
    · -- True
      have gp_163 := of_decide_eq_true g_162
      refine Wx.gyes rfl rfl (congrArg Value.bool g_162) ?_
      refine Wx.rd (v := v_11) (rd_move rfl) rfl ?_
      refine Wx.gyes rfl rfl (congrArg Value.bool g_162) ?_
      refine Wx.lit (t := (tI .i64)) (ys := [5, 5, 5, 5, 4, 5, 5, 4, 5]) (vs := [.int .i64 5, .int .i64 5, .int .i64 5, .int .i64 5, .int .i64 4, .int .i64 5, .int .i64 5, .int .i64 4, .int .i64 5]) elMb_22 hS rfl rfl ⟨(V.mkInt (in_i64 (by omega) (by omega))), ⟨(V.mkInt (in_i64 (by omega) (by omega))), ⟨(V.mkInt (in_i64 (by omega) (by omega))), ⟨(V.mkInt (in_i64 (by omega) (by omega))), ⟨(V.mkInt (in_i64 (by omega) (by omega))), ⟨(V.mkInt (in_i64 (by omega) (by omega))), ⟨(V.mkInt (in_i64 (by omega) (by omega))), ⟨(V.mkInt (in_i64 (by omega) (by omega))), ⟨(V.mkInt (in_i64 (by omega) (by omega))), trivial⟩⟩⟩⟩⟩⟩⟩⟩⟩ (by decide) rfl (fun v_164 w_165 hx_166 hS => ?_)
      refine Wx.gyes rfl rfl (congrArg Value.bool g_162) ?_
      have hS := hS.freeze 0 rfl
      refine Wx.callF (run_callF Try.call49 rfl) (F49 (hS.v 0 rfl) hS.fb_lt) rfl ?_
      rintro r_168 w_169 hx_170 ⟨_, rfl, hv_171⟩
      have ln_173 := hv_171.len63
      have hS := hS.ext hx_170
      have hS := hS.add hv_171
      refine Wx.gyes rfl rfl (congrArg Value.bool g_162) ?_
      refine Wx.callF (run_callF Try.call21 rfl) (F21 (hS.lend 23 rfl) (hS.v 0 rfl)) rfl ?_
      rintro r_174 w_175 hx_176 rfl
      have hS := hS.ext hx_176
      rw [show (decide ((sillsE 3 3 sS) = [5, 5, 5, 5, 4, 5, 5, 4, 5]) : Bool) = true from (by decide +kernel)]
      refine Wx.rd (v := .bool true) (rd_pickT (congrArg Value.bool g_162) rfl) rfl ?_
      refine Wx.nil ⟨(), St.tl (hS.tl), ⟨?_, trivial⟩, Out.look rfl Out.refl⟩
      show Value.bool true = Value.bool (decide ((betwX 3 3 sS 4 10) = 2) && true)
      first | rw [g_162, Bool.true_and] | (rw [g_162]; rfl)
    · -- False
      have gp_177 := of_decide_eq_false g_162
      refine Wx.gnoB rfl rfl (congrArg Value.bool g_162) rfl rfl ?_
      refine Wx.gnoB rfl rfl (congrArg Value.bool g_162) rfl rfl ?_
      refine Wx.gnoB rfl rfl (congrArg Value.bool g_162) rfl rfl ?_
      refine Wx.gnoB rfl rfl (congrArg Value.bool g_162) rfl rfl ?_
      refine Wx.rd (v := .bool false) (rd_pickF (congrArg Value.bool g_162) rfl) rfl ?_
      refine Wx.nil ⟨(), hS, ⟨?_, trivial⟩, Out.look rfl Out.refl⟩
      show Value.bool false = Value.bool (decide ((betwX 3 3 sS 4 10) = 2) && true)
      first | rw [g_162, Bool.false_and] | (rw [g_162]; rfl)
  rintro ⟨⟩ u_179 w_178 hS
  refine Wx.rd (v := .bool (decide ((betwX 3 3 sS 4 10) = 2) && true)) (rd_move rfl) rfl ?_
  refine Wx.cut (X := Unit) 5 [132, 133, 134, 135, 136] (fun _ => [(136, .bool ((decide ((betwX 3 3 sS 4 10) = 2) && true) && true))]) (fun _ w' => St w [] w' [Ob.v (tSl (tI .i64)) sS v_155, Ob.v (tSl (tI .i64)) [6, 5, 4, 3] r_143, Ob.v (tSl (tI .i64)) [6, 5, 4, 3] v_139, Ob.v (tSl (tI .i64)) sS v_135, .row (tP (tI .i64) (tI .i64)) 74 v_129 (treeE 4 1 sT), Ob.v (tSl (tI .i64)) sT v_122, Ob.v (tSl (tI .i64)) sS v_112, Ob.v (tSl (tI .i64)) sS v_102, .row (tI .i64) 3 v_96 (basinE 3 3 sS 4), Ob.v (tSl (tI .i64)) sS v_89, .row (tI .i64) 3 v_83 (wayE 3 3 sS 0), Ob.v (tSl (tI .i64)) sS v_76, Ob.v (tSl (tI .i64)) [6, 5, 4, 3] r_64, Ob.v (tSl (tI .i64)) [6, 5, 4, 3] v_60, Ob.v (tSl (tI .i64)) sS v_56, .row (tSl (tI .i64)) 22 v_50 (poolsE 4 1 sT 2), Ob.v (tSl (tI .i64)) sT v_43, .row (tI .i64) 3 v_37 (bareE 3 3 sS 0), Ob.v (tSl (tI .i64)) sS v_30, .row (tI .i64) 3 v_24 (depthsE 3 3 sS 5), Ob.v (tSl (tI .i64)) sS v_17, .row (tI .i64) 3 v_11 (sillsE 3 3 sS), Ob.v (tSl (tI .i64)) sS v_4]) ?_ ?_
  · rcases Bool.eq_false_or_eq_true (decide ((betwX 3 3 sS 4 10) = 2) && true) with g_180 | g_180
    · -- True
      have gp_181 := g_180
      try simp only [Bool.and_eq_true, Bool.or_eq_true, Bool.not_eq_true', Bool.and_eq_false_iff, Bool.or_eq_false_iff, Bool.not_eq_false', decide_eq_true_eq, decide_eq_false_iff_not, not_or, Bool.false_eq_true, Bool.true_eq_false, false_or, or_false, not_false_eq_true] at gp_181
      refine Wx.gyes rfl rfl (congrArg Value.bool g_180) ?_
      refine Wx.rd (v := v_24) (rd_move rfl) rfl ?_
      refine Wx.gyes rfl rfl (congrArg Value.bool g_180) ?_
      refine Wx.lit (t := (tI .i64)) (ys := [0, 0, 0, 0, 3, 0, 0, 1, 0]) (vs := [.int .i64 0, .int .i64 0, .int .i64 0, .int .i64 0, .int .i64 3, .int .i64 0, .int .i64 0, .int .i64 1, .int .i64 0]) elMb_22 hS rfl rfl ⟨(V.mkInt (in_i64 (by omega) (by omega))), ⟨(V.mkInt (in_i64 (by omega) (by omega))), ⟨(V.mkInt (in_i64 (by omega) (by omega))), ⟨(V.mkInt (in_i64 (by omega) (by omega))), ⟨(V.mkInt (in_i64 (by omega) (by omega))), ⟨(V.mkInt (in_i64 (by omega) (by omega))), ⟨(V.mkInt (in_i64 (by omega) (by omega))), ⟨(V.mkInt (in_i64 (by omega) (by omega))), ⟨(V.mkInt (in_i64 (by omega) (by omega))), trivial⟩⟩⟩⟩⟩⟩⟩⟩⟩ (by decide) rfl (fun v_182 w_183 hx_184 hS => ?_)
      refine Wx.gyes rfl rfl (congrArg Value.bool g_180) ?_
      have hS := hS.freeze 0 rfl
      refine Wx.callF (run_callF Try.call49 rfl) (F49 (hS.v 0 rfl) hS.fb_lt) rfl ?_
      rintro r_186 w_187 hx_188 ⟨_, rfl, hv_189⟩
      have ln_191 := hv_189.len63
      have hS := hS.ext hx_188
      have hS := hS.add hv_189
      refine Wx.gyes rfl rfl (congrArg Value.bool g_180) ?_
      refine Wx.callF (run_callF Try.call21 rfl) (F21 (hS.lend 21 rfl) (hS.v 0 rfl)) rfl ?_
      rintro r_192 w_193 hx_194 rfl
      have hS := hS.ext hx_194
      rw [show (decide ((depthsE 3 3 sS 5) = [0, 0, 0, 0, 3, 0, 0, 1, 0]) : Bool) = true from (by decide +kernel)]
      refine Wx.rd (v := .bool true) (rd_pickT (congrArg Value.bool g_180) rfl) rfl ?_
      refine Wx.nil ⟨(), St.tl (hS.tl), ⟨?_, trivial⟩, Out.look rfl Out.refl⟩
      show Value.bool true = Value.bool ((decide ((betwX 3 3 sS 4 10) = 2) && true) && true)
      first | rw [g_180, Bool.true_and] | (rw [g_180]; rfl)
    · -- False
      have gp_195 := g_180
      try simp only [Bool.and_eq_true, Bool.or_eq_true, Bool.not_eq_true', Bool.and_eq_false_iff, Bool.or_eq_false_iff, Bool.not_eq_false', decide_eq_true_eq, decide_eq_false_iff_not, not_or, Bool.false_eq_true, Bool.true_eq_false, false_or, or_false, not_false_eq_true] at gp_195
      refine Wx.gnoB rfl rfl (congrArg Value.bool g_180) rfl rfl ?_
      refine Wx.gnoB rfl rfl (congrArg Value.bool g_180) rfl rfl ?_
      refine Wx.gnoB rfl rfl (congrArg Value.bool g_180) rfl rfl ?_
      refine Wx.gnoB rfl rfl (congrArg Value.bool g_180) rfl rfl ?_
      refine Wx.rd (v := .bool false) (rd_pickF (congrArg Value.bool g_180) rfl) rfl ?_
      refine Wx.nil ⟨(), hS, ⟨?_, trivial⟩, Out.look rfl Out.refl⟩
      show Value.bool false = Value.bool ((decide ((betwX 3 3 sS 4 10) = 2) && true) && true)
      first | rw [g_180, Bool.false_and] | (rw [g_180]; rfl)
  rintro ⟨⟩ u_197 w_196 hS
  refine Wx.rd (v := .bool ((decide ((betwX 3 3 sS 4 10) = 2) && true) && true)) (rd_move rfl) rfl ?_
  refine Wx.cut (X := Unit) 5 [138, 139, 140, 141, 142] (fun _ => [(142, .bool (((decide ((betwX 3 3 sS 4 10) = 2) && true) && true) && true))]) (fun _ w' => St w [] w' [Ob.v (tSl (tI .i64)) sS v_155, Ob.v (tSl (tI .i64)) [6, 5, 4, 3] r_143, Ob.v (tSl (tI .i64)) [6, 5, 4, 3] v_139, Ob.v (tSl (tI .i64)) sS v_135, .row (tP (tI .i64) (tI .i64)) 74 v_129 (treeE 4 1 sT), Ob.v (tSl (tI .i64)) sT v_122, Ob.v (tSl (tI .i64)) sS v_112, Ob.v (tSl (tI .i64)) sS v_102, .row (tI .i64) 3 v_96 (basinE 3 3 sS 4), Ob.v (tSl (tI .i64)) sS v_89, .row (tI .i64) 3 v_83 (wayE 3 3 sS 0), Ob.v (tSl (tI .i64)) sS v_76, Ob.v (tSl (tI .i64)) [6, 5, 4, 3] r_64, Ob.v (tSl (tI .i64)) [6, 5, 4, 3] v_60, Ob.v (tSl (tI .i64)) sS v_56, .row (tSl (tI .i64)) 22 v_50 (poolsE 4 1 sT 2), Ob.v (tSl (tI .i64)) sT v_43, .row (tI .i64) 3 v_37 (bareE 3 3 sS 0), Ob.v (tSl (tI .i64)) sS v_30, .row (tI .i64) 3 v_24 (depthsE 3 3 sS 5), Ob.v (tSl (tI .i64)) sS v_17, .row (tI .i64) 3 v_11 (sillsE 3 3 sS), Ob.v (tSl (tI .i64)) sS v_4]) ?_ ?_
  · rcases Bool.eq_false_or_eq_true ((decide ((betwX 3 3 sS 4 10) = 2) && true) && true) with g_198 | g_198
    · -- True
      have gp_199 := g_198
      try simp only [Bool.and_eq_true, Bool.or_eq_true, Bool.not_eq_true', Bool.and_eq_false_iff, Bool.or_eq_false_iff, Bool.not_eq_false', decide_eq_true_eq, decide_eq_false_iff_not, not_or, Bool.false_eq_true, Bool.true_eq_false, false_or, or_false, not_false_eq_true] at gp_199
      refine Wx.gyes rfl rfl (congrArg Value.bool g_198) ?_
      refine Wx.rd (v := v_37) (rd_move rfl) rfl ?_
      refine Wx.gyes rfl rfl (congrArg Value.bool g_198) ?_
      refine Wx.lit (t := (tI .i64)) (ys := [0, 1, 2, 3, 5, 6, 7, 8]) (vs := [.int .i64 0, .int .i64 1, .int .i64 2, .int .i64 3, .int .i64 5, .int .i64 6, .int .i64 7, .int .i64 8]) elMb_22 hS rfl rfl ⟨(V.mkInt (in_i64 (by omega) (by omega))), ⟨(V.mkInt (in_i64 (by omega) (by omega))), ⟨(V.mkInt (in_i64 (by omega) (by omega))), ⟨(V.mkInt (in_i64 (by omega) (by omega))), ⟨(V.mkInt (in_i64 (by omega) (by omega))), ⟨(V.mkInt (in_i64 (by omega) (by omega))), ⟨(V.mkInt (in_i64 (by omega) (by omega))), ⟨(V.mkInt (in_i64 (by omega) (by omega))), trivial⟩⟩⟩⟩⟩⟩⟩⟩ (by decide) rfl (fun v_200 w_201 hx_202 hS => ?_)
      refine Wx.gyes rfl rfl (congrArg Value.bool g_198) ?_
      have hS := hS.freeze 0 rfl
      refine Wx.callF (run_callF Try.call49 rfl) (F49 (hS.v 0 rfl) hS.fb_lt) rfl ?_
      rintro r_204 w_205 hx_206 ⟨_, rfl, hv_207⟩
      have ln_209 := hv_207.len63
      have hS := hS.ext hx_206
      have hS := hS.add hv_207
      refine Wx.gyes rfl rfl (congrArg Value.bool g_198) ?_
      refine Wx.callF (run_callF Try.call21 rfl) (F21 (hS.lend 19 rfl) (hS.v 0 rfl)) rfl ?_
      rintro r_210 w_211 hx_212 rfl
      have hS := hS.ext hx_212
      rw [show (decide ((bareE 3 3 sS 0) = [0, 1, 2, 3, 5, 6, 7, 8]) : Bool) = true from (by decide +kernel)]
      refine Wx.rd (v := .bool true) (rd_pickT (congrArg Value.bool g_198) rfl) rfl ?_
      refine Wx.nil ⟨(), St.tl (hS.tl), ⟨?_, trivial⟩, Out.look rfl Out.refl⟩
      show Value.bool true = Value.bool (((decide ((betwX 3 3 sS 4 10) = 2) && true) && true) && true)
      first | rw [g_198, Bool.true_and] | (rw [g_198]; rfl)
    · -- False
      have gp_213 := g_198
      try simp only [Bool.and_eq_true, Bool.or_eq_true, Bool.not_eq_true', Bool.and_eq_false_iff, Bool.or_eq_false_iff, Bool.not_eq_false', decide_eq_true_eq, decide_eq_false_iff_not, not_or, Bool.false_eq_true, Bool.true_eq_false, false_or, or_false, not_false_eq_true] at gp_213
      refine Wx.gnoB rfl rfl (congrArg Value.bool g_198) rfl rfl ?_
      refine Wx.gnoB rfl rfl (congrArg Value.bool g_198) rfl rfl ?_
      refine Wx.gnoB rfl rfl (congrArg Value.bool g_198) rfl rfl ?_
      refine Wx.gnoB rfl rfl (congrArg Value.bool g_198) rfl rfl ?_
      refine Wx.rd (v := .bool false) (rd_pickF (congrArg Value.bool g_198) rfl) rfl ?_
      refine Wx.nil ⟨(), hS, ⟨?_, trivial⟩, Out.look rfl Out.refl⟩
      show Value.bool false = Value.bool (((decide ((betwX 3 3 sS 4 10) = 2) && true) && true) && true)
      first | rw [g_198, Bool.false_and] | (rw [g_198]; rfl)
  rintro ⟨⟩ u_215 w_214 hS
  refine Wx.rd (v := .bool (((decide ((betwX 3 3 sS 4 10) = 2) && true) && true) && true)) (rd_move rfl) rfl ?_
  refine Wx.cut (X := Unit) 5 [144, 145, 146, 147, 148] (fun _ => [(148, .bool ((((decide ((betwX 3 3 sS 4 10) = 2) && true) && true) && true) && true))]) (fun _ w' => St w [] w' [Ob.v (tSl (tI .i64)) sS v_155, Ob.v (tSl (tI .i64)) [6, 5, 4, 3] r_143, Ob.v (tSl (tI .i64)) [6, 5, 4, 3] v_139, Ob.v (tSl (tI .i64)) sS v_135, .row (tP (tI .i64) (tI .i64)) 74 v_129 (treeE 4 1 sT), Ob.v (tSl (tI .i64)) sT v_122, Ob.v (tSl (tI .i64)) sS v_112, Ob.v (tSl (tI .i64)) sS v_102, .row (tI .i64) 3 v_96 (basinE 3 3 sS 4), Ob.v (tSl (tI .i64)) sS v_89, .row (tI .i64) 3 v_83 (wayE 3 3 sS 0), Ob.v (tSl (tI .i64)) sS v_76, Ob.v (tSl (tI .i64)) [6, 5, 4, 3] r_64, Ob.v (tSl (tI .i64)) [6, 5, 4, 3] v_60, Ob.v (tSl (tI .i64)) sS v_56, .row (tSl (tI .i64)) 22 v_50 (poolsE 4 1 sT 2), Ob.v (tSl (tI .i64)) sT v_43, .row (tI .i64) 3 v_37 (bareE 3 3 sS 0), Ob.v (tSl (tI .i64)) sS v_30, .row (tI .i64) 3 v_24 (depthsE 3 3 sS 5), Ob.v (tSl (tI .i64)) sS v_17, .row (tI .i64) 3 v_11 (sillsE 3 3 sS), Ob.v (tSl (tI .i64)) sS v_4]) ?_ ?_
  · rcases Bool.eq_false_or_eq_true (((decide ((betwX 3 3 sS 4 10) = 2) && true) && true) && true) with g_216 | g_216
    · -- True
      have gp_217 := g_216
      try simp only [Bool.and_eq_true, Bool.or_eq_true, Bool.not_eq_true', Bool.and_eq_false_iff, Bool.or_eq_false_iff, Bool.not_eq_false', decide_eq_true_eq, decide_eq_false_iff_not, not_or, Bool.false_eq_true, Bool.true_eq_false, false_or, or_false, not_false_eq_true] at gp_217
      refine Wx.gyes rfl rfl (congrArg Value.bool g_216) ?_
      refine Wx.rd (v := v_50) (rd_move rfl) rfl ?_
      refine Wx.gyes rfl rfl (congrArg Value.bool g_216) ?_
      refine Wx.lit (t := (tI .i64)) (ys := [1]) (vs := [.int .i64 1]) elMb_22 hS rfl rfl ⟨(V.mkInt (in_i64 (by omega) (by omega))), trivial⟩ (by decide) rfl (fun v_218 w_219 hx_220 hS => ?_)
      refine Wx.gyes rfl rfl (congrArg Value.bool g_216) ?_
      have hS := hS.freeze 0 rfl
      refine Wx.lit (t := (tSl (tI .i64))) (ys := [[1]]) (vs := [v_218]) elMb_37 hS rfl rfl ⟨(hS.v 0 rfl), trivial⟩ (by decide) rfl (fun v_222 w_223 hx_224 hS => ?_)
      refine Wx.gyes rfl rfl (congrArg Value.bool g_216) ?_
      refine Wx.callF (run_callF Try.call28 rfl) (F28 (hS.lend 17 rfl) (hS.lend 0 rfl)) rfl ?_
      rintro r_225 w_226 hx_227 rfl
      have hS := hS.ext hx_227
      rw [show (decide ((poolsE 4 1 sT 2) = [[1]]) : Bool) = true from (by decide +kernel)]
      refine Wx.rd (v := .bool true) (rd_pickT (congrArg Value.bool g_216) rfl) rfl ?_
      refine Wx.nil ⟨(), St.tl (hS.tl), ⟨?_, trivial⟩, Out.look rfl Out.refl⟩
      show Value.bool true = Value.bool ((((decide ((betwX 3 3 sS 4 10) = 2) && true) && true) && true) && true)
      first | rw [g_216, Bool.true_and] | (rw [g_216]; rfl)
    · -- False
      have gp_228 := g_216
      try simp only [Bool.and_eq_true, Bool.or_eq_true, Bool.not_eq_true', Bool.and_eq_false_iff, Bool.or_eq_false_iff, Bool.not_eq_false', decide_eq_true_eq, decide_eq_false_iff_not, not_or, Bool.false_eq_true, Bool.true_eq_false, false_or, or_false, not_false_eq_true] at gp_228
      refine Wx.gnoB rfl rfl (congrArg Value.bool g_216) rfl rfl ?_
      refine Wx.gnoB rfl rfl (congrArg Value.bool g_216) rfl rfl ?_
      refine Wx.gnoB rfl rfl (congrArg Value.bool g_216) rfl rfl ?_
      refine Wx.gnoB rfl rfl (congrArg Value.bool g_216) rfl rfl ?_
      refine Wx.rd (v := .bool false) (rd_pickF (congrArg Value.bool g_216) rfl) rfl ?_
      refine Wx.nil ⟨(), hS, ⟨?_, trivial⟩, Out.look rfl Out.refl⟩
      show Value.bool false = Value.bool ((((decide ((betwX 3 3 sS 4 10) = 2) && true) && true) && true) && true)
      first | rw [g_216, Bool.false_and] | (rw [g_216]; rfl)
  rintro ⟨⟩ u_230 w_229 hS
  refine Wx.rd (v := .bool ((((decide ((betwX 3 3 sS 4 10) = 2) && true) && true) && true) && true)) (rd_move rfl) rfl ?_
  refine Wx.cut (X := Unit) 3 [150, 151, 152] (fun _ => [(152, .bool (((((decide ((betwX 3 3 sS 4 10) = 2) && true) && true) && true) && true) && true))]) (fun _ w' => St w [] w' [Ob.v (tSl (tI .i64)) sS v_155, Ob.v (tSl (tI .i64)) [6, 5, 4, 3] r_143, Ob.v (tSl (tI .i64)) [6, 5, 4, 3] v_139, Ob.v (tSl (tI .i64)) sS v_135, .row (tP (tI .i64) (tI .i64)) 74 v_129 (treeE 4 1 sT), Ob.v (tSl (tI .i64)) sT v_122, Ob.v (tSl (tI .i64)) sS v_112, Ob.v (tSl (tI .i64)) sS v_102, .row (tI .i64) 3 v_96 (basinE 3 3 sS 4), Ob.v (tSl (tI .i64)) sS v_89, .row (tI .i64) 3 v_83 (wayE 3 3 sS 0), Ob.v (tSl (tI .i64)) sS v_76, Ob.v (tSl (tI .i64)) [6, 5, 4, 3] r_64, Ob.v (tSl (tI .i64)) [6, 5, 4, 3] v_60, Ob.v (tSl (tI .i64)) sS v_56, .row (tSl (tI .i64)) 22 v_50 (poolsE 4 1 sT 2), Ob.v (tSl (tI .i64)) sT v_43, .row (tI .i64) 3 v_37 (bareE 3 3 sS 0), Ob.v (tSl (tI .i64)) sS v_30, .row (tI .i64) 3 v_24 (depthsE 3 3 sS 5), Ob.v (tSl (tI .i64)) sS v_17, .row (tI .i64) 3 v_11 (sillsE 3 3 sS), Ob.v (tSl (tI .i64)) sS v_4]) ?_ ?_
  · rcases Bool.eq_false_or_eq_true ((((decide ((betwX 3 3 sS 4 10) = 2) && true) && true) && true) && true) with g_231 | g_231
    · -- True
      have gp_232 := g_231
      try simp only [Bool.and_eq_true, Bool.or_eq_true, Bool.not_eq_true', Bool.and_eq_false_iff, Bool.or_eq_false_iff, Bool.not_eq_false', decide_eq_true_eq, decide_eq_false_iff_not, not_or, Bool.false_eq_true, Bool.true_eq_false, false_or, or_false, not_false_eq_true] at gp_232
      refine Wx.gyes rfl rfl (congrArg Value.bool g_231) ?_
      refine Wx.rd (v := .int .i64 2) (rd_move rfl) rfl ?_
      refine Wx.gyes rfl rfl (congrArg Value.bool g_231) ?_
      refine Wx.rd (v := .bool true) (Rd.to (v := .bool (decide ((2 : Int) = 2))) (rd_eql rfl rfl) rfl) rfl ?_
      refine Wx.rd (v := .bool true) (rd_pickT (congrArg Value.bool g_231) rfl) rfl ?_
      refine Wx.nil ⟨(), hS, ⟨?_, trivial⟩, Out.look rfl Out.refl⟩
      show Value.bool true = Value.bool (((((decide ((betwX 3 3 sS 4 10) = 2) && true) && true) && true) && true) && true)
      first | rw [g_231, Bool.true_and] | (rw [g_231]; rfl)
    · -- False
      have gp_233 := g_231
      try simp only [Bool.and_eq_true, Bool.or_eq_true, Bool.not_eq_true', Bool.and_eq_false_iff, Bool.or_eq_false_iff, Bool.not_eq_false', decide_eq_true_eq, decide_eq_false_iff_not, not_or, Bool.false_eq_true, Bool.true_eq_false, false_or, or_false, not_false_eq_true] at gp_233
      refine Wx.gnoB rfl rfl (congrArg Value.bool g_231) rfl rfl ?_
      refine Wx.gnoB rfl rfl (congrArg Value.bool g_231) rfl rfl ?_
      refine Wx.rd (v := .bool false) (rd_pickF (congrArg Value.bool g_231) rfl) rfl ?_
      refine Wx.nil ⟨(), hS, ⟨?_, trivial⟩, Out.look rfl Out.refl⟩
      show Value.bool false = Value.bool (((((decide ((betwX 3 3 sS 4 10) = 2) && true) && true) && true) && true) && true)
      first | rw [g_231, Bool.false_and] | (rw [g_231]; rfl)
  rintro ⟨⟩ u_235 w_234 hS
  refine Wx.rd (v := .bool (((((decide ((betwX 3 3 sS 4 10) = 2) && true) && true) && true) && true) && true)) (rd_move rfl) rfl ?_
  refine Wx.cut (X := Unit) 5 [154, 155, 156, 157, 158] (fun _ => [(158, .bool ((((((decide ((betwX 3 3 sS 4 10) = 2) && true) && true) && true) && true) && true) && true))]) (fun _ w' => St w [] w' [Ob.v (tSl (tI .i64)) sS v_155, Ob.v (tSl (tI .i64)) [6, 5, 4, 3] r_143, Ob.v (tSl (tI .i64)) [6, 5, 4, 3] v_139, Ob.v (tSl (tI .i64)) sS v_135, .row (tP (tI .i64) (tI .i64)) 74 v_129 (treeE 4 1 sT), Ob.v (tSl (tI .i64)) sT v_122, Ob.v (tSl (tI .i64)) sS v_112, Ob.v (tSl (tI .i64)) sS v_102, .row (tI .i64) 3 v_96 (basinE 3 3 sS 4), Ob.v (tSl (tI .i64)) sS v_89, .row (tI .i64) 3 v_83 (wayE 3 3 sS 0), Ob.v (tSl (tI .i64)) sS v_76, Ob.v (tSl (tI .i64)) [6, 5, 4, 3] r_64, Ob.v (tSl (tI .i64)) [6, 5, 4, 3] v_60, Ob.v (tSl (tI .i64)) sS v_56, .row (tSl (tI .i64)) 22 v_50 (poolsE 4 1 sT 2), Ob.v (tSl (tI .i64)) sT v_43, .row (tI .i64) 3 v_37 (bareE 3 3 sS 0), Ob.v (tSl (tI .i64)) sS v_30, .row (tI .i64) 3 v_24 (depthsE 3 3 sS 5), Ob.v (tSl (tI .i64)) sS v_17, .row (tI .i64) 3 v_11 (sillsE 3 3 sS), Ob.v (tSl (tI .i64)) sS v_4]) ?_ ?_
  · rcases Bool.eq_false_or_eq_true (((((decide ((betwX 3 3 sS 4 10) = 2) && true) && true) && true) && true) && true) with g_236 | g_236
    · -- True
      have gp_237 := g_236
      try simp only [Bool.and_eq_true, Bool.or_eq_true, Bool.not_eq_true', Bool.and_eq_false_iff, Bool.or_eq_false_iff, Bool.not_eq_false', decide_eq_true_eq, decide_eq_false_iff_not, not_or, Bool.false_eq_true, Bool.true_eq_false, false_or, or_false, not_false_eq_true] at gp_237
      refine Wx.gyes rfl rfl (congrArg Value.bool g_236) ?_
      refine Wx.rd (v := v_83) (rd_move rfl) rfl ?_
      refine Wx.gyes rfl rfl (congrArg Value.bool g_236) ?_
      refine Wx.lit (t := (tI .i64)) (ys := [0, 3, 6]) (vs := [.int .i64 0, .int .i64 3, .int .i64 6]) elMb_22 hS rfl rfl ⟨(V.mkInt (in_i64 (by omega) (by omega))), ⟨(V.mkInt (in_i64 (by omega) (by omega))), ⟨(V.mkInt (in_i64 (by omega) (by omega))), trivial⟩⟩⟩ (by decide) rfl (fun v_238 w_239 hx_240 hS => ?_)
      refine Wx.gyes rfl rfl (congrArg Value.bool g_236) ?_
      have hS := hS.freeze 0 rfl
      refine Wx.callF (run_callF Try.call49 rfl) (F49 (hS.v 0 rfl) hS.fb_lt) rfl ?_
      rintro r_242 w_243 hx_244 ⟨_, rfl, hv_245⟩
      have ln_247 := hv_245.len63
      have hS := hS.ext hx_244
      have hS := hS.add hv_245
      refine Wx.gyes rfl rfl (congrArg Value.bool g_236) ?_
      refine Wx.callF (run_callF Try.call21 rfl) (F21 (hS.lend 12 rfl) (hS.v 0 rfl)) rfl ?_
      rintro r_248 w_249 hx_250 rfl
      have hS := hS.ext hx_250
      rw [show (decide ((wayE 3 3 sS 0) = [0, 3, 6]) : Bool) = true from (by decide +kernel)]
      refine Wx.rd (v := .bool true) (rd_pickT (congrArg Value.bool g_236) rfl) rfl ?_
      refine Wx.nil ⟨(), St.tl (hS.tl), ⟨?_, trivial⟩, Out.look rfl Out.refl⟩
      show Value.bool true = Value.bool ((((((decide ((betwX 3 3 sS 4 10) = 2) && true) && true) && true) && true) && true) && true)
      first | rw [g_236, Bool.true_and] | (rw [g_236]; rfl)
    · -- False
      have gp_251 := g_236
      try simp only [Bool.and_eq_true, Bool.or_eq_true, Bool.not_eq_true', Bool.and_eq_false_iff, Bool.or_eq_false_iff, Bool.not_eq_false', decide_eq_true_eq, decide_eq_false_iff_not, not_or, Bool.false_eq_true, Bool.true_eq_false, false_or, or_false, not_false_eq_true] at gp_251
      refine Wx.gnoB rfl rfl (congrArg Value.bool g_236) rfl rfl ?_
      refine Wx.gnoB rfl rfl (congrArg Value.bool g_236) rfl rfl ?_
      refine Wx.gnoB rfl rfl (congrArg Value.bool g_236) rfl rfl ?_
      refine Wx.gnoB rfl rfl (congrArg Value.bool g_236) rfl rfl ?_
      refine Wx.rd (v := .bool false) (rd_pickF (congrArg Value.bool g_236) rfl) rfl ?_
      refine Wx.nil ⟨(), hS, ⟨?_, trivial⟩, Out.look rfl Out.refl⟩
      show Value.bool false = Value.bool ((((((decide ((betwX 3 3 sS 4 10) = 2) && true) && true) && true) && true) && true) && true)
      first | rw [g_236, Bool.false_and] | (rw [g_236]; rfl)
  rintro ⟨⟩ u_253 w_252 hS
  refine Wx.rd (v := .bool ((((((decide ((betwX 3 3 sS 4 10) = 2) && true) && true) && true) && true) && true) && true)) (rd_move rfl) rfl ?_
  refine Wx.cut (X := Unit) 5 [160, 161, 162, 163, 164] (fun _ => [(164, .bool (((((((decide ((betwX 3 3 sS 4 10) = 2) && true) && true) && true) && true) && true) && true) && true))]) (fun _ w' => St w [] w' [Ob.v (tSl (tI .i64)) sS v_155, Ob.v (tSl (tI .i64)) [6, 5, 4, 3] r_143, Ob.v (tSl (tI .i64)) [6, 5, 4, 3] v_139, Ob.v (tSl (tI .i64)) sS v_135, .row (tP (tI .i64) (tI .i64)) 74 v_129 (treeE 4 1 sT), Ob.v (tSl (tI .i64)) sT v_122, Ob.v (tSl (tI .i64)) sS v_112, Ob.v (tSl (tI .i64)) sS v_102, .row (tI .i64) 3 v_96 (basinE 3 3 sS 4), Ob.v (tSl (tI .i64)) sS v_89, .row (tI .i64) 3 v_83 (wayE 3 3 sS 0), Ob.v (tSl (tI .i64)) sS v_76, Ob.v (tSl (tI .i64)) [6, 5, 4, 3] r_64, Ob.v (tSl (tI .i64)) [6, 5, 4, 3] v_60, Ob.v (tSl (tI .i64)) sS v_56, .row (tSl (tI .i64)) 22 v_50 (poolsE 4 1 sT 2), Ob.v (tSl (tI .i64)) sT v_43, .row (tI .i64) 3 v_37 (bareE 3 3 sS 0), Ob.v (tSl (tI .i64)) sS v_30, .row (tI .i64) 3 v_24 (depthsE 3 3 sS 5), Ob.v (tSl (tI .i64)) sS v_17, .row (tI .i64) 3 v_11 (sillsE 3 3 sS), Ob.v (tSl (tI .i64)) sS v_4]) ?_ ?_
  · rcases Bool.eq_false_or_eq_true ((((((decide ((betwX 3 3 sS 4 10) = 2) && true) && true) && true) && true) && true) && true) with g_254 | g_254
    · -- True
      have gp_255 := g_254
      try simp only [Bool.and_eq_true, Bool.or_eq_true, Bool.not_eq_true', Bool.and_eq_false_iff, Bool.or_eq_false_iff, Bool.not_eq_false', decide_eq_true_eq, decide_eq_false_iff_not, not_or, Bool.false_eq_true, Bool.true_eq_false, false_or, or_false, not_false_eq_true] at gp_255
      refine Wx.gyes rfl rfl (congrArg Value.bool g_254) ?_
      refine Wx.rd (v := v_96) (rd_move rfl) rfl ?_
      refine Wx.gyes rfl rfl (congrArg Value.bool g_254) ?_
      refine Wx.lit (t := (tI .i64)) (ys := [4]) (vs := [.int .i64 4]) elMb_22 hS rfl rfl ⟨(V.mkInt (in_i64 (by omega) (by omega))), trivial⟩ (by decide) rfl (fun v_256 w_257 hx_258 hS => ?_)
      refine Wx.gyes rfl rfl (congrArg Value.bool g_254) ?_
      have hS := hS.freeze 0 rfl
      refine Wx.callF (run_callF Try.call49 rfl) (F49 (hS.v 0 rfl) hS.fb_lt) rfl ?_
      rintro r_260 w_261 hx_262 ⟨_, rfl, hv_263⟩
      have ln_265 := hv_263.len63
      have hS := hS.ext hx_262
      have hS := hS.add hv_263
      refine Wx.gyes rfl rfl (congrArg Value.bool g_254) ?_
      refine Wx.callF (run_callF Try.call21 rfl) (F21 (hS.lend 10 rfl) (hS.v 0 rfl)) rfl ?_
      rintro r_266 w_267 hx_268 rfl
      have hS := hS.ext hx_268
      rw [show (decide ((basinE 3 3 sS 4) = [4]) : Bool) = true from (by decide +kernel)]
      refine Wx.rd (v := .bool true) (rd_pickT (congrArg Value.bool g_254) rfl) rfl ?_
      refine Wx.nil ⟨(), St.tl (hS.tl), ⟨?_, trivial⟩, Out.look rfl Out.refl⟩
      show Value.bool true = Value.bool (((((((decide ((betwX 3 3 sS 4 10) = 2) && true) && true) && true) && true) && true) && true) && true)
      first | rw [g_254, Bool.true_and] | (rw [g_254]; rfl)
    · -- False
      have gp_269 := g_254
      try simp only [Bool.and_eq_true, Bool.or_eq_true, Bool.not_eq_true', Bool.and_eq_false_iff, Bool.or_eq_false_iff, Bool.not_eq_false', decide_eq_true_eq, decide_eq_false_iff_not, not_or, Bool.false_eq_true, Bool.true_eq_false, false_or, or_false, not_false_eq_true] at gp_269
      refine Wx.gnoB rfl rfl (congrArg Value.bool g_254) rfl rfl ?_
      refine Wx.gnoB rfl rfl (congrArg Value.bool g_254) rfl rfl ?_
      refine Wx.gnoB rfl rfl (congrArg Value.bool g_254) rfl rfl ?_
      refine Wx.gnoB rfl rfl (congrArg Value.bool g_254) rfl rfl ?_
      refine Wx.rd (v := .bool false) (rd_pickF (congrArg Value.bool g_254) rfl) rfl ?_
      refine Wx.nil ⟨(), hS, ⟨?_, trivial⟩, Out.look rfl Out.refl⟩
      show Value.bool false = Value.bool (((((((decide ((betwX 3 3 sS 4 10) = 2) && true) && true) && true) && true) && true) && true) && true)
      first | rw [g_254, Bool.false_and] | (rw [g_254]; rfl)
  rintro ⟨⟩ u_271 w_270 hS
  refine Wx.rd (v := .bool (((((((decide ((betwX 3 3 sS 4 10) = 2) && true) && true) && true) && true) && true) && true) && true)) (rd_move rfl) rfl ?_
  refine Wx.cut (X := Unit) 3 [166, 167, 168] (fun _ => [(168, .bool ((((((((decide ((betwX 3 3 sS 4 10) = 2) && true) && true) && true) && true) && true) && true) && true) && true))]) (fun _ w' => St w [] w' [Ob.v (tSl (tI .i64)) sS v_155, Ob.v (tSl (tI .i64)) [6, 5, 4, 3] r_143, Ob.v (tSl (tI .i64)) [6, 5, 4, 3] v_139, Ob.v (tSl (tI .i64)) sS v_135, .row (tP (tI .i64) (tI .i64)) 74 v_129 (treeE 4 1 sT), Ob.v (tSl (tI .i64)) sT v_122, Ob.v (tSl (tI .i64)) sS v_112, Ob.v (tSl (tI .i64)) sS v_102, .row (tI .i64) 3 v_96 (basinE 3 3 sS 4), Ob.v (tSl (tI .i64)) sS v_89, .row (tI .i64) 3 v_83 (wayE 3 3 sS 0), Ob.v (tSl (tI .i64)) sS v_76, Ob.v (tSl (tI .i64)) [6, 5, 4, 3] r_64, Ob.v (tSl (tI .i64)) [6, 5, 4, 3] v_60, Ob.v (tSl (tI .i64)) sS v_56, .row (tSl (tI .i64)) 22 v_50 (poolsE 4 1 sT 2), Ob.v (tSl (tI .i64)) sT v_43, .row (tI .i64) 3 v_37 (bareE 3 3 sS 0), Ob.v (tSl (tI .i64)) sS v_30, .row (tI .i64) 3 v_24 (depthsE 3 3 sS 5), Ob.v (tSl (tI .i64)) sS v_17, .row (tI .i64) 3 v_11 (sillsE 3 3 sS), Ob.v (tSl (tI .i64)) sS v_4]) ?_ ?_
  · rcases Bool.eq_false_or_eq_true (((((((decide ((betwX 3 3 sS 4 10) = 2) && true) && true) && true) && true) && true) && true) && true) with g_272 | g_272
    · -- True
      have gp_273 := g_272
      try simp only [Bool.and_eq_true, Bool.or_eq_true, Bool.not_eq_true', Bool.and_eq_false_iff, Bool.or_eq_false_iff, Bool.not_eq_false', decide_eq_true_eq, decide_eq_false_iff_not, not_or, Bool.false_eq_true, Bool.true_eq_false, false_or, or_false, not_false_eq_true] at gp_273
      refine Wx.gyes rfl rfl (congrArg Value.bool g_272) ?_
      refine Wx.rd (v := .int .i64 5) (rd_move rfl) rfl ?_
      refine Wx.gyes rfl rfl (congrArg Value.bool g_272) ?_
      refine Wx.rd (v := .bool true) (Rd.to (v := .bool (decide ((5 : Int) = 5))) (rd_eql rfl rfl) rfl) rfl ?_
      refine Wx.rd (v := .bool true) (rd_pickT (congrArg Value.bool g_272) rfl) rfl ?_
      refine Wx.nil ⟨(), hS, ⟨?_, trivial⟩, Out.look rfl Out.refl⟩
      show Value.bool true = Value.bool ((((((((decide ((betwX 3 3 sS 4 10) = 2) && true) && true) && true) && true) && true) && true) && true) && true)
      first | rw [g_272, Bool.true_and] | (rw [g_272]; rfl)
    · -- False
      have gp_274 := g_272
      try simp only [Bool.and_eq_true, Bool.or_eq_true, Bool.not_eq_true', Bool.and_eq_false_iff, Bool.or_eq_false_iff, Bool.not_eq_false', decide_eq_true_eq, decide_eq_false_iff_not, not_or, Bool.false_eq_true, Bool.true_eq_false, false_or, or_false, not_false_eq_true] at gp_274
      refine Wx.gnoB rfl rfl (congrArg Value.bool g_272) rfl rfl ?_
      refine Wx.gnoB rfl rfl (congrArg Value.bool g_272) rfl rfl ?_
      refine Wx.rd (v := .bool false) (rd_pickF (congrArg Value.bool g_272) rfl) rfl ?_
      refine Wx.nil ⟨(), hS, ⟨?_, trivial⟩, Out.look rfl Out.refl⟩
      show Value.bool false = Value.bool ((((((((decide ((betwX 3 3 sS 4 10) = 2) && true) && true) && true) && true) && true) && true) && true) && true)
      first | rw [g_272, Bool.false_and] | (rw [g_272]; rfl)
  rintro ⟨⟩ u_276 w_275 hS
  refine Wx.rd (v := .bool ((((((((decide ((betwX 3 3 sS 4 10) = 2) && true) && true) && true) && true) && true) && true) && true) && true)) (rd_move rfl) rfl ?_
  refine Wx.cut (X := Unit) 3 [170, 171, 172] (fun _ => [(172, .bool (((((((((decide ((betwX 3 3 sS 4 10) = 2) && true) && true) && true) && true) && true) && true) && true) && true) && true))]) (fun _ w' => St w [] w' [Ob.v (tSl (tI .i64)) sS v_155, Ob.v (tSl (tI .i64)) [6, 5, 4, 3] r_143, Ob.v (tSl (tI .i64)) [6, 5, 4, 3] v_139, Ob.v (tSl (tI .i64)) sS v_135, .row (tP (tI .i64) (tI .i64)) 74 v_129 (treeE 4 1 sT), Ob.v (tSl (tI .i64)) sT v_122, Ob.v (tSl (tI .i64)) sS v_112, Ob.v (tSl (tI .i64)) sS v_102, .row (tI .i64) 3 v_96 (basinE 3 3 sS 4), Ob.v (tSl (tI .i64)) sS v_89, .row (tI .i64) 3 v_83 (wayE 3 3 sS 0), Ob.v (tSl (tI .i64)) sS v_76, Ob.v (tSl (tI .i64)) [6, 5, 4, 3] r_64, Ob.v (tSl (tI .i64)) [6, 5, 4, 3] v_60, Ob.v (tSl (tI .i64)) sS v_56, .row (tSl (tI .i64)) 22 v_50 (poolsE 4 1 sT 2), Ob.v (tSl (tI .i64)) sT v_43, .row (tI .i64) 3 v_37 (bareE 3 3 sS 0), Ob.v (tSl (tI .i64)) sS v_30, .row (tI .i64) 3 v_24 (depthsE 3 3 sS 5), Ob.v (tSl (tI .i64)) sS v_17, .row (tI .i64) 3 v_11 (sillsE 3 3 sS), Ob.v (tSl (tI .i64)) sS v_4]) ?_ ?_
  · rcases Bool.eq_false_or_eq_true ((((((((decide ((betwX 3 3 sS 4 10) = 2) && true) && true) && true) && true) && true) && true) && true) && true) with g_277 | g_277
    · -- True
      have gp_278 := g_277
      try simp only [Bool.and_eq_true, Bool.or_eq_true, Bool.not_eq_true', Bool.and_eq_false_iff, Bool.or_eq_false_iff, Bool.not_eq_false', decide_eq_true_eq, decide_eq_false_iff_not, not_or, Bool.false_eq_true, Bool.true_eq_false, false_or, or_false, not_false_eq_true] at gp_278
      refine Wx.gyes rfl rfl (congrArg Value.bool g_277) ?_
      refine Wx.rd (v := .int .i64 4) (rd_move rfl) rfl ?_
      refine Wx.gyes rfl rfl (congrArg Value.bool g_277) ?_
      refine Wx.rd (v := .bool true) (Rd.to (v := .bool (decide ((4 : Int) = 4))) (rd_eql rfl rfl) rfl) rfl ?_
      refine Wx.rd (v := .bool true) (rd_pickT (congrArg Value.bool g_277) rfl) rfl ?_
      refine Wx.nil ⟨(), hS, ⟨?_, trivial⟩, Out.look rfl Out.refl⟩
      show Value.bool true = Value.bool (((((((((decide ((betwX 3 3 sS 4 10) = 2) && true) && true) && true) && true) && true) && true) && true) && true) && true)
      first | rw [g_277, Bool.true_and] | (rw [g_277]; rfl)
    · -- False
      have gp_279 := g_277
      try simp only [Bool.and_eq_true, Bool.or_eq_true, Bool.not_eq_true', Bool.and_eq_false_iff, Bool.or_eq_false_iff, Bool.not_eq_false', decide_eq_true_eq, decide_eq_false_iff_not, not_or, Bool.false_eq_true, Bool.true_eq_false, false_or, or_false, not_false_eq_true] at gp_279
      refine Wx.gnoB rfl rfl (congrArg Value.bool g_277) rfl rfl ?_
      refine Wx.gnoB rfl rfl (congrArg Value.bool g_277) rfl rfl ?_
      refine Wx.rd (v := .bool false) (rd_pickF (congrArg Value.bool g_277) rfl) rfl ?_
      refine Wx.nil ⟨(), hS, ⟨?_, trivial⟩, Out.look rfl Out.refl⟩
      show Value.bool false = Value.bool (((((((((decide ((betwX 3 3 sS 4 10) = 2) && true) && true) && true) && true) && true) && true) && true) && true) && true)
      first | rw [g_277, Bool.false_and] | (rw [g_277]; rfl)
  rintro ⟨⟩ u_281 w_280 hS
  refine Wx.rd (v := .bool (((((((((decide ((betwX 3 3 sS 4 10) = 2) && true) && true) && true) && true) && true) && true) && true) && true) && true)) (rd_move rfl) rfl ?_
  refine Wx.cut (X := Unit) 8 [174, 175, 176, 177, 178, 179, 180, 181] (fun _ => [(181, .bool ((((((((((decide ((betwX 3 3 sS 4 10) = 2) && true) && true) && true) && true) && true) && true) && true) && true) && true) && true))]) (fun _ w' => St w [] w' [Ob.v (tSl (tI .i64)) sS v_155, Ob.v (tSl (tI .i64)) [6, 5, 4, 3] r_143, Ob.v (tSl (tI .i64)) [6, 5, 4, 3] v_139, Ob.v (tSl (tI .i64)) sS v_135, .row (tP (tI .i64) (tI .i64)) 74 v_129 (treeE 4 1 sT), Ob.v (tSl (tI .i64)) sT v_122, Ob.v (tSl (tI .i64)) sS v_112, Ob.v (tSl (tI .i64)) sS v_102, .row (tI .i64) 3 v_96 (basinE 3 3 sS 4), Ob.v (tSl (tI .i64)) sS v_89, .row (tI .i64) 3 v_83 (wayE 3 3 sS 0), Ob.v (tSl (tI .i64)) sS v_76, Ob.v (tSl (tI .i64)) [6, 5, 4, 3] r_64, Ob.v (tSl (tI .i64)) [6, 5, 4, 3] v_60, Ob.v (tSl (tI .i64)) sS v_56, .row (tSl (tI .i64)) 22 v_50 (poolsE 4 1 sT 2), Ob.v (tSl (tI .i64)) sT v_43, .row (tI .i64) 3 v_37 (bareE 3 3 sS 0), Ob.v (tSl (tI .i64)) sS v_30, .row (tI .i64) 3 v_24 (depthsE 3 3 sS 5), Ob.v (tSl (tI .i64)) sS v_17, .row (tI .i64) 3 v_11 (sillsE 3 3 sS), Ob.v (tSl (tI .i64)) sS v_4]) ?_ ?_
  · rcases Bool.eq_false_or_eq_true (((((((((decide ((betwX 3 3 sS 4 10) = 2) && true) && true) && true) && true) && true) && true) && true) && true) && true) with g_282 | g_282
    · -- True
      have gp_283 := g_282
      try simp only [Bool.and_eq_true, Bool.or_eq_true, Bool.not_eq_true', Bool.and_eq_false_iff, Bool.or_eq_false_iff, Bool.not_eq_false', decide_eq_true_eq, decide_eq_false_iff_not, not_or, Bool.false_eq_true, Bool.true_eq_false, false_or, or_false, not_false_eq_true] at gp_283
      refine Wx.gyes rfl rfl (congrArg Value.bool g_282) ?_
      refine Wx.rd (v := v_129) (rd_move rfl) rfl ?_
      refine Wx.gyes rfl rfl (congrArg Value.bool g_282) ?_
      refine Wx.rd (v := .agg #[.int .i64 3, .int .i64 4]) (rd_build (vs := [(0, .int .i64 3), (1, .int .i64 4)]) rfl (by kernel_rfl)) rfl ?_
      refine Wx.gyes rfl rfl (congrArg Value.bool g_282) ?_
      refine Wx.rd (v := .agg #[.int .i64 1, .int .i64 2]) (rd_build (vs := [(0, .int .i64 1), (1, .int .i64 2)]) rfl (by kernel_rfl)) rfl ?_
      refine Wx.gyes rfl rfl (congrArg Value.bool g_282) ?_
      refine Wx.rd (v := .agg #[.int .i64 2, .int .i64 3]) (rd_build (vs := [(0, .int .i64 2), (1, .int .i64 3)]) rfl (by kernel_rfl)) rfl ?_
      refine Wx.gyes rfl rfl (congrArg Value.bool g_282) ?_
      refine Wx.rd (v := .agg #[.int .i64 0, .int .i64 1]) (rd_build (vs := [(0, .int .i64 0), (1, .int .i64 1)]) rfl (by kernel_rfl)) rfl ?_
      refine Wx.gyes rfl rfl (congrArg Value.bool g_282) ?_
      refine Wx.lit (t := (tP (tI .i64) (tI .i64))) (ys := [(3, 4), (1, 2), (2, 3), (0, 1)]) (vs := [.agg #[.int .i64 3, .int .i64 4], .agg #[.int .i64 1, .int .i64 2], .agg #[.int .i64 2, .int .i64 3], .agg #[.int .i64 0, .int .i64 1]]) elMb_52 hS rfl rfl ⟨(V.mk2 (in_i64 (by omega) (by omega)) (in_i64 (by omega) (by omega))), ⟨(V.mk2 (in_i64 (by omega) (by omega)) (in_i64 (by omega) (by omega))), ⟨(V.mk2 (in_i64 (by omega) (by omega)) (in_i64 (by omega) (by omega))), ⟨(V.mk2 (in_i64 (by omega) (by omega)) (in_i64 (by omega) (by omega))), trivial⟩⟩⟩⟩ (by decide) rfl (fun v_284 w_285 hx_286 hS => ?_)
      refine Wx.gyes rfl rfl (congrArg Value.bool g_282) ?_
      refine Wx.callF (run_callF Try.call41 rfl) (F41 (hS.lend 5 rfl) (hS.lend 0 rfl)) rfl ?_
      rintro r_287 w_288 hx_289 rfl
      have hS := hS.ext hx_289
      rw [show (decide ((treeE 4 1 sT) = [(3, 4), (1, 2), (2, 3), (0, 1)]) : Bool) = true from (by decide +kernel)]
      refine Wx.rd (v := .bool true) (rd_pickT (congrArg Value.bool g_282) rfl) rfl ?_
      refine Wx.nil ⟨(), hS.tl, ⟨?_, trivial⟩, Out.look rfl Out.refl⟩
      show Value.bool true = Value.bool ((((((((((decide ((betwX 3 3 sS 4 10) = 2) && true) && true) && true) && true) && true) && true) && true) && true) && true) && true)
      first | rw [g_282, Bool.true_and] | (rw [g_282]; rfl)
    · -- False
      have gp_290 := g_282
      try simp only [Bool.and_eq_true, Bool.or_eq_true, Bool.not_eq_true', Bool.and_eq_false_iff, Bool.or_eq_false_iff, Bool.not_eq_false', decide_eq_true_eq, decide_eq_false_iff_not, not_or, Bool.false_eq_true, Bool.true_eq_false, false_or, or_false, not_false_eq_true] at gp_290
      refine Wx.gnoB rfl rfl (congrArg Value.bool g_282) rfl rfl ?_
      refine Wx.gnoB rfl rfl (congrArg Value.bool g_282) rfl rfl ?_
      refine Wx.gnoB rfl rfl (congrArg Value.bool g_282) rfl rfl ?_
      refine Wx.gnoB rfl rfl (congrArg Value.bool g_282) rfl rfl ?_
      refine Wx.gnoB rfl rfl (congrArg Value.bool g_282) rfl rfl ?_
      refine Wx.gnoB rfl rfl (congrArg Value.bool g_282) rfl rfl ?_
      refine Wx.gnoB rfl rfl (congrArg Value.bool g_282) rfl rfl ?_
      refine Wx.rd (v := .bool false) (rd_pickF (congrArg Value.bool g_282) rfl) rfl ?_
      refine Wx.nil ⟨(), hS, ⟨?_, trivial⟩, Out.look rfl Out.refl⟩
      show Value.bool false = Value.bool ((((((((((decide ((betwX 3 3 sS 4 10) = 2) && true) && true) && true) && true) && true) && true) && true) && true) && true) && true)
      first | rw [g_282, Bool.false_and] | (rw [g_282]; rfl)
  rintro ⟨⟩ u_292 w_291 hS
  refine Wx.rd (v := .bool ((((((((((decide ((betwX 3 3 sS 4 10) = 2) && true) && true) && true) && true) && true) && true) && true) && true) && true) && true)) (rd_move rfl) rfl ?_
  refine Wx.cut (X := Unit) 6 [183, 184, 185, 186, 187, 188] (fun _ => [(188, .bool (((((((((((decide ((betwX 3 3 sS 4 10) = 2) && true) && true) && true) && true) && true) && true) && true) && true) && true) && true) && true))]) (fun _ w' => St w [] w' [Ob.v (tSl (tI .i64)) sS v_155, Ob.v (tSl (tI .i64)) [6, 5, 4, 3] r_143, Ob.v (tSl (tI .i64)) [6, 5, 4, 3] v_139, Ob.v (tSl (tI .i64)) sS v_135, .row (tP (tI .i64) (tI .i64)) 74 v_129 (treeE 4 1 sT), Ob.v (tSl (tI .i64)) sT v_122, Ob.v (tSl (tI .i64)) sS v_112, Ob.v (tSl (tI .i64)) sS v_102, .row (tI .i64) 3 v_96 (basinE 3 3 sS 4), Ob.v (tSl (tI .i64)) sS v_89, .row (tI .i64) 3 v_83 (wayE 3 3 sS 0), Ob.v (tSl (tI .i64)) sS v_76, Ob.v (tSl (tI .i64)) [6, 5, 4, 3] r_64, Ob.v (tSl (tI .i64)) [6, 5, 4, 3] v_60, Ob.v (tSl (tI .i64)) sS v_56, .row (tSl (tI .i64)) 22 v_50 (poolsE 4 1 sT 2), Ob.v (tSl (tI .i64)) sT v_43, .row (tI .i64) 3 v_37 (bareE 3 3 sS 0), Ob.v (tSl (tI .i64)) sS v_30, .row (tI .i64) 3 v_24 (depthsE 3 3 sS 5), Ob.v (tSl (tI .i64)) sS v_17, .row (tI .i64) 3 v_11 (sillsE 3 3 sS), Ob.v (tSl (tI .i64)) sS v_4]) ?_ ?_
  · rcases Bool.eq_false_or_eq_true ((((((((((decide ((betwX 3 3 sS 4 10) = 2) && true) && true) && true) && true) && true) && true) && true) && true) && true) && true) with g_293 | g_293
    · -- True
      have gp_294 := g_293
      try simp only [Bool.and_eq_true, Bool.or_eq_true, Bool.not_eq_true', Bool.and_eq_false_iff, Bool.or_eq_false_iff, Bool.not_eq_false', decide_eq_true_eq, decide_eq_false_iff_not, not_or, Bool.false_eq_true, Bool.true_eq_false, false_or, or_false, not_false_eq_true] at gp_294
      refine Wx.gyes rfl rfl (congrArg Value.bool g_293) ?_
      refine Wx.callF (run_callF Try.call48 rfl) (F48 hS.fb_lt) rfl ?_
      rintro r_295 w_296 hx_297 ⟨v_298, rfl, hv_299⟩
      have ln_301 := hv_299.len63
      have hS := hS.ext hx_297
      have hS := hS.add hv_299
      refine Wx.gyes rfl rfl (congrArg Value.bool g_293) ?_
      refine Wx.lit (t := (tI .i64)) (ys := [4]) (vs := [.int .i64 4]) elMb_22 hS rfl rfl ⟨(V.mkInt (in_i64 (by omega) (by omega))), trivial⟩ (by decide) rfl (fun v_302 w_303 hx_304 hS => ?_)
      refine Wx.gyes rfl rfl (congrArg Value.bool g_293) ?_
      have hS := hS.freeze 0 rfl
      refine Wx.callF (run_callF Try.call49 rfl) (F49 (hS.v 0 rfl) hS.fb_lt) rfl ?_
      rintro r_306 w_307 hx_308 ⟨_, rfl, hv_309⟩
      have ln_311 := hv_309.len63
      have hS := hS.ext hx_308
      have hS := hS.add hv_309
      refine Wx.gyes rfl rfl (congrArg Value.bool g_293) ?_
      refine Wx.callF (run_callF Try.call35 rfl) (F35 (in_i64 (by omega) (by omega)) (in_i64 (by omega) (by omega)) (hS.v 2 rfl) (hS.v 0 rfl) (in_i64 (by omega) (by omega))) rfl ?_
      rintro r_312 w_313 hx_314 rfl
      have hS := hS.ext hx_314
      rw [show (provesE 3 3 sS [4] 4 : Int) = 0 from (by decide +kernel)]
      refine Wx.gyes rfl rfl (congrArg Value.bool g_293) ?_
      refine Wx.rd (v := .bool true) (Rd.to (v := .bool (decide ((0 : Int) = 0))) (rd_eql rfl rfl) rfl) rfl ?_
      refine Wx.rd (v := .bool true) (rd_pickT (congrArg Value.bool g_293) rfl) rfl ?_
      refine Wx.nil ⟨(), St.tl (St.tl (hS.tl)), ⟨?_, trivial⟩, Out.look rfl Out.refl⟩
      show Value.bool true = Value.bool (((((((((((decide ((betwX 3 3 sS 4 10) = 2) && true) && true) && true) && true) && true) && true) && true) && true) && true) && true) && true)
      first | rw [g_293, Bool.true_and] | (rw [g_293]; rfl)
    · -- False
      have gp_315 := g_293
      try simp only [Bool.and_eq_true, Bool.or_eq_true, Bool.not_eq_true', Bool.and_eq_false_iff, Bool.or_eq_false_iff, Bool.not_eq_false', decide_eq_true_eq, decide_eq_false_iff_not, not_or, Bool.false_eq_true, Bool.true_eq_false, false_or, or_false, not_false_eq_true] at gp_315
      refine Wx.gnoB rfl rfl (congrArg Value.bool g_293) rfl rfl ?_
      refine Wx.gnoB rfl rfl (congrArg Value.bool g_293) rfl rfl ?_
      refine Wx.gnoB rfl rfl (congrArg Value.bool g_293) rfl rfl ?_
      refine Wx.gnoB rfl rfl (congrArg Value.bool g_293) rfl rfl ?_
      refine Wx.gnoB rfl rfl (congrArg Value.bool g_293) rfl rfl ?_
      refine Wx.rd (v := .bool false) (rd_pickF (congrArg Value.bool g_293) rfl) rfl ?_
      refine Wx.nil ⟨(), hS, ⟨?_, trivial⟩, Out.look rfl Out.refl⟩
      show Value.bool false = Value.bool (((((((((((decide ((betwX 3 3 sS 4 10) = 2) && true) && true) && true) && true) && true) && true) && true) && true) && true) && true) && true)
      first | rw [g_293, Bool.false_and] | (rw [g_293]; rfl)
  rintro ⟨⟩ u_317 w_316 hS
  refine Wx.rd (v := .bool (((((((((((decide ((betwX 3 3 sS 4 10) = 2) && true) && true) && true) && true) && true) && true) && true) && true) && true) && true) && true)) (rd_move rfl) rfl ?_
  refine Wx.cut (X := Unit) 6 [190, 191, 192, 193, 194, 195] (fun _ => [(195, .bool ((((((((((((decide ((betwX 3 3 sS 4 10) = 2) && true) && true) && true) && true) && true) && true) && true) && true) && true) && true) && true) && true))]) (fun _ w' => St w [] w' [Ob.v (tSl (tI .i64)) sS v_155, Ob.v (tSl (tI .i64)) [6, 5, 4, 3] r_143, Ob.v (tSl (tI .i64)) [6, 5, 4, 3] v_139, Ob.v (tSl (tI .i64)) sS v_135, .row (tP (tI .i64) (tI .i64)) 74 v_129 (treeE 4 1 sT), Ob.v (tSl (tI .i64)) sT v_122, Ob.v (tSl (tI .i64)) sS v_112, Ob.v (tSl (tI .i64)) sS v_102, .row (tI .i64) 3 v_96 (basinE 3 3 sS 4), Ob.v (tSl (tI .i64)) sS v_89, .row (tI .i64) 3 v_83 (wayE 3 3 sS 0), Ob.v (tSl (tI .i64)) sS v_76, Ob.v (tSl (tI .i64)) [6, 5, 4, 3] r_64, Ob.v (tSl (tI .i64)) [6, 5, 4, 3] v_60, Ob.v (tSl (tI .i64)) sS v_56, .row (tSl (tI .i64)) 22 v_50 (poolsE 4 1 sT 2), Ob.v (tSl (tI .i64)) sT v_43, .row (tI .i64) 3 v_37 (bareE 3 3 sS 0), Ob.v (tSl (tI .i64)) sS v_30, .row (tI .i64) 3 v_24 (depthsE 3 3 sS 5), Ob.v (tSl (tI .i64)) sS v_17, .row (tI .i64) 3 v_11 (sillsE 3 3 sS), Ob.v (tSl (tI .i64)) sS v_4]) ?_ ?_
  · rcases Bool.eq_false_or_eq_true (((((((((((decide ((betwX 3 3 sS 4 10) = 2) && true) && true) && true) && true) && true) && true) && true) && true) && true) && true) && true) with g_318 | g_318
    · -- True
      have gp_319 := g_318
      try simp only [Bool.and_eq_true, Bool.or_eq_true, Bool.not_eq_true', Bool.and_eq_false_iff, Bool.or_eq_false_iff, Bool.not_eq_false', decide_eq_true_eq, decide_eq_false_iff_not, not_or, Bool.false_eq_true, Bool.true_eq_false, false_or, or_false, not_false_eq_true] at gp_319
      refine Wx.gyes rfl rfl (congrArg Value.bool g_318) ?_
      refine Wx.callF (run_callF Try.call48 rfl) (F48 hS.fb_lt) rfl ?_
      rintro r_320 w_321 hx_322 ⟨v_323, rfl, hv_324⟩
      have ln_326 := hv_324.len63
      have hS := hS.ext hx_322
      have hS := hS.add hv_324
      refine Wx.gyes rfl rfl (congrArg Value.bool g_318) ?_
      refine Wx.lit (t := (tI .i64)) (ys := [4]) (vs := [.int .i64 4]) elMb_22 hS rfl rfl ⟨(V.mkInt (in_i64 (by omega) (by omega))), trivial⟩ (by decide) rfl (fun v_327 w_328 hx_329 hS => ?_)
      refine Wx.gyes rfl rfl (congrArg Value.bool g_318) ?_
      have hS := hS.freeze 0 rfl
      refine Wx.callF (run_callF Try.call49 rfl) (F49 (hS.v 0 rfl) hS.fb_lt) rfl ?_
      rintro r_331 w_332 hx_333 ⟨_, rfl, hv_334⟩
      have ln_336 := hv_334.len63
      have hS := hS.ext hx_333
      have hS := hS.add hv_334
      refine Wx.gyes rfl rfl (congrArg Value.bool g_318) ?_
      refine Wx.callF (run_callF Try.call35 rfl) (F35 (in_i64 (by omega) (by omega)) (in_i64 (by omega) (by omega)) (hS.v 2 rfl) (hS.v 0 rfl) (in_i64 (by omega) (by omega))) rfl ?_
      rintro r_337 w_338 hx_339 rfl
      have hS := hS.ext hx_339
      rw [show (provesE 3 3 sS [4] 5 : Int) = 14 from (by decide +kernel)]
      refine Wx.gyes rfl rfl (congrArg Value.bool g_318) ?_
      refine Wx.rd (v := .bool true) (Rd.to (v := .bool (decide ((14 : Int) = 14))) (rd_eql rfl rfl) rfl) rfl ?_
      refine Wx.rd (v := .bool true) (rd_pickT (congrArg Value.bool g_318) rfl) rfl ?_
      refine Wx.nil ⟨(), St.tl (St.tl (hS.tl)), ⟨?_, trivial⟩, Out.look rfl Out.refl⟩
      show Value.bool true = Value.bool ((((((((((((decide ((betwX 3 3 sS 4 10) = 2) && true) && true) && true) && true) && true) && true) && true) && true) && true) && true) && true) && true)
      first | rw [g_318, Bool.true_and] | (rw [g_318]; rfl)
    · -- False
      have gp_340 := g_318
      try simp only [Bool.and_eq_true, Bool.or_eq_true, Bool.not_eq_true', Bool.and_eq_false_iff, Bool.or_eq_false_iff, Bool.not_eq_false', decide_eq_true_eq, decide_eq_false_iff_not, not_or, Bool.false_eq_true, Bool.true_eq_false, false_or, or_false, not_false_eq_true] at gp_340
      refine Wx.gnoB rfl rfl (congrArg Value.bool g_318) rfl rfl ?_
      refine Wx.gnoB rfl rfl (congrArg Value.bool g_318) rfl rfl ?_
      refine Wx.gnoB rfl rfl (congrArg Value.bool g_318) rfl rfl ?_
      refine Wx.gnoB rfl rfl (congrArg Value.bool g_318) rfl rfl ?_
      refine Wx.gnoB rfl rfl (congrArg Value.bool g_318) rfl rfl ?_
      refine Wx.rd (v := .bool false) (rd_pickF (congrArg Value.bool g_318) rfl) rfl ?_
      refine Wx.nil ⟨(), hS, ⟨?_, trivial⟩, Out.look rfl Out.refl⟩
      show Value.bool false = Value.bool ((((((((((((decide ((betwX 3 3 sS 4 10) = 2) && true) && true) && true) && true) && true) && true) && true) && true) && true) && true) && true) && true)
      first | rw [g_318, Bool.false_and] | (rw [g_318]; rfl)
  rintro ⟨⟩ u_342 w_341 hS
  refine Wx.rd (v := .bool ((((((((((((decide ((betwX 3 3 sS 4 10) = 2) && true) && true) && true) && true) && true) && true) && true) && true) && true) && true) && true) && true)) (rd_assign rfl) rfl ?_
  refine Wx.nil ?_
  have e0_0 : ((((((((((((decide ((betwX 3 3 sS 4 10) = 2) && true) && true) && true) && true) && true) && true) && true) && true) && true) && true) && true) && true) = true := by first | rfl | omega
  exact W.ret ⟨.bool ((((((((((((decide ((betwX 3 3 sS 4 10) = 2) && true) && true) && true) && true) && true) && true) && true) && true) && true) && true) && true) && true), ResIs.one, hS.bel, (by rw [e0_0])⟩
end Go.Proofs.Ytjhimoeodkaihaa

namespace Go.Proofs.Ytjhimoeodkaihaa
open Go.Wk Go.RowKit Go.Lib
set_option linter.unusedVariables false
set_option linter.unusedSimpArgs false
theorem mixedMh_ : Try.prog.follows .mixedOrders = true := by kernel_rfl
theorem foMh_60_0 : fldOff Try.prog 60 0 = some 0 := by kernel_rfl
theorem foMh_60_1 : fldOff Try.prog 60 1 = some 1 := by kernel_rfl
theorem foMh_60_2 : fldOff Try.prog 60 2 = some 2 := by kernel_rfl
theorem foMh_24_0 : fldOff Try.prog 24 0 = some 0 := by kernel_rfl
theorem foMh_24_1 : fldOff Try.prog 24 1 = some 1 := by kernel_rfl
theorem foMh_24_2 : fldOff Try.prog 24 2 = some 2 := by kernel_rfl
theorem elMh_22 : ElemI Try.prog 22 3 (.int .i64 0) 1 8 := ElemI.of Try.underlying22 (by kernel_rfl) (by first | rfl | kernel_rfl) (by decide)

set_option maxHeartbeats 2000000 in
set_option maxRecDepth 10000 in
theorem F42 {zs : List Int} {most : Int} {O : List (Option Nat)} {w : World} (n_zs : zs.length = 38) (i_zs : ∀ z ∈ zs, InK .u8 z) (i_most : InK .i64 most) (p_1 : 1 ≤ most) (p_6 : most ≤ 6) (hO : ∀ b, some b ∈ O → b < w.heap.size) : Calls Try.prog 42 #[.agg (List.map (Value.int .u8) zs).toArray, .int .i64 most] w (Ret w (fun r w' => ∃ rv, r = .agg #[.int .i64 (sdR most zs), .int .i64 (sdC most zs), rv] ∧ Fresh (tI .i64) 3 (sdH most zs) rv w.heap.size w')) := by
  have b_most := bd_i64 i_most
  have hz0 := ix_u8 i_zs 0
  have hz1 := ix_u8 i_zs 1
  have hmul := sd_mul (zs := zs) p_1 p_6
  have hsb := sd_bd (zs := zs) p_1 p_6
  have hxl := sdX_len p_1 p_6 n_zs
  have hN0 := Int.emod_nonneg (ix 0 zs 0) (show most ≠ 0 by omega)
  have hN1 := Int.emod_lt_of_pos (ix 0 zs 0) (show 0 < most by omega)
  have hN2 := Int.emod_nonneg (ix 0 zs 1) (show most ≠ 0 by omega)
  have hN3 := Int.emod_lt_of_pos (ix 0 zs 1) (show 0 < most by omega)
  have hS := St.start w O hO
  refine enterR Try.func42 rfl Try.ntmps42 Try.results42 rfl ?_
  refine W.seq ?_
  refine W.reg ?_
  refine Wx.box (cs := List.map (Value.int .u8) zs) hS rfl rfl rfl (fun g_1 w_2 hx_4 hb_3 hS => ?_)
  refine Wx.alloc (cs := [.int .i64 0, .int .i64 0, (.slice none 0 0)]) hS Try.zeroValue24 rfl rfl (fun g_5 w_6 hx_8 hb_7 hS => ?_)
  refine Wx.nil ?_
  refine W.seq ?_
  refine W.regZ (fun _ w' => St w O w' [.box g_1 60 (List.map (Value.int .u8) zs)]) mixedMh_ (fun w_9 hx_10 => ?_)
  have hS := hS.ext hx_10
  refine Wz.rd (v := .pointer (some ⟨g_1, 0 + 0, none⟩)) 0 rfl (by kernel_rfl) (St.sub hS (.cons _ (List.Sublist.cons_cons _ (List.nil_sublist _)))) (fun _ hS => (rd_fieldAddr (o := 0) rfl foMh_60_0)) rfl ?_
  have bz_11 := ix_u8 i_zs 0
  refine Wz.rd (v := .int .u8 (ix 0 zs 0)) 1 rfl (by kernel_rfl) (St.sub hS (.cons _ (List.Sublist.cons_cons _ (List.nil_sublist _)))) (fun _ hS => (rd_loadXa (d := 0) (f := (Value.int .u8)) (j := 0) hS 0 rfl rfl (by omega) (by omega) (by omega) Try.isAgg5)) rfl ?_
  refine Wz.rd (v := .int .i64 (ix 0 zs 0)) 2 rfl (by kernel_rfl) (St.sub hS (.cons _ (List.Sublist.cons_cons _ (List.nil_sublist _)))) (fun _ hS => (rd_convIn rfl Try.underlying5 Try.underlying3 (in_i64 (by omega) (by omega)))) rfl ?_
  refine Wz.rd (v := .int .i64 most) 3 rfl (by kernel_rfl) (St.sub hS (.cons _ (List.Sublist.cons_cons _ (List.nil_sublist _)))) (fun _ hS => (rd_move rfl)) rfl ?_
  refine Wz.rd (v := .int .i64 ((ix 0 zs 0) % most)) 4 rfl (by kernel_rfl) (St.sub hS (.cons _ (List.Sublist.cons_cons _ (List.nil_sublist _)))) (fun _ hS => (rd_rem rfl rfl (by omega) (by omega))) rfl ?_
  refine Wz.rd (v := .int .i64 (sdR most zs)) 5 rfl (by kernel_rfl) (St.sub hS (.cons _ (List.Sublist.cons_cons _ (List.nil_sublist _)))) (fun _ hS => (Rd.to (v := .int .i64 (1 + ((ix 0 zs 0) % most))) (rd_add rfl rfl (in_i64 (by omega) (by omega))) (congrArg (Value.int .i64) (show (sdR most zs : Int) = (1 + ((ix 0 zs 0) % most) : Int) from rfl).symm))) rfl ?_
  refine Wz.rd (v := .pointer (some ⟨g_1, 0 + 1, none⟩)) 6 rfl (by kernel_rfl) (St.sub hS (.cons _ (List.Sublist.cons_cons _ (List.nil_sublist _)))) (fun _ hS => (rd_fieldAddr (o := 0) rfl foMh_60_1)) rfl ?_
  have bz_12 := ix_u8 i_zs 1
  refine Wz.rd (v := .int .u8 (ix 0 zs 1)) 7 rfl (by kernel_rfl) (St.sub hS (.cons _ (List.Sublist.cons_cons _ (List.nil_sublist _)))) (fun _ hS => (rd_loadXa (d := 0) (f := (Value.int .u8)) (j := 1) hS 0 rfl rfl (by omega) (by omega) (by omega) Try.isAgg5)) rfl ?_
  refine Wz.rd (v := .int .i64 (ix 0 zs 1)) 8 rfl (by kernel_rfl) (St.sub hS (.cons _ (List.Sublist.cons_cons _ (List.nil_sublist _)))) (fun _ hS => (rd_convIn rfl Try.underlying5 Try.underlying3 (in_i64 (by omega) (by omega)))) rfl ?_
  refine Wz.rd (v := .int .i64 most) 9 rfl (by kernel_rfl) (St.sub hS (.cons _ (List.Sublist.cons_cons _ (List.nil_sublist _)))) (fun _ hS => (rd_move rfl)) rfl ?_
  refine Wz.rd (v := .int .i64 ((ix 0 zs 1) % most)) 10 rfl (by kernel_rfl) (St.sub hS (.cons _ (List.Sublist.cons_cons _ (List.nil_sublist _)))) (fun _ hS => (rd_rem rfl rfl (by omega) (by omega))) rfl ?_
  refine Wz.rd (v := .int .i64 (sdC most zs)) 11 rfl (by kernel_rfl) (St.sub hS (.cons _ (List.Sublist.cons_cons _ (List.nil_sublist _)))) (fun _ hS => (Rd.to (v := .int .i64 (1 + ((ix 0 zs 1) % most))) (rd_add rfl rfl (in_i64 (by omega) (by omega))) (congrArg (Value.int .i64) (show (sdC most zs : Int) = (1 + ((ix 0 zs 1) % most) : Int) from rfl).symm))) rfl ?_
  refine Wz.rd (v := .agg #[.int .i64 (sdR most zs), .int .i64 (sdC most zs), (.slice none 0 0)]) 12 rfl (by kernel_rfl) (St.sub hS (.cons _ (List.Sublist.cons_cons _ (List.nil_sublist _)))) (fun _ hS => (rd_build (vs := [(0, .int .i64 (sdR most zs)), (1, .int .i64 (sdC most zs))]) rfl (by kernel_rfl))) rfl ?_
  refine Wz.br [13] (by kernel_rfl) (by decide) ⟨⟨_, rfl, ?_⟩, trivial⟩
  refine Wx.alloc (cs := [.int .i64 0, .int .i64 0, (.slice none 0 0)]) hS Try.zeroValue24 rfl rfl (fun g_13 w_14 hx_16 hb_15 hS => ?_)
  refine Wx.nil ⟨(St.sub hS (.cons _ (.cons _ (List.Sublist.cons_cons _ (List.nil_sublist _))))), ?_⟩
  refine Wz.br [14] (by kernel_rfl) (by decide) ⟨⟨_, rfl, ?_⟩, trivial⟩
  refine Wx.storeX (cs' := [.int .i64 (sdR most zs), .int .i64 (sdC most zs), (.slice none 0 0)]) (ds := [.int .i64 (sdR most zs), .int .i64 (sdC most zs), (.slice none 0 0)]) hS 0 rfl rfl rfl rfl Try.sizeOf24 (Nat.le_of_ble_eq_true rfl) (one_cons rfl (one_cons rfl (one_cons rfl one_nil))) rfl (fun w_17 hz_18 hS => ?_)
  refine Wx.nil ⟨(St.sub hS (.cons _ (.cons _ (List.Sublist.cons_cons _ (List.nil_sublist _))))), ?_⟩
  refine Wz.done (by kernel_rfl) ?_
  refine W.seq ?_
  refine W.seq ?_
  refine W.reg ?_
  refine Wx.rd (v := .pointer (some ⟨g_1, 0 + 2, none⟩)) (rd_fieldAddr (o := 0) rfl foMh_60_2) rfl ?_
  refine Wx.rd (v := .pointer (some ⟨g_13, 0, none⟩)) (rd_fieldAddr rfl foMh_24_0) rfl ?_
  refine Wx.rd (v := .int .i64 (sdR most zs)) (rd_loadX hS 0 rfl rfl rfl Try.isAgg3) rfl ?_
  refine Wx.rd (v := .pointer (some ⟨g_13, 1, none⟩)) (rd_fieldAddr rfl foMh_24_1) rfl ?_
  refine Wx.rd (v := .int .i64 (sdC most zs)) (rd_loadX hS 0 rfl rfl rfl Try.isAgg3) rfl ?_
  refine Wx.rd (v := .int .i64 ((sdR most zs) * (sdC most zs))) (rd_mul rfl rfl (in_i64 (by omega) (by omega))) rfl ?_
  refine Wx.rd (v := (.slice (some ⟨g_1, 0 + 2, none⟩) ((sdR most zs) * (sdC most zs)).toNat 36)) (rd_sliceArrH (m := 36) Try.underlying58 Try.sizeOf5 rfl rfl (by omega) (by omega)) rfl ?_
  have hS := hS.sliceBox (o := 0 + 2) (k := .u8) (m := ((sdR most zs) * (sdC most zs)).toNat) (xs := List.take ((sdR most zs) * (sdC most zs)).toNat (List.drop 2 zs)) (cap := 36) 2 rfl (by exact drop_map_take (Value.int .u8) zs 2 _) (fun x hx => by have hx := List.mem_of_mem_drop (List.mem_of_mem_take hx); exact i_zs x hx) (by simp; omega) (by omega) (by decide)
  have hS : St _ _ _ (Ob.v (tSl (tI .u8)) (sdX most zs) (.slice (some ⟨g_1, 0 + 2, none⟩) ((sdR most zs) * (sdC most zs)).toNat 36) :: [.box g_13 24 [.int .i64 (sdR most zs), .int .i64 (sdC most zs), (.slice none 0 0)], .box g_5 24 [.int .i64 0, .int .i64 0, (.slice none 0 0)]]) := hS
  refine Wx.rd (v := .int .i64 ((sdX most zs).length : Int)) (rd_lenV rfl (hS.v 0 rfl) Try.underlying70) rfl ?_
  refine Wx.rd (v := .int .i64 0) (rd_move rfl) rfl ?_
  refine Wx.nil ?_
  refine W.block ?_
  have hS := hS.addNil (tI .i64) 3
  refine W.loop [7, 29, 30, 31, 32, 33, 34, 35, 36, 37, 38, 39, 40, 41] (fun x : Int × Value × (List Int) => match x with | (k, hv, hs) => [(29, .int .i64 k)]) (fun (x : Int × Value × (List Int)) w' => match x with | (k, hv, hs) => St w O w' [.row (tI .i64) 3 hv hs, Ob.v (tSl (tI .u8)) (sdX most zs) (.slice (some ⟨g_1, 0 + 2, none⟩) ((sdR most zs) * (sdC most zs)).toNat 36), .box g_13 24 [.int .i64 (sdR most zs), .int .i64 (sdC most zs), hv], .box g_5 24 [.int .i64 0, .int .i64 0, (.slice none 0 0)]] ∧ 0 ≤ k ∧ k ≤ (sdX most zs).length ∧ hs = ((sdX most zs).take k.toNat).map (fun x => x % 31) ∧ (hs.length : Int) = k) (fun x : Int × Value × (List Int) => match x with | (k, hv, hs) => ((sdX most zs).length - k).toNat) (0, (.slice none 0 0), []) ⟨rfl, trivial⟩ ⟨hS, (by first | omega | simp), (by first | omega | simp), (rfl), (rfl)⟩ ?_
  rintro ⟨k, hv, hs⟩ u_21 w_20 ⟨hS, h0, h1, h2, h3⟩
  refine W.seq ?_
  refine W.reg ?_
  refine Wx.rd (v := .bool (decide (k < ((sdX most zs).length : Int)))) (rd_lss rfl rfl) rfl ?_
  refine Wx.nil ?_
  refine W.seq ?_
  refine W.condD rfl (fun c0 => ?_) (fun c0 => ?_)
  · -- yes
    refine W.skip ?_
    refine W.seq ?_
    refine W.block ?_
    refine W.seq ?_
    refine W.reg ?_
    refine Wx.ex (rd_index 0 (hS.v 1 rfl) rfl rfl Try.underlying70 Try.sizeOf5 (by first | omega | (simp only [List.length_set, List.length_append, List.length_cons, List.length_nil, List.length_replicate]; omega)) (by first | omega | (simp only [List.length_set, List.length_append, List.length_cons, List.length_nil, List.length_replicate]; omega))) rfl (fun p_22 hp_23 => ?_)
    refine Wx.rd (v := .int .u8 (ix 0 (sdX most zs) k)) (rd_loadI hp_23 rfl Try.isAgg5 Try.sizeOf5) rfl ?_
    have bd_24 := bd_u8 hp_23.inK
    refine Wx.rd (v := .int .u8 (ix 0 (sdX most zs) k)) (rd_assign rfl) rfl ?_
    refine Wx.nil ?_
    refine W.reg ?_
    refine Wx.rd (v := .pointer (some ⟨g_13, 2, none⟩)) (rd_fieldAddr rfl foMh_24_2) rfl ?_
    refine Wx.rd (v := hv) (rd_loadX hS 2 rfl rfl rfl Try.isAgg22) rfl ?_
    refine Wx.rd (v := .int .u8 (ix 0 (sdX most zs) k)) (rd_move rfl) rfl ?_
    refine Wx.rd (v := .int .i64 (ix 0 (sdX most zs) k)) (rd_convIn rfl Try.underlying5 Try.underlying3 (in_i64 (by omega) (by omega))) rfl ?_
    refine Wx.rd (v := .int .i64 ((ix 0 (sdX most zs) k) % 31)) (rd_rem rfl rfl (by omega) (by omega)) rfl ?_
    refine Wx.lit (t := (tI .i64)) (ys := [(ix 0 (sdX most zs) k) % 31]) (vs := [.int .i64 ((ix 0 (sdX most zs) k) % 31)]) elMh_22 hS rfl rfl ⟨(V.mkInt (in_i64 (by omega) (by omega))), trivial⟩ (by decide) rfl (fun v_25 w_26 hx_27 hS => ?_)
    refine Wx.append elMh_22 hS 1 rfl rfl rfl (Src.ofR hS 0 rfl) (by simp only [maxLen]; first | omega | (simp; omega) | simp) (by first | omega | (simp; omega) | simp) rfl (fun v_28 w_29 hz_30 hS => ?_)
    refine Wx.rd (v := .pointer (some ⟨g_13, 2, none⟩)) (rd_fieldAddr rfl foMh_24_2) rfl ?_
    refine Wx.storeX (cs' := [.int .i64 (sdR most zs), .int .i64 (sdC most zs), v_28]) (ds := [v_28]) hS 3 rfl rfl rfl (Go.Wk.cells_one (hS.rowOne 1 rfl)) Try.sizeOf22 (Nat.le_of_ble_eq_true rfl) (one_cons (hS.rowOne 1 rfl) one_nil) rfl (fun w_31 hz_32 hS => ?_)
    refine Wx.nil ?_
    refine W.reg ?_
    refine Wx.rd (v := .int .i64 (k + 1)) (rd_add rfl rfl (in_i64 (by omega) (by omega))) rfl ?_
    refine Wx.rd (v := .int .i64 (k + 1)) (rd_move rfl) rfl ?_
    refine Wx.nil ?_
    refine ⟨(k + 1, v_28, hs ++ [(ix 0 (sdX most zs) k) % 31]), (by show ((sdX most zs).length - (k + 1)).toNat < ((sdX most zs).length - k).toNat; omega), ?_, ?_, Out.look rfl Out.self⟩
    · exact ⟨hS.tl, (by first | omega | assumption), (by first | omega | assumption), (sd_snoc h2 h0 c0), (by simp only [List.length_append, List.length_cons, List.length_nil]; omega)⟩
    · exact ⟨rfl, trivial⟩
  · -- no
    refine W.exit rfl ?_
    refine W.seq ?_
    refine W.reg ?_
    refine Wx.rd (v := .agg #[.int .i64 (sdR most zs), .int .i64 (sdC most zs), hv]) (rd_loadXs (ds := [.int .i64 (sdR most zs), .int .i64 (sdC most zs), hv]) hS 2 rfl rfl rfl rfl Try.isAgg24 Try.sizeOf24) rfl ?_
    refine Wx.storeX (cs' := [.int .i64 (sdR most zs), .int .i64 (sdC most zs), hv]) (ds := [.int .i64 (sdR most zs), .int .i64 (sdC most zs), hv]) hS 3 rfl rfl rfl rfl Try.sizeOf24 (Nat.le_of_ble_eq_true rfl) (one_cons rfl (one_cons rfl (one_cons (hS.rowOne 0 rfl) one_nil))) rfl (fun w_33 hz_34 hS => ?_)
    refine Wx.nil ?_
    have e0_2 : sdH most zs = hs := by rw [h2]; exact (sd_full (by omega)).symm
    exact W.ret ⟨.agg #[.int .i64 (sdR most zs), .int .i64 (sdC most zs), hv], (ResIs.cell1 hS 3 rfl rfl Try.isAgg24 Try.sizeOf24), hS.bel, ⟨hv, rfl, (by rw [e0_2]; exact (hS.fr 0 rfl flat_int))⟩⟩
end Go.Proofs.Ytjhimoeodkaihaa

namespace Go.Proofs.Ytjhimoeodkaihaa
open Go.Wk Go.RowKit Go.Lib
set_option linter.unusedVariables false
set_option linter.unusedSimpArgs false
theorem foMi_24_2 : fldOff Try.prog 24 2 = some 2 := by kernel_rfl
theorem foMi_24_1 : fldOff Try.prog 24 1 = some 1 := by kernel_rfl
theorem mixedMi_ : Try.prog.follows .mixedOrders = true := by kernel_rfl

theorem F43 {R : Int} {C : Int} {hv : Value} {H : List Int} {Fr_hv : List (Option Nat)} {a : Int} {b : Int} {w : World} (i_R : InK .i64 R) (i_C : InK .i64 C) (h_hv : V (tSl (tI .i64)) H hv Fr_hv w) (i_a : InK .i64 a) (i_b : InK .i64 b) (p_a : 0 ≤ a ∧ a ≤ (H.length : Int)) (p_b : 0 ≤ b ∧ b ≤ (H.length : Int)) (p_c : 1 ≤ C ∧ C ≤ 6) (p_n : (H.length : Int) ≤ 36) : Calls Try.prog 43 #[.agg #[.int .i64 R, .int .i64 C, hv], .int .i64 a, .int .i64 b] w (Ret w (fun r _ => r = .bool (nearB C H.length a b))) := by
  have b_b := bd_i64 i_b
  have b_a := bd_i64 i_a
  have b_C := bd_i64 i_C
  have b_R := bd_i64 i_R
  have dv_a := div_bd p_a.1 p_c.1
  have dv_b := div_bd p_b.1 p_c.1
  have a_hv := h_hv.any
  have l_hv := h_hv.len63
  have hS := St.start0 w
  refine enterR Try.func43 rfl Try.ntmps43 Try.results43 rfl ?_
  refine W.seq ?_
  refine W.reg ?_
  refine Wx.box (cs := [.int .i64 R, .int .i64 C, hv]) hS rfl rfl rfl (fun g_1 w_2 hx_4 hb_3 hS => ?_)
  refine Wx.rd (v := .bool false) (rd_assign rfl) rfl ?_
  refine Wx.nil ?_
  refine W.seq ?_
  refine W.reg ?_
  refine Wx.rd (v := .pointer (some ⟨g_1, 2, none⟩)) (rd_fieldAddr rfl foMi_24_2) rfl ?_
  refine Wx.rd (v := hv) (rd_loadX hS 0 rfl rfl rfl Try.isAgg22) rfl ?_
  refine Wx.rd (v := .int .i64 (H.length : Int)) (rd_lenV rfl (hS.arg a_hv) Try.underlying22) rfl ?_
  refine Wx.rd (v := .int .i64 (H.length : Int)) (rd_assign rfl) rfl ?_
  refine Wx.nil ?_
  refine W.seq ?_
  refine W.seq ?_
  refine W.reg ?_
  refine Wx.rd (v := .int .i64 a) (rd_move rfl) rfl ?_
  refine Wx.rd (v := .int .i64 b) (rd_move rfl) rfl ?_
  refine Wx.rd (v := .int .i64 (max a b)) (rd_max rfl rfl) rfl ?_
  refine Wx.rd (v := .int .i64 (H.length : Int)) (rd_move rfl) rfl ?_
  refine Wx.rd (v := .bool (decide ((max a b) = (H.length : Int)))) (rd_eql rfl rfl) rfl ?_
  refine Wx.nil ?_
  refine W.condD rfl (fun c0 => ?_) (fun c0 => ?_)
  · -- yes
    refine W.seq ?_
    refine W.reg ?_
    refine Wx.rd (v := .int .i64 a) (rd_move rfl) rfl ?_
    refine Wx.rd (v := .int .i64 b) (rd_move rfl) rfl ?_
    refine Wx.rd (v := .bool (decide (a ≠ b))) (rd_neq rfl rfl) rfl ?_
    refine Wx.rd (v := .bool (decide (a ≠ b))) (rd_move rfl) rfl ?_
    refine Wx.cut (X := Unit) 9 [20, 21, 22, 23, 24, 25, 26, 27, 28] (fun _ => [(28, .bool (decide (a ≠ b) && decide (((H.length : Int) - C) ≤ (min a b))))]) (fun _ w' => St w [] w' [.box g_1 24 [.int .i64 R, .int .i64 C, hv]]) ?_ ?_
    · rcases Bool.eq_false_or_eq_true (decide (a ≠ b)) with g_5 | g_5
      · -- True
        have gp_6 := of_decide_eq_true g_5
        refine Wx.gyes rfl rfl (congrArg Value.bool g_5) ?_
        refine Wx.rd (v := .int .i64 a) (rd_move rfl) rfl ?_
        refine Wx.gyes rfl rfl (congrArg Value.bool g_5) ?_
        refine Wx.rd (v := .int .i64 b) (rd_move rfl) rfl ?_
        refine Wx.gyes rfl rfl (congrArg Value.bool g_5) ?_
        refine Wx.rd (v := .int .i64 (min a b)) (rd_min rfl rfl) rfl ?_
        refine Wx.gyes rfl rfl (congrArg Value.bool g_5) ?_
        refine Wx.rd (v := .int .i64 (H.length : Int)) (rd_move rfl) rfl ?_
        refine Wx.gyes rfl rfl (congrArg Value.bool g_5) ?_
        refine Wx.rd (v := .pointer (some ⟨g_1, 1, none⟩)) (rd_fieldAddr rfl foMi_24_1) rfl ?_
        refine Wx.gyes rfl rfl (congrArg Value.bool g_5) ?_
        refine Wx.rd (v := .int .i64 C) (rd_loadX hS 0 rfl rfl rfl Try.isAgg3) rfl ?_
        refine Wx.gyes rfl rfl (congrArg Value.bool g_5) ?_
        refine Wx.rd (v := .int .i64 ((H.length : Int) - C)) (rd_sub rfl rfl (in_i64 (by omega) (by omega))) rfl ?_
        refine Wx.gyes rfl rfl (congrArg Value.bool g_5) ?_
        refine Wx.rd (v := .bool (decide (((H.length : Int) - C) ≤ (min a b)))) (rd_geq rfl rfl) rfl ?_
        refine Wx.rd (v := .bool (decide (((H.length : Int) - C) ≤ (min a b)))) (rd_pickT (congrArg Value.bool g_5) rfl) rfl ?_
        refine Wx.nil ⟨(), hS, ⟨?_, trivial⟩, Out.look rfl Out.refl⟩
        show Value.bool (decide (((H.length : Int) - C) ≤ (min a b))) = Value.bool (decide (a ≠ b) && decide (((H.length : Int) - C) ≤ (min a b)))
        first | rw [g_5, Bool.true_and] | (rw [g_5]; rfl)
      · -- False
        have gp_7 := of_decide_eq_false g_5
        refine Wx.gnoB rfl rfl (congrArg Value.bool g_5) rfl rfl ?_
        refine Wx.gnoB rfl rfl (congrArg Value.bool g_5) rfl rfl ?_
        refine Wx.gnoB rfl rfl (congrArg Value.bool g_5) rfl rfl ?_
        refine Wx.gnoB rfl rfl (congrArg Value.bool g_5) rfl rfl ?_
        refine Wx.gnoB rfl rfl (congrArg Value.bool g_5) rfl rfl ?_
        refine Wx.gnoB rfl rfl (congrArg Value.bool g_5) rfl rfl ?_
        refine Wx.gnoB rfl rfl (congrArg Value.bool g_5) rfl rfl ?_
        refine Wx.gnoB rfl rfl (congrArg Value.bool g_5) rfl rfl ?_
        refine Wx.rd (v := .bool false) (rd_pickF (congrArg Value.bool g_5) rfl) rfl ?_
        refine Wx.nil ⟨(), hS, ⟨?_, trivial⟩, Out.look rfl Out.refl⟩
        show Value.bool false = Value.bool (decide (a ≠ b) && decide (((H.length : Int) - C) ≤ (min a b)))
        first | rw [g_5, Bool.false_and] | (rw [g_5]; rfl)
    rintro ⟨⟩ u_9 w_8 hS
    refine Wx.rd (v := .bool (decide (a ≠ b) && decide (((H.length : Int) - C) ≤ (min a b)))) (rd_assign rfl) rfl ?_
    refine Wx.nil ?_
    have e0_0 : (nearB C H.length a b) = (decide (a ≠ b) && decide (((H.length : Int) - C) ≤ (min a b))) := by rw [nearB, if_pos (by omega)]
    exact W.ret ⟨.bool (decide (a ≠ b) && decide (((H.length : Int) - C) ≤ (min a b))), ResIs.one, hS.bel, (by rw [e0_0])⟩
  · -- no
    refine W.skip ?_
    refine W.seq ?_
    refine W.seq ?_
    refine W.regQ mixedMi_ (by kernel_rfl) ?_
    refine Wx.rd (v := .int .i64 a) (rd_move rfl) rfl ?_
    refine Wx.rd (v := .pointer (some ⟨g_1, 1, none⟩)) (rd_fieldAddr rfl foMi_24_1) rfl ?_
    refine Wx.rd (v := .int .i64 C) (rd_loadX hS 0 rfl rfl rfl Try.isAgg3) rfl ?_
    refine Wx.rd (v := .int .i64 (a / C)) (rd_quo rfl rfl (by omega) (by omega) (in_i64 (by omega) (by omega))) rfl ?_
    refine Wx.rd (v := .int .i64 b) (rd_move rfl) rfl ?_
    refine Wx.rd (v := .pointer (some ⟨g_1, 1, none⟩)) (rd_fieldAddr rfl foMi_24_1) rfl ?_
    refine Wx.rd (v := .int .i64 C) (rd_loadX hS 0 rfl rfl rfl Try.isAgg3) rfl ?_
    refine Wx.rd (v := .int .i64 (b / C)) (rd_quo rfl rfl (by omega) (by omega) (in_i64 (by omega) (by omega))) rfl ?_
    refine Wx.rd (v := .bool (decide ((a / C) = (b / C)))) (rd_eql rfl rfl) rfl ?_
    refine Wx.nilQ (fun w_10 hx_11 => ?_)
    have hS := hS.ext hx_11
    refine W.condD rfl (fun c1 => ?_) (fun c1 => ?_)
    · -- yes
      refine W.seq ?_
      refine W.reg ?_
      refine Wx.rd (v := .int .i64 a) (rd_move rfl) rfl ?_
      refine Wx.rd (v := .int .i64 b) (rd_move rfl) rfl ?_
      refine Wx.rd (v := .int .i64 (a - b)) (rd_sub rfl rfl (in_i64 (by omega) (by omega))) rfl ?_
      refine Wx.rd (v := .int .i64 b) (rd_move rfl) rfl ?_
      refine Wx.rd (v := .int .i64 a) (rd_move rfl) rfl ?_
      refine Wx.rd (v := .int .i64 (b - a)) (rd_sub rfl rfl (in_i64 (by omega) (by omega))) rfl ?_
      refine Wx.rd (v := .int .i64 (max (a - b) (b - a))) (rd_max rfl rfl) rfl ?_
      refine Wx.rd (v := .bool (decide ((max (a - b) (b - a)) = 1))) (rd_eql rfl rfl) rfl ?_
      refine Wx.rd (v := .bool (decide ((max (a - b) (b - a)) = 1))) (rd_assign rfl) rfl ?_
      refine Wx.nil ?_
      have e1_0 : (nearB C H.length a b) = (decide ((max (a - b) (b - a)) = 1)) := by rw [nearB, if_neg (by omega), adjB, if_pos c1]; exact max_dec (by omega)
      exact W.ret ⟨.bool (decide ((max (a - b) (b - a)) = 1)), ResIs.one, hS.bel, (by rw [e1_0])⟩
    · -- no
      refine W.skip ?_
      refine W.seq ?_
      refine W.reg ?_
      refine Wx.rd (v := .int .i64 a) (rd_move rfl) rfl ?_
      refine Wx.rd (v := .int .i64 b) (rd_move rfl) rfl ?_
      refine Wx.rd (v := .int .i64 (a - b)) (rd_sub rfl rfl (in_i64 (by omega) (by omega))) rfl ?_
      refine Wx.rd (v := .int .i64 b) (rd_move rfl) rfl ?_
      refine Wx.rd (v := .int .i64 a) (rd_move rfl) rfl ?_
      refine Wx.rd (v := .int .i64 (b - a)) (rd_sub rfl rfl (in_i64 (by omega) (by omega))) rfl ?_
      refine Wx.rd (v := .int .i64 (max (a - b) (b - a))) (rd_max rfl rfl) rfl ?_
      refine Wx.rd (v := .pointer (some ⟨g_1, 1, none⟩)) (rd_fieldAddr rfl foMi_24_1) rfl ?_
      refine Wx.rd (v := .int .i64 C) (rd_loadX hS 0 rfl rfl rfl Try.isAgg3) rfl ?_
      refine Wx.rd (v := .bool (decide ((max (a - b) (b - a)) = C))) (rd_eql rfl rfl) rfl ?_
      refine Wx.rd (v := .bool (decide ((max (a - b) (b - a)) = C))) (rd_assign rfl) rfl ?_
      refine Wx.nil ?_
      have e2_0 : (nearB C H.length a b) = (decide ((max (a - b) (b - a)) = C)) := by rw [nearB, if_neg (by omega), adjB, if_neg c1]; exact max_dec p_c.1
      exact W.ret ⟨.bool (decide ((max (a - b) (b - a)) = C)), ResIs.one, hS.bel, (by rw [e2_0])⟩
end Go.Proofs.Ytjhimoeodkaihaa
