/-
  WHAT IS PROVED HERE: what functions of layer 3 hand back, each out of its own code; the conditions stand in each statement.
-/
import Derived.Test.YtjmpojoimcljoaaProg
import Derived.Test.YtjmpojoimcljoaaWk5
import Derived.Test.YtjmpojoimcljoaaSpec4
import Derived.Test.YtjmpojoimcljoaaFa
import Derived.Test.YtjmpojoimcljoaaFb
import Derived.Test.YtjmpojoimcljoaaFc
import Derived.Test.YtjmpojoimcljoaaFe
import Derived.Test.YtjmpojoimcljoaaFf
import Derived.Test.YtjmpojoimcljoaaFg
import Derived.Test.YtjmpojoimcljoaaFh
import Derived.Test.YtjmpojoimcljoaaFi
import Derived.Test.YtjmpojoimcljoaaFj
import Derived.Test.YtjmpojoimcljoaaFk
namespace Go.Proofs.Ytjmpojoimcljoaa
open Go.Wk Go.RowKit
set_option linter.unusedVariables false
set_option linter.unusedSimpArgs false
theorem elLc_28 : ElemI Try.prog 28 3 (.int .i64 0) 1 8 := ElemI.of Try.underlying28 (by kernel_rfl) (by first | rfl | kernel_rfl) (by decide)
theorem elLc_22 : ElemI Try.prog 22 28 ((.slice none 0 0)) 1 24 := ElemI.of Try.underlying22 (by kernel_rfl) (by first | rfl | kernel_rfl) (by decide)
theorem elLc_36 : ElemI Try.prog 36 61 (.agg #[.int .i64 0, .int .i64 0]) 2 16 := ElemI.of Try.underlying36 (by kernel_rfl) (by first | rfl | kernel_rfl) (by decide)

theorem F7  {w : World}  : Calls Try.prog 7 #[] w (Ret w (fun r _ => r = .bool true)) := by
  have hS := St.start0 w
  refine enterR Try.func7 rfl Try.ntmps7 Try.results7 rfl ?_
  refine W.seq ?_
  refine W.reg ?_
  refine Wx.rd (v := .bool false) (rd_assign rfl) rfl ?_
  refine Wx.nil ?_
  refine W.seq ?_
  refine W.reg ?_
  refine Wx.callF (run_callF Try.call38 rfl) (F38 hS.fb_lt) rfl ?_
  rintro r_1 w_2 hx_3 ⟨v_4, rfl, hv_5⟩
  have ln_7 := hv_5.len63
  have hS := hS.ext hx_3
  have hS := hS.add hv_5
  refine Wx.lit (t := (tI .i64)) (ys := [0, 1]) (vs := [.int .i64 0, .int .i64 1]) elLc_28 hS rfl rfl ⟨(V.mkInt (in_i64 (by omega) (by omega))), ⟨(V.mkInt (in_i64 (by omega) (by omega))), trivial⟩⟩ (by decide) rfl (fun v_8 w_9 hx_10 hS => ?_)
  have hS := hS.freeze 0 rfl
  refine Wx.callF (run_callF Try.call39 rfl) (F39 (hS.v 0 rfl) hS.fb_lt) rfl ?_
  rintro r_12 w_13 hx_14 ⟨_, rfl, hv_15⟩
  have ln_17 := hv_15.len63
  have hS := hS.ext hx_14
  have hS := hS.add hv_15
  refine Wx.callF (run_callF Try.call30 rfl) (F30 (in_i64 (by omega) (by omega)) (hS.v 2 rfl) (hS.v 0 rfl)) rfl ?_
  rintro r_18 w_19 hx_20 rfl
  have hS := hS.ext hx_20
  refine Wx.rd (v := .tuple #[.bool (decide (shownE 4 [[0, 1], [1, 2], [2, 3]] [0, 1] = 0) && decide (gapsE 4 [[0, 1], [1, 2], [2, 3]] [0, 1] = 0)), .int .i64 (shownE 4 [[0, 1], [1, 2], [2, 3]] [0, 1])]) (rd_move rfl) rfl ?_
  refine Wx.rd (v := .bool false) (Rd.to (v := .bool (decide (shownE 4 [[0, 1], [1, 2], [2, 3]] [0, 1] = 0) && decide (gapsE 4 [[0, 1], [1, 2], [2, 3]] [0, 1] = 0))) (rd_extract rfl rfl) (congrArg (Value.bool) (show (false : Bool) = (decide (shownE 4 [[0, 1], [1, 2], [2, 3]] [0, 1] = 0) && decide (gapsE 4 [[0, 1], [1, 2], [2, 3]] [0, 1] = 0) : Bool) from (by decide +kernel)).symm)) rfl ?_
  refine Wx.rd (v := .int .i64 5) (Rd.to (v := .int .i64 (shownE 4 [[0, 1], [1, 2], [2, 3]] [0, 1])) (rd_extract rfl rfl) (congrArg (Value.int .i64) (show (5 : Int) = (shownE 4 [[0, 1], [1, 2], [2, 3]] [0, 1] : Int) from (by decide +kernel)).symm)) rfl ?_
  refine Wx.rd (v := .bool false) (rd_assign rfl) rfl ?_
  refine Wx.rd (v := .int .i64 5) (rd_assign rfl) rfl ?_
  refine Wx.nil ?_
  refine W.seq ?_
  refine W.reg ?_
  refine Wx.callF (run_callF Try.call38 rfl) (F38 hS.fb_lt) rfl ?_
  rintro r_21 w_22 hx_23 ⟨v_24, rfl, hv_25⟩
  have ln_27 := hv_25.len63
  have hS := hS.ext hx_23
  have hS := hS.add hv_25
  refine Wx.lit (t := (tI .i64)) (ys := [0, 0, 1, 4]) (vs := [.int .i64 0, .int .i64 0, .int .i64 1, .int .i64 4]) elLc_28 hS rfl rfl ⟨(V.mkInt (in_i64 (by omega) (by omega))), ⟨(V.mkInt (in_i64 (by omega) (by omega))), ⟨(V.mkInt (in_i64 (by omega) (by omega))), ⟨(V.mkInt (in_i64 (by omega) (by omega))), trivial⟩⟩⟩⟩ (by decide) rfl (fun v_28 w_29 hx_30 hS => ?_)
  have hS := hS.freeze 0 rfl
  refine Wx.callF (run_callF Try.call39 rfl) (F39 (hS.v 0 rfl) hS.fb_lt) rfl ?_
  rintro r_32 w_33 hx_34 ⟨_, rfl, hv_35⟩
  have ln_37 := hv_35.len63
  have hS := hS.ext hx_34
  have hS := hS.add hv_35
  refine Wx.callF (run_callF Try.call30 rfl) (F30 (in_i64 (by omega) (by omega)) (hS.v 2 rfl) (hS.v 0 rfl)) rfl ?_
  rintro r_38 w_39 hx_40 rfl
  have hS := hS.ext hx_40
  refine Wx.rd (v := .tuple #[.bool (decide (shownE 4 [[0, 1], [1, 2], [2, 3]] [0, 0, 1, 4] = 0) && decide (gapsE 4 [[0, 1], [1, 2], [2, 3]] [0, 0, 1, 4] = 0)), .int .i64 (shownE 4 [[0, 1], [1, 2], [2, 3]] [0, 0, 1, 4])]) (rd_move rfl) rfl ?_
  refine Wx.rd (v := .bool false) (Rd.to (v := .bool (decide (shownE 4 [[0, 1], [1, 2], [2, 3]] [0, 0, 1, 4] = 0) && decide (gapsE 4 [[0, 1], [1, 2], [2, 3]] [0, 0, 1, 4] = 0))) (rd_extract rfl rfl) (congrArg (Value.bool) (show (false : Bool) = (decide (shownE 4 [[0, 1], [1, 2], [2, 3]] [0, 0, 1, 4] = 0) && decide (gapsE 4 [[0, 1], [1, 2], [2, 3]] [0, 0, 1, 4] = 0) : Bool) from (by decide +kernel)).symm)) rfl ?_
  refine Wx.rd (v := .int .i64 6) (Rd.to (v := .int .i64 (shownE 4 [[0, 1], [1, 2], [2, 3]] [0, 0, 1, 4])) (rd_extract rfl rfl) (congrArg (Value.int .i64) (show (6 : Int) = (shownE 4 [[0, 1], [1, 2], [2, 3]] [0, 0, 1, 4] : Int) from (by decide +kernel)).symm)) rfl ?_
  refine Wx.rd (v := .bool false) (rd_assign rfl) rfl ?_
  refine Wx.rd (v := .int .i64 6) (rd_assign rfl) rfl ?_
  refine Wx.nil ?_
  refine W.seq ?_
  refine W.reg ?_
  refine Wx.callF (run_callF Try.call40 rfl) (F40 hS.fb_lt) rfl ?_
  rintro r_41 w_42 hx_43 ⟨v_44, rfl, hv_45⟩
  have ln_47 := hv_45.len63
  have hS := hS.ext hx_43
  have hS := hS.add hv_45
  refine Wx.callF (run_callF Try.call16 rfl) (F16 (in_i64 (by omega) (by omega)) (hS.v 0 rfl)) rfl ?_
  rintro r_48 w_49 hx_50 ⟨v_51, rfl, hv_52⟩
  have hS := hS.pushFr hx_50 hv_52
  refine Wx.rd (v := .tuple #[v_51, .int .i64 (firstE 4 [[1, 2]])]) (rd_move rfl) rfl ?_
  refine Wx.rd (v := v_51) (rd_extract rfl rfl) rfl ?_
  refine Wx.rd (v := .int .i64 0) (Rd.to (v := .int .i64 (firstE 4 [[1, 2]])) (rd_extract rfl rfl) (congrArg (Value.int .i64) (show (0 : Int) = (firstE 4 [[1, 2]] : Int) from (by decide +kernel)).symm)) rfl ?_
  refine Wx.rd (v := v_51) (rd_assign rfl) rfl ?_
  refine Wx.rd (v := .int .i64 0) (rd_assign rfl) rfl ?_
  refine Wx.nil ?_
  refine W.seq ?_
  refine W.reg ?_
  refine Wx.callF (run_callF Try.call38 rfl) (F38 hS.fb_lt) rfl ?_
  rintro r_54 w_55 hx_56 ⟨v_57, rfl, hv_58⟩
  have ln_60 := hv_58.len63
  have hS := hS.ext hx_56
  have hS := hS.add hv_58
  refine Wx.callF (run_callF Try.call18 rfl) (F18 (in_i64 (by omega) (by omega)) (hS.v 0 rfl)) rfl ?_
  rintro r_61 w_62 hx_63 rfl
  have hS := hS.ext hx_63
  refine Wx.rd (v := .tuple #[.int .i64 (countE 4 [[0, 1], [1, 2], [2, 3]]), .int .i64 (checkE 4 [[0, 1], [1, 2], [2, 3]])]) (rd_move rfl) rfl ?_
  refine Wx.rd (v := .int .i64 2) (Rd.to (v := .int .i64 (countE 4 [[0, 1], [1, 2], [2, 3]])) (rd_extract rfl rfl) (congrArg (Value.int .i64) (show (2 : Int) = (countE 4 [[0, 1], [1, 2], [2, 3]] : Int) from (by decide +kernel)).symm)) rfl ?_
  refine Wx.rd (v := .int .i64 0) (Rd.to (v := .int .i64 (checkE 4 [[0, 1], [1, 2], [2, 3]])) (rd_extract rfl rfl) (congrArg (Value.int .i64) (show (0 : Int) = (checkE 4 [[0, 1], [1, 2], [2, 3]] : Int) from (by decide +kernel)).symm)) rfl ?_
  refine Wx.rd (v := .int .i64 2) (rd_assign rfl) rfl ?_
  refine Wx.rd (v := .int .i64 0) (rd_assign rfl) rfl ?_
  refine Wx.nil ?_
  refine W.seq ?_
  refine W.reg ?_
  refine Wx.callF (run_callF Try.call41 rfl) (F41 hS.fb_lt) rfl ?_
  rintro r_64 w_65 hx_66 ⟨v_67, rfl, hv_68⟩
  have ln_70 := hv_68.len63
  have hS := hS.ext hx_66
  have hS := hS.add hv_68
  refine Wx.callF (run_callF Try.call18 rfl) (F18 (in_i64 (by omega) (by omega)) (hS.v 0 rfl)) rfl ?_
  rintro r_71 w_72 hx_73 rfl
  have hS := hS.ext hx_73
  refine Wx.rd (v := .tuple #[.int .i64 (countE 4 [[0, 1], [0, 2], [0, 3]]), .int .i64 (checkE 4 [[0, 1], [0, 2], [0, 3]])]) (rd_move rfl) rfl ?_
  refine Wx.rd (v := .int .i64 0) (Rd.to (v := .int .i64 (countE 4 [[0, 1], [0, 2], [0, 3]])) (rd_extract rfl rfl) (congrArg (Value.int .i64) (show (0 : Int) = (countE 4 [[0, 1], [0, 2], [0, 3]] : Int) from (by decide +kernel)).symm)) rfl ?_
  refine Wx.rd (v := .int .i64 0) (Rd.to (v := .int .i64 (checkE 4 [[0, 1], [0, 2], [0, 3]])) (rd_extract rfl rfl) (congrArg (Value.int .i64) (show (0 : Int) = (checkE 4 [[0, 1], [0, 2], [0, 3]] : Int) from (by decide +kernel)).symm)) rfl ?_
  refine Wx.rd (v := .int .i64 0) (rd_assign rfl) rfl ?_
  refine Wx.rd (v := .int .i64 0) (rd_assign rfl) rfl ?_
  refine Wx.nil ?_
  refine W.seq ?_
  refine W.reg ?_
  refine Wx.callF (run_callF Try.call40 rfl) (F40 hS.fb_lt) rfl ?_
  rintro r_74 w_75 hx_76 ⟨v_77, rfl, hv_78⟩
  have ln_80 := hv_78.len63
  have hS := hS.ext hx_76
  have hS := hS.add hv_78
  refine Wx.callF (run_callF Try.call20 rfl) (F20 (in_i64 (by omega) (by omega)) (hS.v 0 rfl)) rfl ?_
  rintro r_81 w_82 hx_83 ⟨v_84, rfl, hv_85⟩
  have hS := hS.pushFr hx_83 hv_85
  refine Wx.rd (v := .tuple #[v_84, .int .i64 (firstE 4 [[1, 2]])]) (rd_move rfl) rfl ?_
  refine Wx.rd (v := v_84) (rd_extract rfl rfl) rfl ?_
  refine Wx.rd (v := .int .i64 0) (Rd.to (v := .int .i64 (firstE 4 [[1, 2]])) (rd_extract rfl rfl) (congrArg (Value.int .i64) (show (0 : Int) = (firstE 4 [[1, 2]] : Int) from (by decide +kernel)).symm)) rfl ?_
  refine Wx.rd (v := v_84) (rd_assign rfl) rfl ?_
  refine Wx.rd (v := .int .i64 0) (rd_assign rfl) rfl ?_
  refine Wx.nil ?_
  refine W.seq ?_
  refine W.reg ?_
  refine Wx.callF (run_callF Try.call41 rfl) (F41 hS.fb_lt) rfl ?_
  rintro r_87 w_88 hx_89 ⟨v_90, rfl, hv_91⟩
  have ln_93 := hv_91.len63
  have hS := hS.ext hx_89
  have hS := hS.add hv_91
  refine Wx.callF (run_callF Try.call20 rfl) (F20 (in_i64 (by omega) (by omega)) (hS.v 0 rfl)) rfl ?_
  rintro r_94 w_95 hx_96 ⟨v_97, rfl, hv_98⟩
  have hS := hS.pushFr hx_96 hv_98
  refine Wx.rd (v := .tuple #[v_97, .int .i64 (firstE 4 [[0, 1], [0, 2], [0, 3]])]) (rd_move rfl) rfl ?_
  refine Wx.rd (v := v_97) (rd_extract rfl rfl) rfl ?_
  refine Wx.rd (v := .int .i64 12) (Rd.to (v := .int .i64 (firstE 4 [[0, 1], [0, 2], [0, 3]])) (rd_extract rfl rfl) (congrArg (Value.int .i64) (show (12 : Int) = (firstE 4 [[0, 1], [0, 2], [0, 3]] : Int) from (by decide +kernel)).symm)) rfl ?_
  refine Wx.rd (v := v_97) (rd_assign rfl) rfl ?_
  refine Wx.rd (v := .int .i64 12) (rd_assign rfl) rfl ?_
  refine Wx.nil ?_
  refine W.seq ?_
  refine W.reg ?_
  refine Wx.lit (t := (tI .i64)) (ys := [0, 1]) (vs := [.int .i64 0, .int .i64 1]) elLc_28 hS rfl rfl ⟨(V.mkInt (in_i64 (by omega) (by omega))), ⟨(V.mkInt (in_i64 (by omega) (by omega))), trivial⟩⟩ (by decide) rfl (fun v_100 w_101 hx_102 hS => ?_)
  have hS := hS.freeze 0 rfl
  refine Wx.callF (run_callF Try.call39 rfl) (F39 (hS.v 0 rfl) hS.fb_lt) rfl ?_
  rintro r_104 w_105 hx_106 ⟨_, rfl, hv_107⟩
  have ln_109 := hv_107.len63
  have hS := hS.ext hx_106
  have hS := hS.add hv_107
  refine Wx.lit (t := (tI .i64)) (ys := [1, 2]) (vs := [.int .i64 1, .int .i64 2]) elLc_28 hS rfl rfl ⟨(V.mkInt (in_i64 (by omega) (by omega))), ⟨(V.mkInt (in_i64 (by omega) (by omega))), trivial⟩⟩ (by decide) rfl (fun v_110 w_111 hx_112 hS => ?_)
  have hS := hS.freeze 0 rfl
  refine Wx.callF (run_callF Try.call39 rfl) (F39 (hS.v 0 rfl) hS.fb_lt) rfl ?_
  rintro r_114 w_115 hx_116 ⟨_, rfl, hv_117⟩
  have ln_119 := hv_117.len63
  have hS := hS.ext hx_116
  have hS := hS.add hv_117
  refine Wx.lit (t := (tI .i64)) (ys := [0, 2]) (vs := [.int .i64 0, .int .i64 2]) elLc_28 hS rfl rfl ⟨(V.mkInt (in_i64 (by omega) (by omega))), ⟨(V.mkInt (in_i64 (by omega) (by omega))), trivial⟩⟩ (by decide) rfl (fun v_120 w_121 hx_122 hS => ?_)
  have hS := hS.freeze 0 rfl
  refine Wx.callF (run_callF Try.call39 rfl) (F39 (hS.v 0 rfl) hS.fb_lt) rfl ?_
  rintro r_124 w_125 hx_126 ⟨_, rfl, hv_127⟩
  have ln_129 := hv_127.len63
  have hS := hS.ext hx_126
  have hS := hS.add hv_127
  refine Wx.lit (t := (tSl (tI .i64))) (ys := [[0, 1], [1, 2], [0, 2]]) (vs := [r_104, r_114, r_124]) elLc_22 hS rfl rfl ⟨(hS.v 4 rfl), ⟨(hS.v 2 rfl), ⟨(hS.v 0 rfl), trivial⟩⟩⟩ (by decide) rfl (fun v_130 w_131 hx_132 hS => ?_)
  have hS := hS.freeze 0 rfl
  refine Wx.callF (run_callF Try.call42 rfl) (F42 (in_i64 (by omega) (by omega)) (hS.v 0 rfl) hS.fb_lt) rfl ?_
  rintro r_134 w_135 hx_136 ⟨v_137, rfl, hv_138⟩
  have ln_140 := hv_138.len63
  have hS := hS.ext hx_136
  have hS := hS.add hv_138
  refine Wx.callF (run_callF Try.call24 rfl) (F24 (in_i64 (by omega) (by omega)) (hS.v 0 rfl)) rfl ?_
  rintro r_141 w_142 hx_143 rfl
  have hS := hS.ext hx_143
  refine Wx.rd (v := .tuple #[.int .i64 ((whyT 3 [[0, 1], [1, 2], [0, 2]]).1), .int .i64 ((whyT 3 [[0, 1], [1, 2], [0, 2]]).2.1), .int .i64 ((whyT 3 [[0, 1], [1, 2], [0, 2]]).2.2), .int .i64 (whyE 3 [[0, 1], [1, 2], [0, 2]])]) (rd_move rfl) rfl ?_
  refine Wx.rd (v := .int .i64 0) (Rd.to (v := .int .i64 ((whyT 3 [[0, 1], [1, 2], [0, 2]]).1)) (rd_extract rfl rfl) (congrArg (Value.int .i64) (show (0 : Int) = ((whyT 3 [[0, 1], [1, 2], [0, 2]]).1 : Int) from (by decide +kernel)).symm)) rfl ?_
  refine Wx.rd (v := .int .i64 1) (Rd.to (v := .int .i64 ((whyT 3 [[0, 1], [1, 2], [0, 2]]).2.1)) (rd_extract rfl rfl) (congrArg (Value.int .i64) (show (1 : Int) = ((whyT 3 [[0, 1], [1, 2], [0, 2]]).2.1 : Int) from (by decide +kernel)).symm)) rfl ?_
  refine Wx.rd (v := .int .i64 2) (Rd.to (v := .int .i64 ((whyT 3 [[0, 1], [1, 2], [0, 2]]).2.2)) (rd_extract rfl rfl) (congrArg (Value.int .i64) (show (2 : Int) = ((whyT 3 [[0, 1], [1, 2], [0, 2]]).2.2 : Int) from (by decide +kernel)).symm)) rfl ?_
  refine Wx.rd (v := .int .i64 0) (Rd.to (v := .int .i64 (whyE 3 [[0, 1], [1, 2], [0, 2]])) (rd_extract rfl rfl) (congrArg (Value.int .i64) (show (0 : Int) = (whyE 3 [[0, 1], [1, 2], [0, 2]] : Int) from (by decide +kernel)).symm)) rfl ?_
  refine Wx.rd (v := .int .i64 0) (rd_assign rfl) rfl ?_
  refine Wx.rd (v := .int .i64 1) (rd_assign rfl) rfl ?_
  refine Wx.rd (v := .int .i64 2) (rd_assign rfl) rfl ?_
  refine Wx.rd (v := .int .i64 0) (rd_assign rfl) rfl ?_
  refine Wx.nil ?_
  refine W.seq ?_
  refine W.reg ?_
  refine Wx.callF (run_callF Try.call38 rfl) (F38 hS.fb_lt) rfl ?_
  rintro r_144 w_145 hx_146 ⟨v_147, rfl, hv_148⟩
  have ln_150 := hv_148.len63
  have hS := hS.ext hx_146
  have hS := hS.add hv_148
  refine Wx.callF (run_callF Try.call28 rfl) (F28 (in_i64 (by omega) (by omega)) (hS.v 0 rfl) hS.fb_lt) rfl ?_
  rintro r_151 w_152 hx_153 ⟨v_154, rfl, hv_155⟩
  have ln_157 := hv_155.len63
  have hS := hS.ext hx_153
  have hS := hS.add hv_155
  refine Wx.rd (v := .tuple #[v_154, .int .i64 (checkE 4 [[0, 1], [1, 2], [2, 3]])]) (rd_move rfl) rfl ?_
  refine Wx.rd (v := v_154) (rd_extract rfl rfl) rfl ?_
  refine Wx.rd (v := .int .i64 0) (Rd.to (v := .int .i64 (checkE 4 [[0, 1], [1, 2], [2, 3]])) (rd_extract rfl rfl) (congrArg (Value.int .i64) (show (0 : Int) = (checkE 4 [[0, 1], [1, 2], [2, 3]] : Int) from (by decide +kernel)).symm)) rfl ?_
  refine Wx.rd (v := v_154) (rd_assign rfl) rfl ?_
  refine Wx.rd (v := .int .i64 0) (rd_assign rfl) rfl ?_
  refine Wx.nil ?_
  refine W.seq ?_
  refine W.reg ?_
  refine Wx.rd (v := .int .i64 5) (rd_move rfl) rfl ?_
  refine Wx.rd (v := .bool true) (Rd.to (v := .bool (decide ((5 : Int) = 5))) (rd_eql rfl rfl) (congrArg (Value.bool) (show (true : Bool) = (decide ((5 : Int) = 5) : Bool) from (by decide +kernel)).symm)) rfl ?_
  refine Wx.rd (v := .bool true) (rd_move rfl) rfl ?_
  refine Wx.gyes rfl rfl rfl ?_
  refine Wx.rd (v := .int .i64 6) (rd_move rfl) rfl ?_
  refine Wx.gyes rfl rfl rfl ?_
  refine Wx.rd (v := .bool true) (Rd.to (v := .bool (decide ((6 : Int) = 6))) (rd_eql rfl rfl) (congrArg (Value.bool) (show (true : Bool) = (decide ((6 : Int) = 6) : Bool) from (by decide +kernel)).symm)) rfl ?_
  refine Wx.rd (v := .bool true) (rd_pickT rfl rfl) rfl ?_
  refine Wx.rd (v := .bool true) (rd_move rfl) rfl ?_
  refine Wx.gyes rfl rfl rfl ?_
  refine Wx.rd (v := .int .i64 0) (rd_move rfl) rfl ?_
  refine Wx.gyes rfl rfl rfl ?_
  refine Wx.rd (v := .bool true) (Rd.to (v := .bool (decide ((0 : Int) = 0))) (rd_eql rfl rfl) (congrArg (Value.bool) (show (true : Bool) = (decide ((0 : Int) = 0) : Bool) from (by decide +kernel)).symm)) rfl ?_
  refine Wx.rd (v := .bool true) (rd_pickT rfl rfl) rfl ?_
  refine Wx.rd (v := .bool true) (rd_move rfl) rfl ?_
  refine Wx.gyes rfl rfl rfl ?_
  refine Wx.rd (v := .int .i64 0) (rd_move rfl) rfl ?_
  refine Wx.gyes rfl rfl rfl ?_
  refine Wx.rd (v := .bool true) (Rd.to (v := .bool (decide ((0 : Int) = 0))) (rd_eql rfl rfl) (congrArg (Value.bool) (show (true : Bool) = (decide ((0 : Int) = 0) : Bool) from (by decide +kernel)).symm)) rfl ?_
  refine Wx.rd (v := .bool true) (rd_pickT rfl rfl) rfl ?_
  refine Wx.rd (v := .bool true) (rd_move rfl) rfl ?_
  refine Wx.gyes rfl rfl rfl ?_
  refine Wx.rd (v := .int .i64 0) (rd_move rfl) rfl ?_
  refine Wx.gyes rfl rfl rfl ?_
  refine Wx.rd (v := .bool true) (Rd.to (v := .bool (decide ((0 : Int) = 0))) (rd_eql rfl rfl) (congrArg (Value.bool) (show (true : Bool) = (decide ((0 : Int) = 0) : Bool) from (by decide +kernel)).symm)) rfl ?_
  refine Wx.rd (v := .bool true) (rd_pickT rfl rfl) rfl ?_
  refine Wx.rd (v := .bool true) (rd_move rfl) rfl ?_
  refine Wx.gyes rfl rfl rfl ?_
  refine Wx.rd (v := .int .i64 0) (rd_move rfl) rfl ?_
  refine Wx.gyes rfl rfl rfl ?_
  refine Wx.rd (v := .bool true) (Rd.to (v := .bool (decide ((0 : Int) = 0))) (rd_eql rfl rfl) (congrArg (Value.bool) (show (true : Bool) = (decide ((0 : Int) = 0) : Bool) from (by decide +kernel)).symm)) rfl ?_
  refine Wx.rd (v := .bool true) (rd_pickT rfl rfl) rfl ?_
  refine Wx.rd (v := .bool true) (rd_move rfl) rfl ?_
  refine Wx.gyes rfl rfl rfl ?_
  refine Wx.rd (v := .int .i64 12) (rd_move rfl) rfl ?_
  refine Wx.gyes rfl rfl rfl ?_
  refine Wx.rd (v := .bool true) (Rd.to (v := .bool (decide ((12 : Int) = 12))) (rd_eql rfl rfl) (congrArg (Value.bool) (show (true : Bool) = (decide ((12 : Int) = 12) : Bool) from (by decide +kernel)).symm)) rfl ?_
  refine Wx.rd (v := .bool true) (rd_pickT rfl rfl) rfl ?_
  refine Wx.rd (v := .bool true) (rd_move rfl) rfl ?_
  refine Wx.gyes rfl rfl rfl ?_
  refine Wx.rd (v := .int .i64 0) (rd_move rfl) rfl ?_
  refine Wx.gyes rfl rfl rfl ?_
  refine Wx.rd (v := .bool true) (Rd.to (v := .bool (decide ((0 : Int) = 0))) (rd_eql rfl rfl) (congrArg (Value.bool) (show (true : Bool) = (decide ((0 : Int) = 0) : Bool) from (by decide +kernel)).symm)) rfl ?_
  refine Wx.rd (v := .bool true) (rd_pickT rfl rfl) rfl ?_
  refine Wx.rd (v := .bool true) (rd_move rfl) rfl ?_
  refine Wx.gyes rfl rfl rfl ?_
  refine Wx.rd (v := .int .i64 0) (rd_move rfl) rfl ?_
  refine Wx.gyes rfl rfl rfl ?_
  refine Wx.rd (v := .bool true) (Rd.to (v := .bool (decide ((0 : Int) = 0))) (rd_eql rfl rfl) (congrArg (Value.bool) (show (true : Bool) = (decide ((0 : Int) = 0) : Bool) from (by decide +kernel)).symm)) rfl ?_
  refine Wx.rd (v := .bool true) (rd_pickT rfl rfl) rfl ?_
  refine Wx.rd (v := .bool true) (rd_move rfl) rfl ?_
  refine Wx.gyes rfl rfl rfl ?_
  refine Wx.rd (v := v_51) (rd_move rfl) rfl ?_
  refine Wx.gyes rfl rfl rfl ?_
  refine Wx.lit (t := (tI .i64)) (ys := [0, 1, 2, 3]) (vs := [.int .i64 0, .int .i64 1, .int .i64 2, .int .i64 3]) elLc_28 hS rfl rfl ⟨(V.mkInt (in_i64 (by omega) (by omega))), ⟨(V.mkInt (in_i64 (by omega) (by omega))), ⟨(V.mkInt (in_i64 (by omega) (by omega))), ⟨(V.mkInt (in_i64 (by omega) (by omega))), trivial⟩⟩⟩⟩ (by decide) rfl (fun v_158 w_159 hx_160 hS => ?_)
  refine Wx.gyes rfl rfl rfl ?_
  have hS := hS.freeze 0 rfl
  refine Wx.callF (run_callF Try.call39 rfl) (F39 (hS.v 0 rfl) hS.fb_lt) rfl ?_
  rintro r_162 w_163 hx_164 ⟨_, rfl, hv_165⟩
  have ln_167 := hv_165.len63
  have hS := hS.ext hx_164
  have hS := hS.add hv_165
  refine Wx.gyes rfl rfl rfl ?_
  refine Wx.callF (run_callF Try.call22 rfl) (F22 (hS.lend 18 rfl) (hS.v 0 rfl)) rfl ?_
  rintro r_168 w_169 hx_170 rfl
  have hS := hS.ext hx_170
  rw [show (decide ((firstL 4 [[1, 2]]) = [0, 1, 2, 3]) : Bool) = true from (by decide +kernel)]
  refine Wx.rd (v := .bool true) (rd_pickT rfl rfl) rfl ?_
  refine Wx.rd (v := .bool true) (rd_move rfl) rfl ?_
  refine Wx.gyes rfl rfl rfl ?_
  refine Wx.rd (v := .int .i64 2) (rd_move rfl) rfl ?_
  refine Wx.gyes rfl rfl rfl ?_
  refine Wx.rd (v := .bool true) (Rd.to (v := .bool (decide ((2 : Int) = 2))) (rd_eql rfl rfl) (congrArg (Value.bool) (show (true : Bool) = (decide ((2 : Int) = 2) : Bool) from (by decide +kernel)).symm)) rfl ?_
  refine Wx.rd (v := .bool true) (rd_pickT rfl rfl) rfl ?_
  refine Wx.rd (v := .bool true) (rd_move rfl) rfl ?_
  refine Wx.gyes rfl rfl rfl ?_
  refine Wx.rd (v := .int .i64 0) (rd_move rfl) rfl ?_
  refine Wx.gyes rfl rfl rfl ?_
  refine Wx.rd (v := .bool true) (Rd.to (v := .bool (decide ((0 : Int) = 0))) (rd_eql rfl rfl) (congrArg (Value.bool) (show (true : Bool) = (decide ((0 : Int) = 0) : Bool) from (by decide +kernel)).symm)) rfl ?_
  refine Wx.rd (v := .bool true) (rd_pickT rfl rfl) rfl ?_
  refine Wx.rd (v := .bool true) (rd_move rfl) rfl ?_
  refine Wx.gyes rfl rfl rfl ?_
  refine Wx.rd (v := v_84) (rd_move rfl) rfl ?_
  refine Wx.gyes rfl rfl rfl ?_
  refine Wx.rd (v := .agg #[.int .i64 1, .int .i64 2]) (rd_build (vs := [(0, .int .i64 1), (1, .int .i64 2)]) rfl (by kernel_rfl)) rfl ?_
  refine Wx.gyes rfl rfl rfl ?_
  refine Wx.lit (t := (tP (tI .i64) (tI .i64))) (ys := [(1, 2)]) (vs := [.agg #[.int .i64 1, .int .i64 2]]) elLc_36 hS rfl rfl ⟨(V.mk2 (in_i64 (by omega) (by omega)) (in_i64 (by omega) (by omega))), trivial⟩ (by decide) rfl (fun v_171 w_172 hx_173 hS => ?_)
  refine Wx.gyes rfl rfl rfl ?_
  refine Wx.callF (run_callF Try.call23 rfl) (F23 (hS.lend 15 rfl) (hS.lend 0 rfl)) rfl ?_
  rintro r_174 w_175 hx_176 rfl
  have hS := hS.ext hx_176
  rw [show (decide ((besideL 4 [[1, 2]]) = [(1, 2)]) : Bool) = true from (by decide +kernel)]
  refine Wx.rd (v := .bool true) (rd_pickT rfl rfl) rfl ?_
  refine Wx.rd (v := .bool true) (rd_move rfl) rfl ?_
  refine Wx.gyes rfl rfl rfl ?_
  refine Wx.rd (v := .int .i64 0) (rd_move rfl) rfl ?_
  refine Wx.gyes rfl rfl rfl ?_
  refine Wx.rd (v := .bool true) (Rd.to (v := .bool (decide ((0 : Int) = 0))) (rd_eql rfl rfl) (congrArg (Value.bool) (show (true : Bool) = (decide ((0 : Int) = 0) : Bool) from (by decide +kernel)).symm)) rfl ?_
  refine Wx.rd (v := .bool true) (rd_pickT rfl rfl) rfl ?_
  refine Wx.rd (v := .bool true) (rd_move rfl) rfl ?_
  refine Wx.gyes rfl rfl rfl ?_
  refine Wx.rd (v := .int .i64 1) (rd_move rfl) rfl ?_
  refine Wx.gyes rfl rfl rfl ?_
  refine Wx.rd (v := .bool true) (Rd.to (v := .bool (decide ((1 : Int) = 1))) (rd_eql rfl rfl) (congrArg (Value.bool) (show (true : Bool) = (decide ((1 : Int) = 1) : Bool) from (by decide +kernel)).symm)) rfl ?_
  refine Wx.rd (v := .bool true) (rd_pickT rfl rfl) rfl ?_
  refine Wx.rd (v := .bool true) (rd_move rfl) rfl ?_
  refine Wx.gyes rfl rfl rfl ?_
  refine Wx.rd (v := .int .i64 2) (rd_move rfl) rfl ?_
  refine Wx.gyes rfl rfl rfl ?_
  refine Wx.rd (v := .bool true) (Rd.to (v := .bool (decide ((2 : Int) = 2))) (rd_eql rfl rfl) (congrArg (Value.bool) (show (true : Bool) = (decide ((2 : Int) = 2) : Bool) from (by decide +kernel)).symm)) rfl ?_
  refine Wx.rd (v := .bool true) (rd_pickT rfl rfl) rfl ?_
  refine Wx.rd (v := .bool true) (rd_move rfl) rfl ?_
  refine Wx.gyes rfl rfl rfl ?_
  refine Wx.rd (v := v_154) (rd_move rfl) rfl ?_
  refine Wx.gyes rfl rfl rfl ?_
  refine Wx.rd (v := .int .i64 ((fewestL 4 [[0, 1], [1, 2], [2, 3]]).length : Int)) (rd_lenV rfl (hS.v 3 rfl) Try.underlying28) rfl ?_
  refine Wx.gyes rfl rfl rfl ?_
  refine Wx.rd (v := .bool true) (Rd.to (v := .bool (decide (((fewestL 4 [[0, 1], [1, 2], [2, 3]]).length : Int) = 0))) (rd_eql rfl rfl) (congrArg (Value.bool) (show (true : Bool) = (decide (((fewestL 4 [[0, 1], [1, 2], [2, 3]]).length : Int) = 0) : Bool) from (by decide +kernel)).symm)) rfl ?_
  refine Wx.rd (v := .bool true) (rd_pickT rfl rfl) rfl ?_
  refine Wx.rd (v := .bool true) (rd_move rfl) rfl ?_
  refine Wx.gyes rfl rfl rfl ?_
  refine Wx.callF (run_callF Try.call41 rfl) (F41 hS.fb_lt) rfl ?_
  rintro r_177 w_178 hx_179 ⟨v_180, rfl, hv_181⟩
  have ln_183 := hv_181.len63
  have hS := hS.ext hx_179
  have hS := hS.add hv_181
  refine Wx.gyes rfl rfl rfl ?_
  refine Wx.callF (run_callF Try.call26 rfl) (F26 (in_i64 (by omega) (by omega)) (hS.v 0 rfl) (in_i64 (by omega) (by omega)) (in_i64 (by omega) (by omega)) (in_i64 (by omega) (by omega))) rfl ?_
  rintro r_184 w_185 hx_186 rfl
  have hS := hS.ext hx_186
  refine Wx.gyes rfl rfl rfl ?_
  refine Wx.rd (v := .bool true) (Rd.to (v := .bool (decide ((provesE 4 [[0, 1], [0, 2], [0, 3]] 1 1 2) = 6))) (rd_eql rfl rfl) (congrArg (Value.bool) (show (true : Bool) = (decide ((provesE 4 [[0, 1], [0, 2], [0, 3]] 1 1 2) = 6) : Bool) from (by decide +kernel)).symm)) rfl ?_
  refine Wx.rd (v := .bool true) (rd_pickT rfl rfl) rfl ?_
  refine Wx.rd (v := .bool true) (rd_move rfl) rfl ?_
  refine Wx.gyes rfl rfl rfl ?_
  refine Wx.callF (run_callF Try.call41 rfl) (F41 hS.fb_lt) rfl ?_
  rintro r_187 w_188 hx_189 ⟨v_190, rfl, hv_191⟩
  have ln_193 := hv_191.len63
  have hS := hS.ext hx_189
  have hS := hS.add hv_191
  refine Wx.gyes rfl rfl rfl ?_
  refine Wx.callF (run_callF Try.call26 rfl) (F26 (in_i64 (by omega) (by omega)) (hS.v 0 rfl) (in_i64 (by omega) (by omega)) (in_i64 (by omega) (by omega)) (in_i64 (by omega) (by omega))) rfl ?_
  rintro r_194 w_195 hx_196 rfl
  have hS := hS.ext hx_196
  refine Wx.gyes rfl rfl rfl ?_
  refine Wx.rd (v := .bool true) (Rd.to (v := .bool (decide ((provesE 4 [[0, 1], [0, 2], [0, 3]] 1 2 4) = 2))) (rd_eql rfl rfl) (congrArg (Value.bool) (show (true : Bool) = (decide ((provesE 4 [[0, 1], [0, 2], [0, 3]] 1 2 4) = 2) : Bool) from (by decide +kernel)).symm)) rfl ?_
  refine Wx.rd (v := .bool true) (rd_pickT rfl rfl) rfl ?_
  refine Wx.rd (v := .bool true) (rd_move rfl) rfl ?_
  refine Wx.gyes rfl rfl rfl ?_
  refine Wx.callF (run_callF Try.call42 rfl) (F42 (in_i64 (by omega) (by omega)) (V.nil (t := (tSl (tI .i64)))) hS.fb_lt) rfl ?_
  rintro r_197 w_198 hx_199 ⟨v_200, rfl, hv_201⟩
  have ln_203 := hv_201.len63
  have hS := hS.ext hx_199
  have hS := hS.add hv_201
  refine Wx.gyes rfl rfl rfl ?_
  refine Wx.callF (run_callF Try.call36 rfl) (F36 (in_i64 (by omega) (by omega)) (hS.v 0 rfl)) rfl ?_
  rintro r_204 w_205 hx_206 rfl
  have hS := hS.ext hx_206
  refine Wx.gyes rfl rfl rfl ?_
  refine Wx.rd (v := .bool true) (Rd.to (v := .bool (decide ((checkE 8 ([] : List (List Int))) = 1))) (rd_eql rfl rfl) (congrArg (Value.bool) (show (true : Bool) = (decide ((checkE 8 ([] : List (List Int))) = 1) : Bool) from (by decide +kernel)).symm)) rfl ?_
  refine Wx.rd (v := .bool true) (rd_pickT rfl rfl) rfl ?_
  refine Wx.rd (v := .bool true) (rd_move rfl) rfl ?_
  refine Wx.gyes rfl rfl rfl ?_
  refine Wx.lit (t := (tSl (tI .i64))) (ys := [[]]) (vs := [(.slice none 0 0)]) elLc_22 hS rfl rfl ⟨(V.nil (t := (tI .i64))), trivial⟩ (by decide) rfl (fun v_207 w_208 hx_209 hS => ?_)
  refine Wx.gyes rfl rfl rfl ?_
  have hS := hS.freeze 0 rfl
  refine Wx.callF (run_callF Try.call42 rfl) (F42 (in_i64 (by omega) (by omega)) (hS.v 0 rfl) hS.fb_lt) rfl ?_
  rintro r_211 w_212 hx_213 ⟨v_214, rfl, hv_215⟩
  have ln_217 := hv_215.len63
  have hS := hS.ext hx_213
  have hS := hS.add hv_215
  refine Wx.gyes rfl rfl rfl ?_
  refine Wx.callF (run_callF Try.call36 rfl) (F36 (in_i64 (by omega) (by omega)) (hS.v 0 rfl)) rfl ?_
  rintro r_218 w_219 hx_220 rfl
  have hS := hS.ext hx_220
  refine Wx.gyes rfl rfl rfl ?_
  refine Wx.rd (v := .bool true) (Rd.to (v := .bool (decide ((checkE 2 [[]]) = 4))) (rd_eql rfl rfl) (congrArg (Value.bool) (show (true : Bool) = (decide ((checkE 2 [[]]) = 4) : Bool) from (by decide +kernel)).symm)) rfl ?_
  refine Wx.rd (v := .bool true) (rd_pickT rfl rfl) rfl ?_
  refine Wx.rd (v := .bool true) (rd_move rfl) rfl ?_
  refine Wx.gyes rfl rfl rfl ?_
  refine Wx.lit (t := (tI .i64)) (ys := [0, 2]) (vs := [.int .i64 0, .int .i64 2]) elLc_28 hS rfl rfl ⟨(V.mkInt (in_i64 (by omega) (by omega))), ⟨(V.mkInt (in_i64 (by omega) (by omega))), trivial⟩⟩ (by decide) rfl (fun v_221 w_222 hx_223 hS => ?_)
  refine Wx.gyes rfl rfl rfl ?_
  have hS := hS.freeze 0 rfl
  refine Wx.callF (run_callF Try.call39 rfl) (F39 (hS.v 0 rfl) hS.fb_lt) rfl ?_
  rintro r_225 w_226 hx_227 ⟨_, rfl, hv_228⟩
  have ln_230 := hv_228.len63
  have hS := hS.ext hx_227
  have hS := hS.add hv_228
  refine Wx.gyes rfl rfl rfl ?_
  refine Wx.lit (t := (tSl (tI .i64))) (ys := [[0, 2]]) (vs := [r_225]) elLc_22 hS rfl rfl ⟨(hS.v 0 rfl), trivial⟩ (by decide) rfl (fun v_231 w_232 hx_233 hS => ?_)
  refine Wx.gyes rfl rfl rfl ?_
  have hS := hS.freeze 0 rfl
  refine Wx.callF (run_callF Try.call42 rfl) (F42 (in_i64 (by omega) (by omega)) (hS.v 0 rfl) hS.fb_lt) rfl ?_
  rintro r_235 w_236 hx_237 ⟨v_238, rfl, hv_239⟩
  have ln_241 := hv_239.len63
  have hS := hS.ext hx_237
  have hS := hS.add hv_239
  refine Wx.gyes rfl rfl rfl ?_
  refine Wx.callF (run_callF Try.call36 rfl) (F36 (in_i64 (by omega) (by omega)) (hS.v 0 rfl)) rfl ?_
  rintro r_242 w_243 hx_244 rfl
  have hS := hS.ext hx_244
  refine Wx.gyes rfl rfl rfl ?_
  refine Wx.rd (v := .bool true) (Rd.to (v := .bool (decide ((checkE 2 [[0, 2]]) = 2))) (rd_eql rfl rfl) (congrArg (Value.bool) (show (true : Bool) = (decide ((checkE 2 [[0, 2]]) = 2) : Bool) from (by decide +kernel)).symm)) rfl ?_
  refine Wx.rd (v := .bool true) (rd_pickT rfl rfl) rfl ?_
  refine Wx.rd (v := .bool true) (rd_move rfl) rfl ?_
  refine Wx.gyes rfl rfl rfl ?_
  refine Wx.lit (t := (tI .i64)) (ys := [1, 0]) (vs := [.int .i64 1, .int .i64 0]) elLc_28 hS rfl rfl ⟨(V.mkInt (in_i64 (by omega) (by omega))), ⟨(V.mkInt (in_i64 (by omega) (by omega))), trivial⟩⟩ (by decide) rfl (fun v_245 w_246 hx_247 hS => ?_)
  refine Wx.gyes rfl rfl rfl ?_
  have hS := hS.freeze 0 rfl
  refine Wx.callF (run_callF Try.call39 rfl) (F39 (hS.v 0 rfl) hS.fb_lt) rfl ?_
  rintro r_249 w_250 hx_251 ⟨_, rfl, hv_252⟩
  have ln_254 := hv_252.len63
  have hS := hS.ext hx_251
  have hS := hS.add hv_252
  refine Wx.gyes rfl rfl rfl ?_
  refine Wx.lit (t := (tSl (tI .i64))) (ys := [[1, 0]]) (vs := [r_249]) elLc_22 hS rfl rfl ⟨(hS.v 0 rfl), trivial⟩ (by decide) rfl (fun v_255 w_256 hx_257 hS => ?_)
  refine Wx.gyes rfl rfl rfl ?_
  have hS := hS.freeze 0 rfl
  refine Wx.callF (run_callF Try.call42 rfl) (F42 (in_i64 (by omega) (by omega)) (hS.v 0 rfl) hS.fb_lt) rfl ?_
  rintro r_259 w_260 hx_261 ⟨v_262, rfl, hv_263⟩
  have ln_265 := hv_263.len63
  have hS := hS.ext hx_261
  have hS := hS.add hv_263
  refine Wx.gyes rfl rfl rfl ?_
  refine Wx.callF (run_callF Try.call36 rfl) (F36 (in_i64 (by omega) (by omega)) (hS.v 0 rfl)) rfl ?_
  rintro r_266 w_267 hx_268 rfl
  have hS := hS.ext hx_268
  refine Wx.gyes rfl rfl rfl ?_
  refine Wx.rd (v := .bool true) (Rd.to (v := .bool (decide ((checkE 2 [[1, 0]]) = 7))) (rd_eql rfl rfl) (congrArg (Value.bool) (show (true : Bool) = (decide ((checkE 2 [[1, 0]]) = 7) : Bool) from (by decide +kernel)).symm)) rfl ?_
  refine Wx.rd (v := .bool true) (rd_pickT rfl rfl) rfl ?_
  refine Wx.rd (v := .bool true) (rd_move rfl) rfl ?_
  refine Wx.gyes rfl rfl rfl ?_
  refine Wx.callF (run_callF Try.call15 rfl) (F15) rfl ?_
  rintro r_269 w_270 hx_271 rfl
  have hS := hS.ext hx_271
  refine Wx.rd (v := .bool true) (rd_pickT rfl rfl) rfl ?_
  refine Wx.rd (v := .bool true) (rd_assign rfl) rfl ?_
  refine Wx.nil ?_
  exact W.ret ⟨.bool true, ResIs.one, hS.bel, rfl⟩
end Go.Proofs.Ytjmpojoimcljoaa
