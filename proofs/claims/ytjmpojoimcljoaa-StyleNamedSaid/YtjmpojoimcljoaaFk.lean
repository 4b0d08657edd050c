/-
  WHAT IS PROVED HERE: what functions of layer 3 hand back, each out of its own code; the conditions stand in each statement.
-/
import Derived.Test.YtjmpojoimcljoaaProg
import Derived.Test.YtjmpojoimcljoaaWk9
import Derived.Test.YtjmpojoimcljoaaSpec6
import Derived.Test.YtjmpojoimcljoaaFa
import Derived.Test.YtjmpojoimcljoaaFb
import Derived.Test.YtjmpojoimcljoaaFc
import Derived.Test.YtjmpojoimcljoaaFe
import Derived.Test.YtjmpojoimcljoaaFf
import Derived.Test.YtjmpojoimcljoaaFg
import Derived.Test.YtjmpojoimcljoaaFh
import Derived.Test.YtjmpojoimcljoaaFi
import Derived.Test.YtjmpojoimcljoaaFj
namespace Go.Proofs.Ytjmpojoimcljoaa
open Go.Wk Go.RowKit
set_option linter.unusedVariables false
set_option linter.unusedSimpArgs false
theorem elFk_28 : ElemI Try.prog 28 3 (.int .i64 0) 1 8 := ElemI.of Try.underlying28 (by kernel_rfl) (by first | rfl | kernel_rfl) (by decide)
theorem elFk_36 : ElemI Try.prog 36 61 (.agg #[.int .i64 0, .int .i64 0]) 2 16 := ElemI.of Try.underlying36 (by kernel_rfl) (by first | rfl | kernel_rfl) (by decide)

theorem F15  {w : World}  : Calls Try.prog 15 #[] w (Ret w (fun r _ => r = .bool true)) := by
  have hS := St.start0 w
  refine enterR Try.func15 rfl Try.ntmps15 Try.results15 rfl ?_
  refine W.seq ?_
  refine W.reg ?_
  refine Wx.rd (v := .bool false) (rd_assign rfl) rfl ?_
  refine Wx.nil ?_
  refine W.seq ?_
  refine W.reg ?_
  refine Wx.callF (run_callF Try.call38 rfl) (F38 hS.fb_lt) rfl ?_
  rintro r_1 w_2 hx_3 ⟨v_4, rfl, hv_5⟩
  have ln_7 := hv_5.len63
  have hS := hS.ext hx_3
  have hS := hS.add hv_5
  refine Wx.lit (t := (tI .i64)) (ys := [3, 2, 1, 0]) (vs := [.int .i64 3, .int .i64 2, .int .i64 1, .int .i64 0]) elFk_28 hS rfl rfl ⟨(V.mkInt (in_i64 (by omega) (by omega))), ⟨(V.mkInt (in_i64 (by omega) (by omega))), ⟨(V.mkInt (in_i64 (by omega) (by omega))), ⟨(V.mkInt (in_i64 (by omega) (by omega))), trivial⟩⟩⟩⟩ (by decide) rfl (fun v_8 w_9 hx_10 hS => ?_)
  have hS := hS.freeze 0 rfl
  refine Wx.callF (run_callF Try.call39 rfl) (F39 (hS.v 0 rfl) hS.fb_lt) rfl ?_
  rintro r_12 w_13 hx_14 ⟨_, rfl, hv_15⟩
  have ln_17 := hv_15.len63
  have hS := hS.ext hx_14
  have hS := hS.add hv_15
  refine Wx.callF (run_callF Try.call30 rfl) (F30 (in_i64 (by omega) (by omega)) (hS.v 2 rfl) (hS.v 0 rfl)) rfl ?_
  rintro r_18 w_19 hx_20 rfl
  have hS := hS.ext hx_20
  refine Wx.rd (v := .tuple #[.bool (decide (shownE 4 [[0, 1], [1, 2], [2, 3]] [3, 2, 1, 0] = 0) && decide (gapsE 4 [[0, 1], [1, 2], [2, 3]] [3, 2, 1, 0] = 0)), .int .i64 (shownE 4 [[0, 1], [1, 2], [2, 3]] [3, 2, 1, 0])]) (rd_move rfl) rfl ?_
  refine Wx.rd (v := .bool true) (Rd.to (v := .bool (decide (shownE 4 [[0, 1], [1, 2], [2, 3]] [3, 2, 1, 0] = 0) && decide (gapsE 4 [[0, 1], [1, 2], [2, 3]] [3, 2, 1, 0] = 0))) (rd_extract rfl rfl) (congrArg (Value.bool) (show (true : Bool) = (decide (shownE 4 [[0, 1], [1, 2], [2, 3]] [3, 2, 1, 0] = 0) && decide (gapsE 4 [[0, 1], [1, 2], [2, 3]] [3, 2, 1, 0] = 0) : Bool) from (by decide +kernel)).symm)) rfl ?_
  refine Wx.rd (v := .int .i64 0) (Rd.to (v := .int .i64 (shownE 4 [[0, 1], [1, 2], [2, 3]] [3, 2, 1, 0])) (rd_extract rfl rfl) (congrArg (Value.int .i64) (show (0 : Int) = (shownE 4 [[0, 1], [1, 2], [2, 3]] [3, 2, 1, 0] : Int) from (by decide +kernel)).symm)) rfl ?_
  refine Wx.rd (v := .bool true) (rd_assign rfl) rfl ?_
  refine Wx.rd (v := .int .i64 0) (rd_assign rfl) rfl ?_
  refine Wx.nil ?_
  refine W.seq ?_
  refine W.reg ?_
  refine Wx.callF (run_callF Try.call38 rfl) (F38 hS.fb_lt) rfl ?_
  rintro r_21 w_22 hx_23 ⟨v_24, rfl, hv_25⟩
  have ln_27 := hv_25.len63
  have hS := hS.ext hx_23
  have hS := hS.add hv_25
  refine Wx.lit (t := (tI .i64)) (ys := [0, 2, 1, 3]) (vs := [.int .i64 0, .int .i64 2, .int .i64 1, .int .i64 3]) elFk_28 hS rfl rfl ⟨(V.mkInt (in_i64 (by omega) (by omega))), ⟨(V.mkInt (in_i64 (by omega) (by omega))), ⟨(V.mkInt (in_i64 (by omega) (by omega))), ⟨(V.mkInt (in_i64 (by omega) (by omega))), trivial⟩⟩⟩⟩ (by decide) rfl (fun v_28 w_29 hx_30 hS => ?_)
  have hS := hS.freeze 0 rfl
  refine Wx.callF (run_callF Try.call39 rfl) (F39 (hS.v 0 rfl) hS.fb_lt) rfl ?_
  rintro r_32 w_33 hx_34 ⟨_, rfl, hv_35⟩
  have ln_37 := hv_35.len63
  have hS := hS.ext hx_34
  have hS := hS.add hv_35
  refine Wx.callF (run_callF Try.call32 rfl) (F32 (in_i64 (by omega) (by omega)) (hS.v 2 rfl) (hS.v 0 rfl)) rfl ?_
  rintro r_38 w_39 hx_40 rfl
  have hS := hS.ext hx_40
  refine Wx.rd (v := .tuple #[.int .i64 (gapsE 4 [[0, 1], [1, 2], [2, 3]] [0, 2, 1, 3]), .int .i64 (shownE 4 [[0, 1], [1, 2], [2, 3]] [0, 2, 1, 3])]) (rd_move rfl) rfl ?_
  refine Wx.rd (v := .int .i64 2) (Rd.to (v := .int .i64 (gapsE 4 [[0, 1], [1, 2], [2, 3]] [0, 2, 1, 3])) (rd_extract rfl rfl) (congrArg (Value.int .i64) (show (2 : Int) = (gapsE 4 [[0, 1], [1, 2], [2, 3]] [0, 2, 1, 3] : Int) from (by decide +kernel)).symm)) rfl ?_
  refine Wx.rd (v := .int .i64 0) (Rd.to (v := .int .i64 (shownE 4 [[0, 1], [1, 2], [2, 3]] [0, 2, 1, 3])) (rd_extract rfl rfl) (congrArg (Value.int .i64) (show (0 : Int) = (shownE 4 [[0, 1], [1, 2], [2, 3]] [0, 2, 1, 3] : Int) from (by decide +kernel)).symm)) rfl ?_
  refine Wx.rd (v := .int .i64 2) (rd_assign rfl) rfl ?_
  refine Wx.rd (v := .int .i64 0) (rd_assign rfl) rfl ?_
  refine Wx.nil ?_
  refine W.seq ?_
  refine W.reg ?_
  refine Wx.callF (run_callF Try.call38 rfl) (F38 hS.fb_lt) rfl ?_
  rintro r_41 w_42 hx_43 ⟨v_44, rfl, hv_45⟩
  have ln_47 := hv_45.len63
  have hS := hS.ext hx_43
  have hS := hS.add hv_45
  refine Wx.lit (t := (tI .i64)) (ys := [3, 2, 1, 0]) (vs := [.int .i64 3, .int .i64 2, .int .i64 1, .int .i64 0]) elFk_28 hS rfl rfl ⟨(V.mkInt (in_i64 (by omega) (by omega))), ⟨(V.mkInt (in_i64 (by omega) (by omega))), ⟨(V.mkInt (in_i64 (by omega) (by omega))), ⟨(V.mkInt (in_i64 (by omega) (by omega))), trivial⟩⟩⟩⟩ (by decide) rfl (fun v_48 w_49 hx_50 hS => ?_)
  have hS := hS.freeze 0 rfl
  refine Wx.callF (run_callF Try.call39 rfl) (F39 (hS.v 0 rfl) hS.fb_lt) rfl ?_
  rintro r_52 w_53 hx_54 ⟨_, rfl, hv_55⟩
  have ln_57 := hv_55.len63
  have hS := hS.ext hx_54
  have hS := hS.add hv_55
  refine Wx.callF (run_callF Try.call34 rfl) (F34 (in_i64 (by omega) (by omega)) (hS.v 2 rfl) (hS.v 0 rfl)) rfl ?_
  rintro r_58 w_59 hx_60 ⟨v_61, rfl, hv_62⟩
  have hS := hS.pushFr hx_60 hv_62
  refine Wx.rd (v := .tuple #[v_61, .int .i64 (shownE 4 [[0, 1], [1, 2], [2, 3]] [3, 2, 1, 0])]) (rd_move rfl) rfl ?_
  refine Wx.rd (v := v_61) (rd_extract rfl rfl) rfl ?_
  refine Wx.rd (v := .int .i64 0) (Rd.to (v := .int .i64 (shownE 4 [[0, 1], [1, 2], [2, 3]] [3, 2, 1, 0])) (rd_extract rfl rfl) (congrArg (Value.int .i64) (show (0 : Int) = (shownE 4 [[0, 1], [1, 2], [2, 3]] [3, 2, 1, 0] : Int) from (by decide +kernel)).symm)) rfl ?_
  refine Wx.rd (v := v_61) (rd_assign rfl) rfl ?_
  refine Wx.rd (v := .int .i64 0) (rd_assign rfl) rfl ?_
  refine Wx.nil ?_
  refine W.seq ?_
  refine W.reg ?_
  refine Wx.callF (run_callF Try.call38 rfl) (F38 hS.fb_lt) rfl ?_
  rintro r_64 w_65 hx_66 ⟨v_67, rfl, hv_68⟩
  have ln_70 := hv_68.len63
  have hS := hS.ext hx_66
  have hS := hS.add hv_68
  refine Wx.callF (run_callF Try.call16 rfl) (F16 (in_i64 (by omega) (by omega)) (hS.v 0 rfl)) rfl ?_
  rintro r_71 w_72 hx_73 ⟨v_74, rfl, hv_75⟩
  have hS := hS.pushFr hx_73 hv_75
  refine Wx.rd (v := .tuple #[v_74, .int .i64 (firstE 4 [[0, 1], [1, 2], [2, 3]])]) (rd_move rfl) rfl ?_
  refine Wx.rd (v := v_74) (rd_extract rfl rfl) rfl ?_
  refine Wx.rd (v := .int .i64 0) (Rd.to (v := .int .i64 (firstE 4 [[0, 1], [1, 2], [2, 3]])) (rd_extract rfl rfl) (congrArg (Value.int .i64) (show (0 : Int) = (firstE 4 [[0, 1], [1, 2], [2, 3]] : Int) from (by decide +kernel)).symm)) rfl ?_
  refine Wx.rd (v := v_74) (rd_assign rfl) rfl ?_
  refine Wx.rd (v := .int .i64 0) (rd_assign rfl) rfl ?_
  refine Wx.nil ?_
  refine W.seq ?_
  refine W.reg ?_
  refine Wx.callF (run_callF Try.call40 rfl) (F40 hS.fb_lt) rfl ?_
  rintro r_77 w_78 hx_79 ⟨v_80, rfl, hv_81⟩
  have ln_83 := hv_81.len63
  have hS := hS.ext hx_79
  have hS := hS.add hv_81
  refine Wx.callF (run_callF Try.call18 rfl) (F18 (in_i64 (by omega) (by omega)) (hS.v 0 rfl)) rfl ?_
  rintro r_84 w_85 hx_86 rfl
  have hS := hS.ext hx_86
  refine Wx.rd (v := .tuple #[.int .i64 (countE 4 [[1, 2]]), .int .i64 (checkE 4 [[1, 2]])]) (rd_move rfl) rfl ?_
  refine Wx.rd (v := .int .i64 12) (Rd.to (v := .int .i64 (countE 4 [[1, 2]])) (rd_extract rfl rfl) (congrArg (Value.int .i64) (show (12 : Int) = (countE 4 [[1, 2]] : Int) from (by decide +kernel)).symm)) rfl ?_
  refine Wx.rd (v := .int .i64 0) (Rd.to (v := .int .i64 (checkE 4 [[1, 2]])) (rd_extract rfl rfl) (congrArg (Value.int .i64) (show (0 : Int) = (checkE 4 [[1, 2]] : Int) from (by decide +kernel)).symm)) rfl ?_
  refine Wx.rd (v := .int .i64 12) (rd_assign rfl) rfl ?_
  refine Wx.rd (v := .int .i64 0) (rd_assign rfl) rfl ?_
  refine Wx.nil ?_
  refine W.seq ?_
  refine W.reg ?_
  refine Wx.callF (run_callF Try.call38 rfl) (F38 hS.fb_lt) rfl ?_
  rintro r_87 w_88 hx_89 ⟨v_90, rfl, hv_91⟩
  have ln_93 := hv_91.len63
  have hS := hS.ext hx_89
  have hS := hS.add hv_91
  refine Wx.callF (run_callF Try.call20 rfl) (F20 (in_i64 (by omega) (by omega)) (hS.v 0 rfl)) rfl ?_
  rintro r_94 w_95 hx_96 ⟨v_97, rfl, hv_98⟩
  have hS := hS.pushFr hx_96 hv_98
  refine Wx.rd (v := .tuple #[v_97, .int .i64 (firstE 4 [[0, 1], [1, 2], [2, 3]])]) (rd_move rfl) rfl ?_
  refine Wx.rd (v := v_97) (rd_extract rfl rfl) rfl ?_
  refine Wx.rd (v := .int .i64 0) (Rd.to (v := .int .i64 (firstE 4 [[0, 1], [1, 2], [2, 3]])) (rd_extract rfl rfl) (congrArg (Value.int .i64) (show (0 : Int) = (firstE 4 [[0, 1], [1, 2], [2, 3]] : Int) from (by decide +kernel)).symm)) rfl ?_
  refine Wx.rd (v := v_97) (rd_assign rfl) rfl ?_
  refine Wx.rd (v := .int .i64 0) (rd_assign rfl) rfl ?_
  refine Wx.nil ?_
  refine W.seq ?_
  refine W.reg ?_
  refine Wx.callF (run_callF Try.call41 rfl) (F41 hS.fb_lt) rfl ?_
  rintro r_100 w_101 hx_102 ⟨v_103, rfl, hv_104⟩
  have ln_106 := hv_104.len63
  have hS := hS.ext hx_102
  have hS := hS.add hv_104
  refine Wx.callF (run_callF Try.call24 rfl) (F24 (in_i64 (by omega) (by omega)) (hS.v 0 rfl)) rfl ?_
  rintro r_107 w_108 hx_109 rfl
  have hS := hS.ext hx_109
  refine Wx.rd (v := .tuple #[.int .i64 ((whyT 4 [[0, 1], [0, 2], [0, 3]]).1), .int .i64 ((whyT 4 [[0, 1], [0, 2], [0, 3]]).2.1), .int .i64 ((whyT 4 [[0, 1], [0, 2], [0, 3]]).2.2), .int .i64 (whyE 4 [[0, 1], [0, 2], [0, 3]])]) (rd_move rfl) rfl ?_
  refine Wx.rd (v := .int .i64 1) (Rd.to (v := .int .i64 ((whyT 4 [[0, 1], [0, 2], [0, 3]]).1)) (rd_extract rfl rfl) (congrArg (Value.int .i64) (show (1 : Int) = ((whyT 4 [[0, 1], [0, 2], [0, 3]]).1 : Int) from (by decide +kernel)).symm)) rfl ?_
  refine Wx.rd (v := .int .i64 2) (Rd.to (v := .int .i64 ((whyT 4 [[0, 1], [0, 2], [0, 3]]).2.1)) (rd_extract rfl rfl) (congrArg (Value.int .i64) (show (2 : Int) = ((whyT 4 [[0, 1], [0, 2], [0, 3]]).2.1 : Int) from (by decide +kernel)).symm)) rfl ?_
  refine Wx.rd (v := .int .i64 3) (Rd.to (v := .int .i64 ((whyT 4 [[0, 1], [0, 2], [0, 3]]).2.2)) (rd_extract rfl rfl) (congrArg (Value.int .i64) (show (3 : Int) = ((whyT 4 [[0, 1], [0, 2], [0, 3]]).2.2 : Int) from (by decide +kernel)).symm)) rfl ?_
  refine Wx.rd (v := .int .i64 0) (Rd.to (v := .int .i64 (whyE 4 [[0, 1], [0, 2], [0, 3]])) (rd_extract rfl rfl) (congrArg (Value.int .i64) (show (0 : Int) = (whyE 4 [[0, 1], [0, 2], [0, 3]] : Int) from (by decide +kernel)).symm)) rfl ?_
  refine Wx.rd (v := .int .i64 1) (rd_assign rfl) rfl ?_
  refine Wx.rd (v := .int .i64 2) (rd_assign rfl) rfl ?_
  refine Wx.rd (v := .int .i64 3) (rd_assign rfl) rfl ?_
  refine Wx.rd (v := .int .i64 0) (rd_assign rfl) rfl ?_
  refine Wx.nil ?_
  refine W.seq ?_
  refine W.seq ?_
  refine W.reg ?_
  refine Wx.rd (v := .int .i64 0) (rd_move rfl) rfl ?_
  refine Wx.rd (v := .bool (decide ((0 : Int) ≠ 0))) (rd_neq rfl rfl) rfl ?_
  refine Wx.rd (v := .bool (decide ((0 : Int) ≠ 0))) (rd_move rfl) rfl ?_
  refine Wx.cut (X := Unit) 3 [65, 66, 67] (fun _ => [(67, .bool (decide ((0 : Int) ≠ 0) || decide ((0 : Int) ≠ 0)))]) (fun _ w' => St w [] w' [Ob.v (tSl (tSl (tI .i64))) [[0, 1], [0, 2], [0, 3]] v_103, .row (tP (tI .i64) (tI .i64)) 61 v_97 (besideL 4 [[0, 1], [1, 2], [2, 3]]), Ob.v (tSl (tSl (tI .i64))) [[0, 1], [1, 2], [2, 3]] v_90, Ob.v (tSl (tSl (tI .i64))) [[1, 2]] v_80, .row (tI .i64) 3 v_74 (firstL 4 [[0, 1], [1, 2], [2, 3]]), Ob.v (tSl (tSl (tI .i64))) [[0, 1], [1, 2], [2, 3]] v_67, .row (tP (tI .i64) (tI .i64)) 61 v_61 (datesL 4 [[0, 1], [1, 2], [2, 3]] [3, 2, 1, 0]), Ob.v (tSl (tI .i64)) [3, 2, 1, 0] r_52, Ob.v (tSl (tI .i64)) [3, 2, 1, 0] v_48, Ob.v (tSl (tSl (tI .i64))) [[0, 1], [1, 2], [2, 3]] v_44, Ob.v (tSl (tI .i64)) [0, 2, 1, 3] r_32, Ob.v (tSl (tI .i64)) [0, 2, 1, 3] v_28, Ob.v (tSl (tSl (tI .i64))) [[0, 1], [1, 2], [2, 3]] v_24, Ob.v (tSl (tI .i64)) [3, 2, 1, 0] r_12, Ob.v (tSl (tI .i64)) [3, 2, 1, 0] v_8, Ob.v (tSl (tSl (tI .i64))) [[0, 1], [1, 2], [2, 3]] v_4]) ?_ ?_
  · rcases Bool.eq_false_or_eq_true (decide ((0 : Int) ≠ 0)) with g_110 | g_110
    · -- True
      have gp_111 := of_decide_eq_true g_110
      refine Wx.gnoB rfl rfl (congrArg Value.bool g_110) rfl rfl ?_
      refine Wx.gnoB rfl rfl (congrArg Value.bool g_110) rfl rfl ?_
      refine Wx.rd (v := .bool true) (rd_pickT (congrArg Value.bool g_110) rfl) rfl ?_
      refine Wx.nil ⟨(), hS, ⟨?_, trivial⟩, Out.look rfl Out.refl⟩
      show Value.bool true = Value.bool (decide ((0 : Int) ≠ 0) || decide ((0 : Int) ≠ 0))
      rw [g_110]; rfl
    · -- False
      have gp_112 := of_decide_eq_false g_110
      refine Wx.gyes rfl rfl (congrArg Value.bool g_110) ?_
      refine Wx.rd (v := .int .i64 0) (rd_move rfl) rfl ?_
      refine Wx.gyes rfl rfl (congrArg Value.bool g_110) ?_
      refine Wx.rd (v := .bool (decide ((0 : Int) ≠ 0))) (rd_neq rfl rfl) rfl ?_
      refine Wx.rd (v := .bool (decide ((0 : Int) ≠ 0))) (rd_pickF (congrArg Value.bool g_110) rfl) rfl ?_
      refine Wx.nil ⟨(), hS, ⟨?_, trivial⟩, Out.look rfl Out.refl⟩
      show Value.bool (decide ((0 : Int) ≠ 0)) = Value.bool (decide ((0 : Int) ≠ 0) || decide ((0 : Int) ≠ 0))
      rw [g_110]; rfl
  rintro ⟨⟩ u_114 w_113 hS
  refine Wx.rd (v := .bool (decide ((0 : Int) ≠ 0) || decide ((0 : Int) ≠ 0))) (rd_move rfl) rfl ?_
  refine Wx.cut (X := Unit) 3 [69, 70, 71] (fun _ => [(71, .bool ((decide ((0 : Int) ≠ 0) || decide ((0 : Int) ≠ 0)) || decide ((0 : Int) ≠ 0)))]) (fun _ w' => St w [] w' [Ob.v (tSl (tSl (tI .i64))) [[0, 1], [0, 2], [0, 3]] v_103, .row (tP (tI .i64) (tI .i64)) 61 v_97 (besideL 4 [[0, 1], [1, 2], [2, 3]]), Ob.v (tSl (tSl (tI .i64))) [[0, 1], [1, 2], [2, 3]] v_90, Ob.v (tSl (tSl (tI .i64))) [[1, 2]] v_80, .row (tI .i64) 3 v_74 (firstL 4 [[0, 1], [1, 2], [2, 3]]), Ob.v (tSl (tSl (tI .i64))) [[0, 1], [1, 2], [2, 3]] v_67, .row (tP (tI .i64) (tI .i64)) 61 v_61 (datesL 4 [[0, 1], [1, 2], [2, 3]] [3, 2, 1, 0]), Ob.v (tSl (tI .i64)) [3, 2, 1, 0] r_52, Ob.v (tSl (tI .i64)) [3, 2, 1, 0] v_48, Ob.v (tSl (tSl (tI .i64))) [[0, 1], [1, 2], [2, 3]] v_44, Ob.v (tSl (tI .i64)) [0, 2, 1, 3] r_32, Ob.v (tSl (tI .i64)) [0, 2, 1, 3] v_28, Ob.v (tSl (tSl (tI .i64))) [[0, 1], [1, 2], [2, 3]] v_24, Ob.v (tSl (tI .i64)) [3, 2, 1, 0] r_12, Ob.v (tSl (tI .i64)) [3, 2, 1, 0] v_8, Ob.v (tSl (tSl (tI .i64))) [[0, 1], [1, 2], [2, 3]] v_4]) ?_ ?_
  · rcases Bool.eq_false_or_eq_true (decide ((0 : Int) ≠ 0) || decide ((0 : Int) ≠ 0)) with g_115 | g_115
    · -- True
      have gp_116 := g_115
      try simp only [Bool.and_eq_true, Bool.or_eq_true, Bool.not_eq_true', Bool.and_eq_false_iff, Bool.or_eq_false_iff, Bool.not_eq_false', decide_eq_true_eq, decide_eq_false_iff_not, not_or, Bool.false_eq_true, Bool.true_eq_false, false_or, or_false, not_false_eq_true] at gp_116
      refine Wx.gnoB rfl rfl (congrArg Value.bool g_115) rfl rfl ?_
      refine Wx.gnoB rfl rfl (congrArg Value.bool g_115) rfl rfl ?_
      refine Wx.rd (v := .bool true) (rd_pickT (congrArg Value.bool g_115) rfl) rfl ?_
      refine Wx.nil ⟨(), hS, ⟨?_, trivial⟩, Out.look rfl Out.refl⟩
      show Value.bool true = Value.bool ((decide ((0 : Int) ≠ 0) || decide ((0 : Int) ≠ 0)) || decide ((0 : Int) ≠ 0))
      rw [g_115]; rfl
    · -- False
      have gp_117 := g_115
      try simp only [Bool.and_eq_true, Bool.or_eq_true, Bool.not_eq_true', Bool.and_eq_false_iff, Bool.or_eq_false_iff, Bool.not_eq_false', decide_eq_true_eq, decide_eq_false_iff_not, not_or, Bool.false_eq_true, Bool.true_eq_false, false_or, or_false, not_false_eq_true] at gp_117
      refine Wx.gyes rfl rfl (congrArg Value.bool g_115) ?_
      refine Wx.rd (v := .int .i64 0) (rd_move rfl) rfl ?_
      refine Wx.gyes rfl rfl (congrArg Value.bool g_115) ?_
      refine Wx.rd (v := .bool (decide ((0 : Int) ≠ 0))) (rd_neq rfl rfl) rfl ?_
      refine Wx.rd (v := .bool (decide ((0 : Int) ≠ 0))) (rd_pickF (congrArg Value.bool g_115) rfl) rfl ?_
      refine Wx.nil ⟨(), hS, ⟨?_, trivial⟩, Out.look rfl Out.refl⟩
      show Value.bool (decide ((0 : Int) ≠ 0)) = Value.bool ((decide ((0 : Int) ≠ 0) || decide ((0 : Int) ≠ 0)) || decide ((0 : Int) ≠ 0))
      rw [g_115]; rfl
  rintro ⟨⟩ u_119 w_118 hS
  refine Wx.rd (v := .bool ((decide ((0 : Int) ≠ 0) || decide ((0 : Int) ≠ 0)) || decide ((0 : Int) ≠ 0))) (rd_move rfl) rfl ?_
  refine Wx.cut (X := Unit) 3 [73, 74, 75] (fun _ => [(75, .bool (((decide ((0 : Int) ≠ 0) || decide ((0 : Int) ≠ 0)) || decide ((0 : Int) ≠ 0)) || decide ((0 : Int) ≠ 0)))]) (fun _ w' => St w [] w' [Ob.v (tSl (tSl (tI .i64))) [[0, 1], [0, 2], [0, 3]] v_103, .row (tP (tI .i64) (tI .i64)) 61 v_97 (besideL 4 [[0, 1], [1, 2], [2, 3]]), Ob.v (tSl (tSl (tI .i64))) [[0, 1], [1, 2], [2, 3]] v_90, Ob.v (tSl (tSl (tI .i64))) [[1, 2]] v_80, .row (tI .i64) 3 v_74 (firstL 4 [[0, 1], [1, 2], [2, 3]]), Ob.v (tSl (tSl (tI .i64))) [[0, 1], [1, 2], [2, 3]] v_67, .row (tP (tI .i64) (tI .i64)) 61 v_61 (datesL 4 [[0, 1], [1, 2], [2, 3]] [3, 2, 1, 0]), Ob.v (tSl (tI .i64)) [3, 2, 1, 0] r_52, Ob.v (tSl (tI .i64)) [3, 2, 1, 0] v_48, Ob.v (tSl (tSl (tI .i64))) [[0, 1], [1, 2], [2, 3]] v_44, Ob.v (tSl (tI .i64)) [0, 2, 1, 3] r_32, Ob.v (tSl (tI .i64)) [0, 2, 1, 3] v_28, Ob.v (tSl (tSl (tI .i64))) [[0, 1], [1, 2], [2, 3]] v_24, Ob.v (tSl (tI .i64)) [3, 2, 1, 0] r_12, Ob.v (tSl (tI .i64)) [3, 2, 1, 0] v_8, Ob.v (tSl (tSl (tI .i64))) [[0, 1], [1, 2], [2, 3]] v_4]) ?_ ?_
  · rcases Bool.eq_false_or_eq_true ((decide ((0 : Int) ≠ 0) || decide ((0 : Int) ≠ 0)) || decide ((0 : Int) ≠ 0)) with g_120 | g_120
    · -- True
      have gp_121 := g_120
      try simp only [Bool.and_eq_true, Bool.or_eq_true, Bool.not_eq_true', Bool.and_eq_false_iff, Bool.or_eq_false_iff, Bool.not_eq_false', decide_eq_true_eq, decide_eq_false_iff_not, not_or, Bool.false_eq_true, Bool.true_eq_false, false_or, or_false, not_false_eq_true] at gp_121
      refine Wx.gnoB rfl rfl (congrArg Value.bool g_120) rfl rfl ?_
      refine Wx.gnoB rfl rfl (congrArg Value.bool g_120) rfl rfl ?_
      refine Wx.rd (v := .bool true) (rd_pickT (congrArg Value.bool g_120) rfl) rfl ?_
      refine Wx.nil ⟨(), hS, ⟨?_, trivial⟩, Out.look rfl Out.refl⟩
      show Value.bool true = Value.bool (((decide ((0 : Int) ≠ 0) || decide ((0 : Int) ≠ 0)) || decide ((0 : Int) ≠ 0)) || decide ((0 : Int) ≠ 0))
      rw [g_120]; rfl
    · -- False
      have gp_122 := g_120
      try simp only [Bool.and_eq_true, Bool.or_eq_true, Bool.not_eq_true', Bool.and_eq_false_iff, Bool.or_eq_false_iff, Bool.not_eq_false', decide_eq_true_eq, decide_eq_false_iff_not, not_or, Bool.false_eq_true, Bool.true_eq_false, false_or, or_false, not_false_eq_true] at gp_122
      refine Wx.gyes rfl rfl (congrArg Value.bool g_120) ?_
      refine Wx.rd (v := .int .i64 0) (rd_move rfl) rfl ?_
      refine Wx.gyes rfl rfl (congrArg Value.bool g_120) ?_
      refine Wx.rd (v := .bool (decide ((0 : Int) ≠ 0))) (rd_neq rfl rfl) rfl ?_
      refine Wx.rd (v := .bool (decide ((0 : Int) ≠ 0))) (rd_pickF (congrArg Value.bool g_120) rfl) rfl ?_
      refine Wx.nil ⟨(), hS, ⟨?_, trivial⟩, Out.look rfl Out.refl⟩
      show Value.bool (decide ((0 : Int) ≠ 0)) = Value.bool (((decide ((0 : Int) ≠ 0) || decide ((0 : Int) ≠ 0)) || decide ((0 : Int) ≠ 0)) || decide ((0 : Int) ≠ 0))
      rw [g_120]; rfl
  rintro ⟨⟩ u_124 w_123 hS
  refine Wx.rd (v := .bool (((decide ((0 : Int) ≠ 0) || decide ((0 : Int) ≠ 0)) || decide ((0 : Int) ≠ 0)) || decide ((0 : Int) ≠ 0))) (rd_move rfl) rfl ?_
  refine Wx.cut (X := Unit) 3 [77, 78, 79] (fun _ => [(79, .bool ((((decide ((0 : Int) ≠ 0) || decide ((0 : Int) ≠ 0)) || decide ((0 : Int) ≠ 0)) || decide ((0 : Int) ≠ 0)) || decide ((0 : Int) ≠ 0)))]) (fun _ w' => St w [] w' [Ob.v (tSl (tSl (tI .i64))) [[0, 1], [0, 2], [0, 3]] v_103, .row (tP (tI .i64) (tI .i64)) 61 v_97 (besideL 4 [[0, 1], [1, 2], [2, 3]]), Ob.v (tSl (tSl (tI .i64))) [[0, 1], [1, 2], [2, 3]] v_90, Ob.v (tSl (tSl (tI .i64))) [[1, 2]] v_80, .row (tI .i64) 3 v_74 (firstL 4 [[0, 1], [1, 2], [2, 3]]), Ob.v (tSl (tSl (tI .i64))) [[0, 1], [1, 2], [2, 3]] v_67, .row (tP (tI .i64) (tI .i64)) 61 v_61 (datesL 4 [[0, 1], [1, 2], [2, 3]] [3, 2, 1, 0]), Ob.v (tSl (tI .i64)) [3, 2, 1, 0] r_52, Ob.v (tSl (tI .i64)) [3, 2, 1, 0] v_48, Ob.v (tSl (tSl (tI .i64))) [[0, 1], [1, 2], [2, 3]] v_44, Ob.v (tSl (tI .i64)) [0, 2, 1, 3] r_32, Ob.v (tSl (tI .i64)) [0, 2, 1, 3] v_28, Ob.v (tSl (tSl (tI .i64))) [[0, 1], [1, 2], [2, 3]] v_24, Ob.v (tSl (tI .i64)) [3, 2, 1, 0] r_12, Ob.v (tSl (tI .i64)) [3, 2, 1, 0] v_8, Ob.v (tSl (tSl (tI .i64))) [[0, 1], [1, 2], [2, 3]] v_4]) ?_ ?_
  · rcases Bool.eq_false_or_eq_true (((decide ((0 : Int) ≠ 0) || decide ((0 : Int) ≠ 0)) || decide ((0 : Int) ≠ 0)) || decide ((0 : Int) ≠ 0)) with g_125 | g_125
    · -- True
      have gp_126 := g_125
      try simp only [Bool.and_eq_true, Bool.or_eq_true, Bool.not_eq_true', Bool.and_eq_false_iff, Bool.or_eq_false_iff, Bool.not_eq_false', decide_eq_true_eq, decide_eq_false_iff_not, not_or, Bool.false_eq_true, Bool.true_eq_false, false_or, or_false, not_false_eq_true] at gp_126
      refine Wx.gnoB rfl rfl (congrArg Value.bool g_125) rfl rfl ?_
      refine Wx.gnoB rfl rfl (congrArg Value.bool g_125) rfl rfl ?_
      refine Wx.rd (v := .bool true) (rd_pickT (congrArg Value.bool g_125) rfl) rfl ?_
      refine Wx.nil ⟨(), hS, ⟨?_, trivial⟩, Out.look rfl Out.refl⟩
      show Value.bool true = Value.bool ((((decide ((0 : Int) ≠ 0) || decide ((0 : Int) ≠ 0)) || decide ((0 : Int) ≠ 0)) || decide ((0 : Int) ≠ 0)) || decide ((0 : Int) ≠ 0))
      rw [g_125]; rfl
    · -- False
      have gp_127 := g_125
      try simp only [Bool.and_eq_true, Bool.or_eq_true, Bool.not_eq_true', Bool.and_eq_false_iff, Bool.or_eq_false_iff, Bool.not_eq_false', decide_eq_true_eq, decide_eq_false_iff_not, not_or, Bool.false_eq_true, Bool.true_eq_false, false_or, or_false, not_false_eq_true] at gp_127
      refine Wx.gyes rfl rfl (congrArg Value.bool g_125) ?_
      refine Wx.rd (v := .int .i64 0) (rd_move rfl) rfl ?_
      refine Wx.gyes rfl rfl (congrArg Value.bool g_125) ?_
      refine Wx.rd (v := .bool (decide ((0 : Int) ≠ 0))) (rd_neq rfl rfl) rfl ?_
      refine Wx.rd (v := .bool (decide ((0 : Int) ≠ 0))) (rd_pickF (congrArg Value.bool g_125) rfl) rfl ?_
      refine Wx.nil ⟨(), hS, ⟨?_, trivial⟩, Out.look rfl Out.refl⟩
      show Value.bool (decide ((0 : Int) ≠ 0)) = Value.bool ((((decide ((0 : Int) ≠ 0) || decide ((0 : Int) ≠ 0)) || decide ((0 : Int) ≠ 0)) || decide ((0 : Int) ≠ 0)) || decide ((0 : Int) ≠ 0))
      rw [g_125]; rfl
  rintro ⟨⟩ u_129 w_128 hS
  refine Wx.rd (v := .bool ((((decide ((0 : Int) ≠ 0) || decide ((0 : Int) ≠ 0)) || decide ((0 : Int) ≠ 0)) || decide ((0 : Int) ≠ 0)) || decide ((0 : Int) ≠ 0))) (rd_move rfl) rfl ?_
  refine Wx.cut (X := Unit) 3 [81, 82, 83] (fun _ => [(83, .bool (((((decide ((0 : Int) ≠ 0) || decide ((0 : Int) ≠ 0)) || decide ((0 : Int) ≠ 0)) || decide ((0 : Int) ≠ 0)) || decide ((0 : Int) ≠ 0)) || decide ((0 : Int) ≠ 0)))]) (fun _ w' => St w [] w' [Ob.v (tSl (tSl (tI .i64))) [[0, 1], [0, 2], [0, 3]] v_103, .row (tP (tI .i64) (tI .i64)) 61 v_97 (besideL 4 [[0, 1], [1, 2], [2, 3]]), Ob.v (tSl (tSl (tI .i64))) [[0, 1], [1, 2], [2, 3]] v_90, Ob.v (tSl (tSl (tI .i64))) [[1, 2]] v_80, .row (tI .i64) 3 v_74 (firstL 4 [[0, 1], [1, 2], [2, 3]]), Ob.v (tSl (tSl (tI .i64))) [[0, 1], [1, 2], [2, 3]] v_67, .row (tP (tI .i64) (tI .i64)) 61 v_61 (datesL 4 [[0, 1], [1, 2], [2, 3]] [3, 2, 1, 0]), Ob.v (tSl (tI .i64)) [3, 2, 1, 0] r_52, Ob.v (tSl (tI .i64)) [3, 2, 1, 0] v_48, Ob.v (tSl (tSl (tI .i64))) [[0, 1], [1, 2], [2, 3]] v_44, Ob.v (tSl (tI .i64)) [0, 2, 1, 3] r_32, Ob.v (tSl (tI .i64)) [0, 2, 1, 3] v_28, Ob.v (tSl (tSl (tI .i64))) [[0, 1], [1, 2], [2, 3]] v_24, Ob.v (tSl (tI .i64)) [3, 2, 1, 0] r_12, Ob.v (tSl (tI .i64)) [3, 2, 1, 0] v_8, Ob.v (tSl (tSl (tI .i64))) [[0, 1], [1, 2], [2, 3]] v_4]) ?_ ?_
  · rcases Bool.eq_false_or_eq_true ((((decide ((0 : Int) ≠ 0) || decide ((0 : Int) ≠ 0)) || decide ((0 : Int) ≠ 0)) || decide ((0 : Int) ≠ 0)) || decide ((0 : Int) ≠ 0)) with g_130 | g_130
    · -- True
      have gp_131 := g_130
      try simp only [Bool.and_eq_true, Bool.or_eq_true, Bool.not_eq_true', Bool.and_eq_false_iff, Bool.or_eq_false_iff, Bool.not_eq_false', decide_eq_true_eq, decide_eq_false_iff_not, not_or, Bool.false_eq_true, Bool.true_eq_false, false_or, or_false, not_false_eq_true] at gp_131
      refine Wx.gnoB rfl rfl (congrArg Value.bool g_130) rfl rfl ?_
      refine Wx.gnoB rfl rfl (congrArg Value.bool g_130) rfl rfl ?_
      refine Wx.rd (v := .bool true) (rd_pickT (congrArg Value.bool g_130) rfl) rfl ?_
      refine Wx.nil ⟨(), hS, ⟨?_, trivial⟩, Out.look rfl Out.refl⟩
      show Value.bool true = Value.bool (((((decide ((0 : Int) ≠ 0) || decide ((0 : Int) ≠ 0)) || decide ((0 : Int) ≠ 0)) || decide ((0 : Int) ≠ 0)) || decide ((0 : Int) ≠ 0)) || decide ((0 : Int) ≠ 0))
      rw [g_130]; rfl
    · -- False
      have gp_132 := g_130
      try simp only [Bool.and_eq_true, Bool.or_eq_true, Bool.not_eq_true', Bool.and_eq_false_iff, Bool.or_eq_false_iff, Bool.not_eq_false', decide_eq_true_eq, decide_eq_false_iff_not, not_or, Bool.false_eq_true, Bool.true_eq_false, false_or, or_false, not_false_eq_true] at gp_132
      refine Wx.gyes rfl rfl (congrArg Value.bool g_130) ?_
      refine Wx.rd (v := .int .i64 0) (rd_move rfl) rfl ?_
      refine Wx.gyes rfl rfl (congrArg Value.bool g_130) ?_
      refine Wx.rd (v := .bool (decide ((0 : Int) ≠ 0))) (rd_neq rfl rfl) rfl ?_
      refine Wx.rd (v := .bool (decide ((0 : Int) ≠ 0))) (rd_pickF (congrArg Value.bool g_130) rfl) rfl ?_
      refine Wx.nil ⟨(), hS, ⟨?_, trivial⟩, Out.look rfl Out.refl⟩
      show Value.bool (decide ((0 : Int) ≠ 0)) = Value.bool (((((decide ((0 : Int) ≠ 0) || decide ((0 : Int) ≠ 0)) || decide ((0 : Int) ≠ 0)) || decide ((0 : Int) ≠ 0)) || decide ((0 : Int) ≠ 0)) || decide ((0 : Int) ≠ 0))
      rw [g_130]; rfl
  rintro ⟨⟩ u_134 w_133 hS
  refine Wx.rd (v := .bool (((((decide ((0 : Int) ≠ 0) || decide ((0 : Int) ≠ 0)) || decide ((0 : Int) ≠ 0)) || decide ((0 : Int) ≠ 0)) || decide ((0 : Int) ≠ 0)) || decide ((0 : Int) ≠ 0))) (rd_move rfl) rfl ?_
  refine Wx.cut (X := Unit) 3 [85, 86, 87] (fun _ => [(87, .bool ((((((decide ((0 : Int) ≠ 0) || decide ((0 : Int) ≠ 0)) || decide ((0 : Int) ≠ 0)) || decide ((0 : Int) ≠ 0)) || decide ((0 : Int) ≠ 0)) || decide ((0 : Int) ≠ 0)) || decide ((0 : Int) ≠ 0)))]) (fun _ w' => St w [] w' [Ob.v (tSl (tSl (tI .i64))) [[0, 1], [0, 2], [0, 3]] v_103, .row (tP (tI .i64) (tI .i64)) 61 v_97 (besideL 4 [[0, 1], [1, 2], [2, 3]]), Ob.v (tSl (tSl (tI .i64))) [[0, 1], [1, 2], [2, 3]] v_90, Ob.v (tSl (tSl (tI .i64))) [[1, 2]] v_80, .row (tI .i64) 3 v_74 (firstL 4 [[0, 1], [1, 2], [2, 3]]), Ob.v (tSl (tSl (tI .i64))) [[0, 1], [1, 2], [2, 3]] v_67, .row (tP (tI .i64) (tI .i64)) 61 v_61 (datesL 4 [[0, 1], [1, 2], [2, 3]] [3, 2, 1, 0]), Ob.v (tSl (tI .i64)) [3, 2, 1, 0] r_52, Ob.v (tSl (tI .i64)) [3, 2, 1, 0] v_48, Ob.v (tSl (tSl (tI .i64))) [[0, 1], [1, 2], [2, 3]] v_44, Ob.v (tSl (tI .i64)) [0, 2, 1, 3] r_32, Ob.v (tSl (tI .i64)) [0, 2, 1, 3] v_28, Ob.v (tSl (tSl (tI .i64))) [[0, 1], [1, 2], [2, 3]] v_24, Ob.v (tSl (tI .i64)) [3, 2, 1, 0] r_12, Ob.v (tSl (tI .i64)) [3, 2, 1, 0] v_8, Ob.v (tSl (tSl (tI .i64))) [[0, 1], [1, 2], [2, 3]] v_4]) ?_ ?_
  · rcases Bool.eq_false_or_eq_true (((((decide ((0 : Int) ≠ 0) || decide ((0 : Int) ≠ 0)) || decide ((0 : Int) ≠ 0)) || decide ((0 : Int) ≠ 0)) || decide ((0 : Int) ≠ 0)) || decide ((0 : Int) ≠ 0)) with g_135 | g_135
    · -- True
      have gp_136 := g_135
      try simp only [Bool.and_eq_true, Bool.or_eq_true, Bool.not_eq_true', Bool.and_eq_false_iff, Bool.or_eq_false_iff, Bool.not_eq_false', decide_eq_true_eq, decide_eq_false_iff_not, not_or, Bool.false_eq_true, Bool.true_eq_false, false_or, or_false, not_false_eq_true] at gp_136
      refine Wx.gnoB rfl rfl (congrArg Value.bool g_135) rfl rfl ?_
      refine Wx.gnoB rfl rfl (congrArg Value.bool g_135) rfl rfl ?_
      refine Wx.rd (v := .bool true) (rd_pickT (congrArg Value.bool g_135) rfl) rfl ?_
      refine Wx.nil ⟨(), hS, ⟨?_, trivial⟩, Out.look rfl Out.refl⟩
      show Value.bool true = Value.bool ((((((decide ((0 : Int) ≠ 0) || decide ((0 : Int) ≠ 0)) || decide ((0 : Int) ≠ 0)) || decide ((0 : Int) ≠ 0)) || decide ((0 : Int) ≠ 0)) || decide ((0 : Int) ≠ 0)) || decide ((0 : Int) ≠ 0))
      rw [g_135]; rfl
    · -- False
      have gp_137 := g_135
      try simp only [Bool.and_eq_true, Bool.or_eq_true, Bool.not_eq_true', Bool.and_eq_false_iff, Bool.or_eq_false_iff, Bool.not_eq_false', decide_eq_true_eq, decide_eq_false_iff_not, not_or, Bool.false_eq_true, Bool.true_eq_false, false_or, or_false, not_false_eq_true] at gp_137
      refine Wx.gyes rfl rfl (congrArg Value.bool g_135) ?_
      refine Wx.rd (v := .int .i64 0) (rd_move rfl) rfl ?_
      refine Wx.gyes rfl rfl (congrArg Value.bool g_135) ?_
      refine Wx.rd (v := .bool (decide ((0 : Int) ≠ 0))) (rd_neq rfl rfl) rfl ?_
      refine Wx.rd (v := .bool (decide ((0 : Int) ≠ 0))) (rd_pickF (congrArg Value.bool g_135) rfl) rfl ?_
      refine Wx.nil ⟨(), hS, ⟨?_, trivial⟩, Out.look rfl Out.refl⟩
      show Value.bool (decide ((0 : Int) ≠ 0)) = Value.bool ((((((decide ((0 : Int) ≠ 0) || decide ((0 : Int) ≠ 0)) || decide ((0 : Int) ≠ 0)) || decide ((0 : Int) ≠ 0)) || decide ((0 : Int) ≠ 0)) || decide ((0 : Int) ≠ 0)) || decide ((0 : Int) ≠ 0))
      rw [g_135]; rfl
  rintro ⟨⟩ u_139 w_138 hS
  refine Wx.nil ?_
  refine W.cond rfl (fun c0 => ?_) (fun c0 => ?_)
  · -- yes
    try simp only [Bool.and_eq_true, Bool.or_eq_true, Bool.not_eq_true', Bool.and_eq_false_iff, Bool.or_eq_false_iff, Bool.not_eq_false', decide_eq_true_eq, decide_eq_false_iff_not, not_or, Bool.false_eq_true, Bool.true_eq_false, false_or, or_false, not_false_eq_true] at c0
    refine W.seq ?_
    refine W.reg ?_
    refine Wx.rd (v := .bool false) (rd_assign rfl) rfl ?_
    refine Wx.nil ?_
    have e0_0 : false = true := by first | rfl | omega
    exact W.ret ⟨.bool false, ResIs.one, hS.bel, (by rw [e0_0])⟩
  · -- no
    try simp only [Bool.and_eq_true, Bool.or_eq_true, Bool.not_eq_true', Bool.and_eq_false_iff, Bool.or_eq_false_iff, Bool.not_eq_false', decide_eq_true_eq, decide_eq_false_iff_not, not_or, Bool.false_eq_true, Bool.true_eq_false, false_or, or_false, not_false_eq_true] at c0
    refine W.skip ?_
    refine W.seq ?_
    refine W.reg ?_
    refine Wx.callF (run_callF Try.call41 rfl) (F41 hS.fb_lt) rfl ?_
    rintro r_140 w_141 hx_142 ⟨v_143, rfl, hv_144⟩
    have ln_146 := hv_144.len63
    have hS := hS.ext hx_142
    have hS := hS.add hv_144
    refine Wx.callF (run_callF Try.call28 rfl) (F28 (in_i64 (by omega) (by omega)) (hS.v 0 rfl) hS.fb_lt) rfl ?_
    rintro r_147 w_148 hx_149 ⟨v_150, rfl, hv_151⟩
    have ln_153 := hv_151.len63
    have hS := hS.ext hx_149
    have hS := hS.add hv_151
    refine Wx.rd (v := .tuple #[v_150, .int .i64 (checkE 4 [[0, 1], [0, 2], [0, 3]])]) (rd_move rfl) rfl ?_
    refine Wx.rd (v := v_150) (rd_extract rfl rfl) rfl ?_
    refine Wx.rd (v := .int .i64 0) (Rd.to (v := .int .i64 (checkE 4 [[0, 1], [0, 2], [0, 3]])) (rd_extract rfl rfl) (congrArg (Value.int .i64) (show (0 : Int) = (checkE 4 [[0, 1], [0, 2], [0, 3]] : Int) from (by decide +kernel)).symm)) rfl ?_
    refine Wx.rd (v := v_150) (rd_assign rfl) rfl ?_
    refine Wx.rd (v := .int .i64 0) (rd_assign rfl) rfl ?_
    refine Wx.nil ?_
    refine W.seq ?_
    refine W.reg ?_
    refine Wx.callF (run_callF Try.call41 rfl) (F41 hS.fb_lt) rfl ?_
    rintro r_154 w_155 hx_156 ⟨v_157, rfl, hv_158⟩
    have ln_160 := hv_158.len63
    have hS := hS.ext hx_156
    have hS := hS.add hv_158
    refine Wx.callF (run_callF Try.call16 rfl) (F16 (in_i64 (by omega) (by omega)) (hS.v 0 rfl)) rfl ?_
    rintro r_161 w_162 hx_163 ⟨v_164, rfl, hv_165⟩
    have hS := hS.pushFr hx_163 hv_165
    refine Wx.rd (v := .tuple #[v_164, .int .i64 (firstE 4 [[0, 1], [0, 2], [0, 3]])]) (rd_move rfl) rfl ?_
    refine Wx.rd (v := v_164) (rd_extract rfl rfl) rfl ?_
    refine Wx.rd (v := .int .i64 12) (Rd.to (v := .int .i64 (firstE 4 [[0, 1], [0, 2], [0, 3]])) (rd_extract rfl rfl) (congrArg (Value.int .i64) (show (12 : Int) = (firstE 4 [[0, 1], [0, 2], [0, 3]] : Int) from (by decide +kernel)).symm)) rfl ?_
    refine Wx.rd (v := .int .i64 12) (rd_assign rfl) rfl ?_
    refine Wx.nil ?_
    refine W.seq ?_
    refine W.reg ?_
    refine Wx.callF (run_callF Try.call38 rfl) (F38 hS.fb_lt) rfl ?_
    rintro r_167 w_168 hx_169 ⟨v_170, rfl, hv_171⟩
    have ln_173 := hv_171.len63
    have hS := hS.ext hx_169
    have hS := hS.add hv_171
    refine Wx.callF (run_callF Try.call24 rfl) (F24 (in_i64 (by omega) (by omega)) (hS.v 0 rfl)) rfl ?_
    rintro r_174 w_175 hx_176 rfl
    have hS := hS.ext hx_176
    refine Wx.rd (v := .tuple #[.int .i64 ((whyT 4 [[0, 1], [1, 2], [2, 3]]).1), .int .i64 ((whyT 4 [[0, 1], [1, 2], [2, 3]]).2.1), .int .i64 ((whyT 4 [[0, 1], [1, 2], [2, 3]]).2.2), .int .i64 (whyE 4 [[0, 1], [1, 2], [2, 3]])]) (rd_move rfl) rfl ?_
    refine Wx.rd (v := .int .i64 ((whyT 4 [[0, 1], [1, 2], [2, 3]]).1)) (rd_extract rfl rfl) rfl ?_
    refine Wx.rd (v := .int .i64 ((whyT 4 [[0, 1], [1, 2], [2, 3]]).2.1)) (rd_extract rfl rfl) rfl ?_
    refine Wx.rd (v := .int .i64 ((whyT 4 [[0, 1], [1, 2], [2, 3]]).2.2)) (rd_extract rfl rfl) rfl ?_
    refine Wx.rd (v := .int .i64 13) (Rd.to (v := .int .i64 (whyE 4 [[0, 1], [1, 2], [2, 3]])) (rd_extract rfl rfl) (congrArg (Value.int .i64) (show (13 : Int) = (whyE 4 [[0, 1], [1, 2], [2, 3]] : Int) from (by decide +kernel)).symm)) rfl ?_
    refine Wx.rd (v := .int .i64 13) (rd_assign rfl) rfl ?_
    refine Wx.nil ?_
    refine W.seq ?_
    refine W.reg ?_
    refine Wx.callF (run_callF Try.call38 rfl) (F38 hS.fb_lt) rfl ?_
    rintro r_177 w_178 hx_179 ⟨v_180, rfl, hv_181⟩
    have ln_183 := hv_181.len63
    have hS := hS.ext hx_179
    have hS := hS.add hv_181
    refine Wx.lit (t := (tI .i64)) (ys := [0, 2, 1, 3]) (vs := [.int .i64 0, .int .i64 2, .int .i64 1, .int .i64 3]) elFk_28 hS rfl rfl ⟨(V.mkInt (in_i64 (by omega) (by omega))), ⟨(V.mkInt (in_i64 (by omega) (by omega))), ⟨(V.mkInt (in_i64 (by omega) (by omega))), ⟨(V.mkInt (in_i64 (by omega) (by omega))), trivial⟩⟩⟩⟩ (by decide) rfl (fun v_184 w_185 hx_186 hS => ?_)
    have hS := hS.freeze 0 rfl
    refine Wx.callF (run_callF Try.call39 rfl) (F39 (hS.v 0 rfl) hS.fb_lt) rfl ?_
    rintro r_188 w_189 hx_190 ⟨_, rfl, hv_191⟩
    have ln_193 := hv_191.len63
    have hS := hS.ext hx_190
    have hS := hS.add hv_191
    refine Wx.callF (run_callF Try.call30 rfl) (F30 (in_i64 (by omega) (by omega)) (hS.v 2 rfl) (hS.v 0 rfl)) rfl ?_
    rintro r_194 w_195 hx_196 rfl
    have hS := hS.ext hx_196
    refine Wx.rd (v := .tuple #[.bool (decide (shownE 4 [[0, 1], [1, 2], [2, 3]] [0, 2, 1, 3] = 0) && decide (gapsE 4 [[0, 1], [1, 2], [2, 3]] [0, 2, 1, 3] = 0)), .int .i64 (shownE 4 [[0, 1], [1, 2], [2, 3]] [0, 2, 1, 3])]) (rd_move rfl) rfl ?_
    refine Wx.rd (v := .bool false) (Rd.to (v := .bool (decide (shownE 4 [[0, 1], [1, 2], [2, 3]] [0, 2, 1, 3] = 0) && decide (gapsE 4 [[0, 1], [1, 2], [2, 3]] [0, 2, 1, 3] = 0))) (rd_extract rfl rfl) (congrArg (Value.bool) (show (false : Bool) = (decide (shownE 4 [[0, 1], [1, 2], [2, 3]] [0, 2, 1, 3] = 0) && decide (gapsE 4 [[0, 1], [1, 2], [2, 3]] [0, 2, 1, 3] = 0) : Bool) from (by decide +kernel)).symm)) rfl ?_
    refine Wx.rd (v := .int .i64 0) (Rd.to (v := .int .i64 (shownE 4 [[0, 1], [1, 2], [2, 3]] [0, 2, 1, 3])) (rd_extract rfl rfl) (congrArg (Value.int .i64) (show (0 : Int) = (shownE 4 [[0, 1], [1, 2], [2, 3]] [0, 2, 1, 3] : Int) from (by decide +kernel)).symm)) rfl ?_
    refine Wx.rd (v := .bool false) (rd_assign rfl) rfl ?_
    refine Wx.rd (v := .int .i64 0) (rd_assign rfl) rfl ?_
    refine Wx.nil ?_
    refine W.seq ?_
    refine W.reg ?_
    refine Wx.rd (v := .int .i64 0) (rd_move rfl) rfl ?_
    refine Wx.rd (v := .bool true) (Rd.to (v := .bool (decide ((0 : Int) = 0))) (rd_eql rfl rfl) (congrArg (Value.bool) (show (true : Bool) = (decide ((0 : Int) = 0) : Bool) from (by decide +kernel)).symm)) rfl ?_
    refine Wx.rd (v := .bool true) (rd_move rfl) rfl ?_
    refine Wx.gyes rfl rfl rfl ?_
    refine Wx.rd (v := .int .i64 12) (rd_move rfl) rfl ?_
    refine Wx.gyes rfl rfl rfl ?_
    refine Wx.rd (v := .bool true) (Rd.to (v := .bool (decide ((12 : Int) = 12))) (rd_eql rfl rfl) (congrArg (Value.bool) (show (true : Bool) = (decide ((12 : Int) = 12) : Bool) from (by decide +kernel)).symm)) rfl ?_
    refine Wx.rd (v := .bool true) (rd_pickT rfl rfl) rfl ?_
    refine Wx.rd (v := .bool true) (rd_move rfl) rfl ?_
    refine Wx.gyes rfl rfl rfl ?_
    refine Wx.rd (v := .int .i64 13) (rd_move rfl) rfl ?_
    refine Wx.gyes rfl rfl rfl ?_
    refine Wx.rd (v := .bool true) (Rd.to (v := .bool (decide ((13 : Int) = 13))) (rd_eql rfl rfl) (congrArg (Value.bool) (show (true : Bool) = (decide ((13 : Int) = 13) : Bool) from (by decide +kernel)).symm)) rfl ?_
    refine Wx.rd (v := .bool true) (rd_pickT rfl rfl) rfl ?_
    refine Wx.rd (v := .bool true) (rd_move rfl) rfl ?_
    refine Wx.gyes rfl rfl rfl ?_
    refine Wx.rd (v := .int .i64 0) (rd_move rfl) rfl ?_
    refine Wx.gyes rfl rfl rfl ?_
    refine Wx.rd (v := .bool true) (Rd.to (v := .bool (decide ((0 : Int) = 0))) (rd_eql rfl rfl) (congrArg (Value.bool) (show (true : Bool) = (decide ((0 : Int) = 0) : Bool) from (by decide +kernel)).symm)) rfl ?_
    refine Wx.rd (v := .bool true) (rd_pickT rfl rfl) rfl ?_
    refine Wx.rd (v := .bool true) (rd_move rfl) rfl ?_
    refine Wx.gyes rfl rfl rfl ?_
    refine Wx.rd (v := .bool true) (rd_move rfl) rfl ?_
    refine Wx.rd (v := .bool true) (rd_pickT rfl rfl) rfl ?_
    refine Wx.rd (v := .bool true) (rd_move rfl) rfl ?_
    refine Wx.gyes rfl rfl rfl ?_
    refine Wx.rd (v := .bool false) (rd_move rfl) rfl ?_
    refine Wx.gyes rfl rfl rfl ?_
    refine Wx.rd (v := .bool true) (Rd.to (v := .bool (!false)) (rd_not rfl) (congrArg (Value.bool) (show (true : Bool) = (!false : Bool) from (by decide +kernel)).symm)) rfl ?_
    refine Wx.rd (v := .bool true) (rd_pickT rfl rfl) rfl ?_
    refine Wx.rd (v := .bool true) (rd_move rfl) rfl ?_
    refine Wx.gyes rfl rfl rfl ?_
    refine Wx.rd (v := .int .i64 2) (rd_move rfl) rfl ?_
    refine Wx.gyes rfl rfl rfl ?_
    refine Wx.rd (v := .bool true) (Rd.to (v := .bool (decide ((2 : Int) = 2))) (rd_eql rfl rfl) (congrArg (Value.bool) (show (true : Bool) = (decide ((2 : Int) = 2) : Bool) from (by decide +kernel)).symm)) rfl ?_
    refine Wx.rd (v := .bool true) (rd_pickT rfl rfl) rfl ?_
    refine Wx.rd (v := .bool true) (rd_move rfl) rfl ?_
    refine Wx.gyes rfl rfl rfl ?_
    refine Wx.rd (v := v_61) (rd_move rfl) rfl ?_
    refine Wx.gyes rfl rfl rfl ?_
    refine Wx.rd (v := .agg #[.int .i64 2, .int .i64 3]) (rd_build (vs := [(0, .int .i64 2), (1, .int .i64 3)]) rfl (by kernel_rfl)) rfl ?_
    refine Wx.gyes rfl rfl rfl ?_
    refine Wx.rd (v := .agg #[.int .i64 1, .int .i64 2]) (rd_build (vs := [(0, .int .i64 1), (1, .int .i64 2)]) rfl (by kernel_rfl)) rfl ?_
    refine Wx.gyes rfl rfl rfl ?_
    refine Wx.rd (v := .agg #[.int .i64 0, .int .i64 1]) (rd_build (vs := [(0, .int .i64 0), (1, .int .i64 1)]) rfl (by kernel_rfl)) rfl ?_
    refine Wx.gyes rfl rfl rfl ?_
    refine Wx.lit (t := (tP (tI .i64) (tI .i64))) (ys := [(2, 3), (1, 2), (0, 1)]) (vs := [.agg #[.int .i64 2, .int .i64 3], .agg #[.int .i64 1, .int .i64 2], .agg #[.int .i64 0, .int .i64 1]]) elFk_36 hS rfl rfl ⟨(V.mk2 (in_i64 (by omega) (by omega)) (in_i64 (by omega) (by omega))), ⟨(V.mk2 (in_i64 (by omega) (by omega)) (in_i64 (by omega) (by omega))), ⟨(V.mk2 (in_i64 (by omega) (by omega)) (in_i64 (by omega) (by omega))), trivial⟩⟩⟩ (by decide) rfl (fun v_197 w_198 hx_199 hS => ?_)
    refine Wx.gyes rfl rfl rfl ?_
    refine Wx.callF (run_callF Try.call23 rfl) (F23 (hS.lend 15 rfl) (hS.lend 0 rfl)) rfl ?_
    rintro r_200 w_201 hx_202 rfl
    have hS := hS.ext hx_202
    rw [show (decide ((datesL 4 [[0, 1], [1, 2], [2, 3]] [3, 2, 1, 0]) = [(2, 3), (1, 2), (0, 1)]) : Bool) = true from (by decide +kernel)]
    refine Wx.rd (v := .bool true) (rd_pickT rfl rfl) rfl ?_
    refine Wx.rd (v := .bool true) (rd_move rfl) rfl ?_
    refine Wx.gyes rfl rfl rfl ?_
    refine Wx.rd (v := v_74) (rd_move rfl) rfl ?_
    refine Wx.gyes rfl rfl rfl ?_
    refine Wx.lit (t := (tI .i64)) (ys := [0, 1, 2, 3]) (vs := [.int .i64 0, .int .i64 1, .int .i64 2, .int .i64 3]) elFk_28 hS rfl rfl ⟨(V.mkInt (in_i64 (by omega) (by omega))), ⟨(V.mkInt (in_i64 (by omega) (by omega))), ⟨(V.mkInt (in_i64 (by omega) (by omega))), ⟨(V.mkInt (in_i64 (by omega) (by omega))), trivial⟩⟩⟩⟩ (by decide) rfl (fun v_203 w_204 hx_205 hS => ?_)
    refine Wx.gyes rfl rfl rfl ?_
    have hS := hS.freeze 0 rfl
    refine Wx.callF (run_callF Try.call39 rfl) (F39 (hS.v 0 rfl) hS.fb_lt) rfl ?_
    rintro r_207 w_208 hx_209 ⟨_, rfl, hv_210⟩
    have ln_212 := hv_210.len63
    have hS := hS.ext hx_209
    have hS := hS.add hv_210
    refine Wx.gyes rfl rfl rfl ?_
    refine Wx.callF (run_callF Try.call22 rfl) (F22 (hS.lend 15 rfl) (hS.v 0 rfl)) rfl ?_
    rintro r_213 w_214 hx_215 rfl
    have hS := hS.ext hx_215
    rw [show (decide ((firstL 4 [[0, 1], [1, 2], [2, 3]]) = [0, 1, 2, 3]) : Bool) = true from (by decide +kernel)]
    refine Wx.rd (v := .bool true) (rd_pickT rfl rfl) rfl ?_
    refine Wx.rd (v := .bool true) (rd_move rfl) rfl ?_
    refine Wx.gyes rfl rfl rfl ?_
    refine Wx.rd (v := .int .i64 12) (rd_move rfl) rfl ?_
    refine Wx.gyes rfl rfl rfl ?_
    refine Wx.rd (v := .bool true) (Rd.to (v := .bool (decide ((12 : Int) = 12))) (rd_eql rfl rfl) (congrArg (Value.bool) (show (true : Bool) = (decide ((12 : Int) = 12) : Bool) from (by decide +kernel)).symm)) rfl ?_
    refine Wx.rd (v := .bool true) (rd_pickT rfl rfl) rfl ?_
    refine Wx.rd (v := .bool true) (rd_move rfl) rfl ?_
    refine Wx.gyes rfl rfl rfl ?_
    refine Wx.rd (v := v_97) (rd_move rfl) rfl ?_
    refine Wx.gyes rfl rfl rfl ?_
    refine Wx.rd (v := .agg #[.int .i64 0, .int .i64 1]) (rd_build (vs := [(0, .int .i64 0), (1, .int .i64 1)]) rfl (by kernel_rfl)) rfl ?_
    refine Wx.gyes rfl rfl rfl ?_
    refine Wx.rd (v := .agg #[.int .i64 1, .int .i64 2]) (rd_build (vs := [(0, .int .i64 1), (1, .int .i64 2)]) rfl (by kernel_rfl)) rfl ?_
    refine Wx.gyes rfl rfl rfl ?_
    refine Wx.rd (v := .agg #[.int .i64 2, .int .i64 3]) (rd_build (vs := [(0, .int .i64 2), (1, .int .i64 3)]) rfl (by kernel_rfl)) rfl ?_
    refine Wx.gyes rfl rfl rfl ?_
    refine Wx.lit (t := (tP (tI .i64) (tI .i64))) (ys := [(0, 1), (1, 2), (2, 3)]) (vs := [.agg #[.int .i64 0, .int .i64 1], .agg #[.int .i64 1, .int .i64 2], .agg #[.int .i64 2, .int .i64 3]]) elFk_36 hS rfl rfl ⟨(V.mk2 (in_i64 (by omega) (by omega)) (in_i64 (by omega) (by omega))), ⟨(V.mk2 (in_i64 (by omega) (by omega)) (in_i64 (by omega) (by omega))), ⟨(V.mk2 (in_i64 (by omega) (by omega)) (in_i64 (by omega) (by omega))), trivial⟩⟩⟩ (by decide) rfl (fun v_216 w_217 hx_218 hS => ?_)
    refine Wx.gyes rfl rfl rfl ?_
    refine Wx.callF (run_callF Try.call23 rfl) (F23 (hS.lend 13 rfl) (hS.lend 0 rfl)) rfl ?_
    rintro r_219 w_220 hx_221 rfl
    have hS := hS.ext hx_221
    rw [show (decide ((besideL 4 [[0, 1], [1, 2], [2, 3]]) = [(0, 1), (1, 2), (2, 3)]) : Bool) = true from (by decide +kernel)]
    refine Wx.rd (v := .bool true) (rd_pickT rfl rfl) rfl ?_
    refine Wx.rd (v := .bool true) (rd_move rfl) rfl ?_
    refine Wx.gyes rfl rfl rfl ?_
    refine Wx.rd (v := .int .i64 1) (rd_move rfl) rfl ?_
    refine Wx.gyes rfl rfl rfl ?_
    refine Wx.rd (v := .bool true) (Rd.to (v := .bool (decide ((1 : Int) = 1))) (rd_eql rfl rfl) (congrArg (Value.bool) (show (true : Bool) = (decide ((1 : Int) = 1) : Bool) from (by decide +kernel)).symm)) rfl ?_
    refine Wx.rd (v := .bool true) (rd_pickT rfl rfl) rfl ?_
    refine Wx.rd (v := .bool true) (rd_move rfl) rfl ?_
    refine Wx.gyes rfl rfl rfl ?_
    refine Wx.rd (v := .int .i64 2) (rd_move rfl) rfl ?_
    refine Wx.gyes rfl rfl rfl ?_
    refine Wx.rd (v := .bool true) (Rd.to (v := .bool (decide ((2 : Int) = 2))) (rd_eql rfl rfl) (congrArg (Value.bool) (show (true : Bool) = (decide ((2 : Int) = 2) : Bool) from (by decide +kernel)).symm)) rfl ?_
    refine Wx.rd (v := .bool true) (rd_pickT rfl rfl) rfl ?_
    refine Wx.rd (v := .bool true) (rd_move rfl) rfl ?_
    refine Wx.gyes rfl rfl rfl ?_
    refine Wx.rd (v := .int .i64 3) (rd_move rfl) rfl ?_
    refine Wx.gyes rfl rfl rfl ?_
    refine Wx.rd (v := .bool true) (Rd.to (v := .bool (decide ((3 : Int) = 3))) (rd_eql rfl rfl) (congrArg (Value.bool) (show (true : Bool) = (decide ((3 : Int) = 3) : Bool) from (by decide +kernel)).symm)) rfl ?_
    refine Wx.rd (v := .bool true) (rd_pickT rfl rfl) rfl ?_
    refine Wx.rd (v := .bool true) (rd_move rfl) rfl ?_
    refine Wx.gyes rfl rfl rfl ?_
    refine Wx.rd (v := v_150) (rd_move rfl) rfl ?_
    refine Wx.gyes rfl rfl rfl ?_
    refine Wx.lit (t := (tI .i64)) (ys := [0]) (vs := [.int .i64 0]) elFk_28 hS rfl rfl ⟨(V.mkInt (in_i64 (by omega) (by omega))), trivial⟩ (by decide) rfl (fun v_222 w_223 hx_224 hS => ?_)
    refine Wx.gyes rfl rfl rfl ?_
    have hS := hS.freeze 0 rfl
    refine Wx.callF (run_callF Try.call39 rfl) (F39 (hS.v 0 rfl) hS.fb_lt) rfl ?_
    rintro r_226 w_227 hx_228 ⟨_, rfl, hv_229⟩
    have ln_231 := hv_229.len63
    have hS := hS.ext hx_228
    have hS := hS.add hv_229
    refine Wx.gyes rfl rfl rfl ?_
    refine Wx.callF (run_callF Try.call22 rfl) (F22 (hS.v 12 rfl) (hS.v 0 rfl)) rfl ?_
    rintro r_232 w_233 hx_234 rfl
    have hS := hS.ext hx_234
    rw [show (decide ((fewestL 4 [[0, 1], [0, 2], [0, 3]]) = [0]) : Bool) = true from (by decide +kernel)]
    refine Wx.rd (v := .bool true) (rd_pickT rfl rfl) rfl ?_
    refine Wx.rd (v := .bool true) (rd_move rfl) rfl ?_
    refine Wx.gyes rfl rfl rfl ?_
    refine Wx.callF (run_callF Try.call41 rfl) (F41 hS.fb_lt) rfl ?_
    rintro r_235 w_236 hx_237 ⟨v_238, rfl, hv_239⟩
    have ln_241 := hv_239.len63
    have hS := hS.ext hx_237
    have hS := hS.add hv_239
    refine Wx.gyes rfl rfl rfl ?_
    refine Wx.callF (run_callF Try.call26 rfl) (F26 (in_i64 (by omega) (by omega)) (hS.v 0 rfl) (in_i64 (by omega) (by omega)) (in_i64 (by omega) (by omega)) (in_i64 (by omega) (by omega))) rfl ?_
    rintro r_242 w_243 hx_244 rfl
    have hS := hS.ext hx_244
    refine Wx.gyes rfl rfl rfl ?_
    refine Wx.rd (v := .bool true) (Rd.to (v := .bool (decide ((provesE 4 [[0, 1], [0, 2], [0, 3]] 3 1 2) = 0))) (rd_eql rfl rfl) (congrArg (Value.bool) (show (true : Bool) = (decide ((provesE 4 [[0, 1], [0, 2], [0, 3]] 3 1 2) = 0) : Bool) from (by decide +kernel)).symm)) rfl ?_
    refine Wx.rd (v := .bool true) (rd_pickT rfl rfl) rfl ?_
    refine Wx.rd (v := .bool true) (rd_move rfl) rfl ?_
    refine Wx.gyes rfl rfl rfl ?_
    refine Wx.callF (run_callF Try.call41 rfl) (F41 hS.fb_lt) rfl ?_
    rintro r_245 w_246 hx_247 ⟨v_248, rfl, hv_249⟩
    have ln_251 := hv_249.len63
    have hS := hS.ext hx_247
    have hS := hS.add hv_249
    refine Wx.gyes rfl rfl rfl ?_
    refine Wx.callF (run_callF Try.call26 rfl) (F26 (in_i64 (by omega) (by omega)) (hS.v 0 rfl) (in_i64 (by omega) (by omega)) (in_i64 (by omega) (by omega)) (in_i64 (by omega) (by omega))) rfl ?_
    rintro r_252 w_253 hx_254 rfl
    have hS := hS.ext hx_254
    refine Wx.gyes rfl rfl rfl ?_
    refine Wx.rd (v := .bool true) (Rd.to (v := .bool (decide ((provesE 4 [[0, 1], [0, 2], [0, 3]] 0 1 2) = 14))) (rd_eql rfl rfl) (congrArg (Value.bool) (show (true : Bool) = (decide ((provesE 4 [[0, 1], [0, 2], [0, 3]] 0 1 2) = 14) : Bool) from (by decide +kernel)).symm)) rfl ?_
    refine Wx.rd (v := .bool true) (rd_pickT rfl rfl) rfl ?_
    refine Wx.rd (v := .bool true) (rd_assign rfl) rfl ?_
    refine Wx.nil ?_
    exact W.ret ⟨.bool true, ResIs.one, hS.bel, rfl⟩
end Go.Proofs.Ytjmpojoimcljoaa
