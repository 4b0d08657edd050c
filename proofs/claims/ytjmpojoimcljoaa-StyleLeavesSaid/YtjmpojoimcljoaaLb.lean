/-
  WHAT IS PROVED HERE: what functions of layer 3 hand back, each out of its own code; the conditions stand in each statement.
-/
import Derived.Test.YtjmpojoimcljoaaProg
import Derived.Test.YtjmpojoimcljoaaWk5
import Derived.Test.YtjmpojoimcljoaaSpec4
import Derived.Test.YtjmpojoimcljoaaFa
import Derived.Test.YtjmpojoimcljoaaFi
import Derived.Test.YtjmpojoimcljoaaFj
import Derived.Test.YtjmpojoimcljoaaFk
import Derived.Test.YtjmpojoimcljoaaRf
namespace Go.Proofs.Ytjmpojoimcljoaa
open Go.Wk Go.RowKit
set_option linter.unusedVariables false
set_option linter.unusedSimpArgs false


theorem F5 {L : Int} {fv : Value} {fs : List (List Int)} {Fr_fv : List (Option Nat)} {w : World} (i_L : InK .i64 L) (h_fv : V (tSl (tSl (tI .i64))) fs fv Fr_fv w) (p_law : leavesB L fs = true) : Calls Try.prog 5 #[.agg #[.int .i64 L, fv]] w (Ret w (fun r _ => r = .bool true)) := by
  have b_L := bd_i64 i_L
  have a_fv := h_fv.any
  have l_fv := h_fv.len63
  have hS := St.start0 w
  refine enterR Try.func5 rfl Try.ntmps5 Try.results5 rfl ?_
  refine W.seq ?_
  refine W.reg ?_
  refine Wx.box (cs := [.int .i64 L, fv]) hS rfl rfl rfl (fun g_1 w_2 hx_4 hb_3 hS => ?_)
  refine Wx.rd (v := .bool false) (rd_assign rfl) rfl ?_
  refine Wx.nil ?_
  refine W.seq ?_
  refine W.seq ?_
  refine W.reg ?_
  refine Wx.rd (v := .agg #[.int .i64 L, fv]) (rd_loadXs (ds := [.int .i64 L, fv]) hS 0 rfl rfl rfl rfl Try.isAgg24 Try.sizeOf24) rfl ?_
  refine Wx.callF (run_callF Try.call14 rfl) (F14 (in_i64 (by omega) (by omega)) (hS.arg a_fv)) rfl ?_
  rintro r_5 w_6 hx_7 rfl
  have hS := hS.ext hx_7
  refine Wx.nil ?_
  refine W.cond rfl (fun c0 => ?_) (fun c0 => ?_)
  · -- yes
    try simp only [Bool.and_eq_true, Bool.or_eq_true, Bool.not_eq_true', Bool.and_eq_false_iff, Bool.or_eq_false_iff, Bool.not_eq_false', decide_eq_true_eq, decide_eq_false_iff_not, not_or, Bool.false_eq_true, Bool.true_eq_false, false_or, or_false, not_false_eq_true] at c0
    refine W.seq ?_
    refine W.reg ?_
    refine Wx.callF (run_callF Try.call15 rfl) (F15) rfl ?_
    rintro r_8 w_9 hx_10 rfl
    have hS := hS.ext hx_10
    refine Wx.rd (v := .bool true) (rd_assign rfl) rfl ?_
    refine Wx.nil ?_
    exact W.ret ⟨.bool true, ResIs.one, hS.bel, rfl⟩
  · -- no
    try simp only [Bool.and_eq_true, Bool.or_eq_true, Bool.not_eq_true', Bool.and_eq_false_iff, Bool.or_eq_false_iff, Bool.not_eq_false', decide_eq_true_eq, decide_eq_false_iff_not, not_or, Bool.false_eq_true, Bool.true_eq_false, false_or, or_false, not_false_eq_true] at c0
    refine W.skip ?_
    refine W.seq ?_
    refine W.reg ?_
    refine Wx.rd (v := .agg #[.int .i64 L, fv]) (rd_loadXs (ds := [.int .i64 L, fv]) hS 0 rfl rfl rfl rfl Try.isAgg24 Try.sizeOf24) rfl ?_
    refine Wx.callF (run_callF Try.call28 rfl) (F28 (in_i64 (by omega) (by omega)) (hS.arg a_fv) hS.fb_lt) rfl ?_
    rintro r_11 w_12 hx_13 ⟨v_14, rfl, hv_15⟩
    have ln_17 := hv_15.len63
    have hS := hS.ext hx_13
    have hS := hS.add hv_15
    refine Wx.rd (v := .tuple #[v_14, .int .i64 (checkE L fs)]) (rd_move rfl) rfl ?_
    refine Wx.rd (v := v_14) (rd_extract rfl rfl) rfl ?_
    refine Wx.rd (v := .int .i64 (checkE L fs)) (rd_extract rfl rfl) rfl ?_
    refine Wx.rd (v := v_14) (rd_assign rfl) rfl ?_
    refine Wx.rd (v := .int .i64 (checkE L fs)) (rd_assign rfl) rfl ?_
    refine Wx.nil ?_
    refine W.seq ?_
    refine W.reg ?_
    refine Wx.rd (v := .agg #[.int .i64 L, fv]) (rd_loadXs (ds := [.int .i64 L, fv]) hS 1 rfl rfl rfl rfl Try.isAgg24 Try.sizeOf24) rfl ?_
    refine Wx.callF (run_callF Try.call29 rfl) (F29 (in_i64 (by omega) (by omega)) (hS.arg a_fv) hS.fb_lt) rfl ?_
    rintro r_18 w_19 hx_20 ⟨v_21, rfl, hv_22⟩
    have ln_24 := hv_22.len63
    have hS := hS.ext hx_20
    have hS := hS.add hv_22
    refine Wx.rd (v := .tuple #[v_21, .int .i64 (checkE L fs)]) (rd_move rfl) rfl ?_
    refine Wx.rd (v := v_21) (rd_extract rfl rfl) rfl ?_
    refine Wx.rd (v := .int .i64 (checkE L fs)) (rd_extract rfl rfl) rfl ?_
    refine Wx.rd (v := v_21) (rd_assign rfl) rfl ?_
    refine Wx.rd (v := .int .i64 (checkE L fs)) (rd_assign rfl) rfl ?_
    refine Wx.nil ?_
    refine W.seq ?_
    refine W.reg ?_
    refine Wx.rd (v := v_14) (rd_move rfl) rfl ?_
    refine Wx.rd (v := v_21) (rd_move rfl) rfl ?_
    refine Wx.callF (run_callF Try.call22 rfl) (F22 (hS.v 1 rfl) (hS.v 0 rfl)) rfl ?_
    rintro r_25 w_26 hx_27 rfl
    have hS := hS.ext hx_27
    refine Wx.rd (v := .bool (decide ((fewestL L fs) = (refFewest L fs)))) (rd_move rfl) rfl ?_
    refine Wx.cut (X := Unit) 4 [24, 25, 26, 27] (fun _ => [(27, .bool (decide ((fewestL L fs) = (refFewest L fs)) && decide ((checkE L fs) = (checkE L fs))))]) (fun _ w' => St w [] w' [Ob.v (tSl (tI .i64)) (refFewest L fs) v_21, Ob.v (tSl (tI .i64)) (fewestL L fs) v_14, .box g_1 24 [.int .i64 L, fv]]) ?_ ?_
    · rcases Bool.eq_false_or_eq_true (decide ((fewestL L fs) = (refFewest L fs))) with g_28 | g_28
      · -- True
        have gp_29 := of_decide_eq_true g_28
        refine Wx.gyes rfl rfl (congrArg Value.bool g_28) ?_
        refine Wx.rd (v := .int .i64 (checkE L fs)) (rd_move rfl) rfl ?_
        refine Wx.gyes rfl rfl (congrArg Value.bool g_28) ?_
        refine Wx.rd (v := .int .i64 (checkE L fs)) (rd_move rfl) rfl ?_
        refine Wx.gyes rfl rfl (congrArg Value.bool g_28) ?_
        refine Wx.rd (v := .bool (decide ((checkE L fs) = (checkE L fs)))) (rd_eql rfl rfl) rfl ?_
        refine Wx.rd (v := .bool (decide ((checkE L fs) = (checkE L fs)))) (rd_pickT (congrArg Value.bool g_28) rfl) rfl ?_
        refine Wx.nil ⟨(), hS, ⟨?_, trivial⟩, Out.look rfl Out.refl⟩
        show Value.bool (decide ((checkE L fs) = (checkE L fs))) = Value.bool (decide ((fewestL L fs) = (refFewest L fs)) && decide ((checkE L fs) = (checkE L fs)))
        rw [g_28]; rfl
      · -- False
        have gp_30 := of_decide_eq_false g_28
        refine Wx.gnoB rfl rfl (congrArg Value.bool g_28) rfl rfl ?_
        refine Wx.gnoB rfl rfl (congrArg Value.bool g_28) rfl rfl ?_
        refine Wx.gnoB rfl rfl (congrArg Value.bool g_28) rfl rfl ?_
        refine Wx.rd (v := .bool false) (rd_pickF (congrArg Value.bool g_28) rfl) rfl ?_
        refine Wx.nil ⟨(), hS, ⟨?_, trivial⟩, Out.look rfl Out.refl⟩
        show Value.bool false = Value.bool (decide ((fewestL L fs) = (refFewest L fs)) && decide ((checkE L fs) = (checkE L fs)))
        rw [g_28]; rfl
    rintro ⟨⟩ u_32 w_31 hS
    refine Wx.rd (v := .bool (decide ((fewestL L fs) = (refFewest L fs)) && decide ((checkE L fs) = (checkE L fs)))) (rd_move rfl) rfl ?_
    refine Wx.cut (X := Unit) 2 [29, 30] (fun _ => [(30, .bool ((decide ((fewestL L fs) = (refFewest L fs)) && decide ((checkE L fs) = (checkE L fs))) && true))]) (fun _ w' => St w [] w' [Ob.v (tSl (tI .i64)) (refFewest L fs) v_21, Ob.v (tSl (tI .i64)) (fewestL L fs) v_14, .box g_1 24 [.int .i64 L, fv]]) ?_ ?_
    · rcases Bool.eq_false_or_eq_true (decide ((fewestL L fs) = (refFewest L fs)) && decide ((checkE L fs) = (checkE L fs))) with g_33 | g_33
      · -- True
        have gp_34 := g_33
        try simp only [Bool.and_eq_true, Bool.or_eq_true, Bool.not_eq_true', Bool.and_eq_false_iff, Bool.or_eq_false_iff, Bool.not_eq_false', decide_eq_true_eq, decide_eq_false_iff_not, not_or, Bool.false_eq_true, Bool.true_eq_false, false_or, or_false, not_false_eq_true] at gp_34
        refine Wx.gyes rfl rfl (congrArg Value.bool g_33) ?_
        refine Wx.callF (run_callF Try.call15 rfl) (F15) rfl ?_
        rintro r_35 w_36 hx_37 rfl
        have hS := hS.ext hx_37
        refine Wx.rd (v := .bool true) (rd_pickT (congrArg Value.bool g_33) rfl) rfl ?_
        refine Wx.nil ⟨(), hS, ⟨?_, trivial⟩, Out.look rfl Out.refl⟩
        show Value.bool true = Value.bool ((decide ((fewestL L fs) = (refFewest L fs)) && decide ((checkE L fs) = (checkE L fs))) && true)
        rw [g_33]; rfl
      · -- False
        have gp_38 := g_33
        try simp only [Bool.and_eq_true, Bool.or_eq_true, Bool.not_eq_true', Bool.and_eq_false_iff, Bool.or_eq_false_iff, Bool.not_eq_false', decide_eq_true_eq, decide_eq_false_iff_not, not_or, Bool.false_eq_true, Bool.true_eq_false, false_or, or_false, not_false_eq_true] at gp_38
        refine Wx.gnoB rfl rfl (congrArg Value.bool g_33) rfl rfl ?_
        refine Wx.rd (v := .bool false) (rd_pickF (congrArg Value.bool g_33) rfl) rfl ?_
        refine Wx.nil ⟨(), hS, ⟨?_, trivial⟩, Out.look rfl Out.refl⟩
        show Value.bool false = Value.bool ((decide ((fewestL L fs) = (refFewest L fs)) && decide ((checkE L fs) = (checkE L fs))) && true)
        rw [g_33]; rfl
    rintro ⟨⟩ u_40 w_39 hS
    refine Wx.rd (v := .bool ((decide ((fewestL L fs) = (refFewest L fs)) && decide ((checkE L fs) = (checkE L fs))) && true)) (rd_assign rfl) rfl ?_
    refine Wx.nil ?_
    have e1_0 : ((decide ((fewestL L fs) = (refFewest L fs)) && decide ((checkE L fs) = (checkE L fs))) && true) = true := by exact p_law
    exact W.ret ⟨.bool ((decide ((fewestL L fs) = (refFewest L fs)) && decide ((checkE L fs) = (checkE L fs))) && true), ResIs.one, hS.bel, (by rw [e1_0])⟩
end Go.Proofs.Ytjmpojoimcljoaa
