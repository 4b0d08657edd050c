/-
  WHAT IS PROVED HERE: what functions of layer 3 hand back, each out of its own code; the conditions stand in each statement.
-/
import Derived.Test.YtjmpojoimcljoaaProg
import Derived.Test.YtjmpojoimcljoaaWk5
import Derived.Test.YtjmpojoimcljoaaSpec3
import Derived.Test.YtjmpojoimcljoaaFa
import Derived.Test.YtjmpojoimcljoaaFe
import Derived.Test.YtjmpojoimcljoaaFf
import Derived.Test.YtjmpojoimcljoaaFg
import Derived.Test.YtjmpojoimcljoaaFh
import Derived.Test.YtjmpojoimcljoaaFj
import Derived.Test.YtjmpojoimcljoaaFk
import Derived.Test.YtjmpojoimcljoaaRa
import Derived.Test.YtjmpojoimcljoaaRb
import Derived.Test.YtjmpojoimcljoaaRc
import Derived.Test.YtjmpojoimcljoaaRd
namespace Go.Proofs.Ytjmpojoimcljoaa
open Go.Wk Go.RowKit
set_option linter.unusedVariables false
set_option linter.unusedSimpArgs false
theorem mixedLa_ : Try.prog.follows .mixedOrders = true := by kernel_rfl

theorem F3 {L : Int} {fv : Value} {fs : List (List Int)} {Fr_fv : List (Option Nat)} {w : World} (i_L : InK .i64 L) (h_fv : V (tSl (tSl (tI .i64))) fs fv Fr_fv w) (p_law : fitsB L fs = true) : Calls Try.prog 3 #[.agg #[.int .i64 L, fv]] w (Ret w (fun r _ => r = .bool true)) := by
  have b_L := bd_i64 i_L
  have a_fv := h_fv.any
  have l_fv := h_fv.len63
  have hS := St.start0 w
  refine enterR Try.func3 rfl Try.ntmps3 Try.results3 rfl ?_
  refine W.seq ?_
  refine W.reg ?_
  refine Wx.box (cs := [.int .i64 L, fv]) hS rfl rfl rfl (fun g_1 w_2 hx_4 hb_3 hS => ?_)
  refine Wx.rd (v := .bool false) (rd_assign rfl) rfl ?_
  refine Wx.nil ?_
  refine W.seq ?_
  refine W.seq ?_
  refine W.reg ?_
  refine Wx.rd (v := .agg #[.int .i64 L, fv]) (rd_loadXs (ds := [.int .i64 L, fv]) hS 0 rfl rfl rfl rfl Try.isAgg24 Try.sizeOf24) rfl ?_
  refine Wx.callF (run_callF Try.call14 rfl) (F14 (in_i64 (by omega) (by omega)) (hS.arg a_fv)) rfl ?_
  rintro r_5 w_6 hx_7 rfl
  have hS := hS.ext hx_7
  refine Wx.nil ?_
  refine W.cond rfl (fun c0 => ?_) (fun c0 => ?_)
  · -- yes
    try simp only [Bool.and_eq_true, Bool.or_eq_true, Bool.not_eq_true', Bool.and_eq_false_iff, Bool.or_eq_false_iff, Bool.not_eq_false', decide_eq_true_eq, decide_eq_false_iff_not, not_or, Bool.false_eq_true, Bool.true_eq_false, false_or, or_false, not_false_eq_true] at c0
    refine W.seq ?_
    refine W.reg ?_
    refine Wx.callF (run_callF Try.call15 rfl) (F15) rfl ?_
    rintro r_8 w_9 hx_10 rfl
    have hS := hS.ext hx_10
    refine Wx.rd (v := .bool true) (rd_assign rfl) rfl ?_
    refine Wx.nil ?_
    exact W.ret ⟨.bool true, ResIs.one, hS.bel, rfl⟩
  · -- no
    try simp only [Bool.and_eq_true, Bool.or_eq_true, Bool.not_eq_true', Bool.and_eq_false_iff, Bool.or_eq_false_iff, Bool.not_eq_false', decide_eq_true_eq, decide_eq_false_iff_not, not_or, Bool.false_eq_true, Bool.true_eq_false, false_or, or_false, not_false_eq_true] at c0
    refine W.skip ?_
    refine W.seq ?_
    refine W.reg ?_
    refine Wx.rd (v := .agg #[.int .i64 L, fv]) (rd_loadXs (ds := [.int .i64 L, fv]) hS 0 rfl rfl rfl rfl Try.isAgg24 Try.sizeOf24) rfl ?_
    refine Wx.alloc (cs := [.int .i64 0, (.slice none 0 0)]) hS Try.zeroValue27 rfl rfl (fun g_11 w_12 hx_14 hb_13 hS => ?_)
    refine Wx.storeX (cs' := [.int .i64 L, fv]) (ds := [.int .i64 L, fv]) hS 0 rfl rfl rfl rfl Try.sizeOf27 (Nat.le_of_ble_eq_true rfl) (one_cons rfl (one_cons (V.oneC (hS.arg a_fv)) one_nil)) rfl (fun w_15 hz_16 hS => ?_)
    refine Wx.nil ?_
    refine W.seq ?_
    refine W.reg ?_
    refine Wx.rd (v := .agg #[.int .i64 L, fv]) (rd_loadXs (ds := [.int .i64 L, fv]) hS 1 rfl rfl rfl rfl Try.isAgg24 Try.sizeOf24) rfl ?_
    refine Wx.callF (run_callF Try.call16 rfl) (F16 (in_i64 (by omega) (by omega)) (hS.arg a_fv)) rfl ?_
    rintro r_17 w_18 hx_19 ⟨v_20, rfl, hv_21⟩
    have hS := hS.pushFr hx_19 hv_21
    refine Wx.rd (v := .tuple #[v_20, .int .i64 (firstE L fs)]) (rd_move rfl) rfl ?_
    refine Wx.rd (v := v_20) (rd_extract rfl rfl) rfl ?_
    refine Wx.rd (v := .int .i64 (firstE L fs)) (rd_extract rfl rfl) rfl ?_
    refine Wx.rd (v := v_20) (rd_assign rfl) rfl ?_
    refine Wx.rd (v := .int .i64 (firstE L fs)) (rd_assign rfl) rfl ?_
    refine Wx.nil ?_
    refine W.seq ?_
    refine W.reg ?_
    refine Wx.rd (v := .agg #[.int .i64 L, fv]) (rd_loadXs (ds := [.int .i64 L, fv]) hS 1 rfl rfl rfl rfl Try.isAgg27 Try.sizeOf27) rfl ?_
    refine Wx.callF (run_callF Try.call17 rfl) (F17 (in_i64 (by omega) (by omega)) (hS.arg a_fv) hS.fb_lt) rfl ?_
    rintro r_23 w_24 hx_25 ⟨v_26, rfl, hv_27⟩
    have ln_29 := hv_27.len63
    have hS := hS.ext hx_25
    have hS := hS.add hv_27
    refine Wx.rd (v := .tuple #[v_26, .int .i64 ((refFirst L fs).2)]) (rd_move rfl) rfl ?_
    refine Wx.rd (v := v_26) (rd_extract rfl rfl) rfl ?_
    refine Wx.rd (v := .int .i64 ((refFirst L fs).2)) (rd_extract rfl rfl) rfl ?_
    refine Wx.rd (v := v_26) (rd_assign rfl) rfl ?_
    refine Wx.rd (v := .int .i64 ((refFirst L fs).2)) (rd_assign rfl) rfl ?_
    refine Wx.nil ?_
    refine W.seq ?_
    refine W.reg ?_
    refine Wx.rd (v := .agg #[.int .i64 L, fv]) (rd_loadXs (ds := [.int .i64 L, fv]) hS 3 rfl rfl rfl rfl Try.isAgg24 Try.sizeOf24) rfl ?_
    refine Wx.callF (run_callF Try.call18 rfl) (F18 (in_i64 (by omega) (by omega)) (hS.arg a_fv)) rfl ?_
    rintro r_30 w_31 hx_32 rfl
    have hS := hS.ext hx_32
    refine Wx.rd (v := .tuple #[.int .i64 (countE L fs), .int .i64 (checkE L fs)]) (rd_move rfl) rfl ?_
    refine Wx.rd (v := .int .i64 (countE L fs)) (rd_extract rfl rfl) rfl ?_
    refine Wx.rd (v := .int .i64 (checkE L fs)) (rd_extract rfl rfl) rfl ?_
    refine Wx.rd (v := .int .i64 (countE L fs)) (rd_assign rfl) rfl ?_
    refine Wx.rd (v := .int .i64 (checkE L fs)) (rd_assign rfl) rfl ?_
    refine Wx.nil ?_
    refine W.seq ?_
    refine W.reg ?_
    refine Wx.rd (v := .agg #[.int .i64 L, fv]) (rd_loadXs (ds := [.int .i64 L, fv]) hS 2 rfl rfl rfl rfl Try.isAgg27 Try.sizeOf27) rfl ?_
    refine Wx.callF (run_callF Try.call19 rfl) (F19 (in_i64 (by omega) (by omega)) (hS.arg a_fv)) rfl ?_
    rintro r_33 w_34 hx_35 rfl
    have hS := hS.ext hx_35
    refine Wx.rd (v := .tuple #[.int .i64 (refCount L fs), .int .i64 (checkE L fs)]) (rd_move rfl) rfl ?_
    refine Wx.rd (v := .int .i64 (refCount L fs)) (rd_extract rfl rfl) rfl ?_
    refine Wx.rd (v := .int .i64 (checkE L fs)) (rd_extract rfl rfl) rfl ?_
    refine Wx.rd (v := .int .i64 (refCount L fs)) (rd_assign rfl) rfl ?_
    refine Wx.rd (v := .int .i64 (checkE L fs)) (rd_assign rfl) rfl ?_
    refine Wx.nil ?_
    refine W.seq ?_
    refine W.reg ?_
    refine Wx.rd (v := .agg #[.int .i64 L, fv]) (rd_loadXs (ds := [.int .i64 L, fv]) hS 3 rfl rfl rfl rfl Try.isAgg24 Try.sizeOf24) rfl ?_
    refine Wx.callF (run_callF Try.call20 rfl) (F20 (in_i64 (by omega) (by omega)) (hS.arg a_fv)) rfl ?_
    rintro r_36 w_37 hx_38 ⟨v_39, rfl, hv_40⟩
    have hS := hS.pushFr hx_38 hv_40
    refine Wx.rd (v := .tuple #[v_39, .int .i64 (firstE L fs)]) (rd_move rfl) rfl ?_
    refine Wx.rd (v := v_39) (rd_extract rfl rfl) rfl ?_
    refine Wx.rd (v := .int .i64 (firstE L fs)) (rd_extract rfl rfl) rfl ?_
    refine Wx.rd (v := v_39) (rd_assign rfl) rfl ?_
    refine Wx.rd (v := .int .i64 (firstE L fs)) (rd_assign rfl) rfl ?_
    refine Wx.nil ?_
    refine W.seq ?_
    refine W.reg ?_
    refine Wx.rd (v := .agg #[.int .i64 L, fv]) (rd_loadXs (ds := [.int .i64 L, fv]) hS 3 rfl rfl rfl rfl Try.isAgg27 Try.sizeOf27) rfl ?_
    refine Wx.callF (run_callF Try.call21 rfl) (F21 (in_i64 (by omega) (by omega)) (hS.arg a_fv)) rfl ?_
    rintro r_42 w_43 hx_44 ⟨v_45, rfl, hv_46⟩
    have hS := hS.pushFr hx_44 hv_46
    refine Wx.rd (v := .tuple #[v_45, .int .i64 ((refFirst L fs).2)]) (rd_move rfl) rfl ?_
    refine Wx.rd (v := v_45) (rd_extract rfl rfl) rfl ?_
    refine Wx.rd (v := .int .i64 ((refFirst L fs).2)) (rd_extract rfl rfl) rfl ?_
    refine Wx.rd (v := v_45) (rd_assign rfl) rfl ?_
    refine Wx.rd (v := .int .i64 ((refFirst L fs).2)) (rd_assign rfl) rfl ?_
    refine Wx.nil ?_
    refine W.seq ?_
    refine W.reg ?_
    refine Wx.rd (v := v_20) (rd_move rfl) rfl ?_
    refine Wx.rd (v := v_26) (rd_move rfl) rfl ?_
    refine Wx.callF (run_callF Try.call22 rfl) (F22 (hS.lend 3 rfl) (hS.v 2 rfl)) rfl ?_
    rintro r_48 w_49 hx_50 rfl
    have hS := hS.ext hx_50
    refine Wx.rd (v := .bool (decide ((firstL L fs) = ((refFirst L fs).1)))) (rd_move rfl) rfl ?_
    refine Wx.cut (X := Unit) 4 [54, 55, 56, 57] (fun _ => [(57, .bool (decide ((firstL L fs) = ((refFirst L fs).1)) && decide ((firstE L fs) = ((refFirst L fs).2))))]) (fun _ w' => St w [] w' [.row (tP (tI .i64) (tI .i64)) 61 v_45 (refBeside L fs), .row (tP (tI .i64) (tI .i64)) 61 v_39 (besideL L fs), Ob.v (tSl (tI .i64)) ((refFirst L fs).1) v_26, .row (tI .i64) 3 v_20 (firstL L fs), .box g_11 27 [.int .i64 L, fv], .box g_1 24 [.int .i64 L, fv]]) ?_ ?_
    · rcases Bool.eq_false_or_eq_true (decide ((firstL L fs) = ((refFirst L fs).1))) with g_51 | g_51
      · -- True
        have gp_52 := of_decide_eq_true g_51
        refine Wx.gyes rfl rfl (congrArg Value.bool g_51) ?_
        refine Wx.rd (v := .int .i64 (firstE L fs)) (rd_move rfl) rfl ?_
        refine Wx.gyes rfl rfl (congrArg Value.bool g_51) ?_
        refine Wx.rd (v := .int .i64 ((refFirst L fs).2)) (rd_move rfl) rfl ?_
        refine Wx.gyes rfl rfl (congrArg Value.bool g_51) ?_
        refine Wx.rd (v := .bool (decide ((firstE L fs) = ((refFirst L fs).2)))) (rd_eql rfl rfl) rfl ?_
        refine Wx.rd (v := .bool (decide ((firstE L fs) = ((refFirst L fs).2)))) (rd_pickT (congrArg Value.bool g_51) rfl) rfl ?_
        refine Wx.nil ⟨(), hS, ⟨?_, trivial⟩, Out.look rfl Out.refl⟩
        show Value.bool (decide ((firstE L fs) = ((refFirst L fs).2))) = Value.bool (decide ((firstL L fs) = ((refFirst L fs).1)) && decide ((firstE L fs) = ((refFirst L fs).2)))
        rw [g_51]; rfl
      · -- False
        have gp_53 := of_decide_eq_false g_51
        refine Wx.gnoB rfl rfl (congrArg Value.bool g_51) rfl rfl ?_
        refine Wx.gnoB rfl rfl (congrArg Value.bool g_51) rfl rfl ?_
        refine Wx.gnoB rfl rfl (congrArg Value.bool g_51) rfl rfl ?_
        refine Wx.rd (v := .bool false) (rd_pickF (congrArg Value.bool g_51) rfl) rfl ?_
        refine Wx.nil ⟨(), hS, ⟨?_, trivial⟩, Out.look rfl Out.refl⟩
        show Value.bool false = Value.bool (decide ((firstL L fs) = ((refFirst L fs).1)) && decide ((firstE L fs) = ((refFirst L fs).2)))
        rw [g_51]; rfl
    rintro ⟨⟩ u_55 w_54 hS
    refine Wx.rd (v := .bool (decide ((firstL L fs) = ((refFirst L fs).1)) && decide ((firstE L fs) = ((refFirst L fs).2)))) (rd_move rfl) rfl ?_
    refine Wx.cut (X := Unit) 4 [59, 60, 61, 62] (fun _ => [(62, .bool ((decide ((firstL L fs) = ((refFirst L fs).1)) && decide ((firstE L fs) = ((refFirst L fs).2))) && decide ((countE L fs) = (refCount L fs))))]) (fun _ w' => St w [] w' [.row (tP (tI .i64) (tI .i64)) 61 v_45 (refBeside L fs), .row (tP (tI .i64) (tI .i64)) 61 v_39 (besideL L fs), Ob.v (tSl (tI .i64)) ((refFirst L fs).1) v_26, .row (tI .i64) 3 v_20 (firstL L fs), .box g_11 27 [.int .i64 L, fv], .box g_1 24 [.int .i64 L, fv]]) ?_ ?_
    · rcases Bool.eq_false_or_eq_true (decide ((firstL L fs) = ((refFirst L fs).1)) && decide ((firstE L fs) = ((refFirst L fs).2))) with g_56 | g_56
      · -- True
        have gp_57 := g_56
        try simp only [Bool.and_eq_true, Bool.or_eq_true, Bool.not_eq_true', Bool.and_eq_false_iff, Bool.or_eq_false_iff, Bool.not_eq_false', decide_eq_true_eq, decide_eq_false_iff_not, not_or, Bool.false_eq_true, Bool.true_eq_false, false_or, or_false, not_false_eq_true] at gp_57
        refine Wx.gyes rfl rfl (congrArg Value.bool g_56) ?_
        refine Wx.rd (v := .int .i64 (countE L fs)) (rd_move rfl) rfl ?_
        refine Wx.gyes rfl rfl (congrArg Value.bool g_56) ?_
        refine Wx.rd (v := .int .i64 (refCount L fs)) (rd_move rfl) rfl ?_
        refine Wx.gyes rfl rfl (congrArg Value.bool g_56) ?_
        refine Wx.rd (v := .bool (decide ((countE L fs) = (refCount L fs)))) (rd_eql rfl rfl) rfl ?_
        refine Wx.rd (v := .bool (decide ((countE L fs) = (refCount L fs)))) (rd_pickT (congrArg Value.bool g_56) rfl) rfl ?_
        refine Wx.nil ⟨(), hS, ⟨?_, trivial⟩, Out.look rfl Out.refl⟩
        show Value.bool (decide ((countE L fs) = (refCount L fs))) = Value.bool ((decide ((firstL L fs) = ((refFirst L fs).1)) && decide ((firstE L fs) = ((refFirst L fs).2))) && decide ((countE L fs) = (refCount L fs)))
        rw [g_56]; rfl
      · -- False
        have gp_58 := g_56
        try simp only [Bool.and_eq_true, Bool.or_eq_true, Bool.not_eq_true', Bool.and_eq_false_iff, Bool.or_eq_false_iff, Bool.not_eq_false', decide_eq_true_eq, decide_eq_false_iff_not, not_or, Bool.false_eq_true, Bool.true_eq_false, false_or, or_false, not_false_eq_true] at gp_58
        refine Wx.gnoB rfl rfl (congrArg Value.bool g_56) rfl rfl ?_
        refine Wx.gnoB rfl rfl (congrArg Value.bool g_56) rfl rfl ?_
        refine Wx.gnoB rfl rfl (congrArg Value.bool g_56) rfl rfl ?_
        refine Wx.rd (v := .bool false) (rd_pickF (congrArg Value.bool g_56) rfl) rfl ?_
        refine Wx.nil ⟨(), hS, ⟨?_, trivial⟩, Out.look rfl Out.refl⟩
        show Value.bool false = Value.bool ((decide ((firstL L fs) = ((refFirst L fs).1)) && decide ((firstE L fs) = ((refFirst L fs).2))) && decide ((countE L fs) = (refCount L fs)))
        rw [g_56]; rfl
    rintro ⟨⟩ u_60 w_59 hS
    refine Wx.rd (v := .bool ((decide ((firstL L fs) = ((refFirst L fs).1)) && decide ((firstE L fs) = ((refFirst L fs).2))) && decide ((countE L fs) = (refCount L fs)))) (rd_move rfl) rfl ?_
    refine Wx.cut (X := Unit) 4 [64, 65, 66, 67] (fun _ => [(67, .bool (((decide ((firstL L fs) = ((refFirst L fs).1)) && decide ((firstE L fs) = ((refFirst L fs).2))) && decide ((countE L fs) = (refCount L fs))) && decide ((checkE L fs) = (checkE L fs))))]) (fun _ w' => St w [] w' [.row (tP (tI .i64) (tI .i64)) 61 v_45 (refBeside L fs), .row (tP (tI .i64) (tI .i64)) 61 v_39 (besideL L fs), Ob.v (tSl (tI .i64)) ((refFirst L fs).1) v_26, .row (tI .i64) 3 v_20 (firstL L fs), .box g_11 27 [.int .i64 L, fv], .box g_1 24 [.int .i64 L, fv]]) ?_ ?_
    · rcases Bool.eq_false_or_eq_true ((decide ((firstL L fs) = ((refFirst L fs).1)) && decide ((firstE L fs) = ((refFirst L fs).2))) && decide ((countE L fs) = (refCount L fs))) with g_61 | g_61
      · -- True
        have gp_62 := g_61
        try simp only [Bool.and_eq_true, Bool.or_eq_true, Bool.not_eq_true', Bool.and_eq_false_iff, Bool.or_eq_false_iff, Bool.not_eq_false', decide_eq_true_eq, decide_eq_false_iff_not, not_or, Bool.false_eq_true, Bool.true_eq_false, false_or, or_false, not_false_eq_true] at gp_62
        refine Wx.gyes rfl rfl (congrArg Value.bool g_61) ?_
        refine Wx.rd (v := .int .i64 (checkE L fs)) (rd_move rfl) rfl ?_
        refine Wx.gyes rfl rfl (congrArg Value.bool g_61) ?_
        refine Wx.rd (v := .int .i64 (checkE L fs)) (rd_move rfl) rfl ?_
        refine Wx.gyes rfl rfl (congrArg Value.bool g_61) ?_
        refine Wx.rd (v := .bool (decide ((checkE L fs) = (checkE L fs)))) (rd_eql rfl rfl) rfl ?_
        refine Wx.rd (v := .bool (decide ((checkE L fs) = (checkE L fs)))) (rd_pickT (congrArg Value.bool g_61) rfl) rfl ?_
        refine Wx.nil ⟨(), hS, ⟨?_, trivial⟩, Out.look rfl Out.refl⟩
        show Value.bool (decide ((checkE L fs) = (checkE L fs))) = Value.bool (((decide ((firstL L fs) = ((refFirst L fs).1)) && decide ((firstE L fs) = ((refFirst L fs).2))) && decide ((countE L fs) = (refCount L fs))) && decide ((checkE L fs) = (checkE L fs)))
        rw [g_61]; rfl
      · -- False
        have gp_63 := g_61
        try simp only [Bool.and_eq_true, Bool.or_eq_true, Bool.not_eq_true', Bool.and_eq_false_iff, Bool.or_eq_false_iff, Bool.not_eq_false', decide_eq_true_eq, decide_eq_false_iff_not, not_or, Bool.false_eq_true, Bool.true_eq_false, false_or, or_false, not_false_eq_true] at gp_63
        refine Wx.gnoB rfl rfl (congrArg Value.bool g_61) rfl rfl ?_
        refine Wx.gnoB rfl rfl (congrArg Value.bool g_61) rfl rfl ?_
        refine Wx.gnoB rfl rfl (congrArg Value.bool g_61) rfl rfl ?_
        refine Wx.rd (v := .bool false) (rd_pickF (congrArg Value.bool g_61) rfl) rfl ?_
        refine Wx.nil ⟨(), hS, ⟨?_, trivial⟩, Out.look rfl Out.refl⟩
        show Value.bool false = Value.bool (((decide ((firstL L fs) = ((refFirst L fs).1)) && decide ((firstE L fs) = ((refFirst L fs).2))) && decide ((countE L fs) = (refCount L fs))) && decide ((checkE L fs) = (checkE L fs)))
        rw [g_61]; rfl
    rintro ⟨⟩ u_65 w_64 hS
    refine Wx.rd (v := .bool (((decide ((firstL L fs) = ((refFirst L fs).1)) && decide ((firstE L fs) = ((refFirst L fs).2))) && decide ((countE L fs) = (refCount L fs))) && decide ((checkE L fs) = (checkE L fs)))) (rd_move rfl) rfl ?_
    refine Wx.cut (X := Unit) 4 [69, 70, 71, 72] (fun _ => [(72, .bool ((((decide ((firstL L fs) = ((refFirst L fs).1)) && decide ((firstE L fs) = ((refFirst L fs).2))) && decide ((countE L fs) = (refCount L fs))) && decide ((checkE L fs) = (checkE L fs))) && decide ((besideL L fs) = (refBeside L fs))))]) (fun _ w' => St w [] w' [.row (tP (tI .i64) (tI .i64)) 61 v_45 (refBeside L fs), .row (tP (tI .i64) (tI .i64)) 61 v_39 (besideL L fs), Ob.v (tSl (tI .i64)) ((refFirst L fs).1) v_26, .row (tI .i64) 3 v_20 (firstL L fs), .box g_11 27 [.int .i64 L, fv], .box g_1 24 [.int .i64 L, fv]]) ?_ ?_
    · rcases Bool.eq_false_or_eq_true (((decide ((firstL L fs) = ((refFirst L fs).1)) && decide ((firstE L fs) = ((refFirst L fs).2))) && decide ((countE L fs) = (refCount L fs))) && decide ((checkE L fs) = (checkE L fs))) with g_66 | g_66
      · -- True
        have gp_67 := g_66
        try simp only [Bool.and_eq_true, Bool.or_eq_true, Bool.not_eq_true', Bool.and_eq_false_iff, Bool.or_eq_false_iff, Bool.not_eq_false', decide_eq_true_eq, decide_eq_false_iff_not, not_or, Bool.false_eq_true, Bool.true_eq_false, false_or, or_false, not_false_eq_true] at gp_67
        refine Wx.gyes rfl rfl (congrArg Value.bool g_66) ?_
        refine Wx.rd (v := v_39) (rd_move rfl) rfl ?_
        refine Wx.gyes rfl rfl (congrArg Value.bool g_66) ?_
        refine Wx.rd (v := v_45) (rd_move rfl) rfl ?_
        refine Wx.gyes rfl rfl (congrArg Value.bool g_66) ?_
        refine Wx.callF (run_callF Try.call23 rfl) (F23 (hS.lend 1 rfl) (hS.lend 0 rfl)) rfl ?_
        rintro r_68 w_69 hx_70 rfl
        have hS := hS.ext hx_70
        refine Wx.rd (v := .bool (decide ((besideL L fs) = (refBeside L fs)))) (rd_pickT (congrArg Value.bool g_66) rfl) rfl ?_
        refine Wx.nil ⟨(), hS, ⟨?_, trivial⟩, Out.look rfl Out.refl⟩
        show Value.bool (decide ((besideL L fs) = (refBeside L fs))) = Value.bool ((((decide ((firstL L fs) = ((refFirst L fs).1)) && decide ((firstE L fs) = ((refFirst L fs).2))) && decide ((countE L fs) = (refCount L fs))) && decide ((checkE L fs) = (checkE L fs))) && decide ((besideL L fs) = (refBeside L fs)))
        rw [g_66]; rfl
      · -- False
        have gp_71 := g_66
        try simp only [Bool.and_eq_true, Bool.or_eq_true, Bool.not_eq_true', Bool.and_eq_false_iff, Bool.or_eq_false_iff, Bool.not_eq_false', decide_eq_true_eq, decide_eq_false_iff_not, not_or, Bool.false_eq_true, Bool.true_eq_false, false_or, or_false, not_false_eq_true] at gp_71
        refine Wx.gnoB rfl rfl (congrArg Value.bool g_66) rfl rfl ?_
        refine Wx.gnoB rfl rfl (congrArg Value.bool g_66) rfl rfl ?_
        refine Wx.gnoB rfl rfl (congrArg Value.bool g_66) rfl rfl ?_
        refine Wx.rd (v := .bool false) (rd_pickF (congrArg Value.bool g_66) rfl) rfl ?_
        refine Wx.nil ⟨(), hS, ⟨?_, trivial⟩, Out.look rfl Out.refl⟩
        show Value.bool false = Value.bool ((((decide ((firstL L fs) = ((refFirst L fs).1)) && decide ((firstE L fs) = ((refFirst L fs).2))) && decide ((countE L fs) = (refCount L fs))) && decide ((checkE L fs) = (checkE L fs))) && decide ((besideL L fs) = (refBeside L fs)))
        rw [g_66]; rfl
    rintro ⟨⟩ u_73 w_72 hS
    refine Wx.rd (v := .bool ((((decide ((firstL L fs) = ((refFirst L fs).1)) && decide ((firstE L fs) = ((refFirst L fs).2))) && decide ((countE L fs) = (refCount L fs))) && decide ((checkE L fs) = (checkE L fs))) && decide ((besideL L fs) = (refBeside L fs)))) (rd_move rfl) rfl ?_
    refine Wx.cut (X := Unit) 4 [74, 75, 76, 77] (fun _ => [(77, .bool (((((decide ((firstL L fs) = ((refFirst L fs).1)) && decide ((firstE L fs) = ((refFirst L fs).2))) && decide ((countE L fs) = (refCount L fs))) && decide ((checkE L fs) = (checkE L fs))) && decide ((besideL L fs) = (refBeside L fs))) && decide ((firstE L fs) = ((refFirst L fs).2))))]) (fun _ w' => St w [] w' [.row (tP (tI .i64) (tI .i64)) 61 v_45 (refBeside L fs), .row (tP (tI .i64) (tI .i64)) 61 v_39 (besideL L fs), Ob.v (tSl (tI .i64)) ((refFirst L fs).1) v_26, .row (tI .i64) 3 v_20 (firstL L fs), .box g_11 27 [.int .i64 L, fv], .box g_1 24 [.int .i64 L, fv]]) ?_ ?_
    · rcases Bool.eq_false_or_eq_true ((((decide ((firstL L fs) = ((refFirst L fs).1)) && decide ((firstE L fs) = ((refFirst L fs).2))) && decide ((countE L fs) = (refCount L fs))) && decide ((checkE L fs) = (checkE L fs))) && decide ((besideL L fs) = (refBeside L fs))) with g_74 | g_74
      · -- True
        have gp_75 := g_74
        try simp only [Bool.and_eq_true, Bool.or_eq_true, Bool.not_eq_true', Bool.and_eq_false_iff, Bool.or_eq_false_iff, Bool.not_eq_false', decide_eq_true_eq, decide_eq_false_iff_not, not_or, Bool.false_eq_true, Bool.true_eq_false, false_or, or_false, not_false_eq_true] at gp_75
        refine Wx.gyes rfl rfl (congrArg Value.bool g_74) ?_
        refine Wx.rd (v := .int .i64 (firstE L fs)) (rd_move rfl) rfl ?_
        refine Wx.gyes rfl rfl (congrArg Value.bool g_74) ?_
        refine Wx.rd (v := .int .i64 ((refFirst L fs).2)) (rd_move rfl) rfl ?_
        refine Wx.gyes rfl rfl (congrArg Value.bool g_74) ?_
        refine Wx.rd (v := .bool (decide ((firstE L fs) = ((refFirst L fs).2)))) (rd_eql rfl rfl) rfl ?_
        refine Wx.rd (v := .bool (decide ((firstE L fs) = ((refFirst L fs).2)))) (rd_pickT (congrArg Value.bool g_74) rfl) rfl ?_
        refine Wx.nil ⟨(), hS, ⟨?_, trivial⟩, Out.look rfl Out.refl⟩
        show Value.bool (decide ((firstE L fs) = ((refFirst L fs).2))) = Value.bool (((((decide ((firstL L fs) = ((refFirst L fs).1)) && decide ((firstE L fs) = ((refFirst L fs).2))) && decide ((countE L fs) = (refCount L fs))) && decide ((checkE L fs) = (checkE L fs))) && decide ((besideL L fs) = (refBeside L fs))) && decide ((firstE L fs) = ((refFirst L fs).2)))
        rw [g_74]; rfl
      · -- False
        have gp_76 := g_74
        try simp only [Bool.and_eq_true, Bool.or_eq_true, Bool.not_eq_true', Bool.and_eq_false_iff, Bool.or_eq_false_iff, Bool.not_eq_false', decide_eq_true_eq, decide_eq_false_iff_not, not_or, Bool.false_eq_true, Bool.true_eq_false, false_or, or_false, not_false_eq_true] at gp_76
        refine Wx.gnoB rfl rfl (congrArg Value.bool g_74) rfl rfl ?_
        refine Wx.gnoB rfl rfl (congrArg Value.bool g_74) rfl rfl ?_
        refine Wx.gnoB rfl rfl (congrArg Value.bool g_74) rfl rfl ?_
        refine Wx.rd (v := .bool false) (rd_pickF (congrArg Value.bool g_74) rfl) rfl ?_
        refine Wx.nil ⟨(), hS, ⟨?_, trivial⟩, Out.look rfl Out.refl⟩
        show Value.bool false = Value.bool (((((decide ((firstL L fs) = ((refFirst L fs).1)) && decide ((firstE L fs) = ((refFirst L fs).2))) && decide ((countE L fs) = (refCount L fs))) && decide ((checkE L fs) = (checkE L fs))) && decide ((besideL L fs) = (refBeside L fs))) && decide ((firstE L fs) = ((refFirst L fs).2)))
        rw [g_74]; rfl
    rintro ⟨⟩ u_78 w_77 hS
    refine Wx.rd (v := .bool (((((decide ((firstL L fs) = ((refFirst L fs).1)) && decide ((firstE L fs) = ((refFirst L fs).2))) && decide ((countE L fs) = (refCount L fs))) && decide ((checkE L fs) = (checkE L fs))) && decide ((besideL L fs) = (refBeside L fs))) && decide ((firstE L fs) = ((refFirst L fs).2)))) (rd_move rfl) rfl ?_
    refine Wx.cut (X := Unit) 2 [79, 80] (fun _ => [(80, .bool ((((((decide ((firstL L fs) = ((refFirst L fs).1)) && decide ((firstE L fs) = ((refFirst L fs).2))) && decide ((countE L fs) = (refCount L fs))) && decide ((checkE L fs) = (checkE L fs))) && decide ((besideL L fs) = (refBeside L fs))) && decide ((firstE L fs) = ((refFirst L fs).2))) && true))]) (fun _ w' => St w [] w' [.row (tP (tI .i64) (tI .i64)) 61 v_45 (refBeside L fs), .row (tP (tI .i64) (tI .i64)) 61 v_39 (besideL L fs), Ob.v (tSl (tI .i64)) ((refFirst L fs).1) v_26, .row (tI .i64) 3 v_20 (firstL L fs), .box g_11 27 [.int .i64 L, fv], .box g_1 24 [.int .i64 L, fv]]) ?_ ?_
    · rcases Bool.eq_false_or_eq_true (((((decide ((firstL L fs) = ((refFirst L fs).1)) && decide ((firstE L fs) = ((refFirst L fs).2))) && decide ((countE L fs) = (refCount L fs))) && decide ((checkE L fs) = (checkE L fs))) && decide ((besideL L fs) = (refBeside L fs))) && decide ((firstE L fs) = ((refFirst L fs).2))) with g_79 | g_79
      · -- True
        have gp_80 := g_79
        try simp only [Bool.and_eq_true, Bool.or_eq_true, Bool.not_eq_true', Bool.and_eq_false_iff, Bool.or_eq_false_iff, Bool.not_eq_false', decide_eq_true_eq, decide_eq_false_iff_not, not_or, Bool.false_eq_true, Bool.true_eq_false, false_or, or_false, not_false_eq_true] at gp_80
        refine Wx.gyes rfl rfl (congrArg Value.bool g_79) ?_
        refine Wx.callF (run_callF Try.call15 rfl) (F15) rfl ?_
        rintro r_81 w_82 hx_83 rfl
        have hS := hS.ext hx_83
        refine Wx.rd (v := .bool true) (rd_pickT (congrArg Value.bool g_79) rfl) rfl ?_
        refine Wx.nil ⟨(), hS, ⟨?_, trivial⟩, Out.look rfl Out.refl⟩
        show Value.bool true = Value.bool ((((((decide ((firstL L fs) = ((refFirst L fs).1)) && decide ((firstE L fs) = ((refFirst L fs).2))) && decide ((countE L fs) = (refCount L fs))) && decide ((checkE L fs) = (checkE L fs))) && decide ((besideL L fs) = (refBeside L fs))) && decide ((firstE L fs) = ((refFirst L fs).2))) && true)
        rw [g_79]; rfl
      · -- False
        have gp_84 := g_79
        try simp only [Bool.and_eq_true, Bool.or_eq_true, Bool.not_eq_true', Bool.and_eq_false_iff, Bool.or_eq_false_iff, Bool.not_eq_false', decide_eq_true_eq, decide_eq_false_iff_not, not_or, Bool.false_eq_true, Bool.true_eq_false, false_or, or_false, not_false_eq_true] at gp_84
        refine Wx.gnoB rfl rfl (congrArg Value.bool g_79) rfl rfl ?_
        refine Wx.rd (v := .bool false) (rd_pickF (congrArg Value.bool g_79) rfl) rfl ?_
        refine Wx.nil ⟨(), hS, ⟨?_, trivial⟩, Out.look rfl Out.refl⟩
        show Value.bool false = Value.bool ((((((decide ((firstL L fs) = ((refFirst L fs).1)) && decide ((firstE L fs) = ((refFirst L fs).2))) && decide ((countE L fs) = (refCount L fs))) && decide ((checkE L fs) = (checkE L fs))) && decide ((besideL L fs) = (refBeside L fs))) && decide ((firstE L fs) = ((refFirst L fs).2))) && true)
        rw [g_79]; rfl
    rintro ⟨⟩ u_86 w_85 hS
    refine Wx.rd (v := .bool ((((((decide ((firstL L fs) = ((refFirst L fs).1)) && decide ((firstE L fs) = ((refFirst L fs).2))) && decide ((countE L fs) = (refCount L fs))) && decide ((checkE L fs) = (checkE L fs))) && decide ((besideL L fs) = (refBeside L fs))) && decide ((firstE L fs) = ((refFirst L fs).2))) && true)) (rd_assign rfl) rfl ?_
    refine Wx.nil ?_
    have e1_0 : ((((((decide ((firstL L fs) = ((refFirst L fs).1)) && decide ((firstE L fs) = ((refFirst L fs).2))) && decide ((countE L fs) = (refCount L fs))) && decide ((checkE L fs) = (checkE L fs))) && decide ((besideL L fs) = (refBeside L fs))) && decide ((firstE L fs) = ((refFirst L fs).2))) && true) = true := by exact p_law
    exact W.ret ⟨.bool ((((((decide ((firstL L fs) = ((refFirst L fs).1)) && decide ((firstE L fs) = ((refFirst L fs).2))) && decide ((countE L fs) = (refCount L fs))) && decide ((checkE L fs) = (checkE L fs))) && decide ((besideL L fs) = (refBeside L fs))) && decide ((firstE L fs) = ((refFirst L fs).2))) && true), ResIs.one, hS.bel, (by rw [e1_0])⟩

theorem F4 {L : Int} {fv : Value} {fs : List (List Int)} {Fr_fv : List (Option Nat)} {a : Int} {b : Int} {c : Int} {w : World} (i_L : InK .i64 L) (h_fv : V (tSl (tSl (tI .i64))) fs fv Fr_fv w) (i_a : InK .i64 a) (i_b : InK .i64 b) (i_c : InK .i64 c) (p_law : whysB L fs a b c = true) : Calls Try.prog 4 #[.agg #[.int .i64 L, fv], .int .i64 a, .int .i64 b, .int .i64 c] w (Ret w (fun r _ => r = .bool true)) := by
  have b_c := bd_i64 i_c
  have b_b := bd_i64 i_b
  have b_a := bd_i64 i_a
  have b_L := bd_i64 i_L
  have a_fv := h_fv.any
  have l_fv := h_fv.len63
  have hS := St.start0 w
  refine enterR Try.func4 rfl Try.ntmps4 Try.results4 rfl ?_
  refine W.seq ?_
  refine W.reg ?_
  refine Wx.box (cs := [.int .i64 L, fv]) hS rfl rfl rfl (fun g_1 w_2 hx_4 hb_3 hS => ?_)
  refine Wx.rd (v := .bool false) (rd_assign rfl) rfl ?_
  refine Wx.nil ?_
  refine W.seq ?_
  refine W.seq ?_
  refine W.reg ?_
  refine Wx.rd (v := .agg #[.int .i64 L, fv]) (rd_loadXs (ds := [.int .i64 L, fv]) hS 0 rfl rfl rfl rfl Try.isAgg24 Try.sizeOf24) rfl ?_
  refine Wx.callF (run_callF Try.call14 rfl) (F14 (in_i64 (by omega) (by omega)) (hS.arg a_fv)) rfl ?_
  rintro r_5 w_6 hx_7 rfl
  have hS := hS.ext hx_7
  refine Wx.nil ?_
  refine W.cond rfl (fun c0 => ?_) (fun c0 => ?_)
  · -- yes
    try simp only [Bool.and_eq_true, Bool.or_eq_true, Bool.not_eq_true', Bool.and_eq_false_iff, Bool.or_eq_false_iff, Bool.not_eq_false', decide_eq_true_eq, decide_eq_false_iff_not, not_or, Bool.false_eq_true, Bool.true_eq_false, false_or, or_false, not_false_eq_true] at c0
    refine W.seq ?_
    refine W.reg ?_
    refine Wx.callF (run_callF Try.call15 rfl) (F15) rfl ?_
    rintro r_8 w_9 hx_10 rfl
    have hS := hS.ext hx_10
    refine Wx.rd (v := .bool true) (rd_assign rfl) rfl ?_
    refine Wx.nil ?_
    exact W.ret ⟨.bool true, ResIs.one, hS.bel, rfl⟩
  · -- no
    try simp only [Bool.and_eq_true, Bool.or_eq_true, Bool.not_eq_true', Bool.and_eq_false_iff, Bool.or_eq_false_iff, Bool.not_eq_false', decide_eq_true_eq, decide_eq_false_iff_not, not_or, Bool.false_eq_true, Bool.true_eq_false, false_or, or_false, not_false_eq_true] at c0
    refine W.skip ?_
    refine W.seq ?_
    refine W.reg ?_
    refine Wx.rd (v := .agg #[.int .i64 L, fv]) (rd_loadXs (ds := [.int .i64 L, fv]) hS 0 rfl rfl rfl rfl Try.isAgg24 Try.sizeOf24) rfl ?_
    refine Wx.alloc (cs := [.int .i64 0, (.slice none 0 0)]) hS Try.zeroValue27 rfl rfl (fun g_11 w_12 hx_14 hb_13 hS => ?_)
    refine Wx.storeX (cs' := [.int .i64 L, fv]) (ds := [.int .i64 L, fv]) hS 0 rfl rfl rfl rfl Try.sizeOf27 (Nat.le_of_ble_eq_true rfl) (one_cons rfl (one_cons (V.oneC (hS.arg a_fv)) one_nil)) rfl (fun w_15 hz_16 hS => ?_)
    refine Wx.nil ?_
    refine W.seq ?_
    refine W.reg ?_
    refine Wx.rd (v := .agg #[.int .i64 L, fv]) (rd_loadXs (ds := [.int .i64 L, fv]) hS 1 rfl rfl rfl rfl Try.isAgg24 Try.sizeOf24) rfl ?_
    refine Wx.callF (run_callF Try.call24 rfl) (F24 (in_i64 (by omega) (by omega)) (hS.arg a_fv)) rfl ?_
    rintro r_17 w_18 hx_19 rfl
    have hS := hS.ext hx_19
    refine Wx.rd (v := .tuple #[.int .i64 ((whyT L fs).1), .int .i64 ((whyT L fs).2.1), .int .i64 ((whyT L fs).2.2), .int .i64 (whyE L fs)]) (rd_move rfl) rfl ?_
    refine Wx.rd (v := .int .i64 ((whyT L fs).1)) (rd_extract rfl rfl) rfl ?_
    refine Wx.rd (v := .int .i64 ((whyT L fs).2.1)) (rd_extract rfl rfl) rfl ?_
    refine Wx.rd (v := .int .i64 ((whyT L fs).2.2)) (rd_extract rfl rfl) rfl ?_
    refine Wx.rd (v := .int .i64 (whyE L fs)) (rd_extract rfl rfl) rfl ?_
    refine Wx.rd (v := .int .i64 ((whyT L fs).1)) (rd_assign rfl) rfl ?_
    refine Wx.rd (v := .int .i64 ((whyT L fs).2.1)) (rd_assign rfl) rfl ?_
    refine Wx.rd (v := .int .i64 ((whyT L fs).2.2)) (rd_assign rfl) rfl ?_
    refine Wx.rd (v := .int .i64 (whyE L fs)) (rd_assign rfl) rfl ?_
    refine Wx.nil ?_
    refine W.seq ?_
    refine W.reg ?_
    refine Wx.rd (v := .agg #[.int .i64 L, fv]) (rd_loadXs (ds := [.int .i64 L, fv]) hS 0 rfl rfl rfl rfl Try.isAgg27 Try.sizeOf27) rfl ?_
    refine Wx.callF (run_callF Try.call25 rfl) (F25 (in_i64 (by omega) (by omega)) (hS.arg a_fv)) rfl ?_
    rintro r_20 w_21 hx_22 rfl
    have hS := hS.ext hx_22
    refine Wx.rd (v := .tuple #[.int .i64 ((refWhyT L fs).1), .int .i64 ((refWhyT L fs).2.1), .int .i64 ((refWhyT L fs).2.2), .int .i64 (refWhyE L fs)]) (rd_move rfl) rfl ?_
    refine Wx.rd (v := .int .i64 ((refWhyT L fs).1)) (rd_extract rfl rfl) rfl ?_
    refine Wx.rd (v := .int .i64 ((refWhyT L fs).2.1)) (rd_extract rfl rfl) rfl ?_
    refine Wx.rd (v := .int .i64 ((refWhyT L fs).2.2)) (rd_extract rfl rfl) rfl ?_
    refine Wx.rd (v := .int .i64 (refWhyE L fs)) (rd_extract rfl rfl) rfl ?_
    refine Wx.rd (v := .int .i64 ((refWhyT L fs).1)) (rd_assign rfl) rfl ?_
    refine Wx.rd (v := .int .i64 ((refWhyT L fs).2.1)) (rd_assign rfl) rfl ?_
    refine Wx.rd (v := .int .i64 ((refWhyT L fs).2.2)) (rd_assign rfl) rfl ?_
    refine Wx.rd (v := .int .i64 (refWhyE L fs)) (rd_assign rfl) rfl ?_
    refine Wx.nil ?_
    refine W.seq ?_
    refine W.regQ mixedLa_ (by kernel_rfl) ?_
    refine Wx.rd (v := .int .i64 ((whyT L fs).1)) (rd_move rfl) rfl ?_
    refine Wx.rd (v := .int .i64 ((refWhyT L fs).1)) (rd_move rfl) rfl ?_
    refine Wx.rd (v := .bool (decide (((whyT L fs).1) = ((refWhyT L fs).1)))) (rd_eql rfl rfl) rfl ?_
    refine Wx.rd (v := .bool (decide (((whyT L fs).1) = ((refWhyT L fs).1)))) (rd_move rfl) rfl ?_
    refine Wx.cutQ (X := Unit) 4 [40, 41, 42, 43] (fun _ => [(43, .bool (decide (((whyT L fs).1) = ((refWhyT L fs).1)) && decide (((whyT L fs).2.1) = ((refWhyT L fs).2.1))))]) (fun _ => True) ?_ ?_
    · rcases Bool.eq_false_or_eq_true (decide (((whyT L fs).1) = ((refWhyT L fs).1))) with g_23 | g_23
      · -- True
        have gp_24 := of_decide_eq_true g_23
        refine Wx.gyes rfl rfl (congrArg Value.bool g_23) ?_
        refine Wx.rd (v := .int .i64 ((whyT L fs).2.1)) (rd_move rfl) rfl ?_
        refine Wx.gyes rfl rfl (congrArg Value.bool g_23) ?_
        refine Wx.rd (v := .int .i64 ((refWhyT L fs).2.1)) (rd_move rfl) rfl ?_
        refine Wx.gyes rfl rfl (congrArg Value.bool g_23) ?_
        refine Wx.rd (v := .bool (decide (((whyT L fs).2.1) = ((refWhyT L fs).2.1)))) (rd_eql rfl rfl) rfl ?_
        refine Wx.rd (v := .bool (decide (((whyT L fs).2.1) = ((refWhyT L fs).2.1)))) (rd_pickT (congrArg Value.bool g_23) rfl) rfl ?_
        refine Wx.nilQ (fun _ _ => ⟨(), trivial, ⟨?_, trivial⟩, Out.look rfl Out.refl⟩)
        show Value.bool (decide (((whyT L fs).2.1) = ((refWhyT L fs).2.1))) = Value.bool (decide (((whyT L fs).1) = ((refWhyT L fs).1)) && decide (((whyT L fs).2.1) = ((refWhyT L fs).2.1)))
        rw [g_23]; rfl
      · -- False
        have gp_25 := of_decide_eq_false g_23
        refine Wx.gnoB rfl rfl (congrArg Value.bool g_23) rfl rfl ?_
        refine Wx.gnoB rfl rfl (congrArg Value.bool g_23) rfl rfl ?_
        refine Wx.gnoB rfl rfl (congrArg Value.bool g_23) rfl rfl ?_
        refine Wx.rd (v := .bool false) (rd_pickF (congrArg Value.bool g_23) rfl) rfl ?_
        refine Wx.nilQ (fun _ _ => ⟨(), trivial, ⟨?_, trivial⟩, Out.look rfl Out.refl⟩)
        show Value.bool false = Value.bool (decide (((whyT L fs).1) = ((refWhyT L fs).1)) && decide (((whyT L fs).2.1) = ((refWhyT L fs).2.1)))
        rw [g_23]; rfl
    rintro ⟨⟩ u_27 -
    refine Wx.rd (v := .bool (decide (((whyT L fs).1) = ((refWhyT L fs).1)) && decide (((whyT L fs).2.1) = ((refWhyT L fs).2.1)))) (rd_move rfl) rfl ?_
    refine Wx.cutQ (X := Unit) 4 [45, 46, 47, 48] (fun _ => [(48, .bool ((decide (((whyT L fs).1) = ((refWhyT L fs).1)) && decide (((whyT L fs).2.1) = ((refWhyT L fs).2.1))) && decide (((whyT L fs).2.2) = ((refWhyT L fs).2.2))))]) (fun _ => True) ?_ ?_
    · rcases Bool.eq_false_or_eq_true (decide (((whyT L fs).1) = ((refWhyT L fs).1)) && decide (((whyT L fs).2.1) = ((refWhyT L fs).2.1))) with g_28 | g_28
      · -- True
        have gp_29 := g_28
        try simp only [Bool.and_eq_true, Bool.or_eq_true, Bool.not_eq_true', Bool.and_eq_false_iff, Bool.or_eq_false_iff, Bool.not_eq_false', decide_eq_true_eq, decide_eq_false_iff_not, not_or, Bool.false_eq_true, Bool.true_eq_false, false_or, or_false, not_false_eq_true] at gp_29
        refine Wx.gyes rfl rfl (congrArg Value.bool g_28) ?_
        refine Wx.rd (v := .int .i64 ((whyT L fs).2.2)) (rd_move rfl) rfl ?_
        refine Wx.gyes rfl rfl (congrArg Value.bool g_28) ?_
        refine Wx.rd (v := .int .i64 ((refWhyT L fs).2.2)) (rd_move rfl) rfl ?_
        refine Wx.gyes rfl rfl (congrArg Value.bool g_28) ?_
        refine Wx.rd (v := .bool (decide (((whyT L fs).2.2) = ((refWhyT L fs).2.2)))) (rd_eql rfl rfl) rfl ?_
        refine Wx.rd (v := .bool (decide (((whyT L fs).2.2) = ((refWhyT L fs).2.2)))) (rd_pickT (congrArg Value.bool g_28) rfl) rfl ?_
        refine Wx.nilQ (fun _ _ => ⟨(), trivial, ⟨?_, trivial⟩, Out.look rfl Out.refl⟩)
        show Value.bool (decide (((whyT L fs).2.2) = ((refWhyT L fs).2.2))) = Value.bool ((decide (((whyT L fs).1) = ((refWhyT L fs).1)) && decide (((whyT L fs).2.1) = ((refWhyT L fs).2.1))) && decide (((whyT L fs).2.2) = ((refWhyT L fs).2.2)))
        rw [g_28]; rfl
      · -- False
        have gp_30 := g_28
        try simp only [Bool.and_eq_true, Bool.or_eq_true, Bool.not_eq_true', Bool.and_eq_false_iff, Bool.or_eq_false_iff, Bool.not_eq_false', decide_eq_true_eq, decide_eq_false_iff_not, not_or, Bool.false_eq_true, Bool.true_eq_false, false_or, or_false, not_false_eq_true] at gp_30
        refine Wx.gnoB rfl rfl (congrArg Value.bool g_28) rfl rfl ?_
        refine Wx.gnoB rfl rfl (congrArg Value.bool g_28) rfl rfl ?_
        refine Wx.gnoB rfl rfl (congrArg Value.bool g_28) rfl rfl ?_
        refine Wx.rd (v := .bool false) (rd_pickF (congrArg Value.bool g_28) rfl) rfl ?_
        refine Wx.nilQ (fun _ _ => ⟨(), trivial, ⟨?_, trivial⟩, Out.look rfl Out.refl⟩)
        show Value.bool false = Value.bool ((decide (((whyT L fs).1) = ((refWhyT L fs).1)) && decide (((whyT L fs).2.1) = ((refWhyT L fs).2.1))) && decide (((whyT L fs).2.2) = ((refWhyT L fs).2.2)))
        rw [g_28]; rfl
    rintro ⟨⟩ u_32 -
    refine Wx.rd (v := .bool ((decide (((whyT L fs).1) = ((refWhyT L fs).1)) && decide (((whyT L fs).2.1) = ((refWhyT L fs).2.1))) && decide (((whyT L fs).2.2) = ((refWhyT L fs).2.2)))) (rd_move rfl) rfl ?_
    refine Wx.cutQ (X := Unit) 4 [50, 51, 52, 53] (fun _ => [(53, .bool (((decide (((whyT L fs).1) = ((refWhyT L fs).1)) && decide (((whyT L fs).2.1) = ((refWhyT L fs).2.1))) && decide (((whyT L fs).2.2) = ((refWhyT L fs).2.2))) && decide ((whyE L fs) = (refWhyE L fs))))]) (fun _ => True) ?_ ?_
    · rcases Bool.eq_false_or_eq_true ((decide (((whyT L fs).1) = ((refWhyT L fs).1)) && decide (((whyT L fs).2.1) = ((refWhyT L fs).2.1))) && decide (((whyT L fs).2.2) = ((refWhyT L fs).2.2))) with g_33 | g_33
      · -- True
        have gp_34 := g_33
        try simp only [Bool.and_eq_true, Bool.or_eq_true, Bool.not_eq_true', Bool.and_eq_false_iff, Bool.or_eq_false_iff, Bool.not_eq_false', decide_eq_true_eq, decide_eq_false_iff_not, not_or, Bool.false_eq_true, Bool.true_eq_false, false_or, or_false, not_false_eq_true] at gp_34
        refine Wx.gyes rfl rfl (congrArg Value.bool g_33) ?_
        refine Wx.rd (v := .int .i64 (whyE L fs)) (rd_move rfl) rfl ?_
        refine Wx.gyes rfl rfl (congrArg Value.bool g_33) ?_
        refine Wx.rd (v := .int .i64 (refWhyE L fs)) (rd_move rfl) rfl ?_
        refine Wx.gyes rfl rfl (congrArg Value.bool g_33) ?_
        refine Wx.rd (v := .bool (decide ((whyE L fs) = (refWhyE L fs)))) (rd_eql rfl rfl) rfl ?_
        refine Wx.rd (v := .bool (decide ((whyE L fs) = (refWhyE L fs)))) (rd_pickT (congrArg Value.bool g_33) rfl) rfl ?_
        refine Wx.nilQ (fun _ _ => ⟨(), trivial, ⟨?_, trivial⟩, Out.look rfl Out.refl⟩)
        show Value.bool (decide ((whyE L fs) = (refWhyE L fs))) = Value.bool (((decide (((whyT L fs).1) = ((refWhyT L fs).1)) && decide (((whyT L fs).2.1) = ((refWhyT L fs).2.1))) && decide (((whyT L fs).2.2) = ((refWhyT L fs).2.2))) && decide ((whyE L fs) = (refWhyE L fs)))
        rw [g_33]; rfl
      · -- False
        have gp_35 := g_33
        try simp only [Bool.and_eq_true, Bool.or_eq_true, Bool.not_eq_true', Bool.and_eq_false_iff, Bool.or_eq_false_iff, Bool.not_eq_false', decide_eq_true_eq, decide_eq_false_iff_not, not_or, Bool.false_eq_true, Bool.true_eq_false, false_or, or_false, not_false_eq_true] at gp_35
        refine Wx.gnoB rfl rfl (congrArg Value.bool g_33) rfl rfl ?_
        refine Wx.gnoB rfl rfl (congrArg Value.bool g_33) rfl rfl ?_
        refine Wx.gnoB rfl rfl (congrArg Value.bool g_33) rfl rfl ?_
        refine Wx.rd (v := .bool false) (rd_pickF (congrArg Value.bool g_33) rfl) rfl ?_
        refine Wx.nilQ (fun _ _ => ⟨(), trivial, ⟨?_, trivial⟩, Out.look rfl Out.refl⟩)
        show Value.bool false = Value.bool (((decide (((whyT L fs).1) = ((refWhyT L fs).1)) && decide (((whyT L fs).2.1) = ((refWhyT L fs).2.1))) && decide (((whyT L fs).2.2) = ((refWhyT L fs).2.2))) && decide ((whyE L fs) = (refWhyE L fs)))
        rw [g_33]; rfl
    rintro ⟨⟩ u_37 -
    refine Wx.rd (v := .bool (((decide (((whyT L fs).1) = ((refWhyT L fs).1)) && decide (((whyT L fs).2.1) = ((refWhyT L fs).2.1))) && decide (((whyT L fs).2.2) = ((refWhyT L fs).2.2))) && decide ((whyE L fs) = (refWhyE L fs)))) (rd_move rfl) rfl ?_
    refine Wx.cutQ (X := Unit) 12 [55, 56, 57, 58, 59, 60, 61, 62, 63, 64, 65, 66] (fun _ => [(66, .bool ((((decide (((whyT L fs).1) = ((refWhyT L fs).1)) && decide (((whyT L fs).2.1) = ((refWhyT L fs).2.1))) && decide (((whyT L fs).2.2) = ((refWhyT L fs).2.2))) && decide ((whyE L fs) = (refWhyE L fs))) && decide ((provesE L fs a b c) = (refProves L fs a b c))))]) (fun _ => True) ?_ ?_
    · rcases Bool.eq_false_or_eq_true (((decide (((whyT L fs).1) = ((refWhyT L fs).1)) && decide (((whyT L fs).2.1) = ((refWhyT L fs).2.1))) && decide (((whyT L fs).2.2) = ((refWhyT L fs).2.2))) && decide ((whyE L fs) = (refWhyE L fs))) with g_38 | g_38
      · -- True
        have gp_39 := g_38
        try simp only [Bool.and_eq_true, Bool.or_eq_true, Bool.not_eq_true', Bool.and_eq_false_iff, Bool.or_eq_false_iff, Bool.not_eq_false', decide_eq_true_eq, decide_eq_false_iff_not, not_or, Bool.false_eq_true, Bool.true_eq_false, false_or, or_false, not_false_eq_true] at gp_39
        refine Wx.gyes rfl rfl (congrArg Value.bool g_38) ?_
        refine Wx.rd (v := .agg #[.int .i64 L, fv]) (rd_loadXs (ds := [.int .i64 L, fv]) hS 1 rfl rfl rfl rfl Try.isAgg24 Try.sizeOf24) rfl ?_
        refine Wx.gyes rfl rfl (congrArg Value.bool g_38) ?_
        refine Wx.rd (v := .int .i64 a) (rd_move rfl) rfl ?_
        refine Wx.gyes rfl rfl (congrArg Value.bool g_38) ?_
        refine Wx.rd (v := .int .i64 b) (rd_move rfl) rfl ?_
        refine Wx.gyes rfl rfl (congrArg Value.bool g_38) ?_
        refine Wx.rd (v := .int .i64 c) (rd_move rfl) rfl ?_
        refine Wx.gyes rfl rfl (congrArg Value.bool g_38) ?_
        refine Wx.callV (v := .int .i64 (provesE L fs a b c)) (run_callF Try.call26 rfl) (fun w_40 hw_41 => (F26 (in_i64 (by omega) (by omega)) ((hS.arg a_fv).ext hw_41) (in_i64 (by omega) (by omega)) (in_i64 (by omega) (by omega)) (in_i64 (by omega) (by omega)))) rfl ?_
        refine Wx.gyes rfl rfl (congrArg Value.bool g_38) ?_
        refine Wx.rd (v := .agg #[.int .i64 L, fv]) (rd_loadXs (ds := [.int .i64 L, fv]) hS 0 rfl rfl rfl rfl Try.isAgg27 Try.sizeOf27) rfl ?_
        refine Wx.gyes rfl rfl (congrArg Value.bool g_38) ?_
        refine Wx.rd (v := .int .i64 a) (rd_move rfl) rfl ?_
        refine Wx.gyes rfl rfl (congrArg Value.bool g_38) ?_
        refine Wx.rd (v := .int .i64 b) (rd_move rfl) rfl ?_
        refine Wx.gyes rfl rfl (congrArg Value.bool g_38) ?_
        refine Wx.rd (v := .int .i64 c) (rd_move rfl) rfl ?_
        refine Wx.gyes rfl rfl (congrArg Value.bool g_38) ?_
        refine Wx.callV (v := .int .i64 (refProves L fs a b c)) (run_callF Try.call27 rfl) (fun w_42 hw_43 => (F27 (in_i64 (by omega) (by omega)) ((hS.arg a_fv).ext hw_43) (in_i64 (by omega) (by omega)) (in_i64 (by omega) (by omega)) (in_i64 (by omega) (by omega)))) rfl ?_
        refine Wx.gyes rfl rfl (congrArg Value.bool g_38) ?_
        refine Wx.rd (v := .bool (decide ((provesE L fs a b c) = (refProves L fs a b c)))) (rd_eql rfl rfl) rfl ?_
        refine Wx.rd (v := .bool (decide ((provesE L fs a b c) = (refProves L fs a b c)))) (rd_pickT (congrArg Value.bool g_38) rfl) rfl ?_
        refine Wx.nilQ (fun _ _ => ⟨(), trivial, ⟨?_, trivial⟩, Out.look rfl Out.refl⟩)
        show Value.bool (decide ((provesE L fs a b c) = (refProves L fs a b c))) = Value.bool ((((decide (((whyT L fs).1) = ((refWhyT L fs).1)) && decide (((whyT L fs).2.1) = ((refWhyT L fs).2.1))) && decide (((whyT L fs).2.2) = ((refWhyT L fs).2.2))) && decide ((whyE L fs) = (refWhyE L fs))) && decide ((provesE L fs a b c) = (refProves L fs a b c)))
        rw [g_38]; rfl
      · -- False
        have gp_44 := g_38
        try simp only [Bool.and_eq_true, Bool.or_eq_true, Bool.not_eq_true', Bool.and_eq_false_iff, Bool.or_eq_false_iff, Bool.not_eq_false', decide_eq_true_eq, decide_eq_false_iff_not, not_or, Bool.false_eq_true, Bool.true_eq_false, false_or, or_false, not_false_eq_true] at gp_44
        refine Wx.gnoB rfl rfl (congrArg Value.bool g_38) rfl rfl ?_
        refine Wx.gnoB rfl rfl (congrArg Value.bool g_38) rfl rfl ?_
        refine Wx.gnoB rfl rfl (congrArg Value.bool g_38) rfl rfl ?_
        refine Wx.gnoB rfl rfl (congrArg Value.bool g_38) rfl rfl ?_
        refine Wx.gnoB rfl rfl (congrArg Value.bool g_38) rfl rfl ?_
        refine Wx.gnoB rfl rfl (congrArg Value.bool g_38) rfl rfl ?_
        refine Wx.gnoB rfl rfl (congrArg Value.bool g_38) rfl rfl ?_
        refine Wx.gnoB rfl rfl (congrArg Value.bool g_38) rfl rfl ?_
        refine Wx.gnoB rfl rfl (congrArg Value.bool g_38) rfl rfl ?_
        refine Wx.gnoB rfl rfl (congrArg Value.bool g_38) rfl rfl ?_
        refine Wx.gnoB rfl rfl (congrArg Value.bool g_38) rfl rfl ?_
        refine Wx.rd (v := .bool false) (rd_pickF (congrArg Value.bool g_38) rfl) rfl ?_
        refine Wx.nilQ (fun _ _ => ⟨(), trivial, ⟨?_, trivial⟩, Out.look rfl Out.refl⟩)
        show Value.bool false = Value.bool ((((decide (((whyT L fs).1) = ((refWhyT L fs).1)) && decide (((whyT L fs).2.1) = ((refWhyT L fs).2.1))) && decide (((whyT L fs).2.2) = ((refWhyT L fs).2.2))) && decide ((whyE L fs) = (refWhyE L fs))) && decide ((provesE L fs a b c) = (refProves L fs a b c)))
        rw [g_38]; rfl
    rintro ⟨⟩ u_46 -
    refine Wx.rd (v := .bool ((((decide (((whyT L fs).1) = ((refWhyT L fs).1)) && decide (((whyT L fs).2.1) = ((refWhyT L fs).2.1))) && decide (((whyT L fs).2.2) = ((refWhyT L fs).2.2))) && decide ((whyE L fs) = (refWhyE L fs))) && decide ((provesE L fs a b c) = (refProves L fs a b c)))) (rd_move rfl) rfl ?_
    refine Wx.cutQ (X := Unit) 2 [68, 69] (fun _ => [(69, .bool (((((decide (((whyT L fs).1) = ((refWhyT L fs).1)) && decide (((whyT L fs).2.1) = ((refWhyT L fs).2.1))) && decide (((whyT L fs).2.2) = ((refWhyT L fs).2.2))) && decide ((whyE L fs) = (refWhyE L fs))) && decide ((provesE L fs a b c) = (refProves L fs a b c))) && true))]) (fun _ => True) ?_ ?_
    · rcases Bool.eq_false_or_eq_true ((((decide (((whyT L fs).1) = ((refWhyT L fs).1)) && decide (((whyT L fs).2.1) = ((refWhyT L fs).2.1))) && decide (((whyT L fs).2.2) = ((refWhyT L fs).2.2))) && decide ((whyE L fs) = (refWhyE L fs))) && decide ((provesE L fs a b c) = (refProves L fs a b c))) with g_47 | g_47
      · -- True
        have gp_48 := g_47
        try simp only [Bool.and_eq_true, Bool.or_eq_true, Bool.not_eq_true', Bool.and_eq_false_iff, Bool.or_eq_false_iff, Bool.not_eq_false', decide_eq_true_eq, decide_eq_false_iff_not, not_or, Bool.false_eq_true, Bool.true_eq_false, false_or, or_false, not_false_eq_true] at gp_48
        refine Wx.gyes rfl rfl (congrArg Value.bool g_47) ?_
        refine Wx.callV (v := .bool true) (run_callF Try.call15 rfl) (fun w_49 hw_50 => (F15)) rfl ?_
        refine Wx.rd (v := .bool true) (rd_pickT (congrArg Value.bool g_47) rfl) rfl ?_
        refine Wx.nilQ (fun _ _ => ⟨(), trivial, ⟨?_, trivial⟩, Out.look rfl Out.refl⟩)
        show Value.bool true = Value.bool (((((decide (((whyT L fs).1) = ((refWhyT L fs).1)) && decide (((whyT L fs).2.1) = ((refWhyT L fs).2.1))) && decide (((whyT L fs).2.2) = ((refWhyT L fs).2.2))) && decide ((whyE L fs) = (refWhyE L fs))) && decide ((provesE L fs a b c) = (refProves L fs a b c))) && true)
        rw [g_47]; rfl
      · -- False
        have gp_51 := g_47
        try simp only [Bool.and_eq_true, Bool.or_eq_true, Bool.not_eq_true', Bool.and_eq_false_iff, Bool.or_eq_false_iff, Bool.not_eq_false', decide_eq_true_eq, decide_eq_false_iff_not, not_or, Bool.false_eq_true, Bool.true_eq_false, false_or, or_false, not_false_eq_true] at gp_51
        refine Wx.gnoB rfl rfl (congrArg Value.bool g_47) rfl rfl ?_
        refine Wx.rd (v := .bool false) (rd_pickF (congrArg Value.bool g_47) rfl) rfl ?_
        refine Wx.nilQ (fun _ _ => ⟨(), trivial, ⟨?_, trivial⟩, Out.look rfl Out.refl⟩)
        show Value.bool false = Value.bool (((((decide (((whyT L fs).1) = ((refWhyT L fs).1)) && decide (((whyT L fs).2.1) = ((refWhyT L fs).2.1))) && decide (((whyT L fs).2.2) = ((refWhyT L fs).2.2))) && decide ((whyE L fs) = (refWhyE L fs))) && decide ((provesE L fs a b c) = (refProves L fs a b c))) && true)
        rw [g_47]; rfl
    rintro ⟨⟩ u_53 -
    refine Wx.rd (v := .bool (((((decide (((whyT L fs).1) = ((refWhyT L fs).1)) && decide (((whyT L fs).2.1) = ((refWhyT L fs).2.1))) && decide (((whyT L fs).2.2) = ((refWhyT L fs).2.2))) && decide ((whyE L fs) = (refWhyE L fs))) && decide ((provesE L fs a b c) = (refProves L fs a b c))) && true)) (rd_assign rfl) rfl ?_
    refine Wx.nilQ (fun w_54 hx_55 => ?_)
    have hS := hS.ext hx_55
    have e1_0 : (((((decide (((whyT L fs).1) = ((refWhyT L fs).1)) && decide (((whyT L fs).2.1) = ((refWhyT L fs).2.1))) && decide (((whyT L fs).2.2) = ((refWhyT L fs).2.2))) && decide ((whyE L fs) = (refWhyE L fs))) && decide ((provesE L fs a b c) = (refProves L fs a b c))) && true) = true := by exact p_law
    exact W.ret ⟨.bool (((((decide (((whyT L fs).1) = ((refWhyT L fs).1)) && decide (((whyT L fs).2.1) = ((refWhyT L fs).2.1))) && decide (((whyT L fs).2.2) = ((refWhyT L fs).2.2))) && decide ((whyE L fs) = (refWhyE L fs))) && decide ((provesE L fs a b c) = (refProves L fs a b c))) && true), ResIs.one, hS.bel, (by rw [e1_0])⟩

theorem F6 {L : Int} {fv : Value} {fs : List (List Int)} {Fr_fv : List (Option Nat)} {ov : Value} {order : List Int} {Fr_ov : List (Option Nat)} {w : World} (i_L : InK .i64 L) (h_fv : V (tSl (tSl (tI .i64))) fs fv Fr_fv w) (h_ov : V (tSl (tI .i64)) order ov Fr_ov w) (p_law : ordersB L fs order = true) : Calls Try.prog 6 #[.agg #[.int .i64 L, fv], ov] w (Ret w (fun r _ => r = .bool true)) := by
  have b_L := bd_i64 i_L
  have a_fv := h_fv.any
  have l_fv := h_fv.len63
  have a_ov := h_ov.any
  have l_ov := h_ov.len63
  have hS := St.start0 w
  refine enterR Try.func6 rfl Try.ntmps6 Try.results6 rfl ?_
  refine W.seq ?_
  refine W.reg ?_
  refine Wx.box (cs := [.int .i64 L, fv]) hS rfl rfl rfl (fun g_1 w_2 hx_4 hb_3 hS => ?_)
  refine Wx.rd (v := .bool false) (rd_assign rfl) rfl ?_
  refine Wx.nil ?_
  refine W.seq ?_
  refine W.seq ?_
  refine W.reg ?_
  refine Wx.rd (v := .agg #[.int .i64 L, fv]) (rd_loadXs (ds := [.int .i64 L, fv]) hS 0 rfl rfl rfl rfl Try.isAgg24 Try.sizeOf24) rfl ?_
  refine Wx.callF (run_callF Try.call14 rfl) (F14 (in_i64 (by omega) (by omega)) (hS.arg a_fv)) rfl ?_
  rintro r_5 w_6 hx_7 rfl
  have hS := hS.ext hx_7
  refine Wx.rd (v := .bool (largeB fs)) (rd_move rfl) rfl ?_
  refine Wx.cut (X := Unit) 4 [21, 22, 23, 24] (fun _ => [(24, .bool (largeB fs || decide (60 < (order.length : Int))))]) (fun _ w' => St w [] w' [.box g_1 24 [.int .i64 L, fv]]) ?_ ?_
  · rcases Bool.eq_false_or_eq_true (largeB fs) with g_8 | g_8
    · -- True
      have gp_9 := g_8
      try simp only [Bool.and_eq_true, Bool.or_eq_true, Bool.not_eq_true', Bool.and_eq_false_iff, Bool.or_eq_false_iff, Bool.not_eq_false', decide_eq_true_eq, decide_eq_false_iff_not, not_or, Bool.false_eq_true, Bool.true_eq_false, false_or, or_false, not_false_eq_true] at gp_9
      refine Wx.gnoB rfl rfl (congrArg Value.bool g_8) rfl rfl ?_
      refine Wx.gnoB rfl rfl (congrArg Value.bool g_8) rfl rfl ?_
      refine Wx.gnoB rfl rfl (congrArg Value.bool g_8) rfl rfl ?_
      refine Wx.rd (v := .bool true) (rd_pickT (congrArg Value.bool g_8) rfl) rfl ?_
      refine Wx.nil ⟨(), hS, ⟨?_, trivial⟩, Out.look rfl Out.refl⟩
      show Value.bool true = Value.bool (largeB fs || decide (60 < (order.length : Int)))
      rw [g_8]; rfl
    · -- False
      have gp_10 := g_8
      try simp only [Bool.and_eq_true, Bool.or_eq_true, Bool.not_eq_true', Bool.and_eq_false_iff, Bool.or_eq_false_iff, Bool.not_eq_false', decide_eq_true_eq, decide_eq_false_iff_not, not_or, Bool.false_eq_true, Bool.true_eq_false, false_or, or_false, not_false_eq_true] at gp_10
      refine Wx.gyes rfl rfl (congrArg Value.bool g_8) ?_
      refine Wx.rd (v := ov) (rd_move rfl) rfl ?_
      refine Wx.gyes rfl rfl (congrArg Value.bool g_8) ?_
      refine Wx.rd (v := .int .i64 (order.length : Int)) (rd_lenV rfl (hS.arg a_ov) Try.underlying28) rfl ?_
      refine Wx.gyes rfl rfl (congrArg Value.bool g_8) ?_
      refine Wx.rd (v := .bool (decide (60 < (order.length : Int)))) (rd_gtr rfl rfl) rfl ?_
      refine Wx.rd (v := .bool (decide (60 < (order.length : Int)))) (rd_pickF (congrArg Value.bool g_8) rfl) rfl ?_
      refine Wx.nil ⟨(), hS, ⟨?_, trivial⟩, Out.look rfl Out.refl⟩
      show Value.bool (decide (60 < (order.length : Int))) = Value.bool (largeB fs || decide (60 < (order.length : Int)))
      rw [g_8]; rfl
  rintro ⟨⟩ u_12 w_11 hS
  refine Wx.nil ?_
  refine W.cond rfl (fun c0 => ?_) (fun c0 => ?_)
  · -- yes
    try simp only [Bool.and_eq_true, Bool.or_eq_true, Bool.not_eq_true', Bool.and_eq_false_iff, Bool.or_eq_false_iff, Bool.not_eq_false', decide_eq_true_eq, decide_eq_false_iff_not, not_or, Bool.false_eq_true, Bool.true_eq_false, false_or, or_false, not_false_eq_true] at c0
    refine W.seq ?_
    refine W.reg ?_
    refine Wx.callF (run_callF Try.call15 rfl) (F15) rfl ?_
    rintro r_13 w_14 hx_15 rfl
    have hS := hS.ext hx_15
    refine Wx.rd (v := .bool true) (rd_assign rfl) rfl ?_
    refine Wx.nil ?_
    exact W.ret ⟨.bool true, ResIs.one, hS.bel, rfl⟩
  · -- no
    try simp only [Bool.and_eq_true, Bool.or_eq_true, Bool.not_eq_true', Bool.and_eq_false_iff, Bool.or_eq_false_iff, Bool.not_eq_false', decide_eq_true_eq, decide_eq_false_iff_not, not_or, Bool.false_eq_true, Bool.true_eq_false, false_or, or_false, not_false_eq_true] at c0
    refine W.skip ?_
    refine W.seq ?_
    refine W.reg ?_
    refine Wx.rd (v := .agg #[.int .i64 L, fv]) (rd_loadXs (ds := [.int .i64 L, fv]) hS 0 rfl rfl rfl rfl Try.isAgg24 Try.sizeOf24) rfl ?_
    refine Wx.alloc (cs := [.int .i64 0, (.slice none 0 0)]) hS Try.zeroValue27 rfl rfl (fun g_16 w_17 hx_19 hb_18 hS => ?_)
    refine Wx.storeX (cs' := [.int .i64 L, fv]) (ds := [.int .i64 L, fv]) hS 0 rfl rfl rfl rfl Try.sizeOf27 (Nat.le_of_ble_eq_true rfl) (one_cons rfl (one_cons (V.oneC (hS.arg a_fv)) one_nil)) rfl (fun w_20 hz_21 hS => ?_)
    refine Wx.nil ?_
    refine W.seq ?_
    refine W.reg ?_
    refine Wx.rd (v := .agg #[.int .i64 L, fv]) (rd_loadXs (ds := [.int .i64 L, fv]) hS 1 rfl rfl rfl rfl Try.isAgg24 Try.sizeOf24) rfl ?_
    refine Wx.rd (v := ov) (rd_move rfl) rfl ?_
    refine Wx.callF (run_callF Try.call30 rfl) (F30 (in_i64 (by omega) (by omega)) (hS.arg a_fv) (hS.arg a_ov)) rfl ?_
    rintro r_22 w_23 hx_24 rfl
    have hS := hS.ext hx_24
    refine Wx.rd (v := .tuple #[.bool (decide (shownE L fs order = 0) && decide (gapsE L fs order = 0)), .int .i64 (shownE L fs order)]) (rd_move rfl) rfl ?_
    refine Wx.rd (v := .bool (decide (shownE L fs order = 0) && decide (gapsE L fs order = 0))) (rd_extract rfl rfl) rfl ?_
    refine Wx.rd (v := .int .i64 (shownE L fs order)) (rd_extract rfl rfl) rfl ?_
    refine Wx.rd (v := .bool (decide (shownE L fs order = 0) && decide (gapsE L fs order = 0))) (rd_assign rfl) rfl ?_
    refine Wx.rd (v := .int .i64 (shownE L fs order)) (rd_assign rfl) rfl ?_
    refine Wx.nil ?_
    refine W.seq ?_
    refine W.reg ?_
    refine Wx.rd (v := .agg #[.int .i64 L, fv]) (rd_loadXs (ds := [.int .i64 L, fv]) hS 0 rfl rfl rfl rfl Try.isAgg27 Try.sizeOf27) rfl ?_
    refine Wx.rd (v := ov) (rd_move rfl) rfl ?_
    refine Wx.callF (run_callF Try.call31 rfl) (F31 (in_i64 (by omega) (by omega)) (hS.arg a_fv) (hS.arg a_ov)) rfl ?_
    rintro r_25 w_26 hx_27 rfl
    have hS := hS.ext hx_27
    refine Wx.rd (v := .tuple #[.bool (refWhole L fs order), .int .i64 (orderedE L fs order)]) (rd_move rfl) rfl ?_
    refine Wx.rd (v := .bool (refWhole L fs order)) (rd_extract rfl rfl) rfl ?_
    refine Wx.rd (v := .int .i64 (orderedE L fs order)) (rd_extract rfl rfl) rfl ?_
    refine Wx.rd (v := .bool (refWhole L fs order)) (rd_assign rfl) rfl ?_
    refine Wx.rd (v := .int .i64 (orderedE L fs order)) (rd_assign rfl) rfl ?_
    refine Wx.nil ?_
    refine W.seq ?_
    refine W.reg ?_
    refine Wx.rd (v := .agg #[.int .i64 L, fv]) (rd_loadXs (ds := [.int .i64 L, fv]) hS 1 rfl rfl rfl rfl Try.isAgg24 Try.sizeOf24) rfl ?_
    refine Wx.rd (v := ov) (rd_move rfl) rfl ?_
    refine Wx.callF (run_callF Try.call32 rfl) (F32 (in_i64 (by omega) (by omega)) (hS.arg a_fv) (hS.arg a_ov)) rfl ?_
    rintro r_28 w_29 hx_30 rfl
    have hS := hS.ext hx_30
    refine Wx.rd (v := .tuple #[.int .i64 (gapsE L fs order), .int .i64 (shownE L fs order)]) (rd_move rfl) rfl ?_
    refine Wx.rd (v := .int .i64 (gapsE L fs order)) (rd_extract rfl rfl) rfl ?_
    refine Wx.rd (v := .int .i64 (shownE L fs order)) (rd_extract rfl rfl) rfl ?_
    refine Wx.rd (v := .int .i64 (gapsE L fs order)) (rd_assign rfl) rfl ?_
    refine Wx.rd (v := .int .i64 (shownE L fs order)) (rd_assign rfl) rfl ?_
    refine Wx.nil ?_
    refine W.seq ?_
    refine W.reg ?_
    refine Wx.rd (v := .agg #[.int .i64 L, fv]) (rd_loadXs (ds := [.int .i64 L, fv]) hS 0 rfl rfl rfl rfl Try.isAgg27 Try.sizeOf27) rfl ?_
    refine Wx.rd (v := ov) (rd_move rfl) rfl ?_
    refine Wx.callF (run_callF Try.call33 rfl) (F33 (in_i64 (by omega) (by omega)) (hS.arg a_fv) (hS.arg a_ov)) rfl ?_
    rintro r_31 w_32 hx_33 rfl
    have hS := hS.ext hx_33
    refine Wx.rd (v := .tuple #[.int .i64 (refGaps L fs order), .int .i64 (orderedE L fs order)]) (rd_move rfl) rfl ?_
    refine Wx.rd (v := .int .i64 (refGaps L fs order)) (rd_extract rfl rfl) rfl ?_
    refine Wx.rd (v := .int .i64 (orderedE L fs order)) (rd_extract rfl rfl) rfl ?_
    refine Wx.rd (v := .int .i64 (refGaps L fs order)) (rd_assign rfl) rfl ?_
    refine Wx.rd (v := .int .i64 (orderedE L fs order)) (rd_assign rfl) rfl ?_
    refine Wx.nil ?_
    refine W.seq ?_
    refine W.reg ?_
    refine Wx.rd (v := .agg #[.int .i64 L, fv]) (rd_loadXs (ds := [.int .i64 L, fv]) hS 1 rfl rfl rfl rfl Try.isAgg24 Try.sizeOf24) rfl ?_
    refine Wx.rd (v := ov) (rd_move rfl) rfl ?_
    refine Wx.callF (run_callF Try.call34 rfl) (F34 (in_i64 (by omega) (by omega)) (hS.arg a_fv) (hS.arg a_ov)) rfl ?_
    rintro r_34 w_35 hx_36 ⟨v_37, rfl, hv_38⟩
    have hS := hS.pushFr hx_36 hv_38
    refine Wx.rd (v := .tuple #[v_37, .int .i64 (shownE L fs order)]) (rd_move rfl) rfl ?_
    refine Wx.rd (v := v_37) (rd_extract rfl rfl) rfl ?_
    refine Wx.rd (v := .int .i64 (shownE L fs order)) (rd_extract rfl rfl) rfl ?_
    refine Wx.rd (v := v_37) (rd_assign rfl) rfl ?_
    refine Wx.rd (v := .int .i64 (shownE L fs order)) (rd_assign rfl) rfl ?_
    refine Wx.nil ?_
    refine W.seq ?_
    refine W.reg ?_
    refine Wx.rd (v := .agg #[.int .i64 L, fv]) (rd_loadXs (ds := [.int .i64 L, fv]) hS 1 rfl rfl rfl rfl Try.isAgg27 Try.sizeOf27) rfl ?_
    refine Wx.rd (v := ov) (rd_move rfl) rfl ?_
    refine Wx.callF (run_callF Try.call35 rfl) (F35 (in_i64 (by omega) (by omega)) (hS.arg a_fv) (hS.arg a_ov)) rfl ?_
    rintro r_40 w_41 hx_42 ⟨v_43, rfl, hv_44⟩
    have hS := hS.pushFr hx_42 hv_44
    refine Wx.rd (v := .tuple #[v_43, .int .i64 (orderedE L fs order)]) (rd_move rfl) rfl ?_
    refine Wx.rd (v := v_43) (rd_extract rfl rfl) rfl ?_
    refine Wx.rd (v := .int .i64 (orderedE L fs order)) (rd_extract rfl rfl) rfl ?_
    refine Wx.rd (v := v_43) (rd_assign rfl) rfl ?_
    refine Wx.rd (v := .int .i64 (orderedE L fs order)) (rd_assign rfl) rfl ?_
    refine Wx.nil ?_
    refine W.seq ?_
    refine W.regQ mixedLa_ (by kernel_rfl) ?_
    refine Wx.rd (v := .bool (decide (shownE L fs order = 0) && decide (gapsE L fs order = 0))) (rd_move rfl) rfl ?_
    refine Wx.rd (v := .bool (refWhole L fs order)) (rd_move rfl) rfl ?_
    refine Wx.rd (v := .bool ((decide (shownE L fs order = 0) && decide (gapsE L fs order = 0)) == (refWhole L fs order))) (rd_eqlB rfl rfl Try.underlying4) rfl ?_
    refine Wx.rd (v := .bool ((decide (shownE L fs order = 0) && decide (gapsE L fs order = 0)) == (refWhole L fs order))) (rd_move rfl) rfl ?_
    refine Wx.cutQ (X := Unit) 4 [67, 68, 69, 70] (fun _ => [(70, .bool ((decide (shownE L fs order = 0) && decide (gapsE L fs order = 0)) == (refWhole L fs order) && decide ((shownE L fs order) = (orderedE L fs order))))]) (fun _ => True) ?_ ?_
    · rcases Bool.eq_false_or_eq_true ((decide (shownE L fs order = 0) && decide (gapsE L fs order = 0)) == (refWhole L fs order)) with g_46 | g_46
      · -- True
        have gp_47 := g_46
        try simp only [Bool.and_eq_true, Bool.or_eq_true, Bool.not_eq_true', Bool.and_eq_false_iff, Bool.or_eq_false_iff, Bool.not_eq_false', decide_eq_true_eq, decide_eq_false_iff_not, not_or, Bool.false_eq_true, Bool.true_eq_false, false_or, or_false, not_false_eq_true] at gp_47
        refine Wx.gyes rfl rfl (congrArg Value.bool g_46) ?_
        refine Wx.rd (v := .int .i64 (shownE L fs order)) (rd_move rfl) rfl ?_
        refine Wx.gyes rfl rfl (congrArg Value.bool g_46) ?_
        refine Wx.rd (v := .int .i64 (orderedE L fs order)) (rd_move rfl) rfl ?_
        refine Wx.gyes rfl rfl (congrArg Value.bool g_46) ?_
        refine Wx.rd (v := .bool (decide ((shownE L fs order) = (orderedE L fs order)))) (rd_eql rfl rfl) rfl ?_
        refine Wx.rd (v := .bool (decide ((shownE L fs order) = (orderedE L fs order)))) (rd_pickT (congrArg Value.bool g_46) rfl) rfl ?_
        refine Wx.nilQ (fun _ _ => ⟨(), trivial, ⟨?_, trivial⟩, Out.look rfl Out.refl⟩)
        show Value.bool (decide ((shownE L fs order) = (orderedE L fs order))) = Value.bool ((decide (shownE L fs order = 0) && decide (gapsE L fs order = 0)) == (refWhole L fs order) && decide ((shownE L fs order) = (orderedE L fs order)))
        rw [g_46]; rfl
      · -- False
        have gp_48 := g_46
        try simp only [Bool.and_eq_true, Bool.or_eq_true, Bool.not_eq_true', Bool.and_eq_false_iff, Bool.or_eq_false_iff, Bool.not_eq_false', decide_eq_true_eq, decide_eq_false_iff_not, not_or, Bool.false_eq_true, Bool.true_eq_false, false_or, or_false, not_false_eq_true] at gp_48
        refine Wx.gnoB rfl rfl (congrArg Value.bool g_46) rfl rfl ?_
        refine Wx.gnoB rfl rfl (congrArg Value.bool g_46) rfl rfl ?_
        refine Wx.gnoB rfl rfl (congrArg Value.bool g_46) rfl rfl ?_
        refine Wx.rd (v := .bool false) (rd_pickF (congrArg Value.bool g_46) rfl) rfl ?_
        refine Wx.nilQ (fun _ _ => ⟨(), trivial, ⟨?_, trivial⟩, Out.look rfl Out.refl⟩)
        show Value.bool false = Value.bool ((decide (shownE L fs order = 0) && decide (gapsE L fs order = 0)) == (refWhole L fs order) && decide ((shownE L fs order) = (orderedE L fs order)))
        rw [g_46]; rfl
    rintro ⟨⟩ u_50 -
    refine Wx.rd (v := .bool ((decide (shownE L fs order = 0) && decide (gapsE L fs order = 0)) == (refWhole L fs order) && decide ((shownE L fs order) = (orderedE L fs order)))) (rd_move rfl) rfl ?_
    refine Wx.cutQ (X := Unit) 4 [72, 73, 74, 75] (fun _ => [(75, .bool (((decide (shownE L fs order = 0) && decide (gapsE L fs order = 0)) == (refWhole L fs order) && decide ((shownE L fs order) = (orderedE L fs order))) && decide ((gapsE L fs order) = (refGaps L fs order))))]) (fun _ => True) ?_ ?_
    · rcases Bool.eq_false_or_eq_true ((decide (shownE L fs order = 0) && decide (gapsE L fs order = 0)) == (refWhole L fs order) && decide ((shownE L fs order) = (orderedE L fs order))) with g_51 | g_51
      · -- True
        have gp_52 := g_51
        try simp only [Bool.and_eq_true, Bool.or_eq_true, Bool.not_eq_true', Bool.and_eq_false_iff, Bool.or_eq_false_iff, Bool.not_eq_false', decide_eq_true_eq, decide_eq_false_iff_not, not_or, Bool.false_eq_true, Bool.true_eq_false, false_or, or_false, not_false_eq_true] at gp_52
        refine Wx.gyes rfl rfl (congrArg Value.bool g_51) ?_
        refine Wx.rd (v := .int .i64 (gapsE L fs order)) (rd_move rfl) rfl ?_
        refine Wx.gyes rfl rfl (congrArg Value.bool g_51) ?_
        refine Wx.rd (v := .int .i64 (refGaps L fs order)) (rd_move rfl) rfl ?_
        refine Wx.gyes rfl rfl (congrArg Value.bool g_51) ?_
        refine Wx.rd (v := .bool (decide ((gapsE L fs order) = (refGaps L fs order)))) (rd_eql rfl rfl) rfl ?_
        refine Wx.rd (v := .bool (decide ((gapsE L fs order) = (refGaps L fs order)))) (rd_pickT (congrArg Value.bool g_51) rfl) rfl ?_
        refine Wx.nilQ (fun _ _ => ⟨(), trivial, ⟨?_, trivial⟩, Out.look rfl Out.refl⟩)
        show Value.bool (decide ((gapsE L fs order) = (refGaps L fs order))) = Value.bool (((decide (shownE L fs order = 0) && decide (gapsE L fs order = 0)) == (refWhole L fs order) && decide ((shownE L fs order) = (orderedE L fs order))) && decide ((gapsE L fs order) = (refGaps L fs order)))
        rw [g_51]; rfl
      · -- False
        have gp_53 := g_51
        try simp only [Bool.and_eq_true, Bool.or_eq_true, Bool.not_eq_true', Bool.and_eq_false_iff, Bool.or_eq_false_iff, Bool.not_eq_false', decide_eq_true_eq, decide_eq_false_iff_not, not_or, Bool.false_eq_true, Bool.true_eq_false, false_or, or_false, not_false_eq_true] at gp_53
        refine Wx.gnoB rfl rfl (congrArg Value.bool g_51) rfl rfl ?_
        refine Wx.gnoB rfl rfl (congrArg Value.bool g_51) rfl rfl ?_
        refine Wx.gnoB rfl rfl (congrArg Value.bool g_51) rfl rfl ?_
        refine Wx.rd (v := .bool false) (rd_pickF (congrArg Value.bool g_51) rfl) rfl ?_
        refine Wx.nilQ (fun _ _ => ⟨(), trivial, ⟨?_, trivial⟩, Out.look rfl Out.refl⟩)
        show Value.bool false = Value.bool (((decide (shownE L fs order = 0) && decide (gapsE L fs order = 0)) == (refWhole L fs order) && decide ((shownE L fs order) = (orderedE L fs order))) && decide ((gapsE L fs order) = (refGaps L fs order)))
        rw [g_51]; rfl
    rintro ⟨⟩ u_55 -
    refine Wx.rd (v := .bool (((decide (shownE L fs order = 0) && decide (gapsE L fs order = 0)) == (refWhole L fs order) && decide ((shownE L fs order) = (orderedE L fs order))) && decide ((gapsE L fs order) = (refGaps L fs order)))) (rd_move rfl) rfl ?_
    refine Wx.cutQ (X := Unit) 4 [77, 78, 79, 80] (fun _ => [(80, .bool ((((decide (shownE L fs order = 0) && decide (gapsE L fs order = 0)) == (refWhole L fs order) && decide ((shownE L fs order) = (orderedE L fs order))) && decide ((gapsE L fs order) = (refGaps L fs order))) && decide ((shownE L fs order) = (orderedE L fs order))))]) (fun _ => True) ?_ ?_
    · rcases Bool.eq_false_or_eq_true (((decide (shownE L fs order = 0) && decide (gapsE L fs order = 0)) == (refWhole L fs order) && decide ((shownE L fs order) = (orderedE L fs order))) && decide ((gapsE L fs order) = (refGaps L fs order))) with g_56 | g_56
      · -- True
        have gp_57 := g_56
        try simp only [Bool.and_eq_true, Bool.or_eq_true, Bool.not_eq_true', Bool.and_eq_false_iff, Bool.or_eq_false_iff, Bool.not_eq_false', decide_eq_true_eq, decide_eq_false_iff_not, not_or, Bool.false_eq_true, Bool.true_eq_false, false_or, or_false, not_false_eq_true] at gp_57
        refine Wx.gyes rfl rfl (congrArg Value.bool g_56) ?_
        refine Wx.rd (v := .int .i64 (shownE L fs order)) (rd_move rfl) rfl ?_
        refine Wx.gyes rfl rfl (congrArg Value.bool g_56) ?_
        refine Wx.rd (v := .int .i64 (orderedE L fs order)) (rd_move rfl) rfl ?_
        refine Wx.gyes rfl rfl (congrArg Value.bool g_56) ?_
        refine Wx.rd (v := .bool (decide ((shownE L fs order) = (orderedE L fs order)))) (rd_eql rfl rfl) rfl ?_
        refine Wx.rd (v := .bool (decide ((shownE L fs order) = (orderedE L fs order)))) (rd_pickT (congrArg Value.bool g_56) rfl) rfl ?_
        refine Wx.nilQ (fun _ _ => ⟨(), trivial, ⟨?_, trivial⟩, Out.look rfl Out.refl⟩)
        show Value.bool (decide ((shownE L fs order) = (orderedE L fs order))) = Value.bool ((((decide (shownE L fs order = 0) && decide (gapsE L fs order = 0)) == (refWhole L fs order) && decide ((shownE L fs order) = (orderedE L fs order))) && decide ((gapsE L fs order) = (refGaps L fs order))) && decide ((shownE L fs order) = (orderedE L fs order)))
        rw [g_56]; rfl
      · -- False
        have gp_58 := g_56
        try simp only [Bool.and_eq_true, Bool.or_eq_true, Bool.not_eq_true', Bool.and_eq_false_iff, Bool.or_eq_false_iff, Bool.not_eq_false', decide_eq_true_eq, decide_eq_false_iff_not, not_or, Bool.false_eq_true, Bool.true_eq_false, false_or, or_false, not_false_eq_true] at gp_58
        refine Wx.gnoB rfl rfl (congrArg Value.bool g_56) rfl rfl ?_
        refine Wx.gnoB rfl rfl (congrArg Value.bool g_56) rfl rfl ?_
        refine Wx.gnoB rfl rfl (congrArg Value.bool g_56) rfl rfl ?_
        refine Wx.rd (v := .bool false) (rd_pickF (congrArg Value.bool g_56) rfl) rfl ?_
        refine Wx.nilQ (fun _ _ => ⟨(), trivial, ⟨?_, trivial⟩, Out.look rfl Out.refl⟩)
        show Value.bool false = Value.bool ((((decide (shownE L fs order = 0) && decide (gapsE L fs order = 0)) == (refWhole L fs order) && decide ((shownE L fs order) = (orderedE L fs order))) && decide ((gapsE L fs order) = (refGaps L fs order))) && decide ((shownE L fs order) = (orderedE L fs order)))
        rw [g_56]; rfl
    rintro ⟨⟩ u_60 -
    refine Wx.rd (v := .bool ((((decide (shownE L fs order = 0) && decide (gapsE L fs order = 0)) == (refWhole L fs order) && decide ((shownE L fs order) = (orderedE L fs order))) && decide ((gapsE L fs order) = (refGaps L fs order))) && decide ((shownE L fs order) = (orderedE L fs order)))) (rd_move rfl) rfl ?_
    refine Wx.cutQ (X := Unit) 4 [82, 83, 84, 85] (fun _ => [(85, .bool (((((decide (shownE L fs order = 0) && decide (gapsE L fs order = 0)) == (refWhole L fs order) && decide ((shownE L fs order) = (orderedE L fs order))) && decide ((gapsE L fs order) = (refGaps L fs order))) && decide ((shownE L fs order) = (orderedE L fs order))) && decide ((datesL L fs order) = (refDates L fs order))))]) (fun _ => True) ?_ ?_
    · rcases Bool.eq_false_or_eq_true ((((decide (shownE L fs order = 0) && decide (gapsE L fs order = 0)) == (refWhole L fs order) && decide ((shownE L fs order) = (orderedE L fs order))) && decide ((gapsE L fs order) = (refGaps L fs order))) && decide ((shownE L fs order) = (orderedE L fs order))) with g_61 | g_61
      · -- True
        have gp_62 := g_61
        try simp only [Bool.and_eq_true, Bool.or_eq_true, Bool.not_eq_true', Bool.and_eq_false_iff, Bool.or_eq_false_iff, Bool.not_eq_false', decide_eq_true_eq, decide_eq_false_iff_not, not_or, Bool.false_eq_true, Bool.true_eq_false, false_or, or_false, not_false_eq_true] at gp_62
        refine Wx.gyes rfl rfl (congrArg Value.bool g_61) ?_
        refine Wx.rd (v := v_37) (rd_move rfl) rfl ?_
        refine Wx.gyes rfl rfl (congrArg Value.bool g_61) ?_
        refine Wx.rd (v := v_43) (rd_move rfl) rfl ?_
        refine Wx.gyes rfl rfl (congrArg Value.bool g_61) ?_
        refine Wx.callV (v := .bool (decide ((datesL L fs order) = (refDates L fs order)))) (run_callF Try.call23 rfl) (fun w_63 hw_64 => (F23 ((hS.lend 1 rfl).ext hw_64) ((hS.lend 0 rfl).ext hw_64))) rfl ?_
        refine Wx.rd (v := .bool (decide ((datesL L fs order) = (refDates L fs order)))) (rd_pickT (congrArg Value.bool g_61) rfl) rfl ?_
        refine Wx.nilQ (fun _ _ => ⟨(), trivial, ⟨?_, trivial⟩, Out.look rfl Out.refl⟩)
        show Value.bool (decide ((datesL L fs order) = (refDates L fs order))) = Value.bool (((((decide (shownE L fs order = 0) && decide (gapsE L fs order = 0)) == (refWhole L fs order) && decide ((shownE L fs order) = (orderedE L fs order))) && decide ((gapsE L fs order) = (refGaps L fs order))) && decide ((shownE L fs order) = (orderedE L fs order))) && decide ((datesL L fs order) = (refDates L fs order)))
        rw [g_61]; rfl
      · -- False
        have gp_65 := g_61
        try simp only [Bool.and_eq_true, Bool.or_eq_true, Bool.not_eq_true', Bool.and_eq_false_iff, Bool.or_eq_false_iff, Bool.not_eq_false', decide_eq_true_eq, decide_eq_false_iff_not, not_or, Bool.false_eq_true, Bool.true_eq_false, false_or, or_false, not_false_eq_true] at gp_65
        refine Wx.gnoB rfl rfl (congrArg Value.bool g_61) rfl rfl ?_
        refine Wx.gnoB rfl rfl (congrArg Value.bool g_61) rfl rfl ?_
        refine Wx.gnoB rfl rfl (congrArg Value.bool g_61) rfl rfl ?_
        refine Wx.rd (v := .bool false) (rd_pickF (congrArg Value.bool g_61) rfl) rfl ?_
        refine Wx.nilQ (fun _ _ => ⟨(), trivial, ⟨?_, trivial⟩, Out.look rfl Out.refl⟩)
        show Value.bool false = Value.bool (((((decide (shownE L fs order = 0) && decide (gapsE L fs order = 0)) == (refWhole L fs order) && decide ((shownE L fs order) = (orderedE L fs order))) && decide ((gapsE L fs order) = (refGaps L fs order))) && decide ((shownE L fs order) = (orderedE L fs order))) && decide ((datesL L fs order) = (refDates L fs order)))
        rw [g_61]; rfl
    rintro ⟨⟩ u_67 -
    refine Wx.rd (v := .bool (((((decide (shownE L fs order = 0) && decide (gapsE L fs order = 0)) == (refWhole L fs order) && decide ((shownE L fs order) = (orderedE L fs order))) && decide ((gapsE L fs order) = (refGaps L fs order))) && decide ((shownE L fs order) = (orderedE L fs order))) && decide ((datesL L fs order) = (refDates L fs order)))) (rd_move rfl) rfl ?_
    refine Wx.cutQ (X := Unit) 4 [87, 88, 89, 90] (fun _ => [(90, .bool ((((((decide (shownE L fs order = 0) && decide (gapsE L fs order = 0)) == (refWhole L fs order) && decide ((shownE L fs order) = (orderedE L fs order))) && decide ((gapsE L fs order) = (refGaps L fs order))) && decide ((shownE L fs order) = (orderedE L fs order))) && decide ((datesL L fs order) = (refDates L fs order))) && decide ((shownE L fs order) = (orderedE L fs order))))]) (fun _ => True) ?_ ?_
    · rcases Bool.eq_false_or_eq_true (((((decide (shownE L fs order = 0) && decide (gapsE L fs order = 0)) == (refWhole L fs order) && decide ((shownE L fs order) = (orderedE L fs order))) && decide ((gapsE L fs order) = (refGaps L fs order))) && decide ((shownE L fs order) = (orderedE L fs order))) && decide ((datesL L fs order) = (refDates L fs order))) with g_68 | g_68
      · -- True
        have gp_69 := g_68
        try simp only [Bool.and_eq_true, Bool.or_eq_true, Bool.not_eq_true', Bool.and_eq_false_iff, Bool.or_eq_false_iff, Bool.not_eq_false', decide_eq_true_eq, decide_eq_false_iff_not, not_or, Bool.false_eq_true, Bool.true_eq_false, false_or, or_false, not_false_eq_true] at gp_69
        refine Wx.gyes rfl rfl (congrArg Value.bool g_68) ?_
        refine Wx.rd (v := .int .i64 (shownE L fs order)) (rd_move rfl) rfl ?_
        refine Wx.gyes rfl rfl (congrArg Value.bool g_68) ?_
        refine Wx.rd (v := .int .i64 (orderedE L fs order)) (rd_move rfl) rfl ?_
        refine Wx.gyes rfl rfl (congrArg Value.bool g_68) ?_
        refine Wx.rd (v := .bool (decide ((shownE L fs order) = (orderedE L fs order)))) (rd_eql rfl rfl) rfl ?_
        refine Wx.rd (v := .bool (decide ((shownE L fs order) = (orderedE L fs order)))) (rd_pickT (congrArg Value.bool g_68) rfl) rfl ?_
        refine Wx.nilQ (fun _ _ => ⟨(), trivial, ⟨?_, trivial⟩, Out.look rfl Out.refl⟩)
        show Value.bool (decide ((shownE L fs order) = (orderedE L fs order))) = Value.bool ((((((decide (shownE L fs order = 0) && decide (gapsE L fs order = 0)) == (refWhole L fs order) && decide ((shownE L fs order) = (orderedE L fs order))) && decide ((gapsE L fs order) = (refGaps L fs order))) && decide ((shownE L fs order) = (orderedE L fs order))) && decide ((datesL L fs order) = (refDates L fs order))) && decide ((shownE L fs order) = (orderedE L fs order)))
        rw [g_68]; rfl
      · -- False
        have gp_70 := g_68
        try simp only [Bool.and_eq_true, Bool.or_eq_true, Bool.not_eq_true', Bool.and_eq_false_iff, Bool.or_eq_false_iff, Bool.not_eq_false', decide_eq_true_eq, decide_eq_false_iff_not, not_or, Bool.false_eq_true, Bool.true_eq_false, false_or, or_false, not_false_eq_true] at gp_70
        refine Wx.gnoB rfl rfl (congrArg Value.bool g_68) rfl rfl ?_
        refine Wx.gnoB rfl rfl (congrArg Value.bool g_68) rfl rfl ?_
        refine Wx.gnoB rfl rfl (congrArg Value.bool g_68) rfl rfl ?_
        refine Wx.rd (v := .bool false) (rd_pickF (congrArg Value.bool g_68) rfl) rfl ?_
        refine Wx.nilQ (fun _ _ => ⟨(), trivial, ⟨?_, trivial⟩, Out.look rfl Out.refl⟩)
        show Value.bool false = Value.bool ((((((decide (shownE L fs order = 0) && decide (gapsE L fs order = 0)) == (refWhole L fs order) && decide ((shownE L fs order) = (orderedE L fs order))) && decide ((gapsE L fs order) = (refGaps L fs order))) && decide ((shownE L fs order) = (orderedE L fs order))) && decide ((datesL L fs order) = (refDates L fs order))) && decide ((shownE L fs order) = (orderedE L fs order)))
        rw [g_68]; rfl
    rintro ⟨⟩ u_72 -
    refine Wx.rd (v := .bool ((((((decide (shownE L fs order = 0) && decide (gapsE L fs order = 0)) == (refWhole L fs order) && decide ((shownE L fs order) = (orderedE L fs order))) && decide ((gapsE L fs order) = (refGaps L fs order))) && decide ((shownE L fs order) = (orderedE L fs order))) && decide ((datesL L fs order) = (refDates L fs order))) && decide ((shownE L fs order) = (orderedE L fs order)))) (rd_move rfl) rfl ?_
    refine Wx.cutQ (X := Unit) 6 [92, 93, 94, 95, 96, 97] (fun _ => [(97, .bool (((((((decide (shownE L fs order = 0) && decide (gapsE L fs order = 0)) == (refWhole L fs order) && decide ((shownE L fs order) = (orderedE L fs order))) && decide ((gapsE L fs order) = (refGaps L fs order))) && decide ((shownE L fs order) = (orderedE L fs order))) && decide ((datesL L fs order) = (refDates L fs order))) && decide ((shownE L fs order) = (orderedE L fs order))) && decide ((checkE L fs) = (checkE L fs))))]) (fun _ => True) ?_ ?_
    · rcases Bool.eq_false_or_eq_true ((((((decide (shownE L fs order = 0) && decide (gapsE L fs order = 0)) == (refWhole L fs order) && decide ((shownE L fs order) = (orderedE L fs order))) && decide ((gapsE L fs order) = (refGaps L fs order))) && decide ((shownE L fs order) = (orderedE L fs order))) && decide ((datesL L fs order) = (refDates L fs order))) && decide ((shownE L fs order) = (orderedE L fs order))) with g_73 | g_73
      · -- True
        have gp_74 := g_73
        try simp only [Bool.and_eq_true, Bool.or_eq_true, Bool.not_eq_true', Bool.and_eq_false_iff, Bool.or_eq_false_iff, Bool.not_eq_false', decide_eq_true_eq, decide_eq_false_iff_not, not_or, Bool.false_eq_true, Bool.true_eq_false, false_or, or_false, not_false_eq_true] at gp_74
        refine Wx.gyes rfl rfl (congrArg Value.bool g_73) ?_
        refine Wx.rd (v := .agg #[.int .i64 L, fv]) (rd_loadXs (ds := [.int .i64 L, fv]) hS 3 rfl rfl rfl rfl Try.isAgg24 Try.sizeOf24) rfl ?_
        refine Wx.gyes rfl rfl (congrArg Value.bool g_73) ?_
        refine Wx.callV (v := .int .i64 (checkE L fs)) (run_callF Try.call36 rfl) (fun w_75 hw_76 => (F36 (in_i64 (by omega) (by omega)) ((hS.arg a_fv).ext hw_76))) rfl ?_
        refine Wx.gyes rfl rfl (congrArg Value.bool g_73) ?_
        refine Wx.rd (v := .agg #[.int .i64 L, fv]) (rd_loadXs (ds := [.int .i64 L, fv]) hS 2 rfl rfl rfl rfl Try.isAgg27 Try.sizeOf27) rfl ?_
        refine Wx.gyes rfl rfl (congrArg Value.bool g_73) ?_
        refine Wx.callV (v := .int .i64 (checkE L fs)) (run_callF Try.call37 rfl) (fun w_77 hw_78 => (F37 (in_i64 (by omega) (by omega)) ((hS.arg a_fv).ext hw_78))) rfl ?_
        refine Wx.gyes rfl rfl (congrArg Value.bool g_73) ?_
        refine Wx.rd (v := .bool (decide ((checkE L fs) = (checkE L fs)))) (rd_eql rfl rfl) rfl ?_
        refine Wx.rd (v := .bool (decide ((checkE L fs) = (checkE L fs)))) (rd_pickT (congrArg Value.bool g_73) rfl) rfl ?_
        refine Wx.nilQ (fun _ _ => ⟨(), trivial, ⟨?_, trivial⟩, Out.look rfl Out.refl⟩)
        show Value.bool (decide ((checkE L fs) = (checkE L fs))) = Value.bool (((((((decide (shownE L fs order = 0) && decide (gapsE L fs order = 0)) == (refWhole L fs order) && decide ((shownE L fs order) = (orderedE L fs order))) && decide ((gapsE L fs order) = (refGaps L fs order))) && decide ((shownE L fs order) = (orderedE L fs order))) && decide ((datesL L fs order) = (refDates L fs order))) && decide ((shownE L fs order) = (orderedE L fs order))) && decide ((checkE L fs) = (checkE L fs)))
        rw [g_73]; rfl
      · -- False
        have gp_79 := g_73
        try simp only [Bool.and_eq_true, Bool.or_eq_true, Bool.not_eq_true', Bool.and_eq_false_iff, Bool.or_eq_false_iff, Bool.not_eq_false', decide_eq_true_eq, decide_eq_false_iff_not, not_or, Bool.false_eq_true, Bool.true_eq_false, false_or, or_false, not_false_eq_true] at gp_79
        refine Wx.gnoB rfl rfl (congrArg Value.bool g_73) rfl rfl ?_
        refine Wx.gnoB rfl rfl (congrArg Value.bool g_73) rfl rfl ?_
        refine Wx.gnoB rfl rfl (congrArg Value.bool g_73) rfl rfl ?_
        refine Wx.gnoB rfl rfl (congrArg Value.bool g_73) rfl rfl ?_
        refine Wx.gnoB rfl rfl (congrArg Value.bool g_73) rfl rfl ?_
        refine Wx.rd (v := .bool false) (rd_pickF (congrArg Value.bool g_73) rfl) rfl ?_
        refine Wx.nilQ (fun _ _ => ⟨(), trivial, ⟨?_, trivial⟩, Out.look rfl Out.refl⟩)
        show Value.bool false = Value.bool (((((((decide (shownE L fs order = 0) && decide (gapsE L fs order = 0)) == (refWhole L fs order) && decide ((shownE L fs order) = (orderedE L fs order))) && decide ((gapsE L fs order) = (refGaps L fs order))) && decide ((shownE L fs order) = (orderedE L fs order))) && decide ((datesL L fs order) = (refDates L fs order))) && decide ((shownE L fs order) = (orderedE L fs order))) && decide ((checkE L fs) = (checkE L fs)))
        rw [g_73]; rfl
    rintro ⟨⟩ u_81 -
    refine Wx.rd (v := .bool (((((((decide (shownE L fs order = 0) && decide (gapsE L fs order = 0)) == (refWhole L fs order) && decide ((shownE L fs order) = (orderedE L fs order))) && decide ((gapsE L fs order) = (refGaps L fs order))) && decide ((shownE L fs order) = (orderedE L fs order))) && decide ((datesL L fs order) = (refDates L fs order))) && decide ((shownE L fs order) = (orderedE L fs order))) && decide ((checkE L fs) = (checkE L fs)))) (rd_move rfl) rfl ?_
    refine Wx.cutQ (X := Unit) 2 [99, 100] (fun _ => [(100, .bool ((((((((decide (shownE L fs order = 0) && decide (gapsE L fs order = 0)) == (refWhole L fs order) && decide ((shownE L fs order) = (orderedE L fs order))) && decide ((gapsE L fs order) = (refGaps L fs order))) && decide ((shownE L fs order) = (orderedE L fs order))) && decide ((datesL L fs order) = (refDates L fs order))) && decide ((shownE L fs order) = (orderedE L fs order))) && decide ((checkE L fs) = (checkE L fs))) && true))]) (fun _ => True) ?_ ?_
    · rcases Bool.eq_false_or_eq_true (((((((decide (shownE L fs order = 0) && decide (gapsE L fs order = 0)) == (refWhole L fs order) && decide ((shownE L fs order) = (orderedE L fs order))) && decide ((gapsE L fs order) = (refGaps L fs order))) && decide ((shownE L fs order) = (orderedE L fs order))) && decide ((datesL L fs order) = (refDates L fs order))) && decide ((shownE L fs order) = (orderedE L fs order))) && decide ((checkE L fs) = (checkE L fs))) with g_82 | g_82
      · -- True
        have gp_83 := g_82
        try simp only [Bool.and_eq_true, Bool.or_eq_true, Bool.not_eq_true', Bool.and_eq_false_iff, Bool.or_eq_false_iff, Bool.not_eq_false', decide_eq_true_eq, decide_eq_false_iff_not, not_or, Bool.false_eq_true, Bool.true_eq_false, false_or, or_false, not_false_eq_true] at gp_83
        refine Wx.gyes rfl rfl (congrArg Value.bool g_82) ?_
        refine Wx.callV (v := .bool true) (run_callF Try.call15 rfl) (fun w_84 hw_85 => (F15)) rfl ?_
        refine Wx.rd (v := .bool true) (rd_pickT (congrArg Value.bool g_82) rfl) rfl ?_
        refine Wx.nilQ (fun _ _ => ⟨(), trivial, ⟨?_, trivial⟩, Out.look rfl Out.refl⟩)
        show Value.bool true = Value.bool ((((((((decide (shownE L fs order = 0) && decide (gapsE L fs order = 0)) == (refWhole L fs order) && decide ((shownE L fs order) = (orderedE L fs order))) && decide ((gapsE L fs order) = (refGaps L fs order))) && decide ((shownE L fs order) = (orderedE L fs order))) && decide ((datesL L fs order) = (refDates L fs order))) && decide ((shownE L fs order) = (orderedE L fs order))) && decide ((checkE L fs) = (checkE L fs))) && true)
        rw [g_82]; rfl
      · -- False
        have gp_86 := g_82
        try simp only [Bool.and_eq_true, Bool.or_eq_true, Bool.not_eq_true', Bool.and_eq_false_iff, Bool.or_eq_false_iff, Bool.not_eq_false', decide_eq_true_eq, decide_eq_false_iff_not, not_or, Bool.false_eq_true, Bool.true_eq_false, false_or, or_false, not_false_eq_true] at gp_86
        refine Wx.gnoB rfl rfl (congrArg Value.bool g_82) rfl rfl ?_
        refine Wx.rd (v := .bool false) (rd_pickF (congrArg Value.bool g_82) rfl) rfl ?_
        refine Wx.nilQ (fun _ _ => ⟨(), trivial, ⟨?_, trivial⟩, Out.look rfl Out.refl⟩)
        show Value.bool false = Value.bool ((((((((decide (shownE L fs order = 0) && decide (gapsE L fs order = 0)) == (refWhole L fs order) && decide ((shownE L fs order) = (orderedE L fs order))) && decide ((gapsE L fs order) = (refGaps L fs order))) && decide ((shownE L fs order) = (orderedE L fs order))) && decide ((datesL L fs order) = (refDates L fs order))) && decide ((shownE L fs order) = (orderedE L fs order))) && decide ((checkE L fs) = (checkE L fs))) && true)
        rw [g_82]; rfl
    rintro ⟨⟩ u_88 -
    refine Wx.rd (v := .bool ((((((((decide (shownE L fs order = 0) && decide (gapsE L fs order = 0)) == (refWhole L fs order) && decide ((shownE L fs order) = (orderedE L fs order))) && decide ((gapsE L fs order) = (refGaps L fs order))) && decide ((shownE L fs order) = (orderedE L fs order))) && decide ((datesL L fs order) = (refDates L fs order))) && decide ((shownE L fs order) = (orderedE L fs order))) && decide ((checkE L fs) = (checkE L fs))) && true)) (rd_assign rfl) rfl ?_
    refine Wx.nilQ (fun w_89 hx_90 => ?_)
    have hS := hS.ext hx_90
    have e1_0 : ((((((((decide (shownE L fs order = 0) && decide (gapsE L fs order = 0)) == (refWhole L fs order) && decide ((shownE L fs order) = (orderedE L fs order))) && decide ((gapsE L fs order) = (refGaps L fs order))) && decide ((shownE L fs order) = (orderedE L fs order))) && decide ((datesL L fs order) = (refDates L fs order))) && decide ((shownE L fs order) = (orderedE L fs order))) && decide ((checkE L fs) = (checkE L fs))) && true) = true := by exact p_law
    exact W.ret ⟨.bool ((((((((decide (shownE L fs order = 0) && decide (gapsE L fs order = 0)) == (refWhole L fs order) && decide ((shownE L fs order) = (orderedE L fs order))) && decide ((gapsE L fs order) = (refGaps L fs order))) && decide ((shownE L fs order) = (orderedE L fs order))) && decide ((datesL L fs order) = (refDates L fs order))) && decide ((shownE L fs order) = (orderedE L fs order))) && decide ((checkE L fs) = (checkE L fs))) && true), ResIs.one, hS.bel, (by rw [e1_0])⟩
end Go.Proofs.Ytjmpojoimcljoaa
