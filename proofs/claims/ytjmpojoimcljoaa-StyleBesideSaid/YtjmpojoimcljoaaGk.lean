/-
  WHAT IS PROVED HERE: what functions of layer 3 hand back, each out of its own code; the conditions stand in each statement.
-/
import Derived.Test.YtjmpojoimcljoaaProg
import Derived.Test.YtjmpojoimcljoaaWk9
import Derived.Test.YtjmpojoimcljoaaSpec6
import Derived.Test.YtjmpojoimcljoaaFa
import Derived.Test.YtjmpojoimcljoaaFc
import Derived.Test.YtjmpojoimcljoaaFe
import Derived.Test.YtjmpojoimcljoaaFf
import Derived.Test.YtjmpojoimcljoaaFg
import Derived.Test.YtjmpojoimcljoaaFi
import Derived.Test.YtjmpojoimcljoaaFj
import Derived.Test.YtjmpojoimcljoaaFk
import Derived.Test.YtjmpojoimcljoaaGa
import Derived.Test.YtjmpojoimcljoaaGc
import Derived.Test.YtjmpojoimcljoaaGh
import Derived.Test.YtjmpojoimcljoaaGj
import Derived.Test.YtjmpojoimcljoaaEach3
import Derived.Test.YtjmpojoimcljoaaWk11
import Derived.Test.YtjmpojoimcljoaaSpec7
namespace Go.Proofs.Ytjmpojoimcljoaa
open Go.Wk Go.RowKit
set_option linter.unusedVariables false
set_option linter.unusedSimpArgs false
theorem foGk_24_0 : fldOff Try.prog 24 0 = some 0 := by kernel_rfl
theorem elGk_36 : ElemI Try.prog 36 61 (.agg #[.int .i64 0, .int .i64 0]) 2 16 := ElemI.of Try.underlying36 (by kernel_rfl) (by first | rfl | kernel_rfl) (by decide)
theorem foGk_24_1 : fldOff Try.prog 24 1 = some 1 := by kernel_rfl
theorem elGk_28 : ElemI Try.prog 28 3 (.int .i64 0) 1 8 := ElemI.of Try.underlying28 (by kernel_rfl) (by first | rfl | kernel_rfl) (by decide)
theorem elGk_22 : ElemI Try.prog 22 28 ((.slice none 0 0)) 1 24 := ElemI.of Try.underlying22 (by kernel_rfl) (by first | rfl | kernel_rfl) (by decide)
theorem mixedGk_ : Try.prog.follows .mixedOrders = true := by kernel_rfl

theorem F10 {ly : Int} {mn : Int} {z0 : Int} {z1 : Int} {z2 : Int} {z3 : Int} {z4 : Int} {z5 : Int} {z6 : Int} {z7 : Int} {z8 : Int} {z9 : Int} {w : World} (i_ly : InK .u8 ly) (i_mn : InK .u8 mn) (i_z0 : InK .u8 z0) (i_z1 : InK .u8 z1) (i_z2 : InK .u8 z2) (i_z3 : InK .u8 z3) (i_z4 : InK .u8 z4) (i_z5 : InK .u8 z5) (i_z6 : InK .u8 z6) (i_z7 : InK .u8 z7) (i_z8 : InK .u8 z8) (i_z9 : InK .u8 z9) (p_law : besideP (madeN 5 ly) (madeF 5 8 ly mn [z0, z1, z2, z3, z4, z5, z6, z7, z8, z9])) : Calls Try.prog 10 #[.agg #[.int .u8 ly, .int .u8 mn, .int .u8 z0, .int .u8 z1, .int .u8 z2, .int .u8 z3, .int .u8 z4, .int .u8 z5, .int .u8 z6, .int .u8 z7, .int .u8 z8, .int .u8 z9]] w (Ret w (fun r _ => r = .bool true)) := by
  have b_z9 := bd_u8 i_z9
  have b_z8 := bd_u8 i_z8
  have b_z7 := bd_u8 i_z7
  have b_z6 := bd_u8 i_z6
  have b_z5 := bd_u8 i_z5
  have b_z4 := bd_u8 i_z4
  have b_z3 := bd_u8 i_z3
  have b_z2 := bd_u8 i_z2
  have b_z1 := bd_u8 i_z1
  have b_z0 := bd_u8 i_z0
  have b_mn := bd_u8 i_mn
  have b_ly := bd_u8 i_ly
  obtain ⟨hc0, h5, hcb, hz, hnz⟩ := p_law
  have hN := madeN_bd (a := 5) (ly := ly) (by omega)
  have hck := check_ok hc0
  have hS := St.start0 w
  refine enterR Try.func10 rfl Try.ntmps10 Try.results10 rfl ?_
  refine W.seq ?_
  refine W.reg ?_
  refine Wx.box (cs := [.int .u8 ly, .int .u8 mn, .int .u8 z0, .int .u8 z1, .int .u8 z2, .int .u8 z3, .int .u8 z4, .int .u8 z5, .int .u8 z6, .int .u8 z7, .int .u8 z8, .int .u8 z9]) hS rfl rfl rfl (fun g_1 w_2 hx_4 hb_3 hS => ?_)
  refine Wx.rd (v := .bool false) (rd_assign rfl) rfl ?_
  refine Wx.nil ?_
  refine W.seq ?_
  refine W.reg ?_
  refine Wx.rd (v := .agg #[.int .u8 ly, .int .u8 mn, .int .u8 z0, .int .u8 z1, .int .u8 z2, .int .u8 z3, .int .u8 z4, .int .u8 z5, .int .u8 z6, .int .u8 z7, .int .u8 z8, .int .u8 z9]) (rd_loadXs (ds := [.int .u8 ly, .int .u8 mn, .int .u8 z0, .int .u8 z1, .int .u8 z2, .int .u8 z3, .int .u8 z4, .int .u8 z5, .int .u8 z6, .int .u8 z7, .int .u8 z8, .int .u8 z9]) hS 0 rfl rfl rfl rfl Try.isAgg64 Try.sizeOf64) rfl ?_
  refine Wx.callF (run_callF Try.call43 rfl) (F43 (in_u8 (by omega) (by omega)) (in_u8 (by omega) (by omega)) (in_u8 (by omega) (by omega)) (in_u8 (by omega) (by omega)) (in_u8 (by omega) (by omega)) (in_u8 (by omega) (by omega)) (in_u8 (by omega) (by omega)) (in_u8 (by omega) (by omega)) (in_u8 (by omega) (by omega)) (in_u8 (by omega) (by omega)) (in_u8 (by omega) (by omega)) (in_u8 (by omega) (by omega)) (in_i64 (by omega) (by omega)) (in_i64 (by omega) (by omega)) (by omega) (by omega) (by omega) (by omega) hS.fb_lt) rfl ?_
  rintro r_5 w_6 hx_7 ⟨v_8, rfl, hv_9⟩
  have ln_11 := hv_9.len63
  have hS := hS.ext hx_7
  have hS := hS.add hv_9
  refine Wx.alloc (cs := [.int .i64 0, (.slice none 0 0)]) hS Try.zeroValue24 rfl rfl (fun g_12 w_13 hx_15 hb_14 hS => ?_)
  refine Wx.storeX (cs' := [.int .i64 (madeN 5 ly), v_8]) (ds := [.int .i64 (madeN 5 ly), v_8]) hS 0 rfl rfl rfl rfl Try.sizeOf24 (Nat.le_of_ble_eq_true rfl) (one_cons rfl (one_cons (V.oneC (hS.v 1 rfl)) one_nil)) rfl (fun w_16 hz_17 hS => ?_)
  refine Wx.nil ?_
  refine W.seq ?_
  refine W.reg ?_
  refine Wx.rd (v := .pointer (some ⟨g_12, 0, none⟩)) (rd_fieldAddr rfl foGk_24_0) rfl ?_
  refine Wx.rd (v := .int .i64 (madeN 5 ly)) (rd_loadX hS 0 rfl rfl rfl Try.isAgg3) rfl ?_
  refine Wx.rd (v := .int .i64 (madeN 5 ly)) (rd_assign rfl) rfl ?_
  refine Wx.nil ?_
  refine W.seq ?_
  refine W.reg ?_
  refine Wx.alloc (cs := [.bool false, .bool false, .bool false, .bool false, .bool false, .bool false, .bool false, .bool false, .bool false, .bool false, .bool false, .bool false, .bool false, .bool false, .bool false, .bool false, .bool false, .bool false, .bool false, .bool false, .bool false, .bool false, .bool false, .bool false, .bool false]) hS Try.zeroValue74 rfl rfl (fun g_18 w_19 hx_21 hb_20 hS => ?_)
  have hS : St _ _ w_19 [.box g_18 74 (List.map Value.bool (List.replicate 25 false)), .box g_12 24 [.int .i64 (madeN 5 ly), v_8], Ob.v (tSl (tSl (tI .i64))) (madeF 5 8 ly mn [z0, z1, z2, z3, z4, z5, z6, z7, z8, z9]) v_8, .box g_1 64 [.int .u8 ly, .int .u8 mn, .int .u8 z0, .int .u8 z1, .int .u8 z2, .int .u8 z3, .int .u8 z4, .int .u8 z5, .int .u8 z6, .int .u8 z7, .int .u8 z8, .int .u8 z9]] := hS
  refine Wx.nil ?_
  refine W.seq ?_
  refine W.reg ?_
  refine Wx.alloc (cs := [.int .i64 0]) hS Try.zeroValue3 rfl rfl (fun g_22 w_23 hx_25 hb_24 hS => ?_)
  refine Wx.storeX (cs' := [.int .i64 0]) (ds := [.int .i64 0]) hS 0 rfl rfl rfl rfl Try.sizeOf3 (Nat.le_of_ble_eq_true rfl) (one_cons rfl one_nil) rfl (fun w_26 hz_27 hS => ?_)
  refine Wx.nil ?_
  refine W.seq ?_
  refine W.reg ?_
  refine Wx.rd (v := .int .i64 (madeN 5 ly)) (rd_move rfl) rfl ?_
  refine Wx.rd (v := .func (.func 51) #[] #[.pointer (some ⟨g_12, 0, none⟩), .pointer (some ⟨g_22, 0, none⟩), .pointer (some ⟨g_18, 0, none⟩)]) (rd_makeFunc (vs := []) (us := [.pointer (some ⟨g_12, 0, none⟩), .pointer (some ⟨g_22, 0, none⟩), .pointer (some ⟨g_18, 0, none⟩)]) rfl rfl) rfl ?_
  refine Wx.callB (run_callF Try.call44 rfl) (F44 (fe := 51) (fs := []) (cs := [.pointer (some ⟨g_12, 0, none⟩), .pointer (some ⟨g_22, 0, none⟩), .pointer (some ⟨g_18, 0, none⟩)]) (ls := []) (n := madeN 5 ly) (Tl := fun ls ob => ob = Ob.v (tSl (tSl (tI .i64))) (madeF 5 8 ly mn [z0, z1, z2, z3, z4, z5, z6, z7, z8, z9]) v_8 :: .box g_12 24 [.int .i64 (madeN 5 ly), v_8] :: .box g_22 3 [.int .i64 (ls.foldl (stepB (madeF 5 8 ly mn [z0, z1, z2, z3, z4, z5, z6, z7, z8, z9])) (0, List.replicate 25 false)).1] :: .box g_18 74 (List.map Value.bool (ls.foldl (stepB (madeF 5 8 ly mn [z0, z1, z2, z3, z4, z5, z6, z7, z8, z9])) (0, List.replicate 25 false)).2) :: [.box g_1 64 [.int .u8 ly, .int .u8 mn, .int .u8 z0, .int .u8 z1, .int .u8 z2, .int .u8 z3, .int .u8 z4, .int .u8 z5, .int .u8 z6, .int .u8 z7, .int .u8 z8, .int .u8 z9]]) Try.call51 (each51 (in_i64 (by omega) (by omega)) (by omega)) (by omega) (by omega) rfl ((((hS.front 1 rfl).front 1 rfl).front 2 rfl).front 3 rfl)) rfl ?_
  rintro r_28 w_29 ⟨rfl, _, rfl, hS⟩
  have hS : St w [] w_29 [Ob.v (tSl (tSl (tI .i64))) (madeF 5 8 ly mn [z0, z1, z2, z3, z4, z5, z6, z7, z8, z9]) v_8, .box g_12 24 [.int .i64 (madeN 5 ly), v_8], .box g_22 3 [.int .i64 ((foldB (madeN 5 ly) (madeF 5 8 ly mn [z0, z1, z2, z3, z4, z5, z6, z7, z8, z9])).1)], .box g_18 74 (List.map Value.bool ((foldB (madeN 5 ly) (madeF 5 8 ly mn [z0, z1, z2, z3, z4, z5, z6, z7, z8, z9])).2)), .box g_1 64 [.int .u8 ly, .int .u8 mn, .int .u8 z0, .int .u8 z1, .int .u8 z2, .int .u8 z3, .int .u8 z4, .int .u8 z5, .int .u8 z6, .int .u8 z7, .int .u8 z8, .int .u8 z9]] := hS
  have hfl : (foldB (madeN 5 ly) (madeF 5 8 ly mn [z0, z1, z2, z3, z4, z5, z6, z7, z8, z9])).2.length = 25 := stepB_len _ _ (by simp)
  refine Wx.nil ?_
  refine W.seq ?_
  refine W.reg ?_
  refine Wx.rd (v := .agg #[.int .i64 (madeN 5 ly), v_8]) (rd_loadXs (ds := [.int .i64 (madeN 5 ly), v_8]) hS 1 rfl rfl rfl rfl Try.isAgg24 Try.sizeOf24) rfl ?_
  refine Wx.callF (run_callF Try.call20 rfl) (F20 (in_i64 (by omega) (by omega)) (hS.v 0 rfl)) rfl ?_
  rintro r_30 w_31 hx_32 ⟨v_33, rfl, hv_34⟩
  have hS := hS.pushFr hx_32 hv_34
  refine Wx.rd (v := .tuple #[v_33, .int .i64 (firstE (madeN 5 ly) (madeF 5 8 ly mn [z0, z1, z2, z3, z4, z5, z6, z7, z8, z9]))]) (rd_move rfl) rfl ?_
  refine Wx.rd (v := v_33) (rd_extract rfl rfl) rfl ?_
  refine Wx.rd (v := .int .i64 (firstE (madeN 5 ly) (madeF 5 8 ly mn [z0, z1, z2, z3, z4, z5, z6, z7, z8, z9]))) (rd_extract rfl rfl) rfl ?_
  refine Wx.rd (v := v_33) (rd_assign rfl) rfl ?_
  refine Wx.rd (v := .int .i64 (firstE (madeN 5 ly) (madeF 5 8 ly mn [z0, z1, z2, z3, z4, z5, z6, z7, z8, z9]))) (rd_assign rfl) rfl ?_
  refine Wx.nil ?_
  refine W.seq ?_
  refine W.seq ?_
  refine W.reg ?_
  refine Wx.rd (v := .int .i64 ((foldB (madeN 5 ly) (madeF 5 8 ly mn [z0, z1, z2, z3, z4, z5, z6, z7, z8, z9])).1)) (rd_loadX hS 3 rfl rfl rfl Try.isAgg3) rfl ?_
  refine Wx.rd (v := .bool (decide (((foldB (madeN 5 ly) (madeF 5 8 ly mn [z0, z1, z2, z3, z4, z5, z6, z7, z8, z9])).1) = 0))) (rd_eql rfl rfl) rfl ?_
  refine Wx.nil ?_
  refine W.condD rfl (fun c0 => ?_) (fun c0 => ?_)
  · -- yes
    refine W.seq ?_
    refine W.reg ?_
    refine Wx.rd (v := .int .i64 (firstE (madeN 5 ly) (madeF 5 8 ly mn [z0, z1, z2, z3, z4, z5, z6, z7, z8, z9]))) (rd_move rfl) rfl ?_
    refine Wx.rd (v := .bool (decide ((firstE (madeN 5 ly) (madeF 5 8 ly mn [z0, z1, z2, z3, z4, z5, z6, z7, z8, z9])) = 12))) (rd_eql rfl rfl) rfl ?_
    refine Wx.rd (v := .bool (decide ((firstE (madeN 5 ly) (madeF 5 8 ly mn [z0, z1, z2, z3, z4, z5, z6, z7, z8, z9])) = 12))) (rd_move rfl) rfl ?_
    refine Wx.cut (X := Unit) 4 [32, 33, 34, 35] (fun _ => [(35, .bool (decide ((firstE (madeN 5 ly) (madeF 5 8 ly mn [z0, z1, z2, z3, z4, z5, z6, z7, z8, z9])) = 12) && decide (((besideL (madeN 5 ly) (madeF 5 8 ly mn [z0, z1, z2, z3, z4, z5, z6, z7, z8, z9])).length : Int) = 0)))]) (fun _ w' => St w [] w' [.row (tP (tI .i64) (tI .i64)) 61 v_33 (besideL (madeN 5 ly) (madeF 5 8 ly mn [z0, z1, z2, z3, z4, z5, z6, z7, z8, z9])), Ob.v (tSl (tSl (tI .i64))) (madeF 5 8 ly mn [z0, z1, z2, z3, z4, z5, z6, z7, z8, z9]) v_8, .box g_12 24 [.int .i64 (madeN 5 ly), v_8], .box g_22 3 [.int .i64 ((foldB (madeN 5 ly) (madeF 5 8 ly mn [z0, z1, z2, z3, z4, z5, z6, z7, z8, z9])).1)], .box g_18 74 (List.map Value.bool ((foldB (madeN 5 ly) (madeF 5 8 ly mn [z0, z1, z2, z3, z4, z5, z6, z7, z8, z9])).2)), .box g_1 64 [.int .u8 ly, .int .u8 mn, .int .u8 z0, .int .u8 z1, .int .u8 z2, .int .u8 z3, .int .u8 z4, .int .u8 z5, .int .u8 z6, .int .u8 z7, .int .u8 z8, .int .u8 z9]]) ?_ ?_
    · rcases Bool.eq_false_or_eq_true (decide ((firstE (madeN 5 ly) (madeF 5 8 ly mn [z0, z1, z2, z3, z4, z5, z6, z7, z8, z9])) = 12)) with g_36 | g_36
      · -- True
        have gp_37 := of_decide_eq_true g_36
        refine Wx.gyes rfl rfl (congrArg Value.bool g_36) ?_
        refine Wx.rd (v := v_33) (rd_move rfl) rfl ?_
        refine Wx.gyes rfl rfl (congrArg Value.bool g_36) ?_
        refine Wx.rd (v := .int .i64 ((besideL (madeN 5 ly) (madeF 5 8 ly mn [z0, z1, z2, z3, z4, z5, z6, z7, z8, z9])).length : Int)) (rd_lenR hS 0 rfl rfl Try.underlying36) rfl ?_
        refine Wx.gyes rfl rfl (congrArg Value.bool g_36) ?_
        refine Wx.rd (v := .bool (decide (((besideL (madeN 5 ly) (madeF 5 8 ly mn [z0, z1, z2, z3, z4, z5, z6, z7, z8, z9])).length : Int) = 0))) (rd_eql rfl rfl) rfl ?_
        refine Wx.rd (v := .bool (decide (((besideL (madeN 5 ly) (madeF 5 8 ly mn [z0, z1, z2, z3, z4, z5, z6, z7, z8, z9])).length : Int) = 0))) (rd_pickT (congrArg Value.bool g_36) rfl) rfl ?_
        refine Wx.nil ⟨(), hS, ⟨?_, trivial⟩, Out.look rfl Out.refl⟩
        show Value.bool (decide (((besideL (madeN 5 ly) (madeF 5 8 ly mn [z0, z1, z2, z3, z4, z5, z6, z7, z8, z9])).length : Int) = 0)) = Value.bool (decide ((firstE (madeN 5 ly) (madeF 5 8 ly mn [z0, z1, z2, z3, z4, z5, z6, z7, z8, z9])) = 12) && decide (((besideL (madeN 5 ly) (madeF 5 8 ly mn [z0, z1, z2, z3, z4, z5, z6, z7, z8, z9])).length : Int) = 0))
        rw [g_36]; rfl
      · -- False
        have gp_38 := of_decide_eq_false g_36
        refine Wx.gnoB rfl rfl (congrArg Value.bool g_36) rfl rfl ?_
        refine Wx.gnoB rfl rfl (congrArg Value.bool g_36) rfl rfl ?_
        refine Wx.gnoB rfl rfl (congrArg Value.bool g_36) rfl rfl ?_
        refine Wx.rd (v := .bool false) (rd_pickF (congrArg Value.bool g_36) rfl) rfl ?_
        refine Wx.nil ⟨(), hS, ⟨?_, trivial⟩, Out.look rfl Out.refl⟩
        show Value.bool false = Value.bool (decide ((firstE (madeN 5 ly) (madeF 5 8 ly mn [z0, z1, z2, z3, z4, z5, z6, z7, z8, z9])) = 12) && decide (((besideL (madeN 5 ly) (madeF 5 8 ly mn [z0, z1, z2, z3, z4, z5, z6, z7, z8, z9])).length : Int) = 0))
        rw [g_36]; rfl
    rintro ⟨⟩ u_40 w_39 hS
    refine Wx.rd (v := .bool (decide ((firstE (madeN 5 ly) (madeF 5 8 ly mn [z0, z1, z2, z3, z4, z5, z6, z7, z8, z9])) = 12) && decide (((besideL (madeN 5 ly) (madeF 5 8 ly mn [z0, z1, z2, z3, z4, z5, z6, z7, z8, z9])).length : Int) = 0))) (rd_move rfl) rfl ?_
    refine Wx.cut (X := Unit) 2 [37, 38] (fun _ => [(38, .bool ((decide ((firstE (madeN 5 ly) (madeF 5 8 ly mn [z0, z1, z2, z3, z4, z5, z6, z7, z8, z9])) = 12) && decide (((besideL (madeN 5 ly) (madeF 5 8 ly mn [z0, z1, z2, z3, z4, z5, z6, z7, z8, z9])).length : Int) = 0)) && true))]) (fun _ w' => St w [] w' [.row (tP (tI .i64) (tI .i64)) 61 v_33 (besideL (madeN 5 ly) (madeF 5 8 ly mn [z0, z1, z2, z3, z4, z5, z6, z7, z8, z9])), Ob.v (tSl (tSl (tI .i64))) (madeF 5 8 ly mn [z0, z1, z2, z3, z4, z5, z6, z7, z8, z9]) v_8, .box g_12 24 [.int .i64 (madeN 5 ly), v_8], .box g_22 3 [.int .i64 ((foldB (madeN 5 ly) (madeF 5 8 ly mn [z0, z1, z2, z3, z4, z5, z6, z7, z8, z9])).1)], .box g_18 74 (List.map Value.bool ((foldB (madeN 5 ly) (madeF 5 8 ly mn [z0, z1, z2, z3, z4, z5, z6, z7, z8, z9])).2)), .box g_1 64 [.int .u8 ly, .int .u8 mn, .int .u8 z0, .int .u8 z1, .int .u8 z2, .int .u8 z3, .int .u8 z4, .int .u8 z5, .int .u8 z6, .int .u8 z7, .int .u8 z8, .int .u8 z9]]) ?_ ?_
    · rcases Bool.eq_false_or_eq_true (decide ((firstE (madeN 5 ly) (madeF 5 8 ly mn [z0, z1, z2, z3, z4, z5, z6, z7, z8, z9])) = 12) && decide (((besideL (madeN 5 ly) (madeF 5 8 ly mn [z0, z1, z2, z3, z4, z5, z6, z7, z8, z9])).length : Int) = 0)) with g_41 | g_41
      · -- True
        have gp_42 := g_41
        try simp only [Bool.and_eq_true, Bool.or_eq_true, Bool.not_eq_true', Bool.and_eq_false_iff, Bool.or_eq_false_iff, Bool.not_eq_false', decide_eq_true_eq, decide_eq_false_iff_not, not_or, Bool.false_eq_true, Bool.true_eq_false, false_or, or_false, not_false_eq_true] at gp_42
        refine Wx.gyes rfl rfl (congrArg Value.bool g_41) ?_
        refine Wx.callF (run_callF Try.call15 rfl) (F15) rfl ?_
        rintro r_43 w_44 hx_45 rfl
        have hS := hS.ext hx_45
        refine Wx.rd (v := .bool true) (rd_pickT (congrArg Value.bool g_41) rfl) rfl ?_
        refine Wx.nil ⟨(), hS, ⟨?_, trivial⟩, Out.look rfl Out.refl⟩
        show Value.bool true = Value.bool ((decide ((firstE (madeN 5 ly) (madeF 5 8 ly mn [z0, z1, z2, z3, z4, z5, z6, z7, z8, z9])) = 12) && decide (((besideL (madeN 5 ly) (madeF 5 8 ly mn [z0, z1, z2, z3, z4, z5, z6, z7, z8, z9])).length : Int) = 0)) && true)
        rw [g_41]; rfl
      · -- False
        have gp_46 := g_41
        try simp only [Bool.and_eq_true, Bool.or_eq_true, Bool.not_eq_true', Bool.and_eq_false_iff, Bool.or_eq_false_iff, Bool.not_eq_false', decide_eq_true_eq, decide_eq_false_iff_not, not_or, Bool.false_eq_true, Bool.true_eq_false, false_or, or_false, not_false_eq_true] at gp_46
        refine Wx.gnoB rfl rfl (congrArg Value.bool g_41) rfl rfl ?_
        refine Wx.rd (v := .bool false) (rd_pickF (congrArg Value.bool g_41) rfl) rfl ?_
        refine Wx.nil ⟨(), hS, ⟨?_, trivial⟩, Out.look rfl Out.refl⟩
        show Value.bool false = Value.bool ((decide ((firstE (madeN 5 ly) (madeF 5 8 ly mn [z0, z1, z2, z3, z4, z5, z6, z7, z8, z9])) = 12) && decide (((besideL (madeN 5 ly) (madeF 5 8 ly mn [z0, z1, z2, z3, z4, z5, z6, z7, z8, z9])).length : Int) = 0)) && true)
        rw [g_41]; rfl
    rintro ⟨⟩ u_48 w_47 hS
    refine Wx.rd (v := .bool ((decide ((firstE (madeN 5 ly) (madeF 5 8 ly mn [z0, z1, z2, z3, z4, z5, z6, z7, z8, z9])) = 12) && decide (((besideL (madeN 5 ly) (madeF 5 8 ly mn [z0, z1, z2, z3, z4, z5, z6, z7, z8, z9])).length : Int) = 0)) && true)) (rd_assign rfl) rfl ?_
    refine Wx.nil ?_
    have e0_0 : ((decide ((firstE (madeN 5 ly) (madeF 5 8 ly mn [z0, z1, z2, z3, z4, z5, z6, z7, z8, z9])) = 12) && decide (((besideL (madeN 5 ly) (madeF 5 8 ly mn [z0, z1, z2, z3, z4, z5, z6, z7, z8, z9])).length : Int) = 0)) && true) = true := by obtain ⟨q1, q2⟩ := hz c0; rw [q1, q2]; simp
    exact W.ret ⟨.bool ((decide ((firstE (madeN 5 ly) (madeF 5 8 ly mn [z0, z1, z2, z3, z4, z5, z6, z7, z8, z9])) = 12) && decide (((besideL (madeN 5 ly) (madeF 5 8 ly mn [z0, z1, z2, z3, z4, z5, z6, z7, z8, z9])).length : Int) = 0)) && true), ResIs.one, hS.bel, (by rw [e0_0])⟩
  · -- no
    obtain ⟨hf0, hbl, hq⟩ := hnz c0
    refine W.skip ?_
    refine W.seq ?_
    refine W.reg ?_
    refine Wx.rd (v := (.slice none 0 0)) (rd_assign rfl) rfl ?_
    refine Wx.nil ?_
    refine W.seq ?_
    refine W.seq ?_
    refine W.reg ?_
    refine Wx.rd (v := .int .i64 (madeN 5 ly)) (rd_move rfl) rfl ?_
    refine Wx.rd (v := .int .i64 0) (rd_move rfl) rfl ?_
    refine Wx.nil ?_
    refine W.block ?_
    have hS := hS.addNil (tP (tI .i64) (tI .i64)) 61
    refine W.loop [2, 9, 10, 11, 12, 13, 14, 40, 41, 42, 43, 44, 45, 46, 47, 48, 49, 50, 51, 52, 53, 54, 55, 56, 57, 58, 59, 60, 61, 62, 63, 64, 65, 66, 67, 68, 69, 70, 71, 72, 73, 74, 75, 76, 77, 78, 79, 80, 81, 82, 83, 84, 85, 86, 87, 88, 89, 90, 91, 92, 93, 94, 95, 96, 97] (fun x : Int × Value × (List (Int × Int)) => match x with | (a, xv, out) => [(40, .int .i64 a), (9, xv)]) (fun (x : Int × Value × (List (Int × Int))) w' => match x with | (a, xv, out) => St w [] w' [.row (tP (tI .i64) (tI .i64)) 61 xv out, .row (tP (tI .i64) (tI .i64)) 61 v_33 (besideL (madeN 5 ly) (madeF 5 8 ly mn [z0, z1, z2, z3, z4, z5, z6, z7, z8, z9])), Ob.v (tSl (tSl (tI .i64))) (madeF 5 8 ly mn [z0, z1, z2, z3, z4, z5, z6, z7, z8, z9]) v_8, .box g_12 24 [.int .i64 (madeN 5 ly), v_8], .box g_22 3 [.int .i64 ((foldB (madeN 5 ly) (madeF 5 8 ly mn [z0, z1, z2, z3, z4, z5, z6, z7, z8, z9])).1)], .box g_18 74 (List.map Value.bool ((foldB (madeN 5 ly) (madeF 5 8 ly mn [z0, z1, z2, z3, z4, z5, z6, z7, z8, z9])).2)), .box g_1 64 [.int .u8 ly, .int .u8 mn, .int .u8 z0, .int .u8 z1, .int .u8 z2, .int .u8 z3, .int .u8 z4, .int .u8 z5, .int .u8 z6, .int .u8 z7, .int .u8 z8, .int .u8 z9]] ∧ 0 ≤ a ∧ a ≤ madeN 5 ly ∧ out ++ pairA (madeN 5 ly) (fun a b => !ix false (foldB (madeN 5 ly) (madeF 5 8 ly mn [z0, z1, z2, z3, z4, z5, z6, z7, z8, z9])).2 (a * 5 + b)) (madeN 5 ly - a).toNat = pairA (madeN 5 ly) (fun a b => !ix false (foldB (madeN 5 ly) (madeF 5 8 ly mn [z0, z1, z2, z3, z4, z5, z6, z7, z8, z9])).2 (a * 5 + b)) (madeN 5 ly).toNat ∧ (out.length : Int) ≤ 10 * a) (fun x : Int × Value × (List (Int × Int)) => match x with | (a, xv, out) => (madeN 5 ly - a).toNat) (0, (.slice none 0 0), []) ⟨rfl, rfl, trivial⟩ ⟨hS, (by first | omega | simp), (by first | omega | simp), (by simp), (by simp)⟩ ?_
    rintro ⟨a, xv, out⟩ u_50 w_49 ⟨hS, h0, h1, h2, h3⟩
    refine W.seq ?_
    refine W.reg ?_
    refine Wx.rd (v := .bool (decide (a < (madeN 5 ly)))) (rd_lss rfl rfl) rfl ?_
    refine Wx.nil ?_
    refine W.seq ?_
    refine W.condD rfl (fun c1 => ?_) (fun c1 => ?_)
    · -- yes
      refine W.skip ?_
      refine W.seq ?_
      refine W.block ?_
      refine W.seq ?_
      refine W.reg ?_
      refine Wx.rd (v := .int .i64 a) (rd_move rfl) rfl ?_
      refine Wx.rd (v := .int .i64 a) (rd_assign rfl) rfl ?_
      refine Wx.nil ?_
      refine W.seq ?_
      refine W.reg ?_
      refine Wx.rd (v := .int .i64 a) (rd_move rfl) rfl ?_
      refine Wx.rd (v := .int .i64 (a + 1)) (rd_add rfl rfl (in_i64 (by omega) (by omega))) rfl ?_
      refine Wx.rd (v := .int .i64 (a + 1)) (rd_assign rfl) rfl ?_
      refine Wx.nil ?_
      refine W.block ?_
      refine W.loop [2, 9, 11, 12, 13, 14, 45, 46, 47, 48, 49, 50, 51, 52, 53, 54, 55, 56, 57, 58, 59, 60, 61, 62, 63, 64, 65, 66, 67, 68, 69, 70, 71, 72, 73, 74, 75, 76, 77, 78, 79, 80, 81, 82, 83, 84, 85, 86, 87, 88, 89, 90, 91, 92, 93, 94, 95, 96] (fun x : Int × Value × (List (Int × Int)) => match x with | (b, yv, out2) => [(11, .int .i64 b), (9, yv)]) (fun (x : Int × Value × (List (Int × Int))) w' => match x with | (b, yv, out2) => St w [] w' [.row (tP (tI .i64) (tI .i64)) 61 yv out2, .row (tP (tI .i64) (tI .i64)) 61 v_33 (besideL (madeN 5 ly) (madeF 5 8 ly mn [z0, z1, z2, z3, z4, z5, z6, z7, z8, z9])), Ob.v (tSl (tSl (tI .i64))) (madeF 5 8 ly mn [z0, z1, z2, z3, z4, z5, z6, z7, z8, z9]) v_8, .box g_12 24 [.int .i64 (madeN 5 ly), v_8], .box g_22 3 [.int .i64 ((foldB (madeN 5 ly) (madeF 5 8 ly mn [z0, z1, z2, z3, z4, z5, z6, z7, z8, z9])).1)], .box g_18 74 (List.map Value.bool ((foldB (madeN 5 ly) (madeF 5 8 ly mn [z0, z1, z2, z3, z4, z5, z6, z7, z8, z9])).2)), .box g_1 64 [.int .u8 ly, .int .u8 mn, .int .u8 z0, .int .u8 z1, .int .u8 z2, .int .u8 z3, .int .u8 z4, .int .u8 z5, .int .u8 z6, .int .u8 z7, .int .u8 z8, .int .u8 z9]] ∧ a + 1 ≤ b ∧ b ≤ madeN 5 ly ∧ out2 ++ pairB (madeN 5 ly) a (fun a b => !ix false (foldB (madeN 5 ly) (madeF 5 8 ly mn [z0, z1, z2, z3, z4, z5, z6, z7, z8, z9])).2 (a * 5 + b)) (madeN 5 ly - b).toNat ++ pairA (madeN 5 ly) (fun a b => !ix false (foldB (madeN 5 ly) (madeF 5 8 ly mn [z0, z1, z2, z3, z4, z5, z6, z7, z8, z9])).2 (a * 5 + b)) (madeN 5 ly - (a + 1)).toNat = pairA (madeN 5 ly) (fun a b => !ix false (foldB (madeN 5 ly) (madeF 5 8 ly mn [z0, z1, z2, z3, z4, z5, z6, z7, z8, z9])).2 (a * 5 + b)) (madeN 5 ly).toNat ∧ (out2.length : Int) ≤ 10 * a + (b - a)) (fun x : Int × Value × (List (Int × Int)) => match x with | (b, yv, out2) => (madeN 5 ly - b).toNat) (a + 1, xv, out) ⟨rfl, rfl, trivial⟩ ⟨hS, (by first | omega | simp), (by first | omega | simp), (by rw [← h2, show (madeN 5 ly - a).toNat = (madeN 5 ly - (a + 1)).toNat + 1 by omega, pairA, show madeN 5 ly - (((madeN 5 ly - (a + 1)).toNat : Nat) + 1 : Int) = a by omega, List.append_assoc]), (by omega)⟩ ?_
      rintro ⟨b, yv, out2⟩ u_52 w_51 ⟨hS, g0, g1, g2, g3⟩
      refine W.seq ?_
      refine W.seq ?_
      refine W.reg ?_
      refine Wx.rd (v := .int .i64 b) (rd_move rfl) rfl ?_
      refine Wx.rd (v := .int .i64 (madeN 5 ly)) (rd_move rfl) rfl ?_
      refine Wx.rd (v := .bool (decide (b < (madeN 5 ly)))) (rd_lss rfl rfl) rfl ?_
      refine Wx.nil ?_
      refine W.condD rfl (fun c2 => ?_) (fun c2 => ?_)
      · -- yes
        refine W.skip ?_
        refine W.seq ?_
        refine W.block ?_
        refine W.seq ?_
        refine W.seq ?_
        refine W.reg ?_
        refine Wx.rd (v := .int .i64 a) (rd_move rfl) rfl ?_
        refine Wx.rd (v := .int .i64 b) (rd_move rfl) rfl ?_
        refine Wx.rd (v := .pointer (some ⟨g_18, 0 + a.toNat * 5, none⟩)) (rd_indexArr rfl rfl Try.underlying74 Try.sizeOf73 (by omega) (by omega)) rfl ?_
        refine Wx.rd (v := .pointer (some ⟨g_18, 0 + a.toNat * 5 + b.toNat * 1, none⟩)) (rd_indexArr rfl rfl Try.underlying73 Try.sizeOf4 (by omega) (by omega)) rfl ?_
        refine Wx.rd (v := .bool (ix false ((foldB (madeN 5 ly) (madeF 5 8 ly mn [z0, z1, z2, z3, z4, z5, z6, z7, z8, z9])).2) (a * 5 + b))) (rd_loadXa (d := false) (f := Value.bool) (j := a * 5 + b) hS 5 rfl rfl (by omega) (by omega) (by omega) Try.isAgg4) rfl ?_
        refine Wx.rd (v := .bool (!(ix false ((foldB (madeN 5 ly) (madeF 5 8 ly mn [z0, z1, z2, z3, z4, z5, z6, z7, z8, z9])).2) (a * 5 + b)))) (rd_not rfl) rfl ?_
        refine Wx.nil ?_
        refine W.cutK [9, 56, 57, 58, 59, 60, 61] (fun x : Value × (List (Int × Int)) => match x with | (zv, out3) => [(9, zv)]) (fun (x : Value × (List (Int × Int))) w' => match x with | (zv, out3) => St w [] w' [.row (tP (tI .i64) (tI .i64)) 61 zv out3, .row (tP (tI .i64) (tI .i64)) 61 v_33 (besideL (madeN 5 ly) (madeF 5 8 ly mn [z0, z1, z2, z3, z4, z5, z6, z7, z8, z9])), Ob.v (tSl (tSl (tI .i64))) (madeF 5 8 ly mn [z0, z1, z2, z3, z4, z5, z6, z7, z8, z9]) v_8, .box g_12 24 [.int .i64 (madeN 5 ly), v_8], .box g_22 3 [.int .i64 ((foldB (madeN 5 ly) (madeF 5 8 ly mn [z0, z1, z2, z3, z4, z5, z6, z7, z8, z9])).1)], .box g_18 74 (List.map Value.bool ((foldB (madeN 5 ly) (madeF 5 8 ly mn [z0, z1, z2, z3, z4, z5, z6, z7, z8, z9])).2)), .box g_1 64 [.int .u8 ly, .int .u8 mn, .int .u8 z0, .int .u8 z1, .int .u8 z2, .int .u8 z3, .int .u8 z4, .int .u8 z5, .int .u8 z6, .int .u8 z7, .int .u8 z8, .int .u8 z9]] ∧ out3 = if (!ix false (foldB (madeN 5 ly) (madeF 5 8 ly mn [z0, z1, z2, z3, z4, z5, z6, z7, z8, z9])).2 (a * 5 + b)) = true then out2 ++ [(a, b)] else out2) ?_ ?_
        · -- up to the cut
          refine W.cond rfl (fun c3 => ?_) (fun c3 => ?_)
          · -- yes
            try simp only [Bool.and_eq_true, Bool.or_eq_true, Bool.not_eq_true', Bool.and_eq_false_iff, Bool.or_eq_false_iff, Bool.not_eq_false', decide_eq_true_eq, decide_eq_false_iff_not, not_or, Bool.false_eq_true, Bool.true_eq_false, false_or, or_false, not_false_eq_true] at c3
            refine W.reg ?_
            refine Wx.rd (v := yv) (rd_move rfl) rfl ?_
            refine Wx.rd (v := .int .i64 a) (rd_move rfl) rfl ?_
            refine Wx.rd (v := .int .i64 b) (rd_move rfl) rfl ?_
            refine Wx.rd (v := .agg #[.int .i64 a, .int .i64 b]) (rd_build (vs := [(0, .int .i64 a), (1, .int .i64 b)]) rfl (by kernel_rfl)) rfl ?_
            refine Wx.lit (t := (tP (tI .i64) (tI .i64))) (ys := [(a, b)]) (vs := [.agg #[.int .i64 a, .int .i64 b]]) elGk_36 hS rfl rfl ⟨(V.mk2 (in_i64 (by omega) (by omega)) (in_i64 (by omega) (by omega))), trivial⟩ (by decide) rfl (fun v_53 w_54 hx_55 hS => ?_)
            refine Wx.append elGk_36 hS 1 rfl rfl rfl (Src.ofR hS 0 rfl) (by simp only [maxLen]; simp; omega) (by simp; omega) rfl (fun v_56 w_57 hz_58 hS => ?_)
            refine Wx.rd (v := v_56) (rd_assign rfl) rfl ?_
            refine Wx.nil ?_
            refine ⟨(v_56, out2 ++ [(a, b)]), ?_, ?_, Out.look rfl Out.refl⟩
            · exact ⟨hS.tl, ((if_pos (by rw [c3]; rfl)).symm)⟩
            · exact ⟨rfl, trivial⟩
          · -- no
            try simp only [Bool.and_eq_true, Bool.or_eq_true, Bool.not_eq_true', Bool.and_eq_false_iff, Bool.or_eq_false_iff, Bool.not_eq_false', decide_eq_true_eq, decide_eq_false_iff_not, not_or, Bool.false_eq_true, Bool.true_eq_false, false_or, or_false, not_false_eq_true] at c3
            refine W.skip ?_
            refine ⟨(yv, out2), ?_, ?_, Out.look rfl Out.refl⟩
            · exact ⟨hS, ((if_neg (by rw [c3]; decide)).symm)⟩
            · exact ⟨rfl, trivial⟩
        rintro ⟨zv, out3⟩ u_60 w_59 ⟨hS, j1⟩
        have hl3 : (out3.length : Int) ≤ out2.length + 1 := by rw [j1]; split; rw [List.length_append]; exact Int.le_refl _; omega
        refine W.seq ?_
        refine W.reg ?_
        refine Wx.rd (v := .int .i64 (madeN 5 ly)) (rd_move rfl) rfl ?_
        refine Wx.rd (v := .pointer (some ⟨g_12, 1, none⟩)) (rd_fieldAddr rfl foGk_24_1) rfl ?_
        refine Wx.rd (v := v_8) (rd_loadX hS 3 rfl rfl rfl Try.isAgg22) rfl ?_
        refine Wx.callF (run_callF Try.call52 rfl) (F52 (hS.v 2 rfl) (by omega) hS.fb_lt) rfl ?_
        rintro r_61 w_62 hx_63 ⟨_, rfl, hv_64⟩
        have hS := hS.pushFrO hx_63 hv_64
        refine Wx.rd (v := .int .i64 a) (rd_move rfl) rfl ?_
        refine Wx.rd (v := .int .i64 b) (rd_move rfl) rfl ?_
        refine Wx.lit (t := (tI .i64)) (ys := [a, b]) (vs := [.int .i64 a, .int .i64 b]) elGk_28 hS rfl rfl ⟨(V.mkInt (in_i64 (by omega) (by omega))), ⟨(V.mkInt (in_i64 (by omega) (by omega))), trivial⟩⟩ (by decide) rfl (fun v_66 w_67 hx_68 hS => ?_)
        have hS := hS.freeze 0 rfl
        refine Wx.callF (run_callF Try.call39 rfl) (F39 (hS.v 0 rfl) hS.fb_lt) rfl ?_
        rintro r_70 w_71 hx_72 ⟨_, rfl, hv_73⟩
        have ln_75 := hv_73.len63
        have hS := hS.ext hx_72
        have hS := hS.add hv_73
        refine Wx.lit (t := (tSl (tI .i64))) (ys := [[a, b]]) (vs := [r_70]) elGk_22 hS rfl rfl ⟨(hS.v 0 rfl), trivial⟩ (by decide) rfl (fun v_76 w_77 hx_78 hS => ?_)
        refine Wx.append elGk_22 hS 3 rfl rfl rfl (Src.ofR hS 0 rfl) (by simp only [maxLen]; simp; omega) (by simp; omega) rfl (fun v_79 w_80 hz_81 hS => ?_)
        refine Wx.rd (v := .agg #[.int .i64 (madeN 5 ly), v_79]) (rd_buildC (vs := [(0, .int .i64 (madeN 5 ly)), (1, v_79)]) (us := [(0, .agg #[.int .i64 (madeN 5 ly)]), (1, .agg #[v_79])]) rfl (parts_cons rfl (parts_cons (cells_one (hS.rowOne 3 rfl)) parts_nil)) (by kernel_rfl)) rfl ?_
        refine Wx.alloc (cs := [.int .i64 0, (.slice none 0 0)]) hS Try.zeroValue24 rfl rfl (fun g_82 w_83 hx_85 hb_84 hS => ?_)
        refine Wx.storeX (cs' := [.int .i64 (madeN 5 ly), v_79]) (ds := [.int .i64 (madeN 5 ly), v_79]) hS 0 rfl rfl rfl rfl Try.sizeOf24 (Nat.le_of_ble_eq_true rfl) (one_cons rfl (one_cons (hS.rowOne 4 rfl) one_nil)) rfl (fun w_86 hz_87 hS => ?_)
        refine Wx.nil ?_
        refine W.seq ?_
        refine W.reg ?_
        refine Wx.rd (v := .agg #[.int .i64 (madeN 5 ly), v_79]) (rd_loadXs (ds := [.int .i64 (madeN 5 ly), v_79]) hS 0 rfl rfl rfl rfl Try.isAgg24 Try.sizeOf24) rfl ?_
        refine Wx.callF (run_callF Try.call18 rfl) (F18 (in_i64 (by omega) (by omega)) (hS.lend 4 rfl)) rfl ?_
        rintro r_88 w_89 hx_90 rfl
        have hS := hS.ext hx_90
        refine Wx.rd (v := .tuple #[.int .i64 (countE (madeN 5 ly) ((madeF 5 8 ly mn [z0, z1, z2, z3, z4, z5, z6, z7, z8, z9]) ++ [[a, b]])), .int .i64 (checkE (madeN 5 ly) ((madeF 5 8 ly mn [z0, z1, z2, z3, z4, z5, z6, z7, z8, z9]) ++ [[a, b]]))]) (rd_move rfl) rfl ?_
        refine Wx.rd (v := .int .i64 (countE (madeN 5 ly) ((madeF 5 8 ly mn [z0, z1, z2, z3, z4, z5, z6, z7, z8, z9]) ++ [[a, b]]))) (rd_extract rfl rfl) rfl ?_
        refine Wx.rd (v := .int .i64 (checkE (madeN 5 ly) ((madeF 5 8 ly mn [z0, z1, z2, z3, z4, z5, z6, z7, z8, z9]) ++ [[a, b]]))) (rd_extract rfl rfl) rfl ?_
        refine Wx.rd (v := .int .i64 (countE (madeN 5 ly) ((madeF 5 8 ly mn [z0, z1, z2, z3, z4, z5, z6, z7, z8, z9]) ++ [[a, b]]))) (rd_assign rfl) rfl ?_
        refine Wx.rd (v := .int .i64 (checkE (madeN 5 ly) ((madeF 5 8 ly mn [z0, z1, z2, z3, z4, z5, z6, z7, z8, z9]) ++ [[a, b]]))) (rd_assign rfl) rfl ?_
        refine Wx.nil ?_
        refine W.seq ?_
        refine W.regQ mixedGk_ (by kernel_rfl) ?_
        refine Wx.rd (v := .int .i64 (checkE (madeN 5 ly) ((madeF 5 8 ly mn [z0, z1, z2, z3, z4, z5, z6, z7, z8, z9]) ++ [[a, b]]))) (rd_move rfl) rfl ?_
        refine Wx.rd (v := .bool (decide ((checkE (madeN 5 ly) ((madeF 5 8 ly mn [z0, z1, z2, z3, z4, z5, z6, z7, z8, z9]) ++ [[a, b]])) ≠ 0))) (rd_neq rfl rfl) rfl ?_
        refine Wx.rd (v := .bool (decide ((checkE (madeN 5 ly) ((madeF 5 8 ly mn [z0, z1, z2, z3, z4, z5, z6, z7, z8, z9]) ++ [[a, b]])) ≠ 0))) (rd_move rfl) rfl ?_
        refine Wx.cutQ (X := Unit) 11 [81, 82, 83, 84, 85, 86, 87, 88, 89, 90, 91] (fun _ => [(91, .bool (decide ((checkE (madeN 5 ly) ((madeF 5 8 ly mn [z0, z1, z2, z3, z4, z5, z6, z7, z8, z9]) ++ [[a, b]])) ≠ 0) || !((decide ((countE (madeN 5 ly) ((madeF 5 8 ly mn [z0, z1, z2, z3, z4, z5, z6, z7, z8, z9]) ++ [[a, b]])) = ((foldB (madeN 5 ly) (madeF 5 8 ly mn [z0, z1, z2, z3, z4, z5, z6, z7, z8, z9])).1))) == (!(ix false ((foldB (madeN 5 ly) (madeF 5 8 ly mn [z0, z1, z2, z3, z4, z5, z6, z7, z8, z9])).2) (a * 5 + b))))))]) (fun _ => True) ?_ ?_
        · rcases Bool.eq_false_or_eq_true (decide ((checkE (madeN 5 ly) ((madeF 5 8 ly mn [z0, z1, z2, z3, z4, z5, z6, z7, z8, z9]) ++ [[a, b]])) ≠ 0)) with g_91 | g_91
          · -- True
            have gp_92 := of_decide_eq_true g_91
            refine Wx.gnoB rfl rfl (congrArg Value.bool g_91) rfl rfl ?_
            refine Wx.gnoB rfl rfl (congrArg Value.bool g_91) rfl rfl ?_
            refine Wx.gnoB rfl rfl (congrArg Value.bool g_91) rfl rfl ?_
            refine Wx.gnoB rfl rfl (congrArg Value.bool g_91) rfl rfl ?_
            refine Wx.gnoB rfl rfl (congrArg Value.bool g_91) rfl rfl ?_
            refine Wx.gnoB rfl rfl (congrArg Value.bool g_91) rfl rfl ?_
            refine Wx.gnoB rfl rfl (congrArg Value.bool g_91) rfl rfl ?_
            refine Wx.gnoB rfl rfl (congrArg Value.bool g_91) rfl rfl ?_
            refine Wx.gnoB rfl rfl (congrArg Value.bool g_91) rfl rfl ?_
            refine Wx.gnoB rfl rfl (congrArg Value.bool g_91) rfl rfl ?_
            refine Wx.rd (v := .bool true) (rd_pickT (congrArg Value.bool g_91) rfl) rfl ?_
            refine Wx.nilQ (fun _ _ => ⟨(), trivial, ⟨?_, trivial⟩, Out.look rfl Out.refl⟩)
            show Value.bool true = Value.bool (decide ((checkE (madeN 5 ly) ((madeF 5 8 ly mn [z0, z1, z2, z3, z4, z5, z6, z7, z8, z9]) ++ [[a, b]])) ≠ 0) || !((decide ((countE (madeN 5 ly) ((madeF 5 8 ly mn [z0, z1, z2, z3, z4, z5, z6, z7, z8, z9]) ++ [[a, b]])) = ((foldB (madeN 5 ly) (madeF 5 8 ly mn [z0, z1, z2, z3, z4, z5, z6, z7, z8, z9])).1))) == (!(ix false ((foldB (madeN 5 ly) (madeF 5 8 ly mn [z0, z1, z2, z3, z4, z5, z6, z7, z8, z9])).2) (a * 5 + b)))))
            rw [g_91]; rfl
          · -- False
            have gp_93 := of_decide_eq_false g_91
            refine Wx.gyes rfl rfl (congrArg Value.bool g_91) ?_
            refine Wx.rd (v := .int .i64 (countE (madeN 5 ly) ((madeF 5 8 ly mn [z0, z1, z2, z3, z4, z5, z6, z7, z8, z9]) ++ [[a, b]]))) (rd_move rfl) rfl ?_
            refine Wx.gyes rfl rfl (congrArg Value.bool g_91) ?_
            refine Wx.rd (v := .int .i64 ((foldB (madeN 5 ly) (madeF 5 8 ly mn [z0, z1, z2, z3, z4, z5, z6, z7, z8, z9])).1)) (rd_loadX hS 9 rfl rfl rfl Try.isAgg3) rfl ?_
            refine Wx.gyes rfl rfl (congrArg Value.bool g_91) ?_
            refine Wx.rd (v := .bool (decide ((countE (madeN 5 ly) ((madeF 5 8 ly mn [z0, z1, z2, z3, z4, z5, z6, z7, z8, z9]) ++ [[a, b]])) = ((foldB (madeN 5 ly) (madeF 5 8 ly mn [z0, z1, z2, z3, z4, z5, z6, z7, z8, z9])).1)))) (rd_eql rfl rfl) rfl ?_
            refine Wx.gyes rfl rfl (congrArg Value.bool g_91) ?_
            refine Wx.rd (v := .int .i64 a) (rd_move rfl) rfl ?_
            refine Wx.gyes rfl rfl (congrArg Value.bool g_91) ?_
            refine Wx.rd (v := .int .i64 b) (rd_move rfl) rfl ?_
            refine Wx.gyes rfl rfl (congrArg Value.bool g_91) ?_
            refine Wx.rd (v := .pointer (some ⟨g_18, 0 + a.toNat * 5, none⟩)) (rd_indexArr rfl rfl Try.underlying74 Try.sizeOf73 (by omega) (by omega)) rfl ?_
            refine Wx.gyes rfl rfl (congrArg Value.bool g_91) ?_
            refine Wx.rd (v := .pointer (some ⟨g_18, 0 + a.toNat * 5 + b.toNat * 1, none⟩)) (rd_indexArr rfl rfl Try.underlying73 Try.sizeOf4 (by omega) (by omega)) rfl ?_
            refine Wx.gyes rfl rfl (congrArg Value.bool g_91) ?_
            refine Wx.rd (v := .bool (ix false ((foldB (madeN 5 ly) (madeF 5 8 ly mn [z0, z1, z2, z3, z4, z5, z6, z7, z8, z9])).2) (a * 5 + b))) (rd_loadXa (d := false) (f := Value.bool) (j := a * 5 + b) hS 10 rfl rfl (by omega) (by omega) (by omega) Try.isAgg4) rfl ?_
            refine Wx.gyes rfl rfl (congrArg Value.bool g_91) ?_
            refine Wx.rd (v := .bool (!(ix false ((foldB (madeN 5 ly) (madeF 5 8 ly mn [z0, z1, z2, z3, z4, z5, z6, z7, z8, z9])).2) (a * 5 + b)))) (rd_not rfl) rfl ?_
            refine Wx.gyes rfl rfl (congrArg Value.bool g_91) ?_
            refine Wx.rd (v := .bool (!((decide ((countE (madeN 5 ly) ((madeF 5 8 ly mn [z0, z1, z2, z3, z4, z5, z6, z7, z8, z9]) ++ [[a, b]])) = ((foldB (madeN 5 ly) (madeF 5 8 ly mn [z0, z1, z2, z3, z4, z5, z6, z7, z8, z9])).1))) == (!(ix false ((foldB (madeN 5 ly) (madeF 5 8 ly mn [z0, z1, z2, z3, z4, z5, z6, z7, z8, z9])).2) (a * 5 + b)))))) (rd_neqB rfl rfl Try.underlying4) rfl ?_
            refine Wx.rd (v := .bool (!((decide ((countE (madeN 5 ly) ((madeF 5 8 ly mn [z0, z1, z2, z3, z4, z5, z6, z7, z8, z9]) ++ [[a, b]])) = ((foldB (madeN 5 ly) (madeF 5 8 ly mn [z0, z1, z2, z3, z4, z5, z6, z7, z8, z9])).1))) == (!(ix false ((foldB (madeN 5 ly) (madeF 5 8 ly mn [z0, z1, z2, z3, z4, z5, z6, z7, z8, z9])).2) (a * 5 + b)))))) (rd_pickF (congrArg Value.bool g_91) rfl) rfl ?_
            refine Wx.nilQ (fun _ _ => ⟨(), trivial, ⟨?_, trivial⟩, Out.look rfl Out.refl⟩)
            show Value.bool (!((decide ((countE (madeN 5 ly) ((madeF 5 8 ly mn [z0, z1, z2, z3, z4, z5, z6, z7, z8, z9]) ++ [[a, b]])) = ((foldB (madeN 5 ly) (madeF 5 8 ly mn [z0, z1, z2, z3, z4, z5, z6, z7, z8, z9])).1))) == (!(ix false ((foldB (madeN 5 ly) (madeF 5 8 ly mn [z0, z1, z2, z3, z4, z5, z6, z7, z8, z9])).2) (a * 5 + b))))) = Value.bool (decide ((checkE (madeN 5 ly) ((madeF 5 8 ly mn [z0, z1, z2, z3, z4, z5, z6, z7, z8, z9]) ++ [[a, b]])) ≠ 0) || !((decide ((countE (madeN 5 ly) ((madeF 5 8 ly mn [z0, z1, z2, z3, z4, z5, z6, z7, z8, z9]) ++ [[a, b]])) = ((foldB (madeN 5 ly) (madeF 5 8 ly mn [z0, z1, z2, z3, z4, z5, z6, z7, z8, z9])).1))) == (!(ix false ((foldB (madeN 5 ly) (madeF 5 8 ly mn [z0, z1, z2, z3, z4, z5, z6, z7, z8, z9])).2) (a * 5 + b)))))
            rw [g_91]; rfl
        rintro ⟨⟩ u_95 -
        refine Wx.rd (v := .bool (decide ((checkE (madeN 5 ly) ((madeF 5 8 ly mn [z0, z1, z2, z3, z4, z5, z6, z7, z8, z9]) ++ [[a, b]])) ≠ 0) || !((decide ((countE (madeN 5 ly) ((madeF 5 8 ly mn [z0, z1, z2, z3, z4, z5, z6, z7, z8, z9]) ++ [[a, b]])) = ((foldB (madeN 5 ly) (madeF 5 8 ly mn [z0, z1, z2, z3, z4, z5, z6, z7, z8, z9])).1))) == (!(ix false ((foldB (madeN 5 ly) (madeF 5 8 ly mn [z0, z1, z2, z3, z4, z5, z6, z7, z8, z9])).2) (a * 5 + b)))))) (rd_move rfl) rfl ?_
        refine Wx.cutQ (X := Unit) 4 [93, 94, 95, 96] (fun _ => [(96, .bool ((decide ((checkE (madeN 5 ly) ((madeF 5 8 ly mn [z0, z1, z2, z3, z4, z5, z6, z7, z8, z9]) ++ [[a, b]])) ≠ 0) || !((decide ((countE (madeN 5 ly) ((madeF 5 8 ly mn [z0, z1, z2, z3, z4, z5, z6, z7, z8, z9]) ++ [[a, b]])) = ((foldB (madeN 5 ly) (madeF 5 8 ly mn [z0, z1, z2, z3, z4, z5, z6, z7, z8, z9])).1))) == (!(ix false ((foldB (madeN 5 ly) (madeF 5 8 ly mn [z0, z1, z2, z3, z4, z5, z6, z7, z8, z9])).2) (a * 5 + b))))) || decide (((foldB (madeN 5 ly) (madeF 5 8 ly mn [z0, z1, z2, z3, z4, z5, z6, z7, z8, z9])).1) < (countE (madeN 5 ly) ((madeF 5 8 ly mn [z0, z1, z2, z3, z4, z5, z6, z7, z8, z9]) ++ [[a, b]])))))]) (fun _ => True) ?_ ?_
        · rcases Bool.eq_false_or_eq_true (decide ((checkE (madeN 5 ly) ((madeF 5 8 ly mn [z0, z1, z2, z3, z4, z5, z6, z7, z8, z9]) ++ [[a, b]])) ≠ 0) || !((decide ((countE (madeN 5 ly) ((madeF 5 8 ly mn [z0, z1, z2, z3, z4, z5, z6, z7, z8, z9]) ++ [[a, b]])) = ((foldB (madeN 5 ly) (madeF 5 8 ly mn [z0, z1, z2, z3, z4, z5, z6, z7, z8, z9])).1))) == (!(ix false ((foldB (madeN 5 ly) (madeF 5 8 ly mn [z0, z1, z2, z3, z4, z5, z6, z7, z8, z9])).2) (a * 5 + b))))) with g_96 | g_96
          · -- True
            have gp_97 := g_96
            try simp only [Bool.and_eq_true, Bool.or_eq_true, Bool.not_eq_true', Bool.and_eq_false_iff, Bool.or_eq_false_iff, Bool.not_eq_false', decide_eq_true_eq, decide_eq_false_iff_not, not_or, Bool.false_eq_true, Bool.true_eq_false, false_or, or_false, not_false_eq_true] at gp_97
            refine Wx.gnoB rfl rfl (congrArg Value.bool g_96) rfl rfl ?_
            refine Wx.gnoB rfl rfl (congrArg Value.bool g_96) rfl rfl ?_
            refine Wx.gnoB rfl rfl (congrArg Value.bool g_96) rfl rfl ?_
            refine Wx.rd (v := .bool true) (rd_pickT (congrArg Value.bool g_96) rfl) rfl ?_
            refine Wx.nilQ (fun _ _ => ⟨(), trivial, ⟨?_, trivial⟩, Out.look rfl Out.refl⟩)
            show Value.bool true = Value.bool ((decide ((checkE (madeN 5 ly) ((madeF 5 8 ly mn [z0, z1, z2, z3, z4, z5, z6, z7, z8, z9]) ++ [[a, b]])) ≠ 0) || !((decide ((countE (madeN 5 ly) ((madeF 5 8 ly mn [z0, z1, z2, z3, z4, z5, z6, z7, z8, z9]) ++ [[a, b]])) = ((foldB (madeN 5 ly) (madeF 5 8 ly mn [z0, z1, z2, z3, z4, z5, z6, z7, z8, z9])).1))) == (!(ix false ((foldB (madeN 5 ly) (madeF 5 8 ly mn [z0, z1, z2, z3, z4, z5, z6, z7, z8, z9])).2) (a * 5 + b))))) || decide (((foldB (madeN 5 ly) (madeF 5 8 ly mn [z0, z1, z2, z3, z4, z5, z6, z7, z8, z9])).1) < (countE (madeN 5 ly) ((madeF 5 8 ly mn [z0, z1, z2, z3, z4, z5, z6, z7, z8, z9]) ++ [[a, b]]))))
            rw [g_96]; rfl
          · -- False
            have gp_98 := g_96
            try simp only [Bool.and_eq_true, Bool.or_eq_true, Bool.not_eq_true', Bool.and_eq_false_iff, Bool.or_eq_false_iff, Bool.not_eq_false', decide_eq_true_eq, decide_eq_false_iff_not, not_or, Bool.false_eq_true, Bool.true_eq_false, false_or, or_false, not_false_eq_true] at gp_98
            refine Wx.gyes rfl rfl (congrArg Value.bool g_96) ?_
            refine Wx.rd (v := .int .i64 (countE (madeN 5 ly) ((madeF 5 8 ly mn [z0, z1, z2, z3, z4, z5, z6, z7, z8, z9]) ++ [[a, b]]))) (rd_move rfl) rfl ?_
            refine Wx.gyes rfl rfl (congrArg Value.bool g_96) ?_
            refine Wx.rd (v := .int .i64 ((foldB (madeN 5 ly) (madeF 5 8 ly mn [z0, z1, z2, z3, z4, z5, z6, z7, z8, z9])).1)) (rd_loadX hS 9 rfl rfl rfl Try.isAgg3) rfl ?_
            refine Wx.gyes rfl rfl (congrArg Value.bool g_96) ?_
            refine Wx.rd (v := .bool (decide (((foldB (madeN 5 ly) (madeF 5 8 ly mn [z0, z1, z2, z3, z4, z5, z6, z7, z8, z9])).1) < (countE (madeN 5 ly) ((madeF 5 8 ly mn [z0, z1, z2, z3, z4, z5, z6, z7, z8, z9]) ++ [[a, b]]))))) (rd_gtr rfl rfl) rfl ?_
            refine Wx.rd (v := .bool (decide (((foldB (madeN 5 ly) (madeF 5 8 ly mn [z0, z1, z2, z3, z4, z5, z6, z7, z8, z9])).1) < (countE (madeN 5 ly) ((madeF 5 8 ly mn [z0, z1, z2, z3, z4, z5, z6, z7, z8, z9]) ++ [[a, b]]))))) (rd_pickF (congrArg Value.bool g_96) rfl) rfl ?_
            refine Wx.nilQ (fun _ _ => ⟨(), trivial, ⟨?_, trivial⟩, Out.look rfl Out.refl⟩)
            show Value.bool (decide (((foldB (madeN 5 ly) (madeF 5 8 ly mn [z0, z1, z2, z3, z4, z5, z6, z7, z8, z9])).1) < (countE (madeN 5 ly) ((madeF 5 8 ly mn [z0, z1, z2, z3, z4, z5, z6, z7, z8, z9]) ++ [[a, b]])))) = Value.bool ((decide ((checkE (madeN 5 ly) ((madeF 5 8 ly mn [z0, z1, z2, z3, z4, z5, z6, z7, z8, z9]) ++ [[a, b]])) ≠ 0) || !((decide ((countE (madeN 5 ly) ((madeF 5 8 ly mn [z0, z1, z2, z3, z4, z5, z6, z7, z8, z9]) ++ [[a, b]])) = ((foldB (madeN 5 ly) (madeF 5 8 ly mn [z0, z1, z2, z3, z4, z5, z6, z7, z8, z9])).1))) == (!(ix false ((foldB (madeN 5 ly) (madeF 5 8 ly mn [z0, z1, z2, z3, z4, z5, z6, z7, z8, z9])).2) (a * 5 + b))))) || decide (((foldB (madeN 5 ly) (madeF 5 8 ly mn [z0, z1, z2, z3, z4, z5, z6, z7, z8, z9])).1) < (countE (madeN 5 ly) ((madeF 5 8 ly mn [z0, z1, z2, z3, z4, z5, z6, z7, z8, z9]) ++ [[a, b]]))))
            rw [g_96]; rfl
        rintro ⟨⟩ u_100 -
        refine Wx.nilQ (fun w_101 hx_102 => ?_)
        have hS := hS.ext hx_102
        refine W.condF rfl (bes_false (hq a b h0 (by omega) (by omega)).1 (hq a b h0 (by omega) (by omega)).2.1 (hq a b h0 (by omega) (by omega)).2.2) ?_
        refine W.skip ?_
        refine W.reg ?_
        refine Wx.rd (v := .int .i64 b) (rd_move rfl) rfl ?_
        refine Wx.rd (v := .int .i64 (b + 1)) (rd_add rfl rfl (in_i64 (by omega) (by omega))) rfl ?_
        refine Wx.rd (v := .int .i64 (b + 1)) (rd_assign rfl) rfl ?_
        refine Wx.nil ?_
        refine ⟨(b + 1, zv, out3), (by show (madeN 5 ly - (b + 1)).toNat < (madeN 5 ly - b).toNat; omega), ?_, ?_, Out.look rfl (Out.hav rfl (Out.look rfl (Out.hav rfl (Out.look rfl (Out.hav rfl (Out.look rfl Out.self))))))⟩
        · exact ⟨St.tl (St.tl (St.tl (St.tl (hS.tl)))), (by first | omega | assumption), (by first | omega | assumption), (by rw [← g2, show (madeN 5 ly - b).toNat = (madeN 5 ly - (b + 1)).toNat + 1 by omega, pairB, show madeN 5 ly - (((madeN 5 ly - (b + 1)).toNat : Nat) + 1 : Int) = b by omega, j1]; split <;> simp), (by omega)⟩
        · exact ⟨rfl, rfl, trivial⟩
      · -- no
        refine W.exit rfl ?_
        refine W.reg ?_
        refine Wx.rd (v := .int .i64 (a + 1)) (rd_add rfl rfl (in_i64 (by omega) (by omega))) rfl ?_
        refine Wx.rd (v := .int .i64 (a + 1)) (rd_move rfl) rfl ?_
        refine Wx.nil ?_
        refine ⟨(a + 1, yv, out2), (by show (madeN 5 ly - (a + 1)).toNat < (madeN 5 ly - a).toNat; omega), ?_, ?_, Out.look rfl (Out.hav rfl (Out.look rfl Out.self))⟩
        · exact ⟨hS, (by first | omega | assumption), (by first | omega | assumption), (by rw [← g2, show (madeN 5 ly - b).toNat = 0 by omega, pairB, List.append_nil]), (by omega)⟩
        · exact ⟨rfl, rfl, trivial⟩
    · -- no
      refine W.exit rfl ?_
      refine W.seq ?_
      refine W.reg ?_
      refine Wx.rd (v := .int .i64 (firstE (madeN 5 ly) (madeF 5 8 ly mn [z0, z1, z2, z3, z4, z5, z6, z7, z8, z9]))) (rd_move rfl) rfl ?_
      refine Wx.rd (v := .bool (decide ((firstE (madeN 5 ly) (madeF 5 8 ly mn [z0, z1, z2, z3, z4, z5, z6, z7, z8, z9])) = 0))) (rd_eql rfl rfl) rfl ?_
      refine Wx.rd (v := .bool (decide ((firstE (madeN 5 ly) (madeF 5 8 ly mn [z0, z1, z2, z3, z4, z5, z6, z7, z8, z9])) = 0))) (rd_move rfl) rfl ?_
      refine Wx.cut (X := Unit) 4 [101, 102, 103, 104] (fun _ => [(104, .bool (decide ((firstE (madeN 5 ly) (madeF 5 8 ly mn [z0, z1, z2, z3, z4, z5, z6, z7, z8, z9])) = 0) && decide ((besideL (madeN 5 ly) (madeF 5 8 ly mn [z0, z1, z2, z3, z4, z5, z6, z7, z8, z9])) = out)))]) (fun _ w' => St w [] w' [.row (tP (tI .i64) (tI .i64)) 61 xv out, .row (tP (tI .i64) (tI .i64)) 61 v_33 (besideL (madeN 5 ly) (madeF 5 8 ly mn [z0, z1, z2, z3, z4, z5, z6, z7, z8, z9])), Ob.v (tSl (tSl (tI .i64))) (madeF 5 8 ly mn [z0, z1, z2, z3, z4, z5, z6, z7, z8, z9]) v_8, .box g_12 24 [.int .i64 (madeN 5 ly), v_8], .box g_22 3 [.int .i64 ((foldB (madeN 5 ly) (madeF 5 8 ly mn [z0, z1, z2, z3, z4, z5, z6, z7, z8, z9])).1)], .box g_18 74 (List.map Value.bool ((foldB (madeN 5 ly) (madeF 5 8 ly mn [z0, z1, z2, z3, z4, z5, z6, z7, z8, z9])).2)), .box g_1 64 [.int .u8 ly, .int .u8 mn, .int .u8 z0, .int .u8 z1, .int .u8 z2, .int .u8 z3, .int .u8 z4, .int .u8 z5, .int .u8 z6, .int .u8 z7, .int .u8 z8, .int .u8 z9]]) ?_ ?_
      · rcases Bool.eq_false_or_eq_true (decide ((firstE (madeN 5 ly) (madeF 5 8 ly mn [z0, z1, z2, z3, z4, z5, z6, z7, z8, z9])) = 0)) with g_103 | g_103
        · -- True
          have gp_104 := of_decide_eq_true g_103
          refine Wx.gyes rfl rfl (congrArg Value.bool g_103) ?_
          refine Wx.rd (v := v_33) (rd_move rfl) rfl ?_
          refine Wx.gyes rfl rfl (congrArg Value.bool g_103) ?_
          refine Wx.rd (v := xv) (rd_move rfl) rfl ?_
          refine Wx.gyes rfl rfl (congrArg Value.bool g_103) ?_
          refine Wx.callF (run_callF Try.call23 rfl) (F23 (hS.lend 1 rfl) (hS.lend 0 rfl)) rfl ?_
          rintro r_105 w_106 hx_107 rfl
          have hS := hS.ext hx_107
          refine Wx.rd (v := .bool (decide ((besideL (madeN 5 ly) (madeF 5 8 ly mn [z0, z1, z2, z3, z4, z5, z6, z7, z8, z9])) = out))) (rd_pickT (congrArg Value.bool g_103) rfl) rfl ?_
          refine Wx.nil ⟨(), hS, ⟨?_, trivial⟩, Out.look rfl Out.refl⟩
          show Value.bool (decide ((besideL (madeN 5 ly) (madeF 5 8 ly mn [z0, z1, z2, z3, z4, z5, z6, z7, z8, z9])) = out)) = Value.bool (decide ((firstE (madeN 5 ly) (madeF 5 8 ly mn [z0, z1, z2, z3, z4, z5, z6, z7, z8, z9])) = 0) && decide ((besideL (madeN 5 ly) (madeF 5 8 ly mn [z0, z1, z2, z3, z4, z5, z6, z7, z8, z9])) = out))
          rw [g_103]; rfl
        · -- False
          have gp_108 := of_decide_eq_false g_103
          refine Wx.gnoB rfl rfl (congrArg Value.bool g_103) rfl rfl ?_
          refine Wx.gnoB rfl rfl (congrArg Value.bool g_103) rfl rfl ?_
          refine Wx.gnoB rfl rfl (congrArg Value.bool g_103) rfl rfl ?_
          refine Wx.rd (v := .bool false) (rd_pickF (congrArg Value.bool g_103) rfl) rfl ?_
          refine Wx.nil ⟨(), hS, ⟨?_, trivial⟩, Out.look rfl Out.refl⟩
          show Value.bool false = Value.bool (decide ((firstE (madeN 5 ly) (madeF 5 8 ly mn [z0, z1, z2, z3, z4, z5, z6, z7, z8, z9])) = 0) && decide ((besideL (madeN 5 ly) (madeF 5 8 ly mn [z0, z1, z2, z3, z4, z5, z6, z7, z8, z9])) = out))
          rw [g_103]; rfl
      rintro ⟨⟩ u_110 w_109 hS
      refine Wx.rd (v := .bool (decide ((firstE (madeN 5 ly) (madeF 5 8 ly mn [z0, z1, z2, z3, z4, z5, z6, z7, z8, z9])) = 0) && decide ((besideL (madeN 5 ly) (madeF 5 8 ly mn [z0, z1, z2, z3, z4, z5, z6, z7, z8, z9])) = out))) (rd_move rfl) rfl ?_
      refine Wx.cut (X := Unit) 2 [106, 107] (fun _ => [(107, .bool ((decide ((firstE (madeN 5 ly) (madeF 5 8 ly mn [z0, z1, z2, z3, z4, z5, z6, z7, z8, z9])) = 0) && decide ((besideL (madeN 5 ly) (madeF 5 8 ly mn [z0, z1, z2, z3, z4, z5, z6, z7, z8, z9])) = out)) && true))]) (fun _ w' => St w [] w' [.row (tP (tI .i64) (tI .i64)) 61 xv out, .row (tP (tI .i64) (tI .i64)) 61 v_33 (besideL (madeN 5 ly) (madeF 5 8 ly mn [z0, z1, z2, z3, z4, z5, z6, z7, z8, z9])), Ob.v (tSl (tSl (tI .i64))) (madeF 5 8 ly mn [z0, z1, z2, z3, z4, z5, z6, z7, z8, z9]) v_8, .box g_12 24 [.int .i64 (madeN 5 ly), v_8], .box g_22 3 [.int .i64 ((foldB (madeN 5 ly) (madeF 5 8 ly mn [z0, z1, z2, z3, z4, z5, z6, z7, z8, z9])).1)], .box g_18 74 (List.map Value.bool ((foldB (madeN 5 ly) (madeF 5 8 ly mn [z0, z1, z2, z3, z4, z5, z6, z7, z8, z9])).2)), .box g_1 64 [.int .u8 ly, .int .u8 mn, .int .u8 z0, .int .u8 z1, .int .u8 z2, .int .u8 z3, .int .u8 z4, .int .u8 z5, .int .u8 z6, .int .u8 z7, .int .u8 z8, .int .u8 z9]]) ?_ ?_
      · rcases Bool.eq_false_or_eq_true (decide ((firstE (madeN 5 ly) (madeF 5 8 ly mn [z0, z1, z2, z3, z4, z5, z6, z7, z8, z9])) = 0) && decide ((besideL (madeN 5 ly) (madeF 5 8 ly mn [z0, z1, z2, z3, z4, z5, z6, z7, z8, z9])) = out)) with g_111 | g_111
        · -- True
          have gp_112 := g_111
          try simp only [Bool.and_eq_true, Bool.or_eq_true, Bool.not_eq_true', Bool.and_eq_false_iff, Bool.or_eq_false_iff, Bool.not_eq_false', decide_eq_true_eq, decide_eq_false_iff_not, not_or, Bool.false_eq_true, Bool.true_eq_false, false_or, or_false, not_false_eq_true] at gp_112
          refine Wx.gyes rfl rfl (congrArg Value.bool g_111) ?_
          refine Wx.callF (run_callF Try.call15 rfl) (F15) rfl ?_
          rintro r_113 w_114 hx_115 rfl
          have hS := hS.ext hx_115
          refine Wx.rd (v := .bool true) (rd_pickT (congrArg Value.bool g_111) rfl) rfl ?_
          refine Wx.nil ⟨(), hS, ⟨?_, trivial⟩, Out.look rfl Out.refl⟩
          show Value.bool true = Value.bool ((decide ((firstE (madeN 5 ly) (madeF 5 8 ly mn [z0, z1, z2, z3, z4, z5, z6, z7, z8, z9])) = 0) && decide ((besideL (madeN 5 ly) (madeF 5 8 ly mn [z0, z1, z2, z3, z4, z5, z6, z7, z8, z9])) = out)) && true)
          rw [g_111]; rfl
        · -- False
          have gp_116 := g_111
          try simp only [Bool.and_eq_true, Bool.or_eq_true, Bool.not_eq_true', Bool.and_eq_false_iff, Bool.or_eq_false_iff, Bool.not_eq_false', decide_eq_true_eq, decide_eq_false_iff_not, not_or, Bool.false_eq_true, Bool.true_eq_false, false_or, or_false, not_false_eq_true] at gp_116
          refine Wx.gnoB rfl rfl (congrArg Value.bool g_111) rfl rfl ?_
          refine Wx.rd (v := .bool false) (rd_pickF (congrArg Value.bool g_111) rfl) rfl ?_
          refine Wx.nil ⟨(), hS, ⟨?_, trivial⟩, Out.look rfl Out.refl⟩
          show Value.bool false = Value.bool ((decide ((firstE (madeN 5 ly) (madeF 5 8 ly mn [z0, z1, z2, z3, z4, z5, z6, z7, z8, z9])) = 0) && decide ((besideL (madeN 5 ly) (madeF 5 8 ly mn [z0, z1, z2, z3, z4, z5, z6, z7, z8, z9])) = out)) && true)
          rw [g_111]; rfl
      rintro ⟨⟩ u_118 w_117 hS
      refine Wx.rd (v := .bool ((decide ((firstE (madeN 5 ly) (madeF 5 8 ly mn [z0, z1, z2, z3, z4, z5, z6, z7, z8, z9])) = 0) && decide ((besideL (madeN 5 ly) (madeF 5 8 ly mn [z0, z1, z2, z3, z4, z5, z6, z7, z8, z9])) = out)) && true)) (rd_assign rfl) rfl ?_
      refine Wx.nil ?_
      have e1_0 : ((decide ((firstE (madeN 5 ly) (madeF 5 8 ly mn [z0, z1, z2, z3, z4, z5, z6, z7, z8, z9])) = 0) && decide ((besideL (madeN 5 ly) (madeF 5 8 ly mn [z0, z1, z2, z3, z4, z5, z6, z7, z8, z9])) = out)) && true) = true := by rw [hf0, hbl, ← h2, show (madeN 5 ly - a).toNat = 0 by omega]; simp [pairA]
      exact W.ret ⟨.bool ((decide ((firstE (madeN 5 ly) (madeF 5 8 ly mn [z0, z1, z2, z3, z4, z5, z6, z7, z8, z9])) = 0) && decide ((besideL (madeN 5 ly) (madeF 5 8 ly mn [z0, z1, z2, z3, z4, z5, z6, z7, z8, z9])) = out)) && true), ResIs.one, hS.bel, (by rw [e1_0])⟩
end Go.Proofs.Ytjmpojoimcljoaa
