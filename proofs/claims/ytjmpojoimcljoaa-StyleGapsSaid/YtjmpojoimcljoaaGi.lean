/-
  WHAT IS PROVED HERE: what functions of layer 3 hand back, each out of its own code; the conditions stand in each statement.
-/
import Derived.Test.YtjmpojoimcljoaaProg
import Derived.Test.YtjmpojoimcljoaaWk9
import Derived.Test.YtjmpojoimcljoaaSpec6
import Derived.Test.YtjmpojoimcljoaaFa
import Derived.Test.YtjmpojoimcljoaaFb
import Derived.Test.YtjmpojoimcljoaaFc
import Derived.Test.YtjmpojoimcljoaaFe
import Derived.Test.YtjmpojoimcljoaaFk
import Derived.Test.YtjmpojoimcljoaaGa
import Derived.Test.YtjmpojoimcljoaaGh
import Derived.Test.YtjmpojoimcljoaaWk11
import Derived.Test.YtjmpojoimcljoaaSpec7
namespace Go.Proofs.Ytjmpojoimcljoaa
open Go.Wk Go.RowKit
set_option linter.unusedVariables false
set_option linter.unusedSimpArgs false
theorem foGi_24_0 : fldOff Try.prog 24 0 = some 0 := by kernel_rfl
theorem foGi_24_1 : fldOff Try.prog 24 1 = some 1 := by kernel_rfl
theorem mixedGi_ : Try.prog.follows .mixedOrders = true := by kernel_rfl

theorem F12 {ly : Int} {mn : Int} {z0 : Int} {z1 : Int} {z2 : Int} {z3 : Int} {z4 : Int} {z5 : Int} {z6 : Int} {z7 : Int} {z8 : Int} {z9 : Int} {y0 : Int} {y1 : Int} {y2 : Int} {y3 : Int} {y4 : Int} {y5 : Int} {y6 : Int} {w : World} (i_ly : InK .u8 ly) (i_mn : InK .u8 mn) (i_z0 : InK .u8 z0) (i_z1 : InK .u8 z1) (i_z2 : InK .u8 z2) (i_z3 : InK .u8 z3) (i_z4 : InK .u8 z4) (i_z5 : InK .u8 z5) (i_z6 : InK .u8 z6) (i_z7 : InK .u8 z7) (i_z8 : InK .u8 z8) (i_z9 : InK .u8 z9) (i_y0 : InK .u8 y0) (i_y1 : InK .u8 y1) (i_y2 : InK .u8 y2) (i_y3 : InK .u8 y3) (i_y4 : InK .u8 y4) (i_y5 : InK .u8 y5) (i_y6 : InK .u8 y6) (p_law : gapsP (madeN 7 ly) (madeF 7 10 ly mn [z0, z1, z2, z3, z4, z5, z6, z7, z8, z9]) (ordW (madeN 7 ly) [y0, y1, y2, y3, y4, y5, y6])) : Calls Try.prog 12 #[.agg #[.int .u8 ly, .int .u8 mn, .int .u8 z0, .int .u8 z1, .int .u8 z2, .int .u8 z3, .int .u8 z4, .int .u8 z5, .int .u8 z6, .int .u8 z7, .int .u8 z8, .int .u8 z9], .agg #[.int .u8 y0, .int .u8 y1, .int .u8 y2, .int .u8 y3, .int .u8 y4, .int .u8 y5, .int .u8 y6]] w (Ret w (fun r _ => r = .bool true)) := by
  have b_y6 := bd_u8 i_y6
  have b_y5 := bd_u8 i_y5
  have b_y4 := bd_u8 i_y4
  have b_y3 := bd_u8 i_y3
  have b_y2 := bd_u8 i_y2
  have b_y1 := bd_u8 i_y1
  have b_y0 := bd_u8 i_y0
  have b_z9 := bd_u8 i_z9
  have b_z8 := bd_u8 i_z8
  have b_z7 := bd_u8 i_z7
  have b_z6 := bd_u8 i_z6
  have b_z5 := bd_u8 i_z5
  have b_z4 := bd_u8 i_z4
  have b_z3 := bd_u8 i_z3
  have b_z2 := bd_u8 i_z2
  have b_z1 := bd_u8 i_z1
  have b_z0 := bd_u8 i_z0
  have b_mn := bd_u8 i_mn
  have b_ly := bd_u8 i_ly
  obtain ⟨hc0, hll, hs1, hs2, hg1, hg2, hd1, hd2, hk⟩ := p_law
  have hN := madeN_bd (a := 7) (ly := ly) (by omega)
  have hck := check_ok hc0
  have hS := St.start0 w
  refine enterR Try.func12 rfl Try.ntmps12 Try.results12 rfl ?_
  refine W.seq ?_
  refine W.reg ?_
  refine Wx.box (cs := [.int .u8 ly, .int .u8 mn, .int .u8 z0, .int .u8 z1, .int .u8 z2, .int .u8 z3, .int .u8 z4, .int .u8 z5, .int .u8 z6, .int .u8 z7, .int .u8 z8, .int .u8 z9]) hS rfl rfl rfl (fun g_1 w_2 hx_4 hb_3 hS => ?_)
  refine Wx.box (cs := [.int .u8 y0, .int .u8 y1, .int .u8 y2, .int .u8 y3, .int .u8 y4, .int .u8 y5, .int .u8 y6]) hS rfl rfl rfl (fun g_5 w_6 hx_8 hb_7 hS => ?_)
  refine Wx.rd (v := .bool false) (rd_assign rfl) rfl ?_
  refine Wx.nil ?_
  refine W.seq ?_
  refine W.reg ?_
  refine Wx.rd (v := .agg #[.int .u8 ly, .int .u8 mn, .int .u8 z0, .int .u8 z1, .int .u8 z2, .int .u8 z3, .int .u8 z4, .int .u8 z5, .int .u8 z6, .int .u8 z7, .int .u8 z8, .int .u8 z9]) (rd_loadXs (ds := [.int .u8 ly, .int .u8 mn, .int .u8 z0, .int .u8 z1, .int .u8 z2, .int .u8 z3, .int .u8 z4, .int .u8 z5, .int .u8 z6, .int .u8 z7, .int .u8 z8, .int .u8 z9]) hS 1 rfl rfl rfl rfl Try.isAgg64 Try.sizeOf64) rfl ?_
  refine Wx.callF (run_callF Try.call43 rfl) (F43 (in_u8 (by omega) (by omega)) (in_u8 (by omega) (by omega)) (in_u8 (by omega) (by omega)) (in_u8 (by omega) (by omega)) (in_u8 (by omega) (by omega)) (in_u8 (by omega) (by omega)) (in_u8 (by omega) (by omega)) (in_u8 (by omega) (by omega)) (in_u8 (by omega) (by omega)) (in_u8 (by omega) (by omega)) (in_u8 (by omega) (by omega)) (in_u8 (by omega) (by omega)) (in_i64 (by omega) (by omega)) (in_i64 (by omega) (by omega)) (by omega) (by omega) (by omega) (by omega) hS.fb_lt) rfl ?_
  rintro r_9 w_10 hx_11 ⟨v_12, rfl, hv_13⟩
  have ln_15 := hv_13.len63
  have hS := hS.ext hx_11
  have hS := hS.add hv_13
  refine Wx.alloc (cs := [.int .i64 0, (.slice none 0 0)]) hS Try.zeroValue24 rfl rfl (fun g_16 w_17 hx_19 hb_18 hS => ?_)
  refine Wx.storeX (cs' := [.int .i64 (madeN 7 ly), v_12]) (ds := [.int .i64 (madeN 7 ly), v_12]) hS 0 rfl rfl rfl rfl Try.sizeOf24 (Nat.le_of_ble_eq_true rfl) (one_cons rfl (one_cons (V.oneC (hS.v 1 rfl)) one_nil)) rfl (fun w_20 hz_21 hS => ?_)
  refine Wx.nil ?_
  refine W.seq ?_
  refine W.reg ?_
  refine Wx.rd (v := .pointer (some ⟨g_16, 0, none⟩)) (rd_fieldAddr rfl foGi_24_0) rfl ?_
  refine Wx.rd (v := .int .i64 (madeN 7 ly)) (rd_loadX hS 0 rfl rfl rfl Try.isAgg3) rfl ?_
  refine Wx.rd (v := .int .i64 (madeN 7 ly)) (rd_assign rfl) rfl ?_
  refine Wx.nil ?_
  refine W.seq ?_
  refine W.reg ?_
  refine Wx.rd (v := .int .i64 (madeN 7 ly)) (rd_move rfl) rfl ?_
  refine Wx.rd (v := .agg #[.int .u8 y0, .int .u8 y1, .int .u8 y2, .int .u8 y3, .int .u8 y4, .int .u8 y5, .int .u8 y6]) (rd_loadXs (ds := [.int .u8 y0, .int .u8 y1, .int .u8 y2, .int .u8 y3, .int .u8 y4, .int .u8 y5, .int .u8 y6]) hS 2 rfl rfl rfl rfl Try.isAgg78 Try.sizeOf78) rfl ?_
  refine Wx.callF (run_callF Try.call54 rfl) (F54 (in_i64 (by omega) (by omega)) (in_u8 (by omega) (by omega)) (in_u8 (by omega) (by omega)) (in_u8 (by omega) (by omega)) (in_u8 (by omega) (by omega)) (in_u8 (by omega) (by omega)) (in_u8 (by omega) (by omega)) (in_u8 (by omega) (by omega)) (by omega) (by omega)) rfl ?_
  rintro r_22 w_23 hx_24 ⟨_, rfl, hv_25⟩
  have hS := hS.pushFr hx_24 hv_25
  refine Wx.rd (v := r_22) (rd_assign rfl) rfl ?_
  refine Wx.nil ?_
  refine W.seq ?_
  refine W.reg ?_
  refine Wx.rd (v := r_22) (rd_move rfl) rfl ?_
  refine Wx.callF (run_callF Try.call55 rfl) (F55 (hS.lend 0 rfl) (by omega)) rfl ?_
  rintro r_27 w_28 hx_29 ⟨_, rfl, hv_30⟩
  have hS := hS.pushFr hx_29 hv_30
  refine Wx.rd (v := r_27) (rd_assign rfl) rfl ?_
  refine Wx.nil ?_
  refine W.seq ?_
  refine W.reg ?_
  refine Wx.rd (v := r_27) (rd_move rfl) rfl ?_
  refine Wx.callB (run_callF Try.call56 rfl) (F56 (ob := [.row (tI .i64) 3 r_22 (ordW (madeN 7 ly) [y0, y1, y2, y3, y4, y5, y6]), .box g_16 24 [.int .i64 (madeN 7 ly), v_12], Ob.v (tSl (tSl (tI .i64))) (madeF 7 10 ly mn [z0, z1, z2, z3, z4, z5, z6, z7, z8, z9]) v_12, .box g_5 78 [.int .u8 y0, .int .u8 y1, .int .u8 y2, .int .u8 y3, .int .u8 y4, .int .u8 y5, .int .u8 y6], .box g_1 64 [.int .u8 ly, .int .u8 mn, .int .u8 z0, .int .u8 z1, .int .u8 z2, .int .u8 z3, .int .u8 z4, .int .u8 z5, .int .u8 z6, .int .u8 z7, .int .u8 z8, .int .u8 z9]])  (hS.front 0 rfl)) rfl ?_
  rintro r_32 w_33 ⟨rfl, hS⟩
  have hS : St _ _ w_33 [.row (tI .i64) 3 r_27 (List.reverse (ordW (madeN 7 ly) [y0, y1, y2, y3, y4, y5, y6])), .row (tI .i64) 3 r_22 (ordW (madeN 7 ly) [y0, y1, y2, y3, y4, y5, y6]), .box g_16 24 [.int .i64 (madeN 7 ly), v_12], Ob.v (tSl (tSl (tI .i64))) (madeF 7 10 ly mn [z0, z1, z2, z3, z4, z5, z6, z7, z8, z9]) v_12, .box g_5 78 [.int .u8 y0, .int .u8 y1, .int .u8 y2, .int .u8 y3, .int .u8 y4, .int .u8 y5, .int .u8 y6], .box g_1 64 [.int .u8 ly, .int .u8 mn, .int .u8 z0, .int .u8 z1, .int .u8 z2, .int .u8 z3, .int .u8 z4, .int .u8 z5, .int .u8 z6, .int .u8 z7, .int .u8 z8, .int .u8 z9]] := St.putBack (obs := [.row (tI .i64) 3 r_27 (ordW (madeN 7 ly) [y0, y1, y2, y3, y4, y5, y6]), .row (tI .i64) 3 r_22 (ordW (madeN 7 ly) [y0, y1, y2, y3, y4, y5, y6]), .box g_16 24 [.int .i64 (madeN 7 ly), v_12], Ob.v (tSl (tSl (tI .i64))) (madeF 7 10 ly mn [z0, z1, z2, z3, z4, z5, z6, z7, z8, z9]) v_12, .box g_5 78 [.int .u8 y0, .int .u8 y1, .int .u8 y2, .int .u8 y3, .int .u8 y4, .int .u8 y5, .int .u8 y6], .box g_1 64 [.int .u8 ly, .int .u8 mn, .int .u8 z0, .int .u8 z1, .int .u8 z2, .int .u8 z3, .int .u8 z4, .int .u8 z5, .int .u8 z6, .int .u8 z7, .int .u8 z8, .int .u8 z9]]) 0 hS (by simp)
  refine Wx.nil ?_
  refine W.seq ?_
  refine W.reg ?_
  refine Wx.rd (v := .agg #[.int .i64 (madeN 7 ly), v_12]) (rd_loadXs (ds := [.int .i64 (madeN 7 ly), v_12]) hS 2 rfl rfl rfl rfl Try.isAgg24 Try.sizeOf24) rfl ?_
  refine Wx.rd (v := r_22) (rd_move rfl) rfl ?_
  refine Wx.callF (run_callF Try.call30 rfl) (F30 (in_i64 (by omega) (by omega)) (hS.v 3 rfl) (hS.lend 1 rfl)) rfl ?_
  rintro r_34 w_35 hx_36 rfl
  have hS := hS.ext hx_36
  refine Wx.rd (v := .tuple #[.bool (decide (shownE (madeN 7 ly) (madeF 7 10 ly mn [z0, z1, z2, z3, z4, z5, z6, z7, z8, z9]) (ordW (madeN 7 ly) [y0, y1, y2, y3, y4, y5, y6]) = 0) && decide (gapsE (madeN 7 ly) (madeF 7 10 ly mn [z0, z1, z2, z3, z4, z5, z6, z7, z8, z9]) (ordW (madeN 7 ly) [y0, y1, y2, y3, y4, y5, y6]) = 0)), .int .i64 (shownE (madeN 7 ly) (madeF 7 10 ly mn [z0, z1, z2, z3, z4, z5, z6, z7, z8, z9]) (ordW (madeN 7 ly) [y0, y1, y2, y3, y4, y5, y6]))]) (rd_move rfl) rfl ?_
  refine Wx.rd (v := .bool (decide (shownE (madeN 7 ly) (madeF 7 10 ly mn [z0, z1, z2, z3, z4, z5, z6, z7, z8, z9]) (ordW (madeN 7 ly) [y0, y1, y2, y3, y4, y5, y6]) = 0) && decide (gapsE (madeN 7 ly) (madeF 7 10 ly mn [z0, z1, z2, z3, z4, z5, z6, z7, z8, z9]) (ordW (madeN 7 ly) [y0, y1, y2, y3, y4, y5, y6]) = 0))) (rd_extract rfl rfl) rfl ?_
  refine Wx.rd (v := .int .i64 (shownE (madeN 7 ly) (madeF 7 10 ly mn [z0, z1, z2, z3, z4, z5, z6, z7, z8, z9]) (ordW (madeN 7 ly) [y0, y1, y2, y3, y4, y5, y6]))) (rd_extract rfl rfl) rfl ?_
  refine Wx.rd (v := .bool (decide (shownE (madeN 7 ly) (madeF 7 10 ly mn [z0, z1, z2, z3, z4, z5, z6, z7, z8, z9]) (ordW (madeN 7 ly) [y0, y1, y2, y3, y4, y5, y6]) = 0) && decide (gapsE (madeN 7 ly) (madeF 7 10 ly mn [z0, z1, z2, z3, z4, z5, z6, z7, z8, z9]) (ordW (madeN 7 ly) [y0, y1, y2, y3, y4, y5, y6]) = 0))) (rd_assign rfl) rfl ?_
  refine Wx.rd (v := .int .i64 (shownE (madeN 7 ly) (madeF 7 10 ly mn [z0, z1, z2, z3, z4, z5, z6, z7, z8, z9]) (ordW (madeN 7 ly) [y0, y1, y2, y3, y4, y5, y6]))) (rd_assign rfl) rfl ?_
  refine Wx.nil ?_
  refine W.seq ?_
  refine W.reg ?_
  refine Wx.rd (v := .agg #[.int .i64 (madeN 7 ly), v_12]) (rd_loadXs (ds := [.int .i64 (madeN 7 ly), v_12]) hS 2 rfl rfl rfl rfl Try.isAgg24 Try.sizeOf24) rfl ?_
  refine Wx.rd (v := r_22) (rd_move rfl) rfl ?_
  refine Wx.callF (run_callF Try.call32 rfl) (F32 (in_i64 (by omega) (by omega)) (hS.v 3 rfl) (hS.lend 1 rfl)) rfl ?_
  rintro r_37 w_38 hx_39 rfl
  have hS := hS.ext hx_39
  refine Wx.rd (v := .tuple #[.int .i64 (gapsE (madeN 7 ly) (madeF 7 10 ly mn [z0, z1, z2, z3, z4, z5, z6, z7, z8, z9]) (ordW (madeN 7 ly) [y0, y1, y2, y3, y4, y5, y6])), .int .i64 (shownE (madeN 7 ly) (madeF 7 10 ly mn [z0, z1, z2, z3, z4, z5, z6, z7, z8, z9]) (ordW (madeN 7 ly) [y0, y1, y2, y3, y4, y5, y6]))]) (rd_move rfl) rfl ?_
  refine Wx.rd (v := .int .i64 (gapsE (madeN 7 ly) (madeF 7 10 ly mn [z0, z1, z2, z3, z4, z5, z6, z7, z8, z9]) (ordW (madeN 7 ly) [y0, y1, y2, y3, y4, y5, y6]))) (rd_extract rfl rfl) rfl ?_
  refine Wx.rd (v := .int .i64 (shownE (madeN 7 ly) (madeF 7 10 ly mn [z0, z1, z2, z3, z4, z5, z6, z7, z8, z9]) (ordW (madeN 7 ly) [y0, y1, y2, y3, y4, y5, y6]))) (rd_extract rfl rfl) rfl ?_
  refine Wx.rd (v := .int .i64 (gapsE (madeN 7 ly) (madeF 7 10 ly mn [z0, z1, z2, z3, z4, z5, z6, z7, z8, z9]) (ordW (madeN 7 ly) [y0, y1, y2, y3, y4, y5, y6]))) (rd_assign rfl) rfl ?_
  refine Wx.rd (v := .int .i64 (shownE (madeN 7 ly) (madeF 7 10 ly mn [z0, z1, z2, z3, z4, z5, z6, z7, z8, z9]) (ordW (madeN 7 ly) [y0, y1, y2, y3, y4, y5, y6]))) (rd_assign rfl) rfl ?_
  refine Wx.nil ?_
  refine W.seq ?_
  refine W.reg ?_
  refine Wx.rd (v := .agg #[.int .i64 (madeN 7 ly), v_12]) (rd_loadXs (ds := [.int .i64 (madeN 7 ly), v_12]) hS 2 rfl rfl rfl rfl Try.isAgg24 Try.sizeOf24) rfl ?_
  refine Wx.rd (v := r_22) (rd_move rfl) rfl ?_
  refine Wx.callF (run_callF Try.call34 rfl) (F34 (in_i64 (by omega) (by omega)) (hS.v 3 rfl) (hS.lend 1 rfl)) rfl ?_
  rintro r_40 w_41 hx_42 ⟨v_43, rfl, hv_44⟩
  have hS := hS.pushFr hx_42 hv_44
  refine Wx.rd (v := .tuple #[v_43, .int .i64 (shownE (madeN 7 ly) (madeF 7 10 ly mn [z0, z1, z2, z3, z4, z5, z6, z7, z8, z9]) (ordW (madeN 7 ly) [y0, y1, y2, y3, y4, y5, y6]))]) (rd_move rfl) rfl ?_
  refine Wx.rd (v := v_43) (rd_extract rfl rfl) rfl ?_
  refine Wx.rd (v := .int .i64 (shownE (madeN 7 ly) (madeF 7 10 ly mn [z0, z1, z2, z3, z4, z5, z6, z7, z8, z9]) (ordW (madeN 7 ly) [y0, y1, y2, y3, y4, y5, y6]))) (rd_extract rfl rfl) rfl ?_
  refine Wx.rd (v := v_43) (rd_assign rfl) rfl ?_
  refine Wx.rd (v := .int .i64 (shownE (madeN 7 ly) (madeF 7 10 ly mn [z0, z1, z2, z3, z4, z5, z6, z7, z8, z9]) (ordW (madeN 7 ly) [y0, y1, y2, y3, y4, y5, y6]))) (rd_assign rfl) rfl ?_
  refine Wx.nil ?_
  refine W.seq ?_
  refine W.seq ?_
  refine W.reg ?_
  refine Wx.rd (v := .int .i64 (shownE (madeN 7 ly) (madeF 7 10 ly mn [z0, z1, z2, z3, z4, z5, z6, z7, z8, z9]) (ordW (madeN 7 ly) [y0, y1, y2, y3, y4, y5, y6]))) (rd_move rfl) rfl ?_
  refine Wx.rd (v := .bool (decide ((shownE (madeN 7 ly) (madeF 7 10 ly mn [z0, z1, z2, z3, z4, z5, z6, z7, z8, z9]) (ordW (madeN 7 ly) [y0, y1, y2, y3, y4, y5, y6])) ≠ 0))) (rd_neq rfl rfl) rfl ?_
  refine Wx.rd (v := .bool (decide ((shownE (madeN 7 ly) (madeF 7 10 ly mn [z0, z1, z2, z3, z4, z5, z6, z7, z8, z9]) (ordW (madeN 7 ly) [y0, y1, y2, y3, y4, y5, y6])) ≠ 0))) (rd_move rfl) rfl ?_
  refine Wx.cut (X := Unit) 3 [59, 60, 61] (fun _ => [(61, .bool (decide ((shownE (madeN 7 ly) (madeF 7 10 ly mn [z0, z1, z2, z3, z4, z5, z6, z7, z8, z9]) (ordW (madeN 7 ly) [y0, y1, y2, y3, y4, y5, y6])) ≠ 0) || decide ((shownE (madeN 7 ly) (madeF 7 10 ly mn [z0, z1, z2, z3, z4, z5, z6, z7, z8, z9]) (ordW (madeN 7 ly) [y0, y1, y2, y3, y4, y5, y6])) ≠ 0)))]) (fun _ w' => St w [] w' [.row (tP (tI .i64) (tI .i64)) 61 v_43 (datesL (madeN 7 ly) (madeF 7 10 ly mn [z0, z1, z2, z3, z4, z5, z6, z7, z8, z9]) (ordW (madeN 7 ly) [y0, y1, y2, y3, y4, y5, y6])), .row (tI .i64) 3 r_27 (List.reverse (ordW (madeN 7 ly) [y0, y1, y2, y3, y4, y5, y6])), .row (tI .i64) 3 r_22 (ordW (madeN 7 ly) [y0, y1, y2, y3, y4, y5, y6]), .box g_16 24 [.int .i64 (madeN 7 ly), v_12], Ob.v (tSl (tSl (tI .i64))) (madeF 7 10 ly mn [z0, z1, z2, z3, z4, z5, z6, z7, z8, z9]) v_12, .box g_5 78 [.int .u8 y0, .int .u8 y1, .int .u8 y2, .int .u8 y3, .int .u8 y4, .int .u8 y5, .int .u8 y6], .box g_1 64 [.int .u8 ly, .int .u8 mn, .int .u8 z0, .int .u8 z1, .int .u8 z2, .int .u8 z3, .int .u8 z4, .int .u8 z5, .int .u8 z6, .int .u8 z7, .int .u8 z8, .int .u8 z9]]) ?_ ?_
  · rcases Bool.eq_false_or_eq_true (decide ((shownE (madeN 7 ly) (madeF 7 10 ly mn [z0, z1, z2, z3, z4, z5, z6, z7, z8, z9]) (ordW (madeN 7 ly) [y0, y1, y2, y3, y4, y5, y6])) ≠ 0)) with g_46 | g_46
    · -- True
      have gp_47 := of_decide_eq_true g_46
      refine Wx.gnoB rfl rfl (congrArg Value.bool g_46) rfl rfl ?_
      refine Wx.gnoB rfl rfl (congrArg Value.bool g_46) rfl rfl ?_
      refine Wx.rd (v := .bool true) (rd_pickT (congrArg Value.bool g_46) rfl) rfl ?_
      refine Wx.nil ⟨(), hS, ⟨?_, trivial⟩, Out.look rfl Out.refl⟩
      show Value.bool true = Value.bool (decide ((shownE (madeN 7 ly) (madeF 7 10 ly mn [z0, z1, z2, z3, z4, z5, z6, z7, z8, z9]) (ordW (madeN 7 ly) [y0, y1, y2, y3, y4, y5, y6])) ≠ 0) || decide ((shownE (madeN 7 ly) (madeF 7 10 ly mn [z0, z1, z2, z3, z4, z5, z6, z7, z8, z9]) (ordW (madeN 7 ly) [y0, y1, y2, y3, y4, y5, y6])) ≠ 0))
      rw [g_46]; rfl
    · -- False
      have gp_48 := of_decide_eq_false g_46
      refine Wx.gyes rfl rfl (congrArg Value.bool g_46) ?_
      refine Wx.rd (v := .int .i64 (shownE (madeN 7 ly) (madeF 7 10 ly mn [z0, z1, z2, z3, z4, z5, z6, z7, z8, z9]) (ordW (madeN 7 ly) [y0, y1, y2, y3, y4, y5, y6]))) (rd_move rfl) rfl ?_
      refine Wx.gyes rfl rfl (congrArg Value.bool g_46) ?_
      refine Wx.rd (v := .bool (decide ((shownE (madeN 7 ly) (madeF 7 10 ly mn [z0, z1, z2, z3, z4, z5, z6, z7, z8, z9]) (ordW (madeN 7 ly) [y0, y1, y2, y3, y4, y5, y6])) ≠ 0))) (rd_neq rfl rfl) rfl ?_
      refine Wx.rd (v := .bool (decide ((shownE (madeN 7 ly) (madeF 7 10 ly mn [z0, z1, z2, z3, z4, z5, z6, z7, z8, z9]) (ordW (madeN 7 ly) [y0, y1, y2, y3, y4, y5, y6])) ≠ 0))) (rd_pickF (congrArg Value.bool g_46) rfl) rfl ?_
      refine Wx.nil ⟨(), hS, ⟨?_, trivial⟩, Out.look rfl Out.refl⟩
      show Value.bool (decide ((shownE (madeN 7 ly) (madeF 7 10 ly mn [z0, z1, z2, z3, z4, z5, z6, z7, z8, z9]) (ordW (madeN 7 ly) [y0, y1, y2, y3, y4, y5, y6])) ≠ 0)) = Value.bool (decide ((shownE (madeN 7 ly) (madeF 7 10 ly mn [z0, z1, z2, z3, z4, z5, z6, z7, z8, z9]) (ordW (madeN 7 ly) [y0, y1, y2, y3, y4, y5, y6])) ≠ 0) || decide ((shownE (madeN 7 ly) (madeF 7 10 ly mn [z0, z1, z2, z3, z4, z5, z6, z7, z8, z9]) (ordW (madeN 7 ly) [y0, y1, y2, y3, y4, y5, y6])) ≠ 0))
      rw [g_46]; rfl
  rintro ⟨⟩ u_50 w_49 hS
  refine Wx.rd (v := .bool (decide ((shownE (madeN 7 ly) (madeF 7 10 ly mn [z0, z1, z2, z3, z4, z5, z6, z7, z8, z9]) (ordW (madeN 7 ly) [y0, y1, y2, y3, y4, y5, y6])) ≠ 0) || decide ((shownE (madeN 7 ly) (madeF 7 10 ly mn [z0, z1, z2, z3, z4, z5, z6, z7, z8, z9]) (ordW (madeN 7 ly) [y0, y1, y2, y3, y4, y5, y6])) ≠ 0))) (rd_move rfl) rfl ?_
  refine Wx.cut (X := Unit) 3 [63, 64, 65] (fun _ => [(65, .bool ((decide ((shownE (madeN 7 ly) (madeF 7 10 ly mn [z0, z1, z2, z3, z4, z5, z6, z7, z8, z9]) (ordW (madeN 7 ly) [y0, y1, y2, y3, y4, y5, y6])) ≠ 0) || decide ((shownE (madeN 7 ly) (madeF 7 10 ly mn [z0, z1, z2, z3, z4, z5, z6, z7, z8, z9]) (ordW (madeN 7 ly) [y0, y1, y2, y3, y4, y5, y6])) ≠ 0)) || decide ((shownE (madeN 7 ly) (madeF 7 10 ly mn [z0, z1, z2, z3, z4, z5, z6, z7, z8, z9]) (ordW (madeN 7 ly) [y0, y1, y2, y3, y4, y5, y6])) ≠ 0)))]) (fun _ w' => St w [] w' [.row (tP (tI .i64) (tI .i64)) 61 v_43 (datesL (madeN 7 ly) (madeF 7 10 ly mn [z0, z1, z2, z3, z4, z5, z6, z7, z8, z9]) (ordW (madeN 7 ly) [y0, y1, y2, y3, y4, y5, y6])), .row (tI .i64) 3 r_27 (List.reverse (ordW (madeN 7 ly) [y0, y1, y2, y3, y4, y5, y6])), .row (tI .i64) 3 r_22 (ordW (madeN 7 ly) [y0, y1, y2, y3, y4, y5, y6]), .box g_16 24 [.int .i64 (madeN 7 ly), v_12], Ob.v (tSl (tSl (tI .i64))) (madeF 7 10 ly mn [z0, z1, z2, z3, z4, z5, z6, z7, z8, z9]) v_12, .box g_5 78 [.int .u8 y0, .int .u8 y1, .int .u8 y2, .int .u8 y3, .int .u8 y4, .int .u8 y5, .int .u8 y6], .box g_1 64 [.int .u8 ly, .int .u8 mn, .int .u8 z0, .int .u8 z1, .int .u8 z2, .int .u8 z3, .int .u8 z4, .int .u8 z5, .int .u8 z6, .int .u8 z7, .int .u8 z8, .int .u8 z9]]) ?_ ?_
  · rcases Bool.eq_false_or_eq_true (decide ((shownE (madeN 7 ly) (madeF 7 10 ly mn [z0, z1, z2, z3, z4, z5, z6, z7, z8, z9]) (ordW (madeN 7 ly) [y0, y1, y2, y3, y4, y5, y6])) ≠ 0) || decide ((shownE (madeN 7 ly) (madeF 7 10 ly mn [z0, z1, z2, z3, z4, z5, z6, z7, z8, z9]) (ordW (madeN 7 ly) [y0, y1, y2, y3, y4, y5, y6])) ≠ 0)) with g_51 | g_51
    · -- True
      have gp_52 := g_51
      try simp only [Bool.and_eq_true, Bool.or_eq_true, Bool.not_eq_true', Bool.and_eq_false_iff, Bool.or_eq_false_iff, Bool.not_eq_false', decide_eq_true_eq, decide_eq_false_iff_not, not_or, Bool.false_eq_true, Bool.true_eq_false, false_or, or_false, not_false_eq_true] at gp_52
      refine Wx.gnoB rfl rfl (congrArg Value.bool g_51) rfl rfl ?_
      refine Wx.gnoB rfl rfl (congrArg Value.bool g_51) rfl rfl ?_
      refine Wx.rd (v := .bool true) (rd_pickT (congrArg Value.bool g_51) rfl) rfl ?_
      refine Wx.nil ⟨(), hS, ⟨?_, trivial⟩, Out.look rfl Out.refl⟩
      show Value.bool true = Value.bool ((decide ((shownE (madeN 7 ly) (madeF 7 10 ly mn [z0, z1, z2, z3, z4, z5, z6, z7, z8, z9]) (ordW (madeN 7 ly) [y0, y1, y2, y3, y4, y5, y6])) ≠ 0) || decide ((shownE (madeN 7 ly) (madeF 7 10 ly mn [z0, z1, z2, z3, z4, z5, z6, z7, z8, z9]) (ordW (madeN 7 ly) [y0, y1, y2, y3, y4, y5, y6])) ≠ 0)) || decide ((shownE (madeN 7 ly) (madeF 7 10 ly mn [z0, z1, z2, z3, z4, z5, z6, z7, z8, z9]) (ordW (madeN 7 ly) [y0, y1, y2, y3, y4, y5, y6])) ≠ 0))
      rw [g_51]; rfl
    · -- False
      have gp_53 := g_51
      try simp only [Bool.and_eq_true, Bool.or_eq_true, Bool.not_eq_true', Bool.and_eq_false_iff, Bool.or_eq_false_iff, Bool.not_eq_false', decide_eq_true_eq, decide_eq_false_iff_not, not_or, Bool.false_eq_true, Bool.true_eq_false, false_or, or_false, not_false_eq_true] at gp_53
      refine Wx.gyes rfl rfl (congrArg Value.bool g_51) ?_
      refine Wx.rd (v := .int .i64 (shownE (madeN 7 ly) (madeF 7 10 ly mn [z0, z1, z2, z3, z4, z5, z6, z7, z8, z9]) (ordW (madeN 7 ly) [y0, y1, y2, y3, y4, y5, y6]))) (rd_move rfl) rfl ?_
      refine Wx.gyes rfl rfl (congrArg Value.bool g_51) ?_
      refine Wx.rd (v := .bool (decide ((shownE (madeN 7 ly) (madeF 7 10 ly mn [z0, z1, z2, z3, z4, z5, z6, z7, z8, z9]) (ordW (madeN 7 ly) [y0, y1, y2, y3, y4, y5, y6])) ≠ 0))) (rd_neq rfl rfl) rfl ?_
      refine Wx.rd (v := .bool (decide ((shownE (madeN 7 ly) (madeF 7 10 ly mn [z0, z1, z2, z3, z4, z5, z6, z7, z8, z9]) (ordW (madeN 7 ly) [y0, y1, y2, y3, y4, y5, y6])) ≠ 0))) (rd_pickF (congrArg Value.bool g_51) rfl) rfl ?_
      refine Wx.nil ⟨(), hS, ⟨?_, trivial⟩, Out.look rfl Out.refl⟩
      show Value.bool (decide ((shownE (madeN 7 ly) (madeF 7 10 ly mn [z0, z1, z2, z3, z4, z5, z6, z7, z8, z9]) (ordW (madeN 7 ly) [y0, y1, y2, y3, y4, y5, y6])) ≠ 0)) = Value.bool ((decide ((shownE (madeN 7 ly) (madeF 7 10 ly mn [z0, z1, z2, z3, z4, z5, z6, z7, z8, z9]) (ordW (madeN 7 ly) [y0, y1, y2, y3, y4, y5, y6])) ≠ 0) || decide ((shownE (madeN 7 ly) (madeF 7 10 ly mn [z0, z1, z2, z3, z4, z5, z6, z7, z8, z9]) (ordW (madeN 7 ly) [y0, y1, y2, y3, y4, y5, y6])) ≠ 0)) || decide ((shownE (madeN 7 ly) (madeF 7 10 ly mn [z0, z1, z2, z3, z4, z5, z6, z7, z8, z9]) (ordW (madeN 7 ly) [y0, y1, y2, y3, y4, y5, y6])) ≠ 0))
      rw [g_51]; rfl
  rintro ⟨⟩ u_55 w_54 hS
  refine Wx.rd (v := .bool ((decide ((shownE (madeN 7 ly) (madeF 7 10 ly mn [z0, z1, z2, z3, z4, z5, z6, z7, z8, z9]) (ordW (madeN 7 ly) [y0, y1, y2, y3, y4, y5, y6])) ≠ 0) || decide ((shownE (madeN 7 ly) (madeF 7 10 ly mn [z0, z1, z2, z3, z4, z5, z6, z7, z8, z9]) (ordW (madeN 7 ly) [y0, y1, y2, y3, y4, y5, y6])) ≠ 0)) || decide ((shownE (madeN 7 ly) (madeF 7 10 ly mn [z0, z1, z2, z3, z4, z5, z6, z7, z8, z9]) (ordW (madeN 7 ly) [y0, y1, y2, y3, y4, y5, y6])) ≠ 0))) (rd_move rfl) rfl ?_
  refine Wx.cut (X := Unit) 7 [67, 68, 69, 70, 71, 72, 73] (fun _ => [(73, .bool (((decide ((shownE (madeN 7 ly) (madeF 7 10 ly mn [z0, z1, z2, z3, z4, z5, z6, z7, z8, z9]) (ordW (madeN 7 ly) [y0, y1, y2, y3, y4, y5, y6])) ≠ 0) || decide ((shownE (madeN 7 ly) (madeF 7 10 ly mn [z0, z1, z2, z3, z4, z5, z6, z7, z8, z9]) (ordW (madeN 7 ly) [y0, y1, y2, y3, y4, y5, y6])) ≠ 0)) || decide ((shownE (madeN 7 ly) (madeF 7 10 ly mn [z0, z1, z2, z3, z4, z5, z6, z7, z8, z9]) (ordW (madeN 7 ly) [y0, y1, y2, y3, y4, y5, y6])) ≠ 0)) || decide (((datesL (madeN 7 ly) (madeF 7 10 ly mn [z0, z1, z2, z3, z4, z5, z6, z7, z8, z9]) (ordW (madeN 7 ly) [y0, y1, y2, y3, y4, y5, y6])).length : Int) ≠ ((madeF 7 10 ly mn [z0, z1, z2, z3, z4, z5, z6, z7, z8, z9]).length : Int))))]) (fun _ w' => St w [] w' [.row (tP (tI .i64) (tI .i64)) 61 v_43 (datesL (madeN 7 ly) (madeF 7 10 ly mn [z0, z1, z2, z3, z4, z5, z6, z7, z8, z9]) (ordW (madeN 7 ly) [y0, y1, y2, y3, y4, y5, y6])), .row (tI .i64) 3 r_27 (List.reverse (ordW (madeN 7 ly) [y0, y1, y2, y3, y4, y5, y6])), .row (tI .i64) 3 r_22 (ordW (madeN 7 ly) [y0, y1, y2, y3, y4, y5, y6]), .box g_16 24 [.int .i64 (madeN 7 ly), v_12], Ob.v (tSl (tSl (tI .i64))) (madeF 7 10 ly mn [z0, z1, z2, z3, z4, z5, z6, z7, z8, z9]) v_12, .box g_5 78 [.int .u8 y0, .int .u8 y1, .int .u8 y2, .int .u8 y3, .int .u8 y4, .int .u8 y5, .int .u8 y6], .box g_1 64 [.int .u8 ly, .int .u8 mn, .int .u8 z0, .int .u8 z1, .int .u8 z2, .int .u8 z3, .int .u8 z4, .int .u8 z5, .int .u8 z6, .int .u8 z7, .int .u8 z8, .int .u8 z9]]) ?_ ?_
  · rcases Bool.eq_false_or_eq_true ((decide ((shownE (madeN 7 ly) (madeF 7 10 ly mn [z0, z1, z2, z3, z4, z5, z6, z7, z8, z9]) (ordW (madeN 7 ly) [y0, y1, y2, y3, y4, y5, y6])) ≠ 0) || decide ((shownE (madeN 7 ly) (madeF 7 10 ly mn [z0, z1, z2, z3, z4, z5, z6, z7, z8, z9]) (ordW (madeN 7 ly) [y0, y1, y2, y3, y4, y5, y6])) ≠ 0)) || decide ((shownE (madeN 7 ly) (madeF 7 10 ly mn [z0, z1, z2, z3, z4, z5, z6, z7, z8, z9]) (ordW (madeN 7 ly) [y0, y1, y2, y3, y4, y5, y6])) ≠ 0)) with g_56 | g_56
    · -- True
      have gp_57 := g_56
      try simp only [Bool.and_eq_true, Bool.or_eq_true, Bool.not_eq_true', Bool.and_eq_false_iff, Bool.or_eq_false_iff, Bool.not_eq_false', decide_eq_true_eq, decide_eq_false_iff_not, not_or, Bool.false_eq_true, Bool.true_eq_false, false_or, or_false, not_false_eq_true] at gp_57
      refine Wx.gnoB rfl rfl (congrArg Value.bool g_56) rfl rfl ?_
      refine Wx.gnoB rfl rfl (congrArg Value.bool g_56) rfl rfl ?_
      refine Wx.gnoB rfl rfl (congrArg Value.bool g_56) rfl rfl ?_
      refine Wx.gnoB rfl rfl (congrArg Value.bool g_56) rfl rfl ?_
      refine Wx.gnoB rfl rfl (congrArg Value.bool g_56) rfl rfl ?_
      refine Wx.gnoB rfl rfl (congrArg Value.bool g_56) rfl rfl ?_
      refine Wx.rd (v := .bool true) (rd_pickT (congrArg Value.bool g_56) rfl) rfl ?_
      refine Wx.nil ⟨(), hS, ⟨?_, trivial⟩, Out.look rfl Out.refl⟩
      show Value.bool true = Value.bool (((decide ((shownE (madeN 7 ly) (madeF 7 10 ly mn [z0, z1, z2, z3, z4, z5, z6, z7, z8, z9]) (ordW (madeN 7 ly) [y0, y1, y2, y3, y4, y5, y6])) ≠ 0) || decide ((shownE (madeN 7 ly) (madeF 7 10 ly mn [z0, z1, z2, z3, z4, z5, z6, z7, z8, z9]) (ordW (madeN 7 ly) [y0, y1, y2, y3, y4, y5, y6])) ≠ 0)) || decide ((shownE (madeN 7 ly) (madeF 7 10 ly mn [z0, z1, z2, z3, z4, z5, z6, z7, z8, z9]) (ordW (madeN 7 ly) [y0, y1, y2, y3, y4, y5, y6])) ≠ 0)) || decide (((datesL (madeN 7 ly) (madeF 7 10 ly mn [z0, z1, z2, z3, z4, z5, z6, z7, z8, z9]) (ordW (madeN 7 ly) [y0, y1, y2, y3, y4, y5, y6])).length : Int) ≠ ((madeF 7 10 ly mn [z0, z1, z2, z3, z4, z5, z6, z7, z8, z9]).length : Int)))
      rw [g_56]; rfl
    · -- False
      have gp_58 := g_56
      try simp only [Bool.and_eq_true, Bool.or_eq_true, Bool.not_eq_true', Bool.and_eq_false_iff, Bool.or_eq_false_iff, Bool.not_eq_false', decide_eq_true_eq, decide_eq_false_iff_not, not_or, Bool.false_eq_true, Bool.true_eq_false, false_or, or_false, not_false_eq_true] at gp_58
      refine Wx.gyes rfl rfl (congrArg Value.bool g_56) ?_
      refine Wx.rd (v := v_43) (rd_move rfl) rfl ?_
      refine Wx.gyes rfl rfl (congrArg Value.bool g_56) ?_
      refine Wx.rd (v := .int .i64 ((datesL (madeN 7 ly) (madeF 7 10 ly mn [z0, z1, z2, z3, z4, z5, z6, z7, z8, z9]) (ordW (madeN 7 ly) [y0, y1, y2, y3, y4, y5, y6])).length : Int)) (rd_lenR hS 0 rfl rfl Try.underlying36) rfl ?_
      refine Wx.gyes rfl rfl (congrArg Value.bool g_56) ?_
      refine Wx.rd (v := .pointer (some ⟨g_16, 1, none⟩)) (rd_fieldAddr rfl foGi_24_1) rfl ?_
      refine Wx.gyes rfl rfl (congrArg Value.bool g_56) ?_
      refine Wx.rd (v := v_12) (rd_loadX hS 3 rfl rfl rfl Try.isAgg22) rfl ?_
      refine Wx.gyes rfl rfl (congrArg Value.bool g_56) ?_
      refine Wx.rd (v := .int .i64 ((madeF 7 10 ly mn [z0, z1, z2, z3, z4, z5, z6, z7, z8, z9]).length : Int)) (rd_lenV rfl (hS.v 4 rfl) Try.underlying22) rfl ?_
      refine Wx.gyes rfl rfl (congrArg Value.bool g_56) ?_
      refine Wx.rd (v := .bool (decide (((datesL (madeN 7 ly) (madeF 7 10 ly mn [z0, z1, z2, z3, z4, z5, z6, z7, z8, z9]) (ordW (madeN 7 ly) [y0, y1, y2, y3, y4, y5, y6])).length : Int) ≠ ((madeF 7 10 ly mn [z0, z1, z2, z3, z4, z5, z6, z7, z8, z9]).length : Int)))) (rd_neq rfl rfl) rfl ?_
      refine Wx.rd (v := .bool (decide (((datesL (madeN 7 ly) (madeF 7 10 ly mn [z0, z1, z2, z3, z4, z5, z6, z7, z8, z9]) (ordW (madeN 7 ly) [y0, y1, y2, y3, y4, y5, y6])).length : Int) ≠ ((madeF 7 10 ly mn [z0, z1, z2, z3, z4, z5, z6, z7, z8, z9]).length : Int)))) (rd_pickF (congrArg Value.bool g_56) rfl) rfl ?_
      refine Wx.nil ⟨(), hS, ⟨?_, trivial⟩, Out.look rfl Out.refl⟩
      show Value.bool (decide (((datesL (madeN 7 ly) (madeF 7 10 ly mn [z0, z1, z2, z3, z4, z5, z6, z7, z8, z9]) (ordW (madeN 7 ly) [y0, y1, y2, y3, y4, y5, y6])).length : Int) ≠ ((madeF 7 10 ly mn [z0, z1, z2, z3, z4, z5, z6, z7, z8, z9]).length : Int))) = Value.bool (((decide ((shownE (madeN 7 ly) (madeF 7 10 ly mn [z0, z1, z2, z3, z4, z5, z6, z7, z8, z9]) (ordW (madeN 7 ly) [y0, y1, y2, y3, y4, y5, y6])) ≠ 0) || decide ((shownE (madeN 7 ly) (madeF 7 10 ly mn [z0, z1, z2, z3, z4, z5, z6, z7, z8, z9]) (ordW (madeN 7 ly) [y0, y1, y2, y3, y4, y5, y6])) ≠ 0)) || decide ((shownE (madeN 7 ly) (madeF 7 10 ly mn [z0, z1, z2, z3, z4, z5, z6, z7, z8, z9]) (ordW (madeN 7 ly) [y0, y1, y2, y3, y4, y5, y6])) ≠ 0)) || decide (((datesL (madeN 7 ly) (madeF 7 10 ly mn [z0, z1, z2, z3, z4, z5, z6, z7, z8, z9]) (ordW (madeN 7 ly) [y0, y1, y2, y3, y4, y5, y6])).length : Int) ≠ ((madeF 7 10 ly mn [z0, z1, z2, z3, z4, z5, z6, z7, z8, z9]).length : Int)))
      rw [g_56]; rfl
  rintro ⟨⟩ u_60 w_59 hS
  refine Wx.nil ?_
  refine W.condF rfl (by simp [hs1, hd1]) ?_
  refine W.skip ?_
  refine W.seq ?_
  refine W.reg ?_
  refine Wx.rd (v := .int .i64 0) (rd_assign rfl) rfl ?_
  refine Wx.nil ?_
  refine W.seq ?_
  refine W.seq ?_
  refine W.reg ?_
  refine Wx.rd (v := .pointer (some ⟨g_16, 1, none⟩)) (rd_fieldAddr rfl foGi_24_1) rfl ?_
  refine Wx.rd (v := v_12) (rd_loadX hS 3 rfl rfl rfl Try.isAgg22) rfl ?_
  refine Wx.rd (v := .int .i64 ((madeF 7 10 ly mn [z0, z1, z2, z3, z4, z5, z6, z7, z8, z9]).length : Int)) (rd_lenV rfl (hS.v 4 rfl) Try.underlying22) rfl ?_
  refine Wx.rd (v := .int .i64 0) (rd_move rfl) rfl ?_
  refine Wx.nil ?_
  refine W.block ?_
  refine W.loop [4, 15, 16, 17, 18, 19, 20, 21, 22, 77, 78, 79, 80, 81, 82, 83, 84, 85, 86, 87, 88, 89, 90, 91, 92, 93, 94, 95, 96, 97, 98, 99, 100, 101, 102, 103, 104, 105, 106, 107, 108, 109, 110, 111, 112, 113, 114, 115, 116, 117, 118, 119, 120, 121, 122, 123, 124] (fun x : Int × Int => match x with | (s, k) => [(15, .int .i64 s), (77, .int .i64 k)]) (fun (x : Int × Int) w' => match x with | (s, k) => St w [] w' [.row (tP (tI .i64) (tI .i64)) 61 v_43 (datesL (madeN 7 ly) (madeF 7 10 ly mn [z0, z1, z2, z3, z4, z5, z6, z7, z8, z9]) (ordW (madeN 7 ly) [y0, y1, y2, y3, y4, y5, y6])), .row (tI .i64) 3 r_27 (List.reverse (ordW (madeN 7 ly) [y0, y1, y2, y3, y4, y5, y6])), .row (tI .i64) 3 r_22 (ordW (madeN 7 ly) [y0, y1, y2, y3, y4, y5, y6]), .box g_16 24 [.int .i64 (madeN 7 ly), v_12], Ob.v (tSl (tSl (tI .i64))) (madeF 7 10 ly mn [z0, z1, z2, z3, z4, z5, z6, z7, z8, z9]) v_12, .box g_5 78 [.int .u8 y0, .int .u8 y1, .int .u8 y2, .int .u8 y3, .int .u8 y4, .int .u8 y5, .int .u8 y6], .box g_1 64 [.int .u8 ly, .int .u8 mn, .int .u8 z0, .int .u8 z1, .int .u8 z2, .int .u8 z3, .int .u8 z4, .int .u8 z5, .int .u8 z6, .int .u8 z7, .int .u8 z8, .int .u8 z9]] ∧ 0 ≤ k ∧ k ≤ (madeF 7 10 ly mn [z0, z1, z2, z3, z4, z5, z6, z7, z8, z9]).length ∧ s + (((madeF 7 10 ly mn [z0, z1, z2, z3, z4, z5, z6, z7, z8, z9]).drop k.toNat).map fun f => gapsW f (ordW (madeN 7 ly) [y0, y1, y2, y3, y4, y5, y6])).sum = gapsE (madeN 7 ly) (madeF 7 10 ly mn [z0, z1, z2, z3, z4, z5, z6, z7, z8, z9]) (ordW (madeN 7 ly) [y0, y1, y2, y3, y4, y5, y6]) ∧ 0 ≤ s ∧ s ≤ 7 * k) (fun x : Int × Int => match x with | (s, k) => ((madeF 7 10 ly mn [z0, z1, z2, z3, z4, z5, z6, z7, z8, z9]).length - k).toNat) (0, 0) ⟨rfl, rfl, trivial⟩ ⟨hS, (by first | omega | simp), (by first | omega | simp), (by rw [hg1]; simp), (by first | omega | simp), (by first | omega | simp)⟩ ?_
  rintro ⟨s, k⟩ u_62 w_61 ⟨hS, h0, h1, h2, h3, h4⟩
  refine W.seq ?_
  refine W.reg ?_
  refine Wx.rd (v := .bool (decide (k < ((madeF 7 10 ly mn [z0, z1, z2, z3, z4, z5, z6, z7, z8, z9]).length : Int)))) (rd_lss rfl rfl) rfl ?_
  refine Wx.nil ?_
  refine W.seq ?_
  refine W.condD rfl (fun c1 => ?_) (fun c1 => ?_)
  · -- yes
    obtain ⟨hka, hkb, hkc, -, -⟩ := hk k h0 c1
    refine W.skip ?_
    refine W.seq ?_
    refine W.block ?_
    refine W.seq ?_
    refine W.reg ?_
    refine Wx.rd (v := .int .i64 k) (rd_move rfl) rfl ?_
    refine Wx.ex (rd_index [] (hS.v 4 rfl) rfl rfl Try.underlying22 Try.sizeOf28 (by first | omega | (simp only [List.length_set, List.length_append, List.length_cons, List.length_nil, List.length_replicate]; omega)) (by first | omega | (simp only [List.length_set, List.length_append, List.length_cons, List.length_nil, List.length_replicate]; omega))) rfl (fun p_63 hp_64 => ?_)
    refine Wx.ex (rd_load hp_64 rfl Try.isAgg28 Try.sizeOf28) rfl (fun v_65 hv_66 => ?_)
    have ln_67 := hv_66.len63
    have hS := hS.add hv_66
    refine Wx.rd (v := .int .i64 k) (rd_assign rfl) rfl ?_
    refine Wx.rd (v := v_65) (rd_assign rfl) rfl ?_
    refine Wx.nil ?_
    refine W.seq ?_
    refine W.reg ?_
    refine Wx.rd (v := .int .i64 (madeN 7 ly)) (rd_move rfl) rfl ?_
    refine Wx.rd (v := .int .i64 (madeN 7 ly)) (rd_assign rfl) rfl ?_
    refine Wx.rd (v := .int .i64 (-1)) (rd_assign rfl) rfl ?_
    refine Wx.nil ?_
    refine W.seq ?_
    refine W.seq ?_
    refine W.reg ?_
    refine Wx.rd (v := r_22) (rd_move rfl) rfl ?_
    refine Wx.rd (v := .int .i64 ((ordW (madeN 7 ly) [y0, y1, y2, y3, y4, y5, y6]).length : Int)) (rd_lenR hS 3 rfl rfl Try.underlying28) rfl ?_
    refine Wx.rd (v := .int .i64 0) (rd_move rfl) rfl ?_
    refine Wx.nil ?_
    refine W.block ?_
    refine W.loop [18, 19, 20, 21, 85, 86, 87, 88, 89, 90, 91, 92, 93, 94, 95, 96, 97] (fun x : Int × Int × Int => match x with | (u, v, p) => [(18, .int .i64 u), (19, .int .i64 v), (85, .int .i64 p)]) (fun (x : Int × Int × Int) w' => match x with | (u, v, p) => St w [] w' [Ob.v (tSl (tI .i64)) (ix [] (madeF 7 10 ly mn [z0, z1, z2, z3, z4, z5, z6, z7, z8, z9]) k) v_65, .row (tP (tI .i64) (tI .i64)) 61 v_43 (datesL (madeN 7 ly) (madeF 7 10 ly mn [z0, z1, z2, z3, z4, z5, z6, z7, z8, z9]) (ordW (madeN 7 ly) [y0, y1, y2, y3, y4, y5, y6])), .row (tI .i64) 3 r_27 (List.reverse (ordW (madeN 7 ly) [y0, y1, y2, y3, y4, y5, y6])), .row (tI .i64) 3 r_22 (ordW (madeN 7 ly) [y0, y1, y2, y3, y4, y5, y6]), .box g_16 24 [.int .i64 (madeN 7 ly), v_12], Ob.v (tSl (tSl (tI .i64))) (madeF 7 10 ly mn [z0, z1, z2, z3, z4, z5, z6, z7, z8, z9]) v_12, .box g_5 78 [.int .u8 y0, .int .u8 y1, .int .u8 y2, .int .u8 y3, .int .u8 y4, .int .u8 y5, .int .u8 y6], .box g_1 64 [.int .u8 ly, .int .u8 mn, .int .u8 z0, .int .u8 z1, .int .u8 z2, .int .u8 z3, .int .u8 z4, .int .u8 z5, .int .u8 z6, .int .u8 z7, .int .u8 z8, .int .u8 z9]] ∧ 0 ≤ p ∧ p ≤ (ordW (madeN 7 ly) [y0, y1, y2, y3, y4, y5, y6]).length ∧ dateP (ix [] (madeF 7 10 ly mn [z0, z1, z2, z3, z4, z5, z6, z7, z8, z9]) k) p ((ordW (madeN 7 ly) [y0, y1, y2, y3, y4, y5, y6]).drop p.toNat) (u, v) = dateP (ix [] (madeF 7 10 ly mn [z0, z1, z2, z3, z4, z5, z6, z7, z8, z9]) k) 0 (ordW (madeN 7 ly) [y0, y1, y2, y3, y4, y5, y6]) (madeN 7 ly, -1) ∧ 0 ≤ u ∧ u ≤ 7 ∧ -1 ≤ v ∧ v ≤ 7) (fun x : Int × Int × Int => match x with | (u, v, p) => ((ordW (madeN 7 ly) [y0, y1, y2, y3, y4, y5, y6]).length - p).toNat) (madeN 7 ly, -1, 0) ⟨rfl, rfl, rfl, trivial⟩ ⟨hS, (by first | omega | simp), (by first | omega | simp), (by simp), (by first | omega | simp), (by first | omega | simp), (by first | omega | simp), (by first | omega | simp)⟩ ?_
    rintro ⟨u, v, p⟩ u_70 w_69 ⟨hS, g0, g1, g2, g3, g4, g5, g6⟩
    refine W.seq ?_
    refine W.reg ?_
    refine Wx.rd (v := .bool (decide (p < ((ordW (madeN 7 ly) [y0, y1, y2, y3, y4, y5, y6]).length : Int)))) (rd_lss rfl rfl) rfl ?_
    refine Wx.nil ?_
    refine W.seq ?_
    refine W.condD rfl (fun c2 => ?_) (fun c2 => ?_)
    · -- yes
      refine W.skip ?_
      refine W.seq ?_
      refine W.block ?_
      refine W.seq ?_
      refine W.reg ?_
      refine Wx.rd (v := .int .i64 p) (rd_move rfl) rfl ?_
      refine Wx.indexR hS 3 rfl rfl rfl Try.underlying28 Try.sizeOf3 (by first | omega | (simp only [List.length_set, List.length_append, List.length_cons, List.length_nil, List.length_replicate]; omega)) (by first | omega | (simp only [List.length_set, List.length_append, List.length_cons, List.length_nil, List.length_replicate]; omega)) rfl (fun g_71 hg_72 => ?_)
      refine Wx.rd (v := .int .i64 (ix 0 (ordW (madeN 7 ly) [y0, y1, y2, y3, y4, y5, y6]) p)) (rd_loadRI' hS 3 rfl hg_72 rfl (by first | omega | (simp only [List.length_set, List.length_append, List.length_cons, List.length_nil, List.length_replicate]; omega)) (by first | omega | (simp only [List.length_set, List.length_append, List.length_cons, List.length_nil, List.length_replicate]; omega)) Try.isAgg3 Try.sizeOf3) rfl ?_
      have bd_73 := bd_i64 (hS.rowInK' 3 rfl (by first | omega | (simp only [List.length_set, List.length_append, List.length_cons, List.length_nil, List.length_replicate]; omega)) (by first | omega | (simp only [List.length_set, List.length_append, List.length_cons, List.length_nil, List.length_replicate]; omega)) : InK .i64 (ix 0 (ordW (madeN 7 ly) [y0, y1, y2, y3, y4, y5, y6]) p))
      refine Wx.rd (v := .int .i64 p) (rd_assign rfl) rfl ?_
      refine Wx.rd (v := .int .i64 (ix 0 (ordW (madeN 7 ly) [y0, y1, y2, y3, y4, y5, y6]) p)) (rd_assign rfl) rfl ?_
      refine Wx.nil ?_
      refine W.seq ?_
      refine W.reg ?_
      refine Wx.rd (v := v_65) (rd_move rfl) rfl ?_
      refine Wx.rd (v := .int .i64 (ix 0 (ordW (madeN 7 ly) [y0, y1, y2, y3, y4, y5, y6]) p)) (rd_move rfl) rfl ?_
      refine Wx.callF (run_callF Try.call57 rfl) (F57 (hS.v 0 rfl) (in_i64 (by omega) (by omega))) rfl ?_
      rintro r_74 w_75 hx_76 rfl
      have hS := hS.ext hx_76
      refine Wx.nil ?_
      refine W.cond rfl (fun c3 => ?_) (fun c3 => ?_)
      · -- yes
        try simp only [Bool.and_eq_true, Bool.or_eq_true, Bool.not_eq_true', Bool.and_eq_false_iff, Bool.or_eq_false_iff, Bool.not_eq_false', decide_eq_true_eq, decide_eq_false_iff_not, not_or, Bool.false_eq_true, Bool.true_eq_false, false_or, or_false, not_false_eq_true] at c3
        refine W.reg ?_
        refine Wx.rd (v := .int .i64 u) (rd_move rfl) rfl ?_
        refine Wx.rd (v := .int .i64 p) (rd_move rfl) rfl ?_
        refine Wx.rd (v := .int .i64 (min u p)) (rd_min rfl rfl) rfl ?_
        refine Wx.rd (v := .int .i64 p) (rd_move rfl) rfl ?_
        refine Wx.rd (v := .int .i64 (min u p)) (rd_assign rfl) rfl ?_
        refine Wx.rd (v := .int .i64 p) (rd_assign rfl) rfl ?_
        refine Wx.nil ?_
        refine W.reg ?_
        refine Wx.rd (v := .int .i64 (p + 1)) (rd_add rfl rfl (in_i64 (by omega) (by omega))) rfl ?_
        refine Wx.rd (v := .int .i64 (p + 1)) (rd_move rfl) rfl ?_
        refine Wx.nil ?_
        refine ⟨(min u p, p, p + 1), (by show ((ordW (madeN 7 ly) [y0, y1, y2, y3, y4, y5, y6]).length - (p + 1)).toNat < ((ordW (madeN 7 ly) [y0, y1, y2, y3, y4, y5, y6]).length - p).toNat; omega), ?_, ?_, Out.look rfl Out.self⟩
        · exact ⟨hS, (by first | omega | assumption), (by first | omega | assumption), (by rw [← g2, drop_ix (d := 0) g0 c2, dateP, if_pos c3]), (by first | omega | assumption), (by first | omega | assumption), (by first | omega | assumption), (by first | omega | assumption)⟩
        · exact ⟨rfl, rfl, rfl, trivial⟩
      · -- no
        try simp only [Bool.and_eq_true, Bool.or_eq_true, Bool.not_eq_true', Bool.and_eq_false_iff, Bool.or_eq_false_iff, Bool.not_eq_false', decide_eq_true_eq, decide_eq_false_iff_not, not_or, Bool.false_eq_true, Bool.true_eq_false, false_or, or_false, not_false_eq_true] at c3
        refine W.skip ?_
        refine W.reg ?_
        refine Wx.rd (v := .int .i64 (p + 1)) (rd_add rfl rfl (in_i64 (by omega) (by omega))) rfl ?_
        refine Wx.rd (v := .int .i64 (p + 1)) (rd_move rfl) rfl ?_
        refine Wx.nil ?_
        refine ⟨(u, v, p + 1), (by show ((ordW (madeN 7 ly) [y0, y1, y2, y3, y4, y5, y6]).length - (p + 1)).toNat < ((ordW (madeN 7 ly) [y0, y1, y2, y3, y4, y5, y6]).length - p).toNat; omega), ?_, ?_, Out.look rfl Out.self⟩
        · exact ⟨hS, (by first | omega | assumption), (by first | omega | assumption), (by rw [← g2, drop_ix (d := 0) g0 c2, dateP, if_neg (by rw [c3]; decide)]), (by first | omega | assumption), (by first | omega | assumption), (by first | omega | assumption), (by first | omega | assumption)⟩
        · exact ⟨rfl, rfl, rfl, trivial⟩
    · -- no
      refine W.exit rfl ?_
      refine W.seq ?_
      refine W.reg ?_
      refine Wx.rd (v := v_65) (rd_move rfl) rfl ?_
      refine Wx.rd (v := r_22) (rd_move rfl) rfl ?_
      refine Wx.callF (run_callF Try.call58 rfl) (F58 (hS.v 0 rfl) (hS.lend 3 rfl)) rfl ?_
      rintro r_77 w_78 hx_79 rfl
      have hS := hS.ext hx_79
      refine Wx.rd (v := .int .i64 (gapsW (ix [] (madeF 7 10 ly mn [z0, z1, z2, z3, z4, z5, z6, z7, z8, z9]) k) (ordW (madeN 7 ly) [y0, y1, y2, y3, y4, y5, y6]))) (rd_assign rfl) rfl ?_
      refine Wx.nil ?_
      refine W.seq ?_
      refine W.reg ?_
      refine Wx.rd (v := .int .i64 s) (rd_move rfl) rfl ?_
      refine Wx.rd (v := .int .i64 (gapsW (ix [] (madeF 7 10 ly mn [z0, z1, z2, z3, z4, z5, z6, z7, z8, z9]) k) (ordW (madeN 7 ly) [y0, y1, y2, y3, y4, y5, y6]))) (rd_move rfl) rfl ?_
      refine Wx.rd (v := .int .i64 (s + (gapsW (ix [] (madeF 7 10 ly mn [z0, z1, z2, z3, z4, z5, z6, z7, z8, z9]) k) (ordW (madeN 7 ly) [y0, y1, y2, y3, y4, y5, y6])))) (rd_add rfl rfl (in_i64 (by omega) (by omega))) rfl ?_
      refine Wx.rd (v := .int .i64 (s + (gapsW (ix [] (madeF 7 10 ly mn [z0, z1, z2, z3, z4, z5, z6, z7, z8, z9]) k) (ordW (madeN 7 ly) [y0, y1, y2, y3, y4, y5, y6])))) (rd_assign rfl) rfl ?_
      refine Wx.nil ?_
      refine W.seq ?_
      refine W.reg ?_
      have hp : dateP (ix [] (madeF 7 10 ly mn [z0, z1, z2, z3, z4, z5, z6, z7, z8, z9]) k) 0 (ordW (madeN 7 ly) [y0, y1, y2, y3, y4, y5, y6]) (madeN 7 ly, -1) = (u, v) := by rw [← g2, drop_end (by omega)]; rfl
      have e1 : (ix (0, 0) (datesL (madeN 7 ly) (madeF 7 10 ly mn [z0, z1, z2, z3, z4, z5, z6, z7, z8, z9]) (ordW (madeN 7 ly) [y0, y1, y2, y3, y4, y5, y6])) k).1 = u := by rw [hkb, hp]
      have e2 : (ix (0, 0) (datesL (madeN 7 ly) (madeF 7 10 ly mn [z0, z1, z2, z3, z4, z5, z6, z7, z8, z9]) (ordW (madeN 7 ly) [y0, y1, y2, y3, y4, y5, y6])) k).2 = v := by rw [hkb, hp]
      have e3 : gapsW (ix [] (madeF 7 10 ly mn [z0, z1, z2, z3, z4, z5, z6, z7, z8, z9]) k) (ordW (madeN 7 ly) [y0, y1, y2, y3, y4, y5, y6]) = 0 ↔ ((ix [] (madeF 7 10 ly mn [z0, z1, z2, z3, z4, z5, z6, z7, z8, z9]) k).length : Int) = v - u + 1 := by rw [hkc, hp]
      refine Wx.rd (v := v_43) (rd_move rfl) rfl ?_
      refine Wx.rd (v := .int .i64 k) (rd_move rfl) rfl ?_
      refine Wx.indexR hS 1 rfl rfl rfl Try.underlying36 Try.sizeOf61 (by first | omega | (simp only [List.length_set, List.length_append, List.length_cons, List.length_nil, List.length_replicate]; omega)) (by first | omega | (simp only [List.length_set, List.length_append, List.length_cons, List.length_nil, List.length_replicate]; omega)) rfl (fun g_80 hg_81 => ?_)
      refine Wx.ex (rd_loadR' (0, 0) hS 1 rfl hg_81 rfl (by first | omega | (simp only [List.length_set, List.length_append, List.length_cons, List.length_nil, List.length_replicate]; omega)) (by first | omega | (simp only [List.length_set, List.length_append, List.length_cons, List.length_nil, List.length_replicate]; omega)) Try.isAgg61 Try.sizeOf61) rfl (fun v_82 hv_83 => ?_)
      obtain ⟨rfl, bd_84, bd_85⟩ := hv_83.i2
      have bd_84 := bd_i64 bd_84
      have bd_85 := bd_i64 bd_85
      refine Wx.rd (v := .int .i64 u) (rd_move rfl) rfl ?_
      refine Wx.rd (v := .int .i64 v) (rd_move rfl) rfl ?_
      refine Wx.rd (v := .agg #[.int .i64 u, .int .i64 v]) (rd_build (vs := [(0, .int .i64 u), (1, .int .i64 v)]) rfl (by kernel_rfl)) rfl ?_
      refine Wx.rd (v := .bool (!(decide ((ix (0, 0) (datesL (madeN 7 ly) (madeF 7 10 ly mn [z0, z1, z2, z3, z4, z5, z6, z7, z8, z9]) (ordW (madeN 7 ly) [y0, y1, y2, y3, y4, y5, y6])) k).1 = u) && decide ((ix (0, 0) (datesL (madeN 7 ly) (madeF 7 10 ly mn [z0, z1, z2, z3, z4, z5, z6, z7, z8, z9]) (ordW (madeN 7 ly) [y0, y1, y2, y3, y4, y5, y6])) k).2 = v)))) (rd_neqA2 rfl rfl Try.underlying61 Try.underlying3 Try.sizeOf3 Try.eqGuardType61) rfl ?_
      refine Wx.rd (v := .bool (!(decide ((ix (0, 0) (datesL (madeN 7 ly) (madeF 7 10 ly mn [z0, z1, z2, z3, z4, z5, z6, z7, z8, z9]) (ordW (madeN 7 ly) [y0, y1, y2, y3, y4, y5, y6])) k).1 = u) && decide ((ix (0, 0) (datesL (madeN 7 ly) (madeF 7 10 ly mn [z0, z1, z2, z3, z4, z5, z6, z7, z8, z9]) (ordW (madeN 7 ly) [y0, y1, y2, y3, y4, y5, y6])) k).2 = v)))) (rd_move rfl) rfl ?_
      refine Wx.cut (X := Unit) 11 [113, 114, 115, 116, 117, 118, 119, 120, 121, 122, 123] (fun _ => [(123, .bool (!(decide ((ix (0, 0) (datesL (madeN 7 ly) (madeF 7 10 ly mn [z0, z1, z2, z3, z4, z5, z6, z7, z8, z9]) (ordW (madeN 7 ly) [y0, y1, y2, y3, y4, y5, y6])) k).1 = u) && decide ((ix (0, 0) (datesL (madeN 7 ly) (madeF 7 10 ly mn [z0, z1, z2, z3, z4, z5, z6, z7, z8, z9]) (ordW (madeN 7 ly) [y0, y1, y2, y3, y4, y5, y6])) k).2 = v)) || !((decide ((gapsW (ix [] (madeF 7 10 ly mn [z0, z1, z2, z3, z4, z5, z6, z7, z8, z9]) k) (ordW (madeN 7 ly) [y0, y1, y2, y3, y4, y5, y6])) = 0)) == (decide (((ix [] (madeF 7 10 ly mn [z0, z1, z2, z3, z4, z5, z6, z7, z8, z9]) k).length : Int) = ((v - u) + 1))))))]) (fun _ w' => St w [] w' [Ob.v (tSl (tI .i64)) (ix [] (madeF 7 10 ly mn [z0, z1, z2, z3, z4, z5, z6, z7, z8, z9]) k) v_65, .row (tP (tI .i64) (tI .i64)) 61 v_43 (datesL (madeN 7 ly) (madeF 7 10 ly mn [z0, z1, z2, z3, z4, z5, z6, z7, z8, z9]) (ordW (madeN 7 ly) [y0, y1, y2, y3, y4, y5, y6])), .row (tI .i64) 3 r_27 (List.reverse (ordW (madeN 7 ly) [y0, y1, y2, y3, y4, y5, y6])), .row (tI .i64) 3 r_22 (ordW (madeN 7 ly) [y0, y1, y2, y3, y4, y5, y6]), .box g_16 24 [.int .i64 (madeN 7 ly), v_12], Ob.v (tSl (tSl (tI .i64))) (madeF 7 10 ly mn [z0, z1, z2, z3, z4, z5, z6, z7, z8, z9]) v_12, .box g_5 78 [.int .u8 y0, .int .u8 y1, .int .u8 y2, .int .u8 y3, .int .u8 y4, .int .u8 y5, .int .u8 y6], .box g_1 64 [.int .u8 ly, .int .u8 mn, .int .u8 z0, .int .u8 z1, .int .u8 z2, .int .u8 z3, .int .u8 z4, .int .u8 z5, .int .u8 z6, .int .u8 z7, .int .u8 z8, .int .u8 z9]]) ?_ ?_
      · rcases Bool.eq_false_or_eq_true (!(decide ((ix (0, 0) (datesL (madeN 7 ly) (madeF 7 10 ly mn [z0, z1, z2, z3, z4, z5, z6, z7, z8, z9]) (ordW (madeN 7 ly) [y0, y1, y2, y3, y4, y5, y6])) k).1 = u) && decide ((ix (0, 0) (datesL (madeN 7 ly) (madeF 7 10 ly mn [z0, z1, z2, z3, z4, z5, z6, z7, z8, z9]) (ordW (madeN 7 ly) [y0, y1, y2, y3, y4, y5, y6])) k).2 = v))) with g_86 | g_86
        · -- True
          have gp_87 := g_86
          try simp only [Bool.and_eq_true, Bool.or_eq_true, Bool.not_eq_true', Bool.and_eq_false_iff, Bool.or_eq_false_iff, Bool.not_eq_false', decide_eq_true_eq, decide_eq_false_iff_not, not_or, Bool.false_eq_true, Bool.true_eq_false, false_or, or_false, not_false_eq_true] at gp_87
          refine Wx.gnoB rfl rfl (congrArg Value.bool g_86) rfl rfl ?_
          refine Wx.gnoB rfl rfl (congrArg Value.bool g_86) rfl rfl ?_
          refine Wx.gnoB rfl rfl (congrArg Value.bool g_86) rfl rfl ?_
          refine Wx.gnoB rfl rfl (congrArg Value.bool g_86) rfl rfl ?_
          refine Wx.gnoB rfl rfl (congrArg Value.bool g_86) rfl rfl ?_
          refine Wx.gnoB rfl rfl (congrArg Value.bool g_86) rfl rfl ?_
          refine Wx.gnoB rfl rfl (congrArg Value.bool g_86) rfl rfl ?_
          refine Wx.gnoB rfl rfl (congrArg Value.bool g_86) rfl rfl ?_
          refine Wx.gnoB rfl rfl (congrArg Value.bool g_86) rfl rfl ?_
          refine Wx.gnoB rfl rfl (congrArg Value.bool g_86) rfl rfl ?_
          refine Wx.rd (v := .bool true) (rd_pickT (congrArg Value.bool g_86) rfl) rfl ?_
          refine Wx.nil ⟨(), hS, ⟨?_, trivial⟩, Out.look rfl Out.refl⟩
          show Value.bool true = Value.bool (!(decide ((ix (0, 0) (datesL (madeN 7 ly) (madeF 7 10 ly mn [z0, z1, z2, z3, z4, z5, z6, z7, z8, z9]) (ordW (madeN 7 ly) [y0, y1, y2, y3, y4, y5, y6])) k).1 = u) && decide ((ix (0, 0) (datesL (madeN 7 ly) (madeF 7 10 ly mn [z0, z1, z2, z3, z4, z5, z6, z7, z8, z9]) (ordW (madeN 7 ly) [y0, y1, y2, y3, y4, y5, y6])) k).2 = v)) || !((decide ((gapsW (ix [] (madeF 7 10 ly mn [z0, z1, z2, z3, z4, z5, z6, z7, z8, z9]) k) (ordW (madeN 7 ly) [y0, y1, y2, y3, y4, y5, y6])) = 0)) == (decide (((ix [] (madeF 7 10 ly mn [z0, z1, z2, z3, z4, z5, z6, z7, z8, z9]) k).length : Int) = ((v - u) + 1)))))
          rw [g_86]; rfl
        · -- False
          have gp_88 := g_86
          try simp only [Bool.and_eq_true, Bool.or_eq_true, Bool.not_eq_true', Bool.and_eq_false_iff, Bool.or_eq_false_iff, Bool.not_eq_false', decide_eq_true_eq, decide_eq_false_iff_not, not_or, Bool.false_eq_true, Bool.true_eq_false, false_or, or_false, not_false_eq_true] at gp_88
          refine Wx.gyes rfl rfl (congrArg Value.bool g_86) ?_
          refine Wx.rd (v := .int .i64 (gapsW (ix [] (madeF 7 10 ly mn [z0, z1, z2, z3, z4, z5, z6, z7, z8, z9]) k) (ordW (madeN 7 ly) [y0, y1, y2, y3, y4, y5, y6]))) (rd_move rfl) rfl ?_
          refine Wx.gyes rfl rfl (congrArg Value.bool g_86) ?_
          refine Wx.rd (v := .bool (decide ((gapsW (ix [] (madeF 7 10 ly mn [z0, z1, z2, z3, z4, z5, z6, z7, z8, z9]) k) (ordW (madeN 7 ly) [y0, y1, y2, y3, y4, y5, y6])) = 0))) (rd_eql rfl rfl) rfl ?_
          refine Wx.gyes rfl rfl (congrArg Value.bool g_86) ?_
          refine Wx.rd (v := v_65) (rd_move rfl) rfl ?_
          refine Wx.gyes rfl rfl (congrArg Value.bool g_86) ?_
          refine Wx.rd (v := .int .i64 ((ix [] (madeF 7 10 ly mn [z0, z1, z2, z3, z4, z5, z6, z7, z8, z9]) k).length : Int)) (rd_lenV rfl (hS.v 0 rfl) Try.underlying28) rfl ?_
          refine Wx.gyes rfl rfl (congrArg Value.bool g_86) ?_
          refine Wx.rd (v := .int .i64 v) (rd_move rfl) rfl ?_
          refine Wx.gyes rfl rfl (congrArg Value.bool g_86) ?_
          refine Wx.rd (v := .int .i64 u) (rd_move rfl) rfl ?_
          refine Wx.gyes rfl rfl (congrArg Value.bool g_86) ?_
          refine Wx.rd (v := .int .i64 (v - u)) (rd_sub rfl rfl (in_i64 (by omega) (by omega))) rfl ?_
          refine Wx.gyes rfl rfl (congrArg Value.bool g_86) ?_
          refine Wx.rd (v := .int .i64 ((v - u) + 1)) (rd_add rfl rfl (in_i64 (by omega) (by omega))) rfl ?_
          refine Wx.gyes rfl rfl (congrArg Value.bool g_86) ?_
          refine Wx.rd (v := .bool (decide (((ix [] (madeF 7 10 ly mn [z0, z1, z2, z3, z4, z5, z6, z7, z8, z9]) k).length : Int) = ((v - u) + 1)))) (rd_eql rfl rfl) rfl ?_
          refine Wx.gyes rfl rfl (congrArg Value.bool g_86) ?_
          refine Wx.rd (v := .bool (!((decide ((gapsW (ix [] (madeF 7 10 ly mn [z0, z1, z2, z3, z4, z5, z6, z7, z8, z9]) k) (ordW (madeN 7 ly) [y0, y1, y2, y3, y4, y5, y6])) = 0)) == (decide (((ix [] (madeF 7 10 ly mn [z0, z1, z2, z3, z4, z5, z6, z7, z8, z9]) k).length : Int) = ((v - u) + 1)))))) (rd_neqB rfl rfl Try.underlying4) rfl ?_
          refine Wx.rd (v := .bool (!((decide ((gapsW (ix [] (madeF 7 10 ly mn [z0, z1, z2, z3, z4, z5, z6, z7, z8, z9]) k) (ordW (madeN 7 ly) [y0, y1, y2, y3, y4, y5, y6])) = 0)) == (decide (((ix [] (madeF 7 10 ly mn [z0, z1, z2, z3, z4, z5, z6, z7, z8, z9]) k).length : Int) = ((v - u) + 1)))))) (rd_pickF (congrArg Value.bool g_86) rfl) rfl ?_
          refine Wx.nil ⟨(), hS, ⟨?_, trivial⟩, Out.look rfl Out.refl⟩
          show Value.bool (!((decide ((gapsW (ix [] (madeF 7 10 ly mn [z0, z1, z2, z3, z4, z5, z6, z7, z8, z9]) k) (ordW (madeN 7 ly) [y0, y1, y2, y3, y4, y5, y6])) = 0)) == (decide (((ix [] (madeF 7 10 ly mn [z0, z1, z2, z3, z4, z5, z6, z7, z8, z9]) k).length : Int) = ((v - u) + 1))))) = Value.bool (!(decide ((ix (0, 0) (datesL (madeN 7 ly) (madeF 7 10 ly mn [z0, z1, z2, z3, z4, z5, z6, z7, z8, z9]) (ordW (madeN 7 ly) [y0, y1, y2, y3, y4, y5, y6])) k).1 = u) && decide ((ix (0, 0) (datesL (madeN 7 ly) (madeF 7 10 ly mn [z0, z1, z2, z3, z4, z5, z6, z7, z8, z9]) (ordW (madeN 7 ly) [y0, y1, y2, y3, y4, y5, y6])) k).2 = v)) || !((decide ((gapsW (ix [] (madeF 7 10 ly mn [z0, z1, z2, z3, z4, z5, z6, z7, z8, z9]) k) (ordW (madeN 7 ly) [y0, y1, y2, y3, y4, y5, y6])) = 0)) == (decide (((ix [] (madeF 7 10 ly mn [z0, z1, z2, z3, z4, z5, z6, z7, z8, z9]) k).length : Int) = ((v - u) + 1)))))
          rw [g_86]; rfl
      rintro ⟨⟩ u_90 w_89 hS
      refine Wx.nil ?_
      refine W.condF rfl (by simp [e1, e2, e3]) ?_
      refine W.skip ?_
      refine W.reg ?_
      refine Wx.rd (v := .int .i64 (k + 1)) (rd_add rfl rfl (in_i64 (by omega) (by omega))) rfl ?_
      refine Wx.rd (v := .int .i64 (k + 1)) (rd_move rfl) rfl ?_
      refine Wx.nil ?_
      refine ⟨(s + (gapsW (ix [] (madeF 7 10 ly mn [z0, z1, z2, z3, z4, z5, z6, z7, z8, z9]) k) (ordW (madeN 7 ly) [y0, y1, y2, y3, y4, y5, y6])), k + 1), (by show ((madeF 7 10 ly mn [z0, z1, z2, z3, z4, z5, z6, z7, z8, z9]).length - (k + 1)).toNat < ((madeF 7 10 ly mn [z0, z1, z2, z3, z4, z5, z6, z7, z8, z9]).length - k).toNat; omega), ?_, ?_, Out.look rfl (Out.hav rfl (Out.look rfl (Out.hav rfl (Out.look rfl Out.self))))⟩
      · exact ⟨hS.tl, (by first | omega | assumption), (by first | omega | assumption), (by rw [← h2, drop_ix (d := []) h0 c1, List.map_cons, List.sum_cons]; omega), (by first | omega | assumption), (by first | omega | assumption)⟩
      · exact ⟨rfl, rfl, trivial⟩
  · -- no
    refine W.exit rfl ?_
    refine W.seq ?_
    refine W.reg ?_
    have hsum : s = gapsE (madeN 7 ly) (madeF 7 10 ly mn [z0, z1, z2, z3, z4, z5, z6, z7, z8, z9]) (ordW (madeN 7 ly) [y0, y1, y2, y3, y4, y5, y6]) := by rw [← h2, drop_end (by omega)]; simp
    refine Wx.rd (v := .agg #[.int .i64 (madeN 7 ly), v_12]) (rd_loadXs (ds := [.int .i64 (madeN 7 ly), v_12]) hS 3 rfl rfl rfl rfl Try.isAgg24 Try.sizeOf24) rfl ?_
    refine Wx.rd (v := r_27) (rd_move rfl) rfl ?_
    refine Wx.callF (run_callF Try.call30 rfl) (F30 (in_i64 (by omega) (by omega)) (hS.v 4 rfl) (hS.lend 1 rfl)) rfl ?_
    rintro r_91 w_92 hx_93 rfl
    have hS := hS.ext hx_93
    refine Wx.rd (v := .tuple #[.bool (decide (shownE (madeN 7 ly) (madeF 7 10 ly mn [z0, z1, z2, z3, z4, z5, z6, z7, z8, z9]) (List.reverse (ordW (madeN 7 ly) [y0, y1, y2, y3, y4, y5, y6])) = 0) && decide (gapsE (madeN 7 ly) (madeF 7 10 ly mn [z0, z1, z2, z3, z4, z5, z6, z7, z8, z9]) (List.reverse (ordW (madeN 7 ly) [y0, y1, y2, y3, y4, y5, y6])) = 0)), .int .i64 (shownE (madeN 7 ly) (madeF 7 10 ly mn [z0, z1, z2, z3, z4, z5, z6, z7, z8, z9]) (List.reverse (ordW (madeN 7 ly) [y0, y1, y2, y3, y4, y5, y6])))]) (rd_move rfl) rfl ?_
    refine Wx.rd (v := .bool (decide (shownE (madeN 7 ly) (madeF 7 10 ly mn [z0, z1, z2, z3, z4, z5, z6, z7, z8, z9]) (List.reverse (ordW (madeN 7 ly) [y0, y1, y2, y3, y4, y5, y6])) = 0) && decide (gapsE (madeN 7 ly) (madeF 7 10 ly mn [z0, z1, z2, z3, z4, z5, z6, z7, z8, z9]) (List.reverse (ordW (madeN 7 ly) [y0, y1, y2, y3, y4, y5, y6])) = 0))) (rd_extract rfl rfl) rfl ?_
    refine Wx.rd (v := .int .i64 (shownE (madeN 7 ly) (madeF 7 10 ly mn [z0, z1, z2, z3, z4, z5, z6, z7, z8, z9]) (List.reverse (ordW (madeN 7 ly) [y0, y1, y2, y3, y4, y5, y6])))) (rd_extract rfl rfl) rfl ?_
    refine Wx.rd (v := .bool (decide (shownE (madeN 7 ly) (madeF 7 10 ly mn [z0, z1, z2, z3, z4, z5, z6, z7, z8, z9]) (List.reverse (ordW (madeN 7 ly) [y0, y1, y2, y3, y4, y5, y6])) = 0) && decide (gapsE (madeN 7 ly) (madeF 7 10 ly mn [z0, z1, z2, z3, z4, z5, z6, z7, z8, z9]) (List.reverse (ordW (madeN 7 ly) [y0, y1, y2, y3, y4, y5, y6])) = 0))) (rd_assign rfl) rfl ?_
    refine Wx.rd (v := .int .i64 (shownE (madeN 7 ly) (madeF 7 10 ly mn [z0, z1, z2, z3, z4, z5, z6, z7, z8, z9]) (List.reverse (ordW (madeN 7 ly) [y0, y1, y2, y3, y4, y5, y6])))) (rd_assign rfl) rfl ?_
    refine Wx.nil ?_
    refine W.seq ?_
    refine W.reg ?_
    refine Wx.rd (v := .agg #[.int .i64 (madeN 7 ly), v_12]) (rd_loadXs (ds := [.int .i64 (madeN 7 ly), v_12]) hS 3 rfl rfl rfl rfl Try.isAgg24 Try.sizeOf24) rfl ?_
    refine Wx.rd (v := r_27) (rd_move rfl) rfl ?_
    refine Wx.callF (run_callF Try.call32 rfl) (F32 (in_i64 (by omega) (by omega)) (hS.v 4 rfl) (hS.lend 1 rfl)) rfl ?_
    rintro r_94 w_95 hx_96 rfl
    have hS := hS.ext hx_96
    refine Wx.rd (v := .tuple #[.int .i64 (gapsE (madeN 7 ly) (madeF 7 10 ly mn [z0, z1, z2, z3, z4, z5, z6, z7, z8, z9]) (List.reverse (ordW (madeN 7 ly) [y0, y1, y2, y3, y4, y5, y6]))), .int .i64 (shownE (madeN 7 ly) (madeF 7 10 ly mn [z0, z1, z2, z3, z4, z5, z6, z7, z8, z9]) (List.reverse (ordW (madeN 7 ly) [y0, y1, y2, y3, y4, y5, y6])))]) (rd_move rfl) rfl ?_
    refine Wx.rd (v := .int .i64 (gapsE (madeN 7 ly) (madeF 7 10 ly mn [z0, z1, z2, z3, z4, z5, z6, z7, z8, z9]) (List.reverse (ordW (madeN 7 ly) [y0, y1, y2, y3, y4, y5, y6])))) (rd_extract rfl rfl) rfl ?_
    refine Wx.rd (v := .int .i64 (shownE (madeN 7 ly) (madeF 7 10 ly mn [z0, z1, z2, z3, z4, z5, z6, z7, z8, z9]) (List.reverse (ordW (madeN 7 ly) [y0, y1, y2, y3, y4, y5, y6])))) (rd_extract rfl rfl) rfl ?_
    refine Wx.rd (v := .int .i64 (gapsE (madeN 7 ly) (madeF 7 10 ly mn [z0, z1, z2, z3, z4, z5, z6, z7, z8, z9]) (List.reverse (ordW (madeN 7 ly) [y0, y1, y2, y3, y4, y5, y6])))) (rd_assign rfl) rfl ?_
    refine Wx.rd (v := .int .i64 (shownE (madeN 7 ly) (madeF 7 10 ly mn [z0, z1, z2, z3, z4, z5, z6, z7, z8, z9]) (List.reverse (ordW (madeN 7 ly) [y0, y1, y2, y3, y4, y5, y6])))) (rd_assign rfl) rfl ?_
    refine Wx.nil ?_
    refine W.seq ?_
    refine W.reg ?_
    refine Wx.rd (v := .agg #[.int .i64 (madeN 7 ly), v_12]) (rd_loadXs (ds := [.int .i64 (madeN 7 ly), v_12]) hS 3 rfl rfl rfl rfl Try.isAgg24 Try.sizeOf24) rfl ?_
    refine Wx.rd (v := r_27) (rd_move rfl) rfl ?_
    refine Wx.callF (run_callF Try.call34 rfl) (F34 (in_i64 (by omega) (by omega)) (hS.v 4 rfl) (hS.lend 1 rfl)) rfl ?_
    rintro r_97 w_98 hx_99 ⟨v_100, rfl, hv_101⟩
    have hS := hS.pushFr hx_99 hv_101
    refine Wx.rd (v := .tuple #[v_100, .int .i64 (shownE (madeN 7 ly) (madeF 7 10 ly mn [z0, z1, z2, z3, z4, z5, z6, z7, z8, z9]) (List.reverse (ordW (madeN 7 ly) [y0, y1, y2, y3, y4, y5, y6])))]) (rd_move rfl) rfl ?_
    refine Wx.rd (v := v_100) (rd_extract rfl rfl) rfl ?_
    refine Wx.rd (v := .int .i64 (shownE (madeN 7 ly) (madeF 7 10 ly mn [z0, z1, z2, z3, z4, z5, z6, z7, z8, z9]) (List.reverse (ordW (madeN 7 ly) [y0, y1, y2, y3, y4, y5, y6])))) (rd_extract rfl rfl) rfl ?_
    refine Wx.rd (v := v_100) (rd_assign rfl) rfl ?_
    refine Wx.rd (v := .int .i64 (shownE (madeN 7 ly) (madeF 7 10 ly mn [z0, z1, z2, z3, z4, z5, z6, z7, z8, z9]) (List.reverse (ordW (madeN 7 ly) [y0, y1, y2, y3, y4, y5, y6])))) (rd_assign rfl) rfl ?_
    refine Wx.nil ?_
    refine W.seq ?_
    refine W.seq ?_
    refine W.reg ?_
    refine Wx.rd (v := .int .i64 (shownE (madeN 7 ly) (madeF 7 10 ly mn [z0, z1, z2, z3, z4, z5, z6, z7, z8, z9]) (List.reverse (ordW (madeN 7 ly) [y0, y1, y2, y3, y4, y5, y6])))) (rd_move rfl) rfl ?_
    refine Wx.rd (v := .bool (decide ((shownE (madeN 7 ly) (madeF 7 10 ly mn [z0, z1, z2, z3, z4, z5, z6, z7, z8, z9]) (List.reverse (ordW (madeN 7 ly) [y0, y1, y2, y3, y4, y5, y6]))) ≠ 0))) (rd_neq rfl rfl) rfl ?_
    refine Wx.rd (v := .bool (decide ((shownE (madeN 7 ly) (madeF 7 10 ly mn [z0, z1, z2, z3, z4, z5, z6, z7, z8, z9]) (List.reverse (ordW (madeN 7 ly) [y0, y1, y2, y3, y4, y5, y6]))) ≠ 0))) (rd_move rfl) rfl ?_
    refine Wx.cut (X := Unit) 3 [146, 147, 148] (fun _ => [(148, .bool (decide ((shownE (madeN 7 ly) (madeF 7 10 ly mn [z0, z1, z2, z3, z4, z5, z6, z7, z8, z9]) (List.reverse (ordW (madeN 7 ly) [y0, y1, y2, y3, y4, y5, y6]))) ≠ 0) || decide ((shownE (madeN 7 ly) (madeF 7 10 ly mn [z0, z1, z2, z3, z4, z5, z6, z7, z8, z9]) (List.reverse (ordW (madeN 7 ly) [y0, y1, y2, y3, y4, y5, y6]))) ≠ 0)))]) (fun _ w' => St w [] w' [.row (tP (tI .i64) (tI .i64)) 61 v_100 (datesL (madeN 7 ly) (madeF 7 10 ly mn [z0, z1, z2, z3, z4, z5, z6, z7, z8, z9]) (List.reverse (ordW (madeN 7 ly) [y0, y1, y2, y3, y4, y5, y6]))), .row (tP (tI .i64) (tI .i64)) 61 v_43 (datesL (madeN 7 ly) (madeF 7 10 ly mn [z0, z1, z2, z3, z4, z5, z6, z7, z8, z9]) (ordW (madeN 7 ly) [y0, y1, y2, y3, y4, y5, y6])), .row (tI .i64) 3 r_27 (List.reverse (ordW (madeN 7 ly) [y0, y1, y2, y3, y4, y5, y6])), .row (tI .i64) 3 r_22 (ordW (madeN 7 ly) [y0, y1, y2, y3, y4, y5, y6]), .box g_16 24 [.int .i64 (madeN 7 ly), v_12], Ob.v (tSl (tSl (tI .i64))) (madeF 7 10 ly mn [z0, z1, z2, z3, z4, z5, z6, z7, z8, z9]) v_12, .box g_5 78 [.int .u8 y0, .int .u8 y1, .int .u8 y2, .int .u8 y3, .int .u8 y4, .int .u8 y5, .int .u8 y6], .box g_1 64 [.int .u8 ly, .int .u8 mn, .int .u8 z0, .int .u8 z1, .int .u8 z2, .int .u8 z3, .int .u8 z4, .int .u8 z5, .int .u8 z6, .int .u8 z7, .int .u8 z8, .int .u8 z9]]) ?_ ?_
    · rcases Bool.eq_false_or_eq_true (decide ((shownE (madeN 7 ly) (madeF 7 10 ly mn [z0, z1, z2, z3, z4, z5, z6, z7, z8, z9]) (List.reverse (ordW (madeN 7 ly) [y0, y1, y2, y3, y4, y5, y6]))) ≠ 0)) with g_103 | g_103
      · -- True
        have gp_104 := of_decide_eq_true g_103
        refine Wx.gnoB rfl rfl (congrArg Value.bool g_103) rfl rfl ?_
        refine Wx.gnoB rfl rfl (congrArg Value.bool g_103) rfl rfl ?_
        refine Wx.rd (v := .bool true) (rd_pickT (congrArg Value.bool g_103) rfl) rfl ?_
        refine Wx.nil ⟨(), hS, ⟨?_, trivial⟩, Out.look rfl Out.refl⟩
        show Value.bool true = Value.bool (decide ((shownE (madeN 7 ly) (madeF 7 10 ly mn [z0, z1, z2, z3, z4, z5, z6, z7, z8, z9]) (List.reverse (ordW (madeN 7 ly) [y0, y1, y2, y3, y4, y5, y6]))) ≠ 0) || decide ((shownE (madeN 7 ly) (madeF 7 10 ly mn [z0, z1, z2, z3, z4, z5, z6, z7, z8, z9]) (List.reverse (ordW (madeN 7 ly) [y0, y1, y2, y3, y4, y5, y6]))) ≠ 0))
        rw [g_103]; rfl
      · -- False
        have gp_105 := of_decide_eq_false g_103
        refine Wx.gyes rfl rfl (congrArg Value.bool g_103) ?_
        refine Wx.rd (v := .int .i64 (shownE (madeN 7 ly) (madeF 7 10 ly mn [z0, z1, z2, z3, z4, z5, z6, z7, z8, z9]) (List.reverse (ordW (madeN 7 ly) [y0, y1, y2, y3, y4, y5, y6])))) (rd_move rfl) rfl ?_
        refine Wx.gyes rfl rfl (congrArg Value.bool g_103) ?_
        refine Wx.rd (v := .bool (decide ((shownE (madeN 7 ly) (madeF 7 10 ly mn [z0, z1, z2, z3, z4, z5, z6, z7, z8, z9]) (List.reverse (ordW (madeN 7 ly) [y0, y1, y2, y3, y4, y5, y6]))) ≠ 0))) (rd_neq rfl rfl) rfl ?_
        refine Wx.rd (v := .bool (decide ((shownE (madeN 7 ly) (madeF 7 10 ly mn [z0, z1, z2, z3, z4, z5, z6, z7, z8, z9]) (List.reverse (ordW (madeN 7 ly) [y0, y1, y2, y3, y4, y5, y6]))) ≠ 0))) (rd_pickF (congrArg Value.bool g_103) rfl) rfl ?_
        refine Wx.nil ⟨(), hS, ⟨?_, trivial⟩, Out.look rfl Out.refl⟩
        show Value.bool (decide ((shownE (madeN 7 ly) (madeF 7 10 ly mn [z0, z1, z2, z3, z4, z5, z6, z7, z8, z9]) (List.reverse (ordW (madeN 7 ly) [y0, y1, y2, y3, y4, y5, y6]))) ≠ 0)) = Value.bool (decide ((shownE (madeN 7 ly) (madeF 7 10 ly mn [z0, z1, z2, z3, z4, z5, z6, z7, z8, z9]) (List.reverse (ordW (madeN 7 ly) [y0, y1, y2, y3, y4, y5, y6]))) ≠ 0) || decide ((shownE (madeN 7 ly) (madeF 7 10 ly mn [z0, z1, z2, z3, z4, z5, z6, z7, z8, z9]) (List.reverse (ordW (madeN 7 ly) [y0, y1, y2, y3, y4, y5, y6]))) ≠ 0))
        rw [g_103]; rfl
    rintro ⟨⟩ u_107 w_106 hS
    refine Wx.rd (v := .bool (decide ((shownE (madeN 7 ly) (madeF 7 10 ly mn [z0, z1, z2, z3, z4, z5, z6, z7, z8, z9]) (List.reverse (ordW (madeN 7 ly) [y0, y1, y2, y3, y4, y5, y6]))) ≠ 0) || decide ((shownE (madeN 7 ly) (madeF 7 10 ly mn [z0, z1, z2, z3, z4, z5, z6, z7, z8, z9]) (List.reverse (ordW (madeN 7 ly) [y0, y1, y2, y3, y4, y5, y6]))) ≠ 0))) (rd_move rfl) rfl ?_
    refine Wx.cut (X := Unit) 3 [150, 151, 152] (fun _ => [(152, .bool ((decide ((shownE (madeN 7 ly) (madeF 7 10 ly mn [z0, z1, z2, z3, z4, z5, z6, z7, z8, z9]) (List.reverse (ordW (madeN 7 ly) [y0, y1, y2, y3, y4, y5, y6]))) ≠ 0) || decide ((shownE (madeN 7 ly) (madeF 7 10 ly mn [z0, z1, z2, z3, z4, z5, z6, z7, z8, z9]) (List.reverse (ordW (madeN 7 ly) [y0, y1, y2, y3, y4, y5, y6]))) ≠ 0)) || decide ((shownE (madeN 7 ly) (madeF 7 10 ly mn [z0, z1, z2, z3, z4, z5, z6, z7, z8, z9]) (List.reverse (ordW (madeN 7 ly) [y0, y1, y2, y3, y4, y5, y6]))) ≠ 0)))]) (fun _ w' => St w [] w' [.row (tP (tI .i64) (tI .i64)) 61 v_100 (datesL (madeN 7 ly) (madeF 7 10 ly mn [z0, z1, z2, z3, z4, z5, z6, z7, z8, z9]) (List.reverse (ordW (madeN 7 ly) [y0, y1, y2, y3, y4, y5, y6]))), .row (tP (tI .i64) (tI .i64)) 61 v_43 (datesL (madeN 7 ly) (madeF 7 10 ly mn [z0, z1, z2, z3, z4, z5, z6, z7, z8, z9]) (ordW (madeN 7 ly) [y0, y1, y2, y3, y4, y5, y6])), .row (tI .i64) 3 r_27 (List.reverse (ordW (madeN 7 ly) [y0, y1, y2, y3, y4, y5, y6])), .row (tI .i64) 3 r_22 (ordW (madeN 7 ly) [y0, y1, y2, y3, y4, y5, y6]), .box g_16 24 [.int .i64 (madeN 7 ly), v_12], Ob.v (tSl (tSl (tI .i64))) (madeF 7 10 ly mn [z0, z1, z2, z3, z4, z5, z6, z7, z8, z9]) v_12, .box g_5 78 [.int .u8 y0, .int .u8 y1, .int .u8 y2, .int .u8 y3, .int .u8 y4, .int .u8 y5, .int .u8 y6], .box g_1 64 [.int .u8 ly, .int .u8 mn, .int .u8 z0, .int .u8 z1, .int .u8 z2, .int .u8 z3, .int .u8 z4, .int .u8 z5, .int .u8 z6, .int .u8 z7, .int .u8 z8, .int .u8 z9]]) ?_ ?_
    · rcases Bool.eq_false_or_eq_true (decide ((shownE (madeN 7 ly) (madeF 7 10 ly mn [z0, z1, z2, z3, z4, z5, z6, z7, z8, z9]) (List.reverse (ordW (madeN 7 ly) [y0, y1, y2, y3, y4, y5, y6]))) ≠ 0) || decide ((shownE (madeN 7 ly) (madeF 7 10 ly mn [z0, z1, z2, z3, z4, z5, z6, z7, z8, z9]) (List.reverse (ordW (madeN 7 ly) [y0, y1, y2, y3, y4, y5, y6]))) ≠ 0)) with g_108 | g_108
      · -- True
        have gp_109 := g_108
        try simp only [Bool.and_eq_true, Bool.or_eq_true, Bool.not_eq_true', Bool.and_eq_false_iff, Bool.or_eq_false_iff, Bool.not_eq_false', decide_eq_true_eq, decide_eq_false_iff_not, not_or, Bool.false_eq_true, Bool.true_eq_false, false_or, or_false, not_false_eq_true] at gp_109
        refine Wx.gnoB rfl rfl (congrArg Value.bool g_108) rfl rfl ?_
        refine Wx.gnoB rfl rfl (congrArg Value.bool g_108) rfl rfl ?_
        refine Wx.rd (v := .bool true) (rd_pickT (congrArg Value.bool g_108) rfl) rfl ?_
        refine Wx.nil ⟨(), hS, ⟨?_, trivial⟩, Out.look rfl Out.refl⟩
        show Value.bool true = Value.bool ((decide ((shownE (madeN 7 ly) (madeF 7 10 ly mn [z0, z1, z2, z3, z4, z5, z6, z7, z8, z9]) (List.reverse (ordW (madeN 7 ly) [y0, y1, y2, y3, y4, y5, y6]))) ≠ 0) || decide ((shownE (madeN 7 ly) (madeF 7 10 ly mn [z0, z1, z2, z3, z4, z5, z6, z7, z8, z9]) (List.reverse (ordW (madeN 7 ly) [y0, y1, y2, y3, y4, y5, y6]))) ≠ 0)) || decide ((shownE (madeN 7 ly) (madeF 7 10 ly mn [z0, z1, z2, z3, z4, z5, z6, z7, z8, z9]) (List.reverse (ordW (madeN 7 ly) [y0, y1, y2, y3, y4, y5, y6]))) ≠ 0))
        rw [g_108]; rfl
      · -- False
        have gp_110 := g_108
        try simp only [Bool.and_eq_true, Bool.or_eq_true, Bool.not_eq_true', Bool.and_eq_false_iff, Bool.or_eq_false_iff, Bool.not_eq_false', decide_eq_true_eq, decide_eq_false_iff_not, not_or, Bool.false_eq_true, Bool.true_eq_false, false_or, or_false, not_false_eq_true] at gp_110
        refine Wx.gyes rfl rfl (congrArg Value.bool g_108) ?_
        refine Wx.rd (v := .int .i64 (shownE (madeN 7 ly) (madeF 7 10 ly mn [z0, z1, z2, z3, z4, z5, z6, z7, z8, z9]) (List.reverse (ordW (madeN 7 ly) [y0, y1, y2, y3, y4, y5, y6])))) (rd_move rfl) rfl ?_
        refine Wx.gyes rfl rfl (congrArg Value.bool g_108) ?_
        refine Wx.rd (v := .bool (decide ((shownE (madeN 7 ly) (madeF 7 10 ly mn [z0, z1, z2, z3, z4, z5, z6, z7, z8, z9]) (List.reverse (ordW (madeN 7 ly) [y0, y1, y2, y3, y4, y5, y6]))) ≠ 0))) (rd_neq rfl rfl) rfl ?_
        refine Wx.rd (v := .bool (decide ((shownE (madeN 7 ly) (madeF 7 10 ly mn [z0, z1, z2, z3, z4, z5, z6, z7, z8, z9]) (List.reverse (ordW (madeN 7 ly) [y0, y1, y2, y3, y4, y5, y6]))) ≠ 0))) (rd_pickF (congrArg Value.bool g_108) rfl) rfl ?_
        refine Wx.nil ⟨(), hS, ⟨?_, trivial⟩, Out.look rfl Out.refl⟩
        show Value.bool (decide ((shownE (madeN 7 ly) (madeF 7 10 ly mn [z0, z1, z2, z3, z4, z5, z6, z7, z8, z9]) (List.reverse (ordW (madeN 7 ly) [y0, y1, y2, y3, y4, y5, y6]))) ≠ 0)) = Value.bool ((decide ((shownE (madeN 7 ly) (madeF 7 10 ly mn [z0, z1, z2, z3, z4, z5, z6, z7, z8, z9]) (List.reverse (ordW (madeN 7 ly) [y0, y1, y2, y3, y4, y5, y6]))) ≠ 0) || decide ((shownE (madeN 7 ly) (madeF 7 10 ly mn [z0, z1, z2, z3, z4, z5, z6, z7, z8, z9]) (List.reverse (ordW (madeN 7 ly) [y0, y1, y2, y3, y4, y5, y6]))) ≠ 0)) || decide ((shownE (madeN 7 ly) (madeF 7 10 ly mn [z0, z1, z2, z3, z4, z5, z6, z7, z8, z9]) (List.reverse (ordW (madeN 7 ly) [y0, y1, y2, y3, y4, y5, y6]))) ≠ 0))
        rw [g_108]; rfl
    rintro ⟨⟩ u_112 w_111 hS
    refine Wx.rd (v := .bool ((decide ((shownE (madeN 7 ly) (madeF 7 10 ly mn [z0, z1, z2, z3, z4, z5, z6, z7, z8, z9]) (List.reverse (ordW (madeN 7 ly) [y0, y1, y2, y3, y4, y5, y6]))) ≠ 0) || decide ((shownE (madeN 7 ly) (madeF 7 10 ly mn [z0, z1, z2, z3, z4, z5, z6, z7, z8, z9]) (List.reverse (ordW (madeN 7 ly) [y0, y1, y2, y3, y4, y5, y6]))) ≠ 0)) || decide ((shownE (madeN 7 ly) (madeF 7 10 ly mn [z0, z1, z2, z3, z4, z5, z6, z7, z8, z9]) (List.reverse (ordW (madeN 7 ly) [y0, y1, y2, y3, y4, y5, y6]))) ≠ 0))) (rd_move rfl) rfl ?_
    refine Wx.cut (X := Unit) 4 [154, 155, 156, 157] (fun _ => [(157, .bool (((decide ((shownE (madeN 7 ly) (madeF 7 10 ly mn [z0, z1, z2, z3, z4, z5, z6, z7, z8, z9]) (List.reverse (ordW (madeN 7 ly) [y0, y1, y2, y3, y4, y5, y6]))) ≠ 0) || decide ((shownE (madeN 7 ly) (madeF 7 10 ly mn [z0, z1, z2, z3, z4, z5, z6, z7, z8, z9]) (List.reverse (ordW (madeN 7 ly) [y0, y1, y2, y3, y4, y5, y6]))) ≠ 0)) || decide ((shownE (madeN 7 ly) (madeF 7 10 ly mn [z0, z1, z2, z3, z4, z5, z6, z7, z8, z9]) (List.reverse (ordW (madeN 7 ly) [y0, y1, y2, y3, y4, y5, y6]))) ≠ 0)) || decide ((gapsE (madeN 7 ly) (madeF 7 10 ly mn [z0, z1, z2, z3, z4, z5, z6, z7, z8, z9]) (ordW (madeN 7 ly) [y0, y1, y2, y3, y4, y5, y6])) ≠ s)))]) (fun _ w' => St w [] w' [.row (tP (tI .i64) (tI .i64)) 61 v_100 (datesL (madeN 7 ly) (madeF 7 10 ly mn [z0, z1, z2, z3, z4, z5, z6, z7, z8, z9]) (List.reverse (ordW (madeN 7 ly) [y0, y1, y2, y3, y4, y5, y6]))), .row (tP (tI .i64) (tI .i64)) 61 v_43 (datesL (madeN 7 ly) (madeF 7 10 ly mn [z0, z1, z2, z3, z4, z5, z6, z7, z8, z9]) (ordW (madeN 7 ly) [y0, y1, y2, y3, y4, y5, y6])), .row (tI .i64) 3 r_27 (List.reverse (ordW (madeN 7 ly) [y0, y1, y2, y3, y4, y5, y6])), .row (tI .i64) 3 r_22 (ordW (madeN 7 ly) [y0, y1, y2, y3, y4, y5, y6]), .box g_16 24 [.int .i64 (madeN 7 ly), v_12], Ob.v (tSl (tSl (tI .i64))) (madeF 7 10 ly mn [z0, z1, z2, z3, z4, z5, z6, z7, z8, z9]) v_12, .box g_5 78 [.int .u8 y0, .int .u8 y1, .int .u8 y2, .int .u8 y3, .int .u8 y4, .int .u8 y5, .int .u8 y6], .box g_1 64 [.int .u8 ly, .int .u8 mn, .int .u8 z0, .int .u8 z1, .int .u8 z2, .int .u8 z3, .int .u8 z4, .int .u8 z5, .int .u8 z6, .int .u8 z7, .int .u8 z8, .int .u8 z9]]) ?_ ?_
    · rcases Bool.eq_false_or_eq_true ((decide ((shownE (madeN 7 ly) (madeF 7 10 ly mn [z0, z1, z2, z3, z4, z5, z6, z7, z8, z9]) (List.reverse (ordW (madeN 7 ly) [y0, y1, y2, y3, y4, y5, y6]))) ≠ 0) || decide ((shownE (madeN 7 ly) (madeF 7 10 ly mn [z0, z1, z2, z3, z4, z5, z6, z7, z8, z9]) (List.reverse (ordW (madeN 7 ly) [y0, y1, y2, y3, y4, y5, y6]))) ≠ 0)) || decide ((shownE (madeN 7 ly) (madeF 7 10 ly mn [z0, z1, z2, z3, z4, z5, z6, z7, z8, z9]) (List.reverse (ordW (madeN 7 ly) [y0, y1, y2, y3, y4, y5, y6]))) ≠ 0)) with g_113 | g_113
      · -- True
        have gp_114 := g_113
        try simp only [Bool.and_eq_true, Bool.or_eq_true, Bool.not_eq_true', Bool.and_eq_false_iff, Bool.or_eq_false_iff, Bool.not_eq_false', decide_eq_true_eq, decide_eq_false_iff_not, not_or, Bool.false_eq_true, Bool.true_eq_false, false_or, or_false, not_false_eq_true] at gp_114
        refine Wx.gnoB rfl rfl (congrArg Value.bool g_113) rfl rfl ?_
        refine Wx.gnoB rfl rfl (congrArg Value.bool g_113) rfl rfl ?_
        refine Wx.gnoB rfl rfl (congrArg Value.bool g_113) rfl rfl ?_
        refine Wx.rd (v := .bool true) (rd_pickT (congrArg Value.bool g_113) rfl) rfl ?_
        refine Wx.nil ⟨(), hS, ⟨?_, trivial⟩, Out.look rfl Out.refl⟩
        show Value.bool true = Value.bool (((decide ((shownE (madeN 7 ly) (madeF 7 10 ly mn [z0, z1, z2, z3, z4, z5, z6, z7, z8, z9]) (List.reverse (ordW (madeN 7 ly) [y0, y1, y2, y3, y4, y5, y6]))) ≠ 0) || decide ((shownE (madeN 7 ly) (madeF 7 10 ly mn [z0, z1, z2, z3, z4, z5, z6, z7, z8, z9]) (List.reverse (ordW (madeN 7 ly) [y0, y1, y2, y3, y4, y5, y6]))) ≠ 0)) || decide ((shownE (madeN 7 ly) (madeF 7 10 ly mn [z0, z1, z2, z3, z4, z5, z6, z7, z8, z9]) (List.reverse (ordW (madeN 7 ly) [y0, y1, y2, y3, y4, y5, y6]))) ≠ 0)) || decide ((gapsE (madeN 7 ly) (madeF 7 10 ly mn [z0, z1, z2, z3, z4, z5, z6, z7, z8, z9]) (ordW (madeN 7 ly) [y0, y1, y2, y3, y4, y5, y6])) ≠ s))
        rw [g_113]; rfl
      · -- False
        have gp_115 := g_113
        try simp only [Bool.and_eq_true, Bool.or_eq_true, Bool.not_eq_true', Bool.and_eq_false_iff, Bool.or_eq_false_iff, Bool.not_eq_false', decide_eq_true_eq, decide_eq_false_iff_not, not_or, Bool.false_eq_true, Bool.true_eq_false, false_or, or_false, not_false_eq_true] at gp_115
        refine Wx.gyes rfl rfl (congrArg Value.bool g_113) ?_
        refine Wx.rd (v := .int .i64 (gapsE (madeN 7 ly) (madeF 7 10 ly mn [z0, z1, z2, z3, z4, z5, z6, z7, z8, z9]) (ordW (madeN 7 ly) [y0, y1, y2, y3, y4, y5, y6]))) (rd_move rfl) rfl ?_
        refine Wx.gyes rfl rfl (congrArg Value.bool g_113) ?_
        refine Wx.rd (v := .int .i64 s) (rd_move rfl) rfl ?_
        refine Wx.gyes rfl rfl (congrArg Value.bool g_113) ?_
        refine Wx.rd (v := .bool (decide ((gapsE (madeN 7 ly) (madeF 7 10 ly mn [z0, z1, z2, z3, z4, z5, z6, z7, z8, z9]) (ordW (madeN 7 ly) [y0, y1, y2, y3, y4, y5, y6])) ≠ s))) (rd_neq rfl rfl) rfl ?_
        refine Wx.rd (v := .bool (decide ((gapsE (madeN 7 ly) (madeF 7 10 ly mn [z0, z1, z2, z3, z4, z5, z6, z7, z8, z9]) (ordW (madeN 7 ly) [y0, y1, y2, y3, y4, y5, y6])) ≠ s))) (rd_pickF (congrArg Value.bool g_113) rfl) rfl ?_
        refine Wx.nil ⟨(), hS, ⟨?_, trivial⟩, Out.look rfl Out.refl⟩
        show Value.bool (decide ((gapsE (madeN 7 ly) (madeF 7 10 ly mn [z0, z1, z2, z3, z4, z5, z6, z7, z8, z9]) (ordW (madeN 7 ly) [y0, y1, y2, y3, y4, y5, y6])) ≠ s)) = Value.bool (((decide ((shownE (madeN 7 ly) (madeF 7 10 ly mn [z0, z1, z2, z3, z4, z5, z6, z7, z8, z9]) (List.reverse (ordW (madeN 7 ly) [y0, y1, y2, y3, y4, y5, y6]))) ≠ 0) || decide ((shownE (madeN 7 ly) (madeF 7 10 ly mn [z0, z1, z2, z3, z4, z5, z6, z7, z8, z9]) (List.reverse (ordW (madeN 7 ly) [y0, y1, y2, y3, y4, y5, y6]))) ≠ 0)) || decide ((shownE (madeN 7 ly) (madeF 7 10 ly mn [z0, z1, z2, z3, z4, z5, z6, z7, z8, z9]) (List.reverse (ordW (madeN 7 ly) [y0, y1, y2, y3, y4, y5, y6]))) ≠ 0)) || decide ((gapsE (madeN 7 ly) (madeF 7 10 ly mn [z0, z1, z2, z3, z4, z5, z6, z7, z8, z9]) (ordW (madeN 7 ly) [y0, y1, y2, y3, y4, y5, y6])) ≠ s))
        rw [g_113]; rfl
    rintro ⟨⟩ u_117 w_116 hS
    refine Wx.rd (v := .bool (((decide ((shownE (madeN 7 ly) (madeF 7 10 ly mn [z0, z1, z2, z3, z4, z5, z6, z7, z8, z9]) (List.reverse (ordW (madeN 7 ly) [y0, y1, y2, y3, y4, y5, y6]))) ≠ 0) || decide ((shownE (madeN 7 ly) (madeF 7 10 ly mn [z0, z1, z2, z3, z4, z5, z6, z7, z8, z9]) (List.reverse (ordW (madeN 7 ly) [y0, y1, y2, y3, y4, y5, y6]))) ≠ 0)) || decide ((shownE (madeN 7 ly) (madeF 7 10 ly mn [z0, z1, z2, z3, z4, z5, z6, z7, z8, z9]) (List.reverse (ordW (madeN 7 ly) [y0, y1, y2, y3, y4, y5, y6]))) ≠ 0)) || decide ((gapsE (madeN 7 ly) (madeF 7 10 ly mn [z0, z1, z2, z3, z4, z5, z6, z7, z8, z9]) (ordW (madeN 7 ly) [y0, y1, y2, y3, y4, y5, y6])) ≠ s))) (rd_move rfl) rfl ?_
    refine Wx.cut (X := Unit) 5 [159, 160, 161, 162, 163] (fun _ => [(163, .bool ((((decide ((shownE (madeN 7 ly) (madeF 7 10 ly mn [z0, z1, z2, z3, z4, z5, z6, z7, z8, z9]) (List.reverse (ordW (madeN 7 ly) [y0, y1, y2, y3, y4, y5, y6]))) ≠ 0) || decide ((shownE (madeN 7 ly) (madeF 7 10 ly mn [z0, z1, z2, z3, z4, z5, z6, z7, z8, z9]) (List.reverse (ordW (madeN 7 ly) [y0, y1, y2, y3, y4, y5, y6]))) ≠ 0)) || decide ((shownE (madeN 7 ly) (madeF 7 10 ly mn [z0, z1, z2, z3, z4, z5, z6, z7, z8, z9]) (List.reverse (ordW (madeN 7 ly) [y0, y1, y2, y3, y4, y5, y6]))) ≠ 0)) || decide ((gapsE (madeN 7 ly) (madeF 7 10 ly mn [z0, z1, z2, z3, z4, z5, z6, z7, z8, z9]) (ordW (madeN 7 ly) [y0, y1, y2, y3, y4, y5, y6])) ≠ s)) || !((decide (shownE (madeN 7 ly) (madeF 7 10 ly mn [z0, z1, z2, z3, z4, z5, z6, z7, z8, z9]) (ordW (madeN 7 ly) [y0, y1, y2, y3, y4, y5, y6]) = 0) && decide (gapsE (madeN 7 ly) (madeF 7 10 ly mn [z0, z1, z2, z3, z4, z5, z6, z7, z8, z9]) (ordW (madeN 7 ly) [y0, y1, y2, y3, y4, y5, y6]) = 0)) == (decide (s = 0)))))]) (fun _ w' => St w [] w' [.row (tP (tI .i64) (tI .i64)) 61 v_100 (datesL (madeN 7 ly) (madeF 7 10 ly mn [z0, z1, z2, z3, z4, z5, z6, z7, z8, z9]) (List.reverse (ordW (madeN 7 ly) [y0, y1, y2, y3, y4, y5, y6]))), .row (tP (tI .i64) (tI .i64)) 61 v_43 (datesL (madeN 7 ly) (madeF 7 10 ly mn [z0, z1, z2, z3, z4, z5, z6, z7, z8, z9]) (ordW (madeN 7 ly) [y0, y1, y2, y3, y4, y5, y6])), .row (tI .i64) 3 r_27 (List.reverse (ordW (madeN 7 ly) [y0, y1, y2, y3, y4, y5, y6])), .row (tI .i64) 3 r_22 (ordW (madeN 7 ly) [y0, y1, y2, y3, y4, y5, y6]), .box g_16 24 [.int .i64 (madeN 7 ly), v_12], Ob.v (tSl (tSl (tI .i64))) (madeF 7 10 ly mn [z0, z1, z2, z3, z4, z5, z6, z7, z8, z9]) v_12, .box g_5 78 [.int .u8 y0, .int .u8 y1, .int .u8 y2, .int .u8 y3, .int .u8 y4, .int .u8 y5, .int .u8 y6], .box g_1 64 [.int .u8 ly, .int .u8 mn, .int .u8 z0, .int .u8 z1, .int .u8 z2, .int .u8 z3, .int .u8 z4, .int .u8 z5, .int .u8 z6, .int .u8 z7, .int .u8 z8, .int .u8 z9]]) ?_ ?_
    · rcases Bool.eq_false_or_eq_true (((decide ((shownE (madeN 7 ly) (madeF 7 10 ly mn [z0, z1, z2, z3, z4, z5, z6, z7, z8, z9]) (List.reverse (ordW (madeN 7 ly) [y0, y1, y2, y3, y4, y5, y6]))) ≠ 0) || decide ((shownE (madeN 7 ly) (madeF 7 10 ly mn [z0, z1, z2, z3, z4, z5, z6, z7, z8, z9]) (List.reverse (ordW (madeN 7 ly) [y0, y1, y2, y3, y4, y5, y6]))) ≠ 0)) || decide ((shownE (madeN 7 ly) (madeF 7 10 ly mn [z0, z1, z2, z3, z4, z5, z6, z7, z8, z9]) (List.reverse (ordW (madeN 7 ly) [y0, y1, y2, y3, y4, y5, y6]))) ≠ 0)) || decide ((gapsE (madeN 7 ly) (madeF 7 10 ly mn [z0, z1, z2, z3, z4, z5, z6, z7, z8, z9]) (ordW (madeN 7 ly) [y0, y1, y2, y3, y4, y5, y6])) ≠ s)) with g_118 | g_118
      · -- True
        have gp_119 := g_118
        try simp only [Bool.and_eq_true, Bool.or_eq_true, Bool.not_eq_true', Bool.and_eq_false_iff, Bool.or_eq_false_iff, Bool.not_eq_false', decide_eq_true_eq, decide_eq_false_iff_not, not_or, Bool.false_eq_true, Bool.true_eq_false, false_or, or_false, not_false_eq_true] at gp_119
        refine Wx.gnoB rfl rfl (congrArg Value.bool g_118) rfl rfl ?_
        refine Wx.gnoB rfl rfl (congrArg Value.bool g_118) rfl rfl ?_
        refine Wx.gnoB rfl rfl (congrArg Value.bool g_118) rfl rfl ?_
        refine Wx.gnoB rfl rfl (congrArg Value.bool g_118) rfl rfl ?_
        refine Wx.rd (v := .bool true) (rd_pickT (congrArg Value.bool g_118) rfl) rfl ?_
        refine Wx.nil ⟨(), hS, ⟨?_, trivial⟩, Out.look rfl Out.refl⟩
        show Value.bool true = Value.bool ((((decide ((shownE (madeN 7 ly) (madeF 7 10 ly mn [z0, z1, z2, z3, z4, z5, z6, z7, z8, z9]) (List.reverse (ordW (madeN 7 ly) [y0, y1, y2, y3, y4, y5, y6]))) ≠ 0) || decide ((shownE (madeN 7 ly) (madeF 7 10 ly mn [z0, z1, z2, z3, z4, z5, z6, z7, z8, z9]) (List.reverse (ordW (madeN 7 ly) [y0, y1, y2, y3, y4, y5, y6]))) ≠ 0)) || decide ((shownE (madeN 7 ly) (madeF 7 10 ly mn [z0, z1, z2, z3, z4, z5, z6, z7, z8, z9]) (List.reverse (ordW (madeN 7 ly) [y0, y1, y2, y3, y4, y5, y6]))) ≠ 0)) || decide ((gapsE (madeN 7 ly) (madeF 7 10 ly mn [z0, z1, z2, z3, z4, z5, z6, z7, z8, z9]) (ordW (madeN 7 ly) [y0, y1, y2, y3, y4, y5, y6])) ≠ s)) || !((decide (shownE (madeN 7 ly) (madeF 7 10 ly mn [z0, z1, z2, z3, z4, z5, z6, z7, z8, z9]) (ordW (madeN 7 ly) [y0, y1, y2, y3, y4, y5, y6]) = 0) && decide (gapsE (madeN 7 ly) (madeF 7 10 ly mn [z0, z1, z2, z3, z4, z5, z6, z7, z8, z9]) (ordW (madeN 7 ly) [y0, y1, y2, y3, y4, y5, y6]) = 0)) == (decide (s = 0))))
        rw [g_118]; rfl
      · -- False
        have gp_120 := g_118
        try simp only [Bool.and_eq_true, Bool.or_eq_true, Bool.not_eq_true', Bool.and_eq_false_iff, Bool.or_eq_false_iff, Bool.not_eq_false', decide_eq_true_eq, decide_eq_false_iff_not, not_or, Bool.false_eq_true, Bool.true_eq_false, false_or, or_false, not_false_eq_true] at gp_120
        refine Wx.gyes rfl rfl (congrArg Value.bool g_118) ?_
        refine Wx.rd (v := .bool (decide (shownE (madeN 7 ly) (madeF 7 10 ly mn [z0, z1, z2, z3, z4, z5, z6, z7, z8, z9]) (ordW (madeN 7 ly) [y0, y1, y2, y3, y4, y5, y6]) = 0) && decide (gapsE (madeN 7 ly) (madeF 7 10 ly mn [z0, z1, z2, z3, z4, z5, z6, z7, z8, z9]) (ordW (madeN 7 ly) [y0, y1, y2, y3, y4, y5, y6]) = 0))) (rd_move rfl) rfl ?_
        refine Wx.gyes rfl rfl (congrArg Value.bool g_118) ?_
        refine Wx.rd (v := .int .i64 s) (rd_move rfl) rfl ?_
        refine Wx.gyes rfl rfl (congrArg Value.bool g_118) ?_
        refine Wx.rd (v := .bool (decide (s = 0))) (rd_eql rfl rfl) rfl ?_
        refine Wx.gyes rfl rfl (congrArg Value.bool g_118) ?_
        refine Wx.rd (v := .bool (!((decide (shownE (madeN 7 ly) (madeF 7 10 ly mn [z0, z1, z2, z3, z4, z5, z6, z7, z8, z9]) (ordW (madeN 7 ly) [y0, y1, y2, y3, y4, y5, y6]) = 0) && decide (gapsE (madeN 7 ly) (madeF 7 10 ly mn [z0, z1, z2, z3, z4, z5, z6, z7, z8, z9]) (ordW (madeN 7 ly) [y0, y1, y2, y3, y4, y5, y6]) = 0)) == (decide (s = 0))))) (rd_neqB rfl rfl Try.underlying4) rfl ?_
        refine Wx.rd (v := .bool (!((decide (shownE (madeN 7 ly) (madeF 7 10 ly mn [z0, z1, z2, z3, z4, z5, z6, z7, z8, z9]) (ordW (madeN 7 ly) [y0, y1, y2, y3, y4, y5, y6]) = 0) && decide (gapsE (madeN 7 ly) (madeF 7 10 ly mn [z0, z1, z2, z3, z4, z5, z6, z7, z8, z9]) (ordW (madeN 7 ly) [y0, y1, y2, y3, y4, y5, y6]) = 0)) == (decide (s = 0))))) (rd_pickF (congrArg Value.bool g_118) rfl) rfl ?_
        refine Wx.nil ⟨(), hS, ⟨?_, trivial⟩, Out.look rfl Out.refl⟩
        show Value.bool (!((decide (shownE (madeN 7 ly) (madeF 7 10 ly mn [z0, z1, z2, z3, z4, z5, z6, z7, z8, z9]) (ordW (madeN 7 ly) [y0, y1, y2, y3, y4, y5, y6]) = 0) && decide (gapsE (madeN 7 ly) (madeF 7 10 ly mn [z0, z1, z2, z3, z4, z5, z6, z7, z8, z9]) (ordW (madeN 7 ly) [y0, y1, y2, y3, y4, y5, y6]) = 0)) == (decide (s = 0)))) = Value.bool ((((decide ((shownE (madeN 7 ly) (madeF 7 10 ly mn [z0, z1, z2, z3, z4, z5, z6, z7, z8, z9]) (List.reverse (ordW (madeN 7 ly) [y0, y1, y2, y3, y4, y5, y6]))) ≠ 0) || decide ((shownE (madeN 7 ly) (madeF 7 10 ly mn [z0, z1, z2, z3, z4, z5, z6, z7, z8, z9]) (List.reverse (ordW (madeN 7 ly) [y0, y1, y2, y3, y4, y5, y6]))) ≠ 0)) || decide ((shownE (madeN 7 ly) (madeF 7 10 ly mn [z0, z1, z2, z3, z4, z5, z6, z7, z8, z9]) (List.reverse (ordW (madeN 7 ly) [y0, y1, y2, y3, y4, y5, y6]))) ≠ 0)) || decide ((gapsE (madeN 7 ly) (madeF 7 10 ly mn [z0, z1, z2, z3, z4, z5, z6, z7, z8, z9]) (ordW (madeN 7 ly) [y0, y1, y2, y3, y4, y5, y6])) ≠ s)) || !((decide (shownE (madeN 7 ly) (madeF 7 10 ly mn [z0, z1, z2, z3, z4, z5, z6, z7, z8, z9]) (ordW (madeN 7 ly) [y0, y1, y2, y3, y4, y5, y6]) = 0) && decide (gapsE (madeN 7 ly) (madeF 7 10 ly mn [z0, z1, z2, z3, z4, z5, z6, z7, z8, z9]) (ordW (madeN 7 ly) [y0, y1, y2, y3, y4, y5, y6]) = 0)) == (decide (s = 0))))
        rw [g_118]; rfl
    rintro ⟨⟩ u_122 w_121 hS
    refine Wx.rd (v := .bool ((((decide ((shownE (madeN 7 ly) (madeF 7 10 ly mn [z0, z1, z2, z3, z4, z5, z6, z7, z8, z9]) (List.reverse (ordW (madeN 7 ly) [y0, y1, y2, y3, y4, y5, y6]))) ≠ 0) || decide ((shownE (madeN 7 ly) (madeF 7 10 ly mn [z0, z1, z2, z3, z4, z5, z6, z7, z8, z9]) (List.reverse (ordW (madeN 7 ly) [y0, y1, y2, y3, y4, y5, y6]))) ≠ 0)) || decide ((shownE (madeN 7 ly) (madeF 7 10 ly mn [z0, z1, z2, z3, z4, z5, z6, z7, z8, z9]) (List.reverse (ordW (madeN 7 ly) [y0, y1, y2, y3, y4, y5, y6]))) ≠ 0)) || decide ((gapsE (madeN 7 ly) (madeF 7 10 ly mn [z0, z1, z2, z3, z4, z5, z6, z7, z8, z9]) (ordW (madeN 7 ly) [y0, y1, y2, y3, y4, y5, y6])) ≠ s)) || !((decide (shownE (madeN 7 ly) (madeF 7 10 ly mn [z0, z1, z2, z3, z4, z5, z6, z7, z8, z9]) (ordW (madeN 7 ly) [y0, y1, y2, y3, y4, y5, y6]) = 0) && decide (gapsE (madeN 7 ly) (madeF 7 10 ly mn [z0, z1, z2, z3, z4, z5, z6, z7, z8, z9]) (ordW (madeN 7 ly) [y0, y1, y2, y3, y4, y5, y6]) = 0)) == (decide (s = 0))))) (rd_move rfl) rfl ?_
    refine Wx.cut (X := Unit) 4 [165, 166, 167, 168] (fun _ => [(168, .bool (((((decide ((shownE (madeN 7 ly) (madeF 7 10 ly mn [z0, z1, z2, z3, z4, z5, z6, z7, z8, z9]) (List.reverse (ordW (madeN 7 ly) [y0, y1, y2, y3, y4, y5, y6]))) ≠ 0) || decide ((shownE (madeN 7 ly) (madeF 7 10 ly mn [z0, z1, z2, z3, z4, z5, z6, z7, z8, z9]) (List.reverse (ordW (madeN 7 ly) [y0, y1, y2, y3, y4, y5, y6]))) ≠ 0)) || decide ((shownE (madeN 7 ly) (madeF 7 10 ly mn [z0, z1, z2, z3, z4, z5, z6, z7, z8, z9]) (List.reverse (ordW (madeN 7 ly) [y0, y1, y2, y3, y4, y5, y6]))) ≠ 0)) || decide ((gapsE (madeN 7 ly) (madeF 7 10 ly mn [z0, z1, z2, z3, z4, z5, z6, z7, z8, z9]) (ordW (madeN 7 ly) [y0, y1, y2, y3, y4, y5, y6])) ≠ s)) || !((decide (shownE (madeN 7 ly) (madeF 7 10 ly mn [z0, z1, z2, z3, z4, z5, z6, z7, z8, z9]) (ordW (madeN 7 ly) [y0, y1, y2, y3, y4, y5, y6]) = 0) && decide (gapsE (madeN 7 ly) (madeF 7 10 ly mn [z0, z1, z2, z3, z4, z5, z6, z7, z8, z9]) (ordW (madeN 7 ly) [y0, y1, y2, y3, y4, y5, y6]) = 0)) == (decide (s = 0)))) || !((decide (shownE (madeN 7 ly) (madeF 7 10 ly mn [z0, z1, z2, z3, z4, z5, z6, z7, z8, z9]) (List.reverse (ordW (madeN 7 ly) [y0, y1, y2, y3, y4, y5, y6])) = 0) && decide (gapsE (madeN 7 ly) (madeF 7 10 ly mn [z0, z1, z2, z3, z4, z5, z6, z7, z8, z9]) (List.reverse (ordW (madeN 7 ly) [y0, y1, y2, y3, y4, y5, y6])) = 0)) == (decide (shownE (madeN 7 ly) (madeF 7 10 ly mn [z0, z1, z2, z3, z4, z5, z6, z7, z8, z9]) (ordW (madeN 7 ly) [y0, y1, y2, y3, y4, y5, y6]) = 0) && decide (gapsE (madeN 7 ly) (madeF 7 10 ly mn [z0, z1, z2, z3, z4, z5, z6, z7, z8, z9]) (ordW (madeN 7 ly) [y0, y1, y2, y3, y4, y5, y6]) = 0)))))]) (fun _ w' => St w [] w' [.row (tP (tI .i64) (tI .i64)) 61 v_100 (datesL (madeN 7 ly) (madeF 7 10 ly mn [z0, z1, z2, z3, z4, z5, z6, z7, z8, z9]) (List.reverse (ordW (madeN 7 ly) [y0, y1, y2, y3, y4, y5, y6]))), .row (tP (tI .i64) (tI .i64)) 61 v_43 (datesL (madeN 7 ly) (madeF 7 10 ly mn [z0, z1, z2, z3, z4, z5, z6, z7, z8, z9]) (ordW (madeN 7 ly) [y0, y1, y2, y3, y4, y5, y6])), .row (tI .i64) 3 r_27 (List.reverse (ordW (madeN 7 ly) [y0, y1, y2, y3, y4, y5, y6])), .row (tI .i64) 3 r_22 (ordW (madeN 7 ly) [y0, y1, y2, y3, y4, y5, y6]), .box g_16 24 [.int .i64 (madeN 7 ly), v_12], Ob.v (tSl (tSl (tI .i64))) (madeF 7 10 ly mn [z0, z1, z2, z3, z4, z5, z6, z7, z8, z9]) v_12, .box g_5 78 [.int .u8 y0, .int .u8 y1, .int .u8 y2, .int .u8 y3, .int .u8 y4, .int .u8 y5, .int .u8 y6], .box g_1 64 [.int .u8 ly, .int .u8 mn, .int .u8 z0, .int .u8 z1, .int .u8 z2, .int .u8 z3, .int .u8 z4, .int .u8 z5, .int .u8 z6, .int .u8 z7, .int .u8 z8, .int .u8 z9]]) ?_ ?_
    · rcases Bool.eq_false_or_eq_true ((((decide ((shownE (madeN 7 ly) (madeF 7 10 ly mn [z0, z1, z2, z3, z4, z5, z6, z7, z8, z9]) (List.reverse (ordW (madeN 7 ly) [y0, y1, y2, y3, y4, y5, y6]))) ≠ 0) || decide ((shownE (madeN 7 ly) (madeF 7 10 ly mn [z0, z1, z2, z3, z4, z5, z6, z7, z8, z9]) (List.reverse (ordW (madeN 7 ly) [y0, y1, y2, y3, y4, y5, y6]))) ≠ 0)) || decide ((shownE (madeN 7 ly) (madeF 7 10 ly mn [z0, z1, z2, z3, z4, z5, z6, z7, z8, z9]) (List.reverse (ordW (madeN 7 ly) [y0, y1, y2, y3, y4, y5, y6]))) ≠ 0)) || decide ((gapsE (madeN 7 ly) (madeF 7 10 ly mn [z0, z1, z2, z3, z4, z5, z6, z7, z8, z9]) (ordW (madeN 7 ly) [y0, y1, y2, y3, y4, y5, y6])) ≠ s)) || !((decide (shownE (madeN 7 ly) (madeF 7 10 ly mn [z0, z1, z2, z3, z4, z5, z6, z7, z8, z9]) (ordW (madeN 7 ly) [y0, y1, y2, y3, y4, y5, y6]) = 0) && decide (gapsE (madeN 7 ly) (madeF 7 10 ly mn [z0, z1, z2, z3, z4, z5, z6, z7, z8, z9]) (ordW (madeN 7 ly) [y0, y1, y2, y3, y4, y5, y6]) = 0)) == (decide (s = 0)))) with g_123 | g_123
      · -- True
        have gp_124 := g_123
        try simp only [Bool.and_eq_true, Bool.or_eq_true, Bool.not_eq_true', Bool.and_eq_false_iff, Bool.or_eq_false_iff, Bool.not_eq_false', decide_eq_true_eq, decide_eq_false_iff_not, not_or, Bool.false_eq_true, Bool.true_eq_false, false_or, or_false, not_false_eq_true] at gp_124
        refine Wx.gnoB rfl rfl (congrArg Value.bool g_123) rfl rfl ?_
        refine Wx.gnoB rfl rfl (congrArg Value.bool g_123) rfl rfl ?_
        refine Wx.gnoB rfl rfl (congrArg Value.bool g_123) rfl rfl ?_
        refine Wx.rd (v := .bool true) (rd_pickT (congrArg Value.bool g_123) rfl) rfl ?_
        refine Wx.nil ⟨(), hS, ⟨?_, trivial⟩, Out.look rfl Out.refl⟩
        show Value.bool true = Value.bool (((((decide ((shownE (madeN 7 ly) (madeF 7 10 ly mn [z0, z1, z2, z3, z4, z5, z6, z7, z8, z9]) (List.reverse (ordW (madeN 7 ly) [y0, y1, y2, y3, y4, y5, y6]))) ≠ 0) || decide ((shownE (madeN 7 ly) (madeF 7 10 ly mn [z0, z1, z2, z3, z4, z5, z6, z7, z8, z9]) (List.reverse (ordW (madeN 7 ly) [y0, y1, y2, y3, y4, y5, y6]))) ≠ 0)) || decide ((shownE (madeN 7 ly) (madeF 7 10 ly mn [z0, z1, z2, z3, z4, z5, z6, z7, z8, z9]) (List.reverse (ordW (madeN 7 ly) [y0, y1, y2, y3, y4, y5, y6]))) ≠ 0)) || decide ((gapsE (madeN 7 ly) (madeF 7 10 ly mn [z0, z1, z2, z3, z4, z5, z6, z7, z8, z9]) (ordW (madeN 7 ly) [y0, y1, y2, y3, y4, y5, y6])) ≠ s)) || !((decide (shownE (madeN 7 ly) (madeF 7 10 ly mn [z0, z1, z2, z3, z4, z5, z6, z7, z8, z9]) (ordW (madeN 7 ly) [y0, y1, y2, y3, y4, y5, y6]) = 0) && decide (gapsE (madeN 7 ly) (madeF 7 10 ly mn [z0, z1, z2, z3, z4, z5, z6, z7, z8, z9]) (ordW (madeN 7 ly) [y0, y1, y2, y3, y4, y5, y6]) = 0)) == (decide (s = 0)))) || !((decide (shownE (madeN 7 ly) (madeF 7 10 ly mn [z0, z1, z2, z3, z4, z5, z6, z7, z8, z9]) (List.reverse (ordW (madeN 7 ly) [y0, y1, y2, y3, y4, y5, y6])) = 0) && decide (gapsE (madeN 7 ly) (madeF 7 10 ly mn [z0, z1, z2, z3, z4, z5, z6, z7, z8, z9]) (List.reverse (ordW (madeN 7 ly) [y0, y1, y2, y3, y4, y5, y6])) = 0)) == (decide (shownE (madeN 7 ly) (madeF 7 10 ly mn [z0, z1, z2, z3, z4, z5, z6, z7, z8, z9]) (ordW (madeN 7 ly) [y0, y1, y2, y3, y4, y5, y6]) = 0) && decide (gapsE (madeN 7 ly) (madeF 7 10 ly mn [z0, z1, z2, z3, z4, z5, z6, z7, z8, z9]) (ordW (madeN 7 ly) [y0, y1, y2, y3, y4, y5, y6]) = 0))))
        rw [g_123]; rfl
      · -- False
        have gp_125 := g_123
        try simp only [Bool.and_eq_true, Bool.or_eq_true, Bool.not_eq_true', Bool.and_eq_false_iff, Bool.or_eq_false_iff, Bool.not_eq_false', decide_eq_true_eq, decide_eq_false_iff_not, not_or, Bool.false_eq_true, Bool.true_eq_false, false_or, or_false, not_false_eq_true] at gp_125
        refine Wx.gyes rfl rfl (congrArg Value.bool g_123) ?_
        refine Wx.rd (v := .bool (decide (shownE (madeN 7 ly) (madeF 7 10 ly mn [z0, z1, z2, z3, z4, z5, z6, z7, z8, z9]) (List.reverse (ordW (madeN 7 ly) [y0, y1, y2, y3, y4, y5, y6])) = 0) && decide (gapsE (madeN 7 ly) (madeF 7 10 ly mn [z0, z1, z2, z3, z4, z5, z6, z7, z8, z9]) (List.reverse (ordW (madeN 7 ly) [y0, y1, y2, y3, y4, y5, y6])) = 0))) (rd_move rfl) rfl ?_
        refine Wx.gyes rfl rfl (congrArg Value.bool g_123) ?_
        refine Wx.rd (v := .bool (decide (shownE (madeN 7 ly) (madeF 7 10 ly mn [z0, z1, z2, z3, z4, z5, z6, z7, z8, z9]) (ordW (madeN 7 ly) [y0, y1, y2, y3, y4, y5, y6]) = 0) && decide (gapsE (madeN 7 ly) (madeF 7 10 ly mn [z0, z1, z2, z3, z4, z5, z6, z7, z8, z9]) (ordW (madeN 7 ly) [y0, y1, y2, y3, y4, y5, y6]) = 0))) (rd_move rfl) rfl ?_
        refine Wx.gyes rfl rfl (congrArg Value.bool g_123) ?_
        refine Wx.rd (v := .bool (!((decide (shownE (madeN 7 ly) (madeF 7 10 ly mn [z0, z1, z2, z3, z4, z5, z6, z7, z8, z9]) (List.reverse (ordW (madeN 7 ly) [y0, y1, y2, y3, y4, y5, y6])) = 0) && decide (gapsE (madeN 7 ly) (madeF 7 10 ly mn [z0, z1, z2, z3, z4, z5, z6, z7, z8, z9]) (List.reverse (ordW (madeN 7 ly) [y0, y1, y2, y3, y4, y5, y6])) = 0)) == (decide (shownE (madeN 7 ly) (madeF 7 10 ly mn [z0, z1, z2, z3, z4, z5, z6, z7, z8, z9]) (ordW (madeN 7 ly) [y0, y1, y2, y3, y4, y5, y6]) = 0) && decide (gapsE (madeN 7 ly) (madeF 7 10 ly mn [z0, z1, z2, z3, z4, z5, z6, z7, z8, z9]) (ordW (madeN 7 ly) [y0, y1, y2, y3, y4, y5, y6]) = 0))))) (rd_neqB rfl rfl Try.underlying4) rfl ?_
        refine Wx.rd (v := .bool (!((decide (shownE (madeN 7 ly) (madeF 7 10 ly mn [z0, z1, z2, z3, z4, z5, z6, z7, z8, z9]) (List.reverse (ordW (madeN 7 ly) [y0, y1, y2, y3, y4, y5, y6])) = 0) && decide (gapsE (madeN 7 ly) (madeF 7 10 ly mn [z0, z1, z2, z3, z4, z5, z6, z7, z8, z9]) (List.reverse (ordW (madeN 7 ly) [y0, y1, y2, y3, y4, y5, y6])) = 0)) == (decide (shownE (madeN 7 ly) (madeF 7 10 ly mn [z0, z1, z2, z3, z4, z5, z6, z7, z8, z9]) (ordW (madeN 7 ly) [y0, y1, y2, y3, y4, y5, y6]) = 0) && decide (gapsE (madeN 7 ly) (madeF 7 10 ly mn [z0, z1, z2, z3, z4, z5, z6, z7, z8, z9]) (ordW (madeN 7 ly) [y0, y1, y2, y3, y4, y5, y6]) = 0))))) (rd_pickF (congrArg Value.bool g_123) rfl) rfl ?_
        refine Wx.nil ⟨(), hS, ⟨?_, trivial⟩, Out.look rfl Out.refl⟩
        show Value.bool (!((decide (shownE (madeN 7 ly) (madeF 7 10 ly mn [z0, z1, z2, z3, z4, z5, z6, z7, z8, z9]) (List.reverse (ordW (madeN 7 ly) [y0, y1, y2, y3, y4, y5, y6])) = 0) && decide (gapsE (madeN 7 ly) (madeF 7 10 ly mn [z0, z1, z2, z3, z4, z5, z6, z7, z8, z9]) (List.reverse (ordW (madeN 7 ly) [y0, y1, y2, y3, y4, y5, y6])) = 0)) == (decide (shownE (madeN 7 ly) (madeF 7 10 ly mn [z0, z1, z2, z3, z4, z5, z6, z7, z8, z9]) (ordW (madeN 7 ly) [y0, y1, y2, y3, y4, y5, y6]) = 0) && decide (gapsE (madeN 7 ly) (madeF 7 10 ly mn [z0, z1, z2, z3, z4, z5, z6, z7, z8, z9]) (ordW (madeN 7 ly) [y0, y1, y2, y3, y4, y5, y6]) = 0)))) = Value.bool (((((decide ((shownE (madeN 7 ly) (madeF 7 10 ly mn [z0, z1, z2, z3, z4, z5, z6, z7, z8, z9]) (List.reverse (ordW (madeN 7 ly) [y0, y1, y2, y3, y4, y5, y6]))) ≠ 0) || decide ((shownE (madeN 7 ly) (madeF 7 10 ly mn [z0, z1, z2, z3, z4, z5, z6, z7, z8, z9]) (List.reverse (ordW (madeN 7 ly) [y0, y1, y2, y3, y4, y5, y6]))) ≠ 0)) || decide ((shownE (madeN 7 ly) (madeF 7 10 ly mn [z0, z1, z2, z3, z4, z5, z6, z7, z8, z9]) (List.reverse (ordW (madeN 7 ly) [y0, y1, y2, y3, y4, y5, y6]))) ≠ 0)) || decide ((gapsE (madeN 7 ly) (madeF 7 10 ly mn [z0, z1, z2, z3, z4, z5, z6, z7, z8, z9]) (ordW (madeN 7 ly) [y0, y1, y2, y3, y4, y5, y6])) ≠ s)) || !((decide (shownE (madeN 7 ly) (madeF 7 10 ly mn [z0, z1, z2, z3, z4, z5, z6, z7, z8, z9]) (ordW (madeN 7 ly) [y0, y1, y2, y3, y4, y5, y6]) = 0) && decide (gapsE (madeN 7 ly) (madeF 7 10 ly mn [z0, z1, z2, z3, z4, z5, z6, z7, z8, z9]) (ordW (madeN 7 ly) [y0, y1, y2, y3, y4, y5, y6]) = 0)) == (decide (s = 0)))) || !((decide (shownE (madeN 7 ly) (madeF 7 10 ly mn [z0, z1, z2, z3, z4, z5, z6, z7, z8, z9]) (List.reverse (ordW (madeN 7 ly) [y0, y1, y2, y3, y4, y5, y6])) = 0) && decide (gapsE (madeN 7 ly) (madeF 7 10 ly mn [z0, z1, z2, z3, z4, z5, z6, z7, z8, z9]) (List.reverse (ordW (madeN 7 ly) [y0, y1, y2, y3, y4, y5, y6])) = 0)) == (decide (shownE (madeN 7 ly) (madeF 7 10 ly mn [z0, z1, z2, z3, z4, z5, z6, z7, z8, z9]) (ordW (madeN 7 ly) [y0, y1, y2, y3, y4, y5, y6]) = 0) && decide (gapsE (madeN 7 ly) (madeF 7 10 ly mn [z0, z1, z2, z3, z4, z5, z6, z7, z8, z9]) (ordW (madeN 7 ly) [y0, y1, y2, y3, y4, y5, y6]) = 0))))
        rw [g_123]; rfl
    rintro ⟨⟩ u_127 w_126 hS
    refine Wx.rd (v := .bool (((((decide ((shownE (madeN 7 ly) (madeF 7 10 ly mn [z0, z1, z2, z3, z4, z5, z6, z7, z8, z9]) (List.reverse (ordW (madeN 7 ly) [y0, y1, y2, y3, y4, y5, y6]))) ≠ 0) || decide ((shownE (madeN 7 ly) (madeF 7 10 ly mn [z0, z1, z2, z3, z4, z5, z6, z7, z8, z9]) (List.reverse (ordW (madeN 7 ly) [y0, y1, y2, y3, y4, y5, y6]))) ≠ 0)) || decide ((shownE (madeN 7 ly) (madeF 7 10 ly mn [z0, z1, z2, z3, z4, z5, z6, z7, z8, z9]) (List.reverse (ordW (madeN 7 ly) [y0, y1, y2, y3, y4, y5, y6]))) ≠ 0)) || decide ((gapsE (madeN 7 ly) (madeF 7 10 ly mn [z0, z1, z2, z3, z4, z5, z6, z7, z8, z9]) (ordW (madeN 7 ly) [y0, y1, y2, y3, y4, y5, y6])) ≠ s)) || !((decide (shownE (madeN 7 ly) (madeF 7 10 ly mn [z0, z1, z2, z3, z4, z5, z6, z7, z8, z9]) (ordW (madeN 7 ly) [y0, y1, y2, y3, y4, y5, y6]) = 0) && decide (gapsE (madeN 7 ly) (madeF 7 10 ly mn [z0, z1, z2, z3, z4, z5, z6, z7, z8, z9]) (ordW (madeN 7 ly) [y0, y1, y2, y3, y4, y5, y6]) = 0)) == (decide (s = 0)))) || !((decide (shownE (madeN 7 ly) (madeF 7 10 ly mn [z0, z1, z2, z3, z4, z5, z6, z7, z8, z9]) (List.reverse (ordW (madeN 7 ly) [y0, y1, y2, y3, y4, y5, y6])) = 0) && decide (gapsE (madeN 7 ly) (madeF 7 10 ly mn [z0, z1, z2, z3, z4, z5, z6, z7, z8, z9]) (List.reverse (ordW (madeN 7 ly) [y0, y1, y2, y3, y4, y5, y6])) = 0)) == (decide (shownE (madeN 7 ly) (madeF 7 10 ly mn [z0, z1, z2, z3, z4, z5, z6, z7, z8, z9]) (ordW (madeN 7 ly) [y0, y1, y2, y3, y4, y5, y6]) = 0) && decide (gapsE (madeN 7 ly) (madeF 7 10 ly mn [z0, z1, z2, z3, z4, z5, z6, z7, z8, z9]) (ordW (madeN 7 ly) [y0, y1, y2, y3, y4, y5, y6]) = 0))))) (rd_move rfl) rfl ?_
    refine Wx.cut (X := Unit) 4 [170, 171, 172, 173] (fun _ => [(173, .bool ((((((decide ((shownE (madeN 7 ly) (madeF 7 10 ly mn [z0, z1, z2, z3, z4, z5, z6, z7, z8, z9]) (List.reverse (ordW (madeN 7 ly) [y0, y1, y2, y3, y4, y5, y6]))) ≠ 0) || decide ((shownE (madeN 7 ly) (madeF 7 10 ly mn [z0, z1, z2, z3, z4, z5, z6, z7, z8, z9]) (List.reverse (ordW (madeN 7 ly) [y0, y1, y2, y3, y4, y5, y6]))) ≠ 0)) || decide ((shownE (madeN 7 ly) (madeF 7 10 ly mn [z0, z1, z2, z3, z4, z5, z6, z7, z8, z9]) (List.reverse (ordW (madeN 7 ly) [y0, y1, y2, y3, y4, y5, y6]))) ≠ 0)) || decide ((gapsE (madeN 7 ly) (madeF 7 10 ly mn [z0, z1, z2, z3, z4, z5, z6, z7, z8, z9]) (ordW (madeN 7 ly) [y0, y1, y2, y3, y4, y5, y6])) ≠ s)) || !((decide (shownE (madeN 7 ly) (madeF 7 10 ly mn [z0, z1, z2, z3, z4, z5, z6, z7, z8, z9]) (ordW (madeN 7 ly) [y0, y1, y2, y3, y4, y5, y6]) = 0) && decide (gapsE (madeN 7 ly) (madeF 7 10 ly mn [z0, z1, z2, z3, z4, z5, z6, z7, z8, z9]) (ordW (madeN 7 ly) [y0, y1, y2, y3, y4, y5, y6]) = 0)) == (decide (s = 0)))) || !((decide (shownE (madeN 7 ly) (madeF 7 10 ly mn [z0, z1, z2, z3, z4, z5, z6, z7, z8, z9]) (List.reverse (ordW (madeN 7 ly) [y0, y1, y2, y3, y4, y5, y6])) = 0) && decide (gapsE (madeN 7 ly) (madeF 7 10 ly mn [z0, z1, z2, z3, z4, z5, z6, z7, z8, z9]) (List.reverse (ordW (madeN 7 ly) [y0, y1, y2, y3, y4, y5, y6])) = 0)) == (decide (shownE (madeN 7 ly) (madeF 7 10 ly mn [z0, z1, z2, z3, z4, z5, z6, z7, z8, z9]) (ordW (madeN 7 ly) [y0, y1, y2, y3, y4, y5, y6]) = 0) && decide (gapsE (madeN 7 ly) (madeF 7 10 ly mn [z0, z1, z2, z3, z4, z5, z6, z7, z8, z9]) (ordW (madeN 7 ly) [y0, y1, y2, y3, y4, y5, y6]) = 0)))) || decide ((gapsE (madeN 7 ly) (madeF 7 10 ly mn [z0, z1, z2, z3, z4, z5, z6, z7, z8, z9]) (List.reverse (ordW (madeN 7 ly) [y0, y1, y2, y3, y4, y5, y6]))) ≠ (gapsE (madeN 7 ly) (madeF 7 10 ly mn [z0, z1, z2, z3, z4, z5, z6, z7, z8, z9]) (ordW (madeN 7 ly) [y0, y1, y2, y3, y4, y5, y6])))))]) (fun _ w' => St w [] w' [.row (tP (tI .i64) (tI .i64)) 61 v_100 (datesL (madeN 7 ly) (madeF 7 10 ly mn [z0, z1, z2, z3, z4, z5, z6, z7, z8, z9]) (List.reverse (ordW (madeN 7 ly) [y0, y1, y2, y3, y4, y5, y6]))), .row (tP (tI .i64) (tI .i64)) 61 v_43 (datesL (madeN 7 ly) (madeF 7 10 ly mn [z0, z1, z2, z3, z4, z5, z6, z7, z8, z9]) (ordW (madeN 7 ly) [y0, y1, y2, y3, y4, y5, y6])), .row (tI .i64) 3 r_27 (List.reverse (ordW (madeN 7 ly) [y0, y1, y2, y3, y4, y5, y6])), .row (tI .i64) 3 r_22 (ordW (madeN 7 ly) [y0, y1, y2, y3, y4, y5, y6]), .box g_16 24 [.int .i64 (madeN 7 ly), v_12], Ob.v (tSl (tSl (tI .i64))) (madeF 7 10 ly mn [z0, z1, z2, z3, z4, z5, z6, z7, z8, z9]) v_12, .box g_5 78 [.int .u8 y0, .int .u8 y1, .int .u8 y2, .int .u8 y3, .int .u8 y4, .int .u8 y5, .int .u8 y6], .box g_1 64 [.int .u8 ly, .int .u8 mn, .int .u8 z0, .int .u8 z1, .int .u8 z2, .int .u8 z3, .int .u8 z4, .int .u8 z5, .int .u8 z6, .int .u8 z7, .int .u8 z8, .int .u8 z9]]) ?_ ?_
    · rcases Bool.eq_false_or_eq_true (((((decide ((shownE (madeN 7 ly) (madeF 7 10 ly mn [z0, z1, z2, z3, z4, z5, z6, z7, z8, z9]) (List.reverse (ordW (madeN 7 ly) [y0, y1, y2, y3, y4, y5, y6]))) ≠ 0) || decide ((shownE (madeN 7 ly) (madeF 7 10 ly mn [z0, z1, z2, z3, z4, z5, z6, z7, z8, z9]) (List.reverse (ordW (madeN 7 ly) [y0, y1, y2, y3, y4, y5, y6]))) ≠ 0)) || decide ((shownE (madeN 7 ly) (madeF 7 10 ly mn [z0, z1, z2, z3, z4, z5, z6, z7, z8, z9]) (List.reverse (ordW (madeN 7 ly) [y0, y1, y2, y3, y4, y5, y6]))) ≠ 0)) || decide ((gapsE (madeN 7 ly) (madeF 7 10 ly mn [z0, z1, z2, z3, z4, z5, z6, z7, z8, z9]) (ordW (madeN 7 ly) [y0, y1, y2, y3, y4, y5, y6])) ≠ s)) || !((decide (shownE (madeN 7 ly) (madeF 7 10 ly mn [z0, z1, z2, z3, z4, z5, z6, z7, z8, z9]) (ordW (madeN 7 ly) [y0, y1, y2, y3, y4, y5, y6]) = 0) && decide (gapsE (madeN 7 ly) (madeF 7 10 ly mn [z0, z1, z2, z3, z4, z5, z6, z7, z8, z9]) (ordW (madeN 7 ly) [y0, y1, y2, y3, y4, y5, y6]) = 0)) == (decide (s = 0)))) || !((decide (shownE (madeN 7 ly) (madeF 7 10 ly mn [z0, z1, z2, z3, z4, z5, z6, z7, z8, z9]) (List.reverse (ordW (madeN 7 ly) [y0, y1, y2, y3, y4, y5, y6])) = 0) && decide (gapsE (madeN 7 ly) (madeF 7 10 ly mn [z0, z1, z2, z3, z4, z5, z6, z7, z8, z9]) (List.reverse (ordW (madeN 7 ly) [y0, y1, y2, y3, y4, y5, y6])) = 0)) == (decide (shownE (madeN 7 ly) (madeF 7 10 ly mn [z0, z1, z2, z3, z4, z5, z6, z7, z8, z9]) (ordW (madeN 7 ly) [y0, y1, y2, y3, y4, y5, y6]) = 0) && decide (gapsE (madeN 7 ly) (madeF 7 10 ly mn [z0, z1, z2, z3, z4, z5, z6, z7, z8, z9]) (ordW (madeN 7 ly) [y0, y1, y2, y3, y4, y5, y6]) = 0)))) with g_128 | g_128
      · -- True
        have gp_129 := g_128
        try simp only [Bool.and_eq_true, Bool.or_eq_true, Bool.not_eq_true', Bool.and_eq_false_iff, Bool.or_eq_false_iff, Bool.not_eq_false', decide_eq_true_eq, decide_eq_false_iff_not, not_or, Bool.false_eq_true, Bool.true_eq_false, false_or, or_false, not_false_eq_true] at gp_129
        refine Wx.gnoB rfl rfl (congrArg Value.bool g_128) rfl rfl ?_
        refine Wx.gnoB rfl rfl (congrArg Value.bool g_128) rfl rfl ?_
        refine Wx.gnoB rfl rfl (congrArg Value.bool g_128) rfl rfl ?_
        refine Wx.rd (v := .bool true) (rd_pickT (congrArg Value.bool g_128) rfl) rfl ?_
        refine Wx.nil ⟨(), hS, ⟨?_, trivial⟩, Out.look rfl Out.refl⟩
        show Value.bool true = Value.bool ((((((decide ((shownE (madeN 7 ly) (madeF 7 10 ly mn [z0, z1, z2, z3, z4, z5, z6, z7, z8, z9]) (List.reverse (ordW (madeN 7 ly) [y0, y1, y2, y3, y4, y5, y6]))) ≠ 0) || decide ((shownE (madeN 7 ly) (madeF 7 10 ly mn [z0, z1, z2, z3, z4, z5, z6, z7, z8, z9]) (List.reverse (ordW (madeN 7 ly) [y0, y1, y2, y3, y4, y5, y6]))) ≠ 0)) || decide ((shownE (madeN 7 ly) (madeF 7 10 ly mn [z0, z1, z2, z3, z4, z5, z6, z7, z8, z9]) (List.reverse (ordW (madeN 7 ly) [y0, y1, y2, y3, y4, y5, y6]))) ≠ 0)) || decide ((gapsE (madeN 7 ly) (madeF 7 10 ly mn [z0, z1, z2, z3, z4, z5, z6, z7, z8, z9]) (ordW (madeN 7 ly) [y0, y1, y2, y3, y4, y5, y6])) ≠ s)) || !((decide (shownE (madeN 7 ly) (madeF 7 10 ly mn [z0, z1, z2, z3, z4, z5, z6, z7, z8, z9]) (ordW (madeN 7 ly) [y0, y1, y2, y3, y4, y5, y6]) = 0) && decide (gapsE (madeN 7 ly) (madeF 7 10 ly mn [z0, z1, z2, z3, z4, z5, z6, z7, z8, z9]) (ordW (madeN 7 ly) [y0, y1, y2, y3, y4, y5, y6]) = 0)) == (decide (s = 0)))) || !((decide (shownE (madeN 7 ly) (madeF 7 10 ly mn [z0, z1, z2, z3, z4, z5, z6, z7, z8, z9]) (List.reverse (ordW (madeN 7 ly) [y0, y1, y2, y3, y4, y5, y6])) = 0) && decide (gapsE (madeN 7 ly) (madeF 7 10 ly mn [z0, z1, z2, z3, z4, z5, z6, z7, z8, z9]) (List.reverse (ordW (madeN 7 ly) [y0, y1, y2, y3, y4, y5, y6])) = 0)) == (decide (shownE (madeN 7 ly) (madeF 7 10 ly mn [z0, z1, z2, z3, z4, z5, z6, z7, z8, z9]) (ordW (madeN 7 ly) [y0, y1, y2, y3, y4, y5, y6]) = 0) && decide (gapsE (madeN 7 ly) (madeF 7 10 ly mn [z0, z1, z2, z3, z4, z5, z6, z7, z8, z9]) (ordW (madeN 7 ly) [y0, y1, y2, y3, y4, y5, y6]) = 0)))) || decide ((gapsE (madeN 7 ly) (madeF 7 10 ly mn [z0, z1, z2, z3, z4, z5, z6, z7, z8, z9]) (List.reverse (ordW (madeN 7 ly) [y0, y1, y2, y3, y4, y5, y6]))) ≠ (gapsE (madeN 7 ly) (madeF 7 10 ly mn [z0, z1, z2, z3, z4, z5, z6, z7, z8, z9]) (ordW (madeN 7 ly) [y0, y1, y2, y3, y4, y5, y6]))))
        rw [g_128]; rfl
      · -- False
        have gp_130 := g_128
        try simp only [Bool.and_eq_true, Bool.or_eq_true, Bool.not_eq_true', Bool.and_eq_false_iff, Bool.or_eq_false_iff, Bool.not_eq_false', decide_eq_true_eq, decide_eq_false_iff_not, not_or, Bool.false_eq_true, Bool.true_eq_false, false_or, or_false, not_false_eq_true] at gp_130
        refine Wx.gyes rfl rfl (congrArg Value.bool g_128) ?_
        refine Wx.rd (v := .int .i64 (gapsE (madeN 7 ly) (madeF 7 10 ly mn [z0, z1, z2, z3, z4, z5, z6, z7, z8, z9]) (List.reverse (ordW (madeN 7 ly) [y0, y1, y2, y3, y4, y5, y6])))) (rd_move rfl) rfl ?_
        refine Wx.gyes rfl rfl (congrArg Value.bool g_128) ?_
        refine Wx.rd (v := .int .i64 (gapsE (madeN 7 ly) (madeF 7 10 ly mn [z0, z1, z2, z3, z4, z5, z6, z7, z8, z9]) (ordW (madeN 7 ly) [y0, y1, y2, y3, y4, y5, y6]))) (rd_move rfl) rfl ?_
        refine Wx.gyes rfl rfl (congrArg Value.bool g_128) ?_
        refine Wx.rd (v := .bool (decide ((gapsE (madeN 7 ly) (madeF 7 10 ly mn [z0, z1, z2, z3, z4, z5, z6, z7, z8, z9]) (List.reverse (ordW (madeN 7 ly) [y0, y1, y2, y3, y4, y5, y6]))) ≠ (gapsE (madeN 7 ly) (madeF 7 10 ly mn [z0, z1, z2, z3, z4, z5, z6, z7, z8, z9]) (ordW (madeN 7 ly) [y0, y1, y2, y3, y4, y5, y6]))))) (rd_neq rfl rfl) rfl ?_
        refine Wx.rd (v := .bool (decide ((gapsE (madeN 7 ly) (madeF 7 10 ly mn [z0, z1, z2, z3, z4, z5, z6, z7, z8, z9]) (List.reverse (ordW (madeN 7 ly) [y0, y1, y2, y3, y4, y5, y6]))) ≠ (gapsE (madeN 7 ly) (madeF 7 10 ly mn [z0, z1, z2, z3, z4, z5, z6, z7, z8, z9]) (ordW (madeN 7 ly) [y0, y1, y2, y3, y4, y5, y6]))))) (rd_pickF (congrArg Value.bool g_128) rfl) rfl ?_
        refine Wx.nil ⟨(), hS, ⟨?_, trivial⟩, Out.look rfl Out.refl⟩
        show Value.bool (decide ((gapsE (madeN 7 ly) (madeF 7 10 ly mn [z0, z1, z2, z3, z4, z5, z6, z7, z8, z9]) (List.reverse (ordW (madeN 7 ly) [y0, y1, y2, y3, y4, y5, y6]))) ≠ (gapsE (madeN 7 ly) (madeF 7 10 ly mn [z0, z1, z2, z3, z4, z5, z6, z7, z8, z9]) (ordW (madeN 7 ly) [y0, y1, y2, y3, y4, y5, y6])))) = Value.bool ((((((decide ((shownE (madeN 7 ly) (madeF 7 10 ly mn [z0, z1, z2, z3, z4, z5, z6, z7, z8, z9]) (List.reverse (ordW (madeN 7 ly) [y0, y1, y2, y3, y4, y5, y6]))) ≠ 0) || decide ((shownE (madeN 7 ly) (madeF 7 10 ly mn [z0, z1, z2, z3, z4, z5, z6, z7, z8, z9]) (List.reverse (ordW (madeN 7 ly) [y0, y1, y2, y3, y4, y5, y6]))) ≠ 0)) || decide ((shownE (madeN 7 ly) (madeF 7 10 ly mn [z0, z1, z2, z3, z4, z5, z6, z7, z8, z9]) (List.reverse (ordW (madeN 7 ly) [y0, y1, y2, y3, y4, y5, y6]))) ≠ 0)) || decide ((gapsE (madeN 7 ly) (madeF 7 10 ly mn [z0, z1, z2, z3, z4, z5, z6, z7, z8, z9]) (ordW (madeN 7 ly) [y0, y1, y2, y3, y4, y5, y6])) ≠ s)) || !((decide (shownE (madeN 7 ly) (madeF 7 10 ly mn [z0, z1, z2, z3, z4, z5, z6, z7, z8, z9]) (ordW (madeN 7 ly) [y0, y1, y2, y3, y4, y5, y6]) = 0) && decide (gapsE (madeN 7 ly) (madeF 7 10 ly mn [z0, z1, z2, z3, z4, z5, z6, z7, z8, z9]) (ordW (madeN 7 ly) [y0, y1, y2, y3, y4, y5, y6]) = 0)) == (decide (s = 0)))) || !((decide (shownE (madeN 7 ly) (madeF 7 10 ly mn [z0, z1, z2, z3, z4, z5, z6, z7, z8, z9]) (List.reverse (ordW (madeN 7 ly) [y0, y1, y2, y3, y4, y5, y6])) = 0) && decide (gapsE (madeN 7 ly) (madeF 7 10 ly mn [z0, z1, z2, z3, z4, z5, z6, z7, z8, z9]) (List.reverse (ordW (madeN 7 ly) [y0, y1, y2, y3, y4, y5, y6])) = 0)) == (decide (shownE (madeN 7 ly) (madeF 7 10 ly mn [z0, z1, z2, z3, z4, z5, z6, z7, z8, z9]) (ordW (madeN 7 ly) [y0, y1, y2, y3, y4, y5, y6]) = 0) && decide (gapsE (madeN 7 ly) (madeF 7 10 ly mn [z0, z1, z2, z3, z4, z5, z6, z7, z8, z9]) (ordW (madeN 7 ly) [y0, y1, y2, y3, y4, y5, y6]) = 0)))) || decide ((gapsE (madeN 7 ly) (madeF 7 10 ly mn [z0, z1, z2, z3, z4, z5, z6, z7, z8, z9]) (List.reverse (ordW (madeN 7 ly) [y0, y1, y2, y3, y4, y5, y6]))) ≠ (gapsE (madeN 7 ly) (madeF 7 10 ly mn [z0, z1, z2, z3, z4, z5, z6, z7, z8, z9]) (ordW (madeN 7 ly) [y0, y1, y2, y3, y4, y5, y6]))))
        rw [g_128]; rfl
    rintro ⟨⟩ u_132 w_131 hS
    refine Wx.rd (v := .bool ((((((decide ((shownE (madeN 7 ly) (madeF 7 10 ly mn [z0, z1, z2, z3, z4, z5, z6, z7, z8, z9]) (List.reverse (ordW (madeN 7 ly) [y0, y1, y2, y3, y4, y5, y6]))) ≠ 0) || decide ((shownE (madeN 7 ly) (madeF 7 10 ly mn [z0, z1, z2, z3, z4, z5, z6, z7, z8, z9]) (List.reverse (ordW (madeN 7 ly) [y0, y1, y2, y3, y4, y5, y6]))) ≠ 0)) || decide ((shownE (madeN 7 ly) (madeF 7 10 ly mn [z0, z1, z2, z3, z4, z5, z6, z7, z8, z9]) (List.reverse (ordW (madeN 7 ly) [y0, y1, y2, y3, y4, y5, y6]))) ≠ 0)) || decide ((gapsE (madeN 7 ly) (madeF 7 10 ly mn [z0, z1, z2, z3, z4, z5, z6, z7, z8, z9]) (ordW (madeN 7 ly) [y0, y1, y2, y3, y4, y5, y6])) ≠ s)) || !((decide (shownE (madeN 7 ly) (madeF 7 10 ly mn [z0, z1, z2, z3, z4, z5, z6, z7, z8, z9]) (ordW (madeN 7 ly) [y0, y1, y2, y3, y4, y5, y6]) = 0) && decide (gapsE (madeN 7 ly) (madeF 7 10 ly mn [z0, z1, z2, z3, z4, z5, z6, z7, z8, z9]) (ordW (madeN 7 ly) [y0, y1, y2, y3, y4, y5, y6]) = 0)) == (decide (s = 0)))) || !((decide (shownE (madeN 7 ly) (madeF 7 10 ly mn [z0, z1, z2, z3, z4, z5, z6, z7, z8, z9]) (List.reverse (ordW (madeN 7 ly) [y0, y1, y2, y3, y4, y5, y6])) = 0) && decide (gapsE (madeN 7 ly) (madeF 7 10 ly mn [z0, z1, z2, z3, z4, z5, z6, z7, z8, z9]) (List.reverse (ordW (madeN 7 ly) [y0, y1, y2, y3, y4, y5, y6])) = 0)) == (decide (shownE (madeN 7 ly) (madeF 7 10 ly mn [z0, z1, z2, z3, z4, z5, z6, z7, z8, z9]) (ordW (madeN 7 ly) [y0, y1, y2, y3, y4, y5, y6]) = 0) && decide (gapsE (madeN 7 ly) (madeF 7 10 ly mn [z0, z1, z2, z3, z4, z5, z6, z7, z8, z9]) (ordW (madeN 7 ly) [y0, y1, y2, y3, y4, y5, y6]) = 0)))) || decide ((gapsE (madeN 7 ly) (madeF 7 10 ly mn [z0, z1, z2, z3, z4, z5, z6, z7, z8, z9]) (List.reverse (ordW (madeN 7 ly) [y0, y1, y2, y3, y4, y5, y6]))) ≠ (gapsE (madeN 7 ly) (madeF 7 10 ly mn [z0, z1, z2, z3, z4, z5, z6, z7, z8, z9]) (ordW (madeN 7 ly) [y0, y1, y2, y3, y4, y5, y6]))))) (rd_move rfl) rfl ?_
    refine Wx.cut (X := Unit) 6 [175, 176, 177, 178, 179, 180] (fun _ => [(180, .bool (((((((decide ((shownE (madeN 7 ly) (madeF 7 10 ly mn [z0, z1, z2, z3, z4, z5, z6, z7, z8, z9]) (List.reverse (ordW (madeN 7 ly) [y0, y1, y2, y3, y4, y5, y6]))) ≠ 0) || decide ((shownE (madeN 7 ly) (madeF 7 10 ly mn [z0, z1, z2, z3, z4, z5, z6, z7, z8, z9]) (List.reverse (ordW (madeN 7 ly) [y0, y1, y2, y3, y4, y5, y6]))) ≠ 0)) || decide ((shownE (madeN 7 ly) (madeF 7 10 ly mn [z0, z1, z2, z3, z4, z5, z6, z7, z8, z9]) (List.reverse (ordW (madeN 7 ly) [y0, y1, y2, y3, y4, y5, y6]))) ≠ 0)) || decide ((gapsE (madeN 7 ly) (madeF 7 10 ly mn [z0, z1, z2, z3, z4, z5, z6, z7, z8, z9]) (ordW (madeN 7 ly) [y0, y1, y2, y3, y4, y5, y6])) ≠ s)) || !((decide (shownE (madeN 7 ly) (madeF 7 10 ly mn [z0, z1, z2, z3, z4, z5, z6, z7, z8, z9]) (ordW (madeN 7 ly) [y0, y1, y2, y3, y4, y5, y6]) = 0) && decide (gapsE (madeN 7 ly) (madeF 7 10 ly mn [z0, z1, z2, z3, z4, z5, z6, z7, z8, z9]) (ordW (madeN 7 ly) [y0, y1, y2, y3, y4, y5, y6]) = 0)) == (decide (s = 0)))) || !((decide (shownE (madeN 7 ly) (madeF 7 10 ly mn [z0, z1, z2, z3, z4, z5, z6, z7, z8, z9]) (List.reverse (ordW (madeN 7 ly) [y0, y1, y2, y3, y4, y5, y6])) = 0) && decide (gapsE (madeN 7 ly) (madeF 7 10 ly mn [z0, z1, z2, z3, z4, z5, z6, z7, z8, z9]) (List.reverse (ordW (madeN 7 ly) [y0, y1, y2, y3, y4, y5, y6])) = 0)) == (decide (shownE (madeN 7 ly) (madeF 7 10 ly mn [z0, z1, z2, z3, z4, z5, z6, z7, z8, z9]) (ordW (madeN 7 ly) [y0, y1, y2, y3, y4, y5, y6]) = 0) && decide (gapsE (madeN 7 ly) (madeF 7 10 ly mn [z0, z1, z2, z3, z4, z5, z6, z7, z8, z9]) (ordW (madeN 7 ly) [y0, y1, y2, y3, y4, y5, y6]) = 0)))) || decide ((gapsE (madeN 7 ly) (madeF 7 10 ly mn [z0, z1, z2, z3, z4, z5, z6, z7, z8, z9]) (List.reverse (ordW (madeN 7 ly) [y0, y1, y2, y3, y4, y5, y6]))) ≠ (gapsE (madeN 7 ly) (madeF 7 10 ly mn [z0, z1, z2, z3, z4, z5, z6, z7, z8, z9]) (ordW (madeN 7 ly) [y0, y1, y2, y3, y4, y5, y6])))) || decide (((datesL (madeN 7 ly) (madeF 7 10 ly mn [z0, z1, z2, z3, z4, z5, z6, z7, z8, z9]) (List.reverse (ordW (madeN 7 ly) [y0, y1, y2, y3, y4, y5, y6]))).length : Int) ≠ ((datesL (madeN 7 ly) (madeF 7 10 ly mn [z0, z1, z2, z3, z4, z5, z6, z7, z8, z9]) (ordW (madeN 7 ly) [y0, y1, y2, y3, y4, y5, y6])).length : Int))))]) (fun _ w' => St w [] w' [.row (tP (tI .i64) (tI .i64)) 61 v_100 (datesL (madeN 7 ly) (madeF 7 10 ly mn [z0, z1, z2, z3, z4, z5, z6, z7, z8, z9]) (List.reverse (ordW (madeN 7 ly) [y0, y1, y2, y3, y4, y5, y6]))), .row (tP (tI .i64) (tI .i64)) 61 v_43 (datesL (madeN 7 ly) (madeF 7 10 ly mn [z0, z1, z2, z3, z4, z5, z6, z7, z8, z9]) (ordW (madeN 7 ly) [y0, y1, y2, y3, y4, y5, y6])), .row (tI .i64) 3 r_27 (List.reverse (ordW (madeN 7 ly) [y0, y1, y2, y3, y4, y5, y6])), .row (tI .i64) 3 r_22 (ordW (madeN 7 ly) [y0, y1, y2, y3, y4, y5, y6]), .box g_16 24 [.int .i64 (madeN 7 ly), v_12], Ob.v (tSl (tSl (tI .i64))) (madeF 7 10 ly mn [z0, z1, z2, z3, z4, z5, z6, z7, z8, z9]) v_12, .box g_5 78 [.int .u8 y0, .int .u8 y1, .int .u8 y2, .int .u8 y3, .int .u8 y4, .int .u8 y5, .int .u8 y6], .box g_1 64 [.int .u8 ly, .int .u8 mn, .int .u8 z0, .int .u8 z1, .int .u8 z2, .int .u8 z3, .int .u8 z4, .int .u8 z5, .int .u8 z6, .int .u8 z7, .int .u8 z8, .int .u8 z9]]) ?_ ?_
    · rcases Bool.eq_false_or_eq_true ((((((decide ((shownE (madeN 7 ly) (madeF 7 10 ly mn [z0, z1, z2, z3, z4, z5, z6, z7, z8, z9]) (List.reverse (ordW (madeN 7 ly) [y0, y1, y2, y3, y4, y5, y6]))) ≠ 0) || decide ((shownE (madeN 7 ly) (madeF 7 10 ly mn [z0, z1, z2, z3, z4, z5, z6, z7, z8, z9]) (List.reverse (ordW (madeN 7 ly) [y0, y1, y2, y3, y4, y5, y6]))) ≠ 0)) || decide ((shownE (madeN 7 ly) (madeF 7 10 ly mn [z0, z1, z2, z3, z4, z5, z6, z7, z8, z9]) (List.reverse (ordW (madeN 7 ly) [y0, y1, y2, y3, y4, y5, y6]))) ≠ 0)) || decide ((gapsE (madeN 7 ly) (madeF 7 10 ly mn [z0, z1, z2, z3, z4, z5, z6, z7, z8, z9]) (ordW (madeN 7 ly) [y0, y1, y2, y3, y4, y5, y6])) ≠ s)) || !((decide (shownE (madeN 7 ly) (madeF 7 10 ly mn [z0, z1, z2, z3, z4, z5, z6, z7, z8, z9]) (ordW (madeN 7 ly) [y0, y1, y2, y3, y4, y5, y6]) = 0) && decide (gapsE (madeN 7 ly) (madeF 7 10 ly mn [z0, z1, z2, z3, z4, z5, z6, z7, z8, z9]) (ordW (madeN 7 ly) [y0, y1, y2, y3, y4, y5, y6]) = 0)) == (decide (s = 0)))) || !((decide (shownE (madeN 7 ly) (madeF 7 10 ly mn [z0, z1, z2, z3, z4, z5, z6, z7, z8, z9]) (List.reverse (ordW (madeN 7 ly) [y0, y1, y2, y3, y4, y5, y6])) = 0) && decide (gapsE (madeN 7 ly) (madeF 7 10 ly mn [z0, z1, z2, z3, z4, z5, z6, z7, z8, z9]) (List.reverse (ordW (madeN 7 ly) [y0, y1, y2, y3, y4, y5, y6])) = 0)) == (decide (shownE (madeN 7 ly) (madeF 7 10 ly mn [z0, z1, z2, z3, z4, z5, z6, z7, z8, z9]) (ordW (madeN 7 ly) [y0, y1, y2, y3, y4, y5, y6]) = 0) && decide (gapsE (madeN 7 ly) (madeF 7 10 ly mn [z0, z1, z2, z3, z4, z5, z6, z7, z8, z9]) (ordW (madeN 7 ly) [y0, y1, y2, y3, y4, y5, y6]) = 0)))) || decide ((gapsE (madeN 7 ly) (madeF 7 10 ly mn [z0, z1, z2, z3, z4, z5, z6, z7, z8, z9]) (List.reverse (ordW (madeN 7 ly) [y0, y1, y2, y3, y4, y5, y6]))) ≠ (gapsE (madeN 7 ly) (madeF 7 10 ly mn [z0, z1, z2, z3, z4, z5, z6, z7, z8, z9]) (ordW (madeN 7 ly) [y0, y1, y2, y3, y4, y5, y6])))) with g_133 | g_133
      · -- True
        have gp_134 := g_133
        try simp only [Bool.and_eq_true, Bool.or_eq_true, Bool.not_eq_true', Bool.and_eq_false_iff, Bool.or_eq_false_iff, Bool.not_eq_false', decide_eq_true_eq, decide_eq_false_iff_not, not_or, Bool.false_eq_true, Bool.true_eq_false, false_or, or_false, not_false_eq_true] at gp_134
        refine Wx.gnoB rfl rfl (congrArg Value.bool g_133) rfl rfl ?_
        refine Wx.gnoB rfl rfl (congrArg Value.bool g_133) rfl rfl ?_
        refine Wx.gnoB rfl rfl (congrArg Value.bool g_133) rfl rfl ?_
        refine Wx.gnoB rfl rfl (congrArg Value.bool g_133) rfl rfl ?_
        refine Wx.gnoB rfl rfl (congrArg Value.bool g_133) rfl rfl ?_
        refine Wx.rd (v := .bool true) (rd_pickT (congrArg Value.bool g_133) rfl) rfl ?_
        refine Wx.nil ⟨(), hS, ⟨?_, trivial⟩, Out.look rfl Out.refl⟩
        show Value.bool true = Value.bool (((((((decide ((shownE (madeN 7 ly) (madeF 7 10 ly mn [z0, z1, z2, z3, z4, z5, z6, z7, z8, z9]) (List.reverse (ordW (madeN 7 ly) [y0, y1, y2, y3, y4, y5, y6]))) ≠ 0) || decide ((shownE (madeN 7 ly) (madeF 7 10 ly mn [z0, z1, z2, z3, z4, z5, z6, z7, z8, z9]) (List.reverse (ordW (madeN 7 ly) [y0, y1, y2, y3, y4, y5, y6]))) ≠ 0)) || decide ((shownE (madeN 7 ly) (madeF 7 10 ly mn [z0, z1, z2, z3, z4, z5, z6, z7, z8, z9]) (List.reverse (ordW (madeN 7 ly) [y0, y1, y2, y3, y4, y5, y6]))) ≠ 0)) || decide ((gapsE (madeN 7 ly) (madeF 7 10 ly mn [z0, z1, z2, z3, z4, z5, z6, z7, z8, z9]) (ordW (madeN 7 ly) [y0, y1, y2, y3, y4, y5, y6])) ≠ s)) || !((decide (shownE (madeN 7 ly) (madeF 7 10 ly mn [z0, z1, z2, z3, z4, z5, z6, z7, z8, z9]) (ordW (madeN 7 ly) [y0, y1, y2, y3, y4, y5, y6]) = 0) && decide (gapsE (madeN 7 ly) (madeF 7 10 ly mn [z0, z1, z2, z3, z4, z5, z6, z7, z8, z9]) (ordW (madeN 7 ly) [y0, y1, y2, y3, y4, y5, y6]) = 0)) == (decide (s = 0)))) || !((decide (shownE (madeN 7 ly) (madeF 7 10 ly mn [z0, z1, z2, z3, z4, z5, z6, z7, z8, z9]) (List.reverse (ordW (madeN 7 ly) [y0, y1, y2, y3, y4, y5, y6])) = 0) && decide (gapsE (madeN 7 ly) (madeF 7 10 ly mn [z0, z1, z2, z3, z4, z5, z6, z7, z8, z9]) (List.reverse (ordW (madeN 7 ly) [y0, y1, y2, y3, y4, y5, y6])) = 0)) == (decide (shownE (madeN 7 ly) (madeF 7 10 ly mn [z0, z1, z2, z3, z4, z5, z6, z7, z8, z9]) (ordW (madeN 7 ly) [y0, y1, y2, y3, y4, y5, y6]) = 0) && decide (gapsE (madeN 7 ly) (madeF 7 10 ly mn [z0, z1, z2, z3, z4, z5, z6, z7, z8, z9]) (ordW (madeN 7 ly) [y0, y1, y2, y3, y4, y5, y6]) = 0)))) || decide ((gapsE (madeN 7 ly) (madeF 7 10 ly mn [z0, z1, z2, z3, z4, z5, z6, z7, z8, z9]) (List.reverse (ordW (madeN 7 ly) [y0, y1, y2, y3, y4, y5, y6]))) ≠ (gapsE (madeN 7 ly) (madeF 7 10 ly mn [z0, z1, z2, z3, z4, z5, z6, z7, z8, z9]) (ordW (madeN 7 ly) [y0, y1, y2, y3, y4, y5, y6])))) || decide (((datesL (madeN 7 ly) (madeF 7 10 ly mn [z0, z1, z2, z3, z4, z5, z6, z7, z8, z9]) (List.reverse (ordW (madeN 7 ly) [y0, y1, y2, y3, y4, y5, y6]))).length : Int) ≠ ((datesL (madeN 7 ly) (madeF 7 10 ly mn [z0, z1, z2, z3, z4, z5, z6, z7, z8, z9]) (ordW (madeN 7 ly) [y0, y1, y2, y3, y4, y5, y6])).length : Int)))
        rw [g_133]; rfl
      · -- False
        have gp_135 := g_133
        try simp only [Bool.and_eq_true, Bool.or_eq_true, Bool.not_eq_true', Bool.and_eq_false_iff, Bool.or_eq_false_iff, Bool.not_eq_false', decide_eq_true_eq, decide_eq_false_iff_not, not_or, Bool.false_eq_true, Bool.true_eq_false, false_or, or_false, not_false_eq_true] at gp_135
        refine Wx.gyes rfl rfl (congrArg Value.bool g_133) ?_
        refine Wx.rd (v := v_100) (rd_move rfl) rfl ?_
        refine Wx.gyes rfl rfl (congrArg Value.bool g_133) ?_
        refine Wx.rd (v := .int .i64 ((datesL (madeN 7 ly) (madeF 7 10 ly mn [z0, z1, z2, z3, z4, z5, z6, z7, z8, z9]) (List.reverse (ordW (madeN 7 ly) [y0, y1, y2, y3, y4, y5, y6]))).length : Int)) (rd_lenR hS 0 rfl rfl Try.underlying36) rfl ?_
        refine Wx.gyes rfl rfl (congrArg Value.bool g_133) ?_
        refine Wx.rd (v := v_43) (rd_move rfl) rfl ?_
        refine Wx.gyes rfl rfl (congrArg Value.bool g_133) ?_
        refine Wx.rd (v := .int .i64 ((datesL (madeN 7 ly) (madeF 7 10 ly mn [z0, z1, z2, z3, z4, z5, z6, z7, z8, z9]) (ordW (madeN 7 ly) [y0, y1, y2, y3, y4, y5, y6])).length : Int)) (rd_lenR hS 1 rfl rfl Try.underlying36) rfl ?_
        refine Wx.gyes rfl rfl (congrArg Value.bool g_133) ?_
        refine Wx.rd (v := .bool (decide (((datesL (madeN 7 ly) (madeF 7 10 ly mn [z0, z1, z2, z3, z4, z5, z6, z7, z8, z9]) (List.reverse (ordW (madeN 7 ly) [y0, y1, y2, y3, y4, y5, y6]))).length : Int) ≠ ((datesL (madeN 7 ly) (madeF 7 10 ly mn [z0, z1, z2, z3, z4, z5, z6, z7, z8, z9]) (ordW (madeN 7 ly) [y0, y1, y2, y3, y4, y5, y6])).length : Int)))) (rd_neq rfl rfl) rfl ?_
        refine Wx.rd (v := .bool (decide (((datesL (madeN 7 ly) (madeF 7 10 ly mn [z0, z1, z2, z3, z4, z5, z6, z7, z8, z9]) (List.reverse (ordW (madeN 7 ly) [y0, y1, y2, y3, y4, y5, y6]))).length : Int) ≠ ((datesL (madeN 7 ly) (madeF 7 10 ly mn [z0, z1, z2, z3, z4, z5, z6, z7, z8, z9]) (ordW (madeN 7 ly) [y0, y1, y2, y3, y4, y5, y6])).length : Int)))) (rd_pickF (congrArg Value.bool g_133) rfl) rfl ?_
        refine Wx.nil ⟨(), hS, ⟨?_, trivial⟩, Out.look rfl Out.refl⟩
        show Value.bool (decide (((datesL (madeN 7 ly) (madeF 7 10 ly mn [z0, z1, z2, z3, z4, z5, z6, z7, z8, z9]) (List.reverse (ordW (madeN 7 ly) [y0, y1, y2, y3, y4, y5, y6]))).length : Int) ≠ ((datesL (madeN 7 ly) (madeF 7 10 ly mn [z0, z1, z2, z3, z4, z5, z6, z7, z8, z9]) (ordW (madeN 7 ly) [y0, y1, y2, y3, y4, y5, y6])).length : Int))) = Value.bool (((((((decide ((shownE (madeN 7 ly) (madeF 7 10 ly mn [z0, z1, z2, z3, z4, z5, z6, z7, z8, z9]) (List.reverse (ordW (madeN 7 ly) [y0, y1, y2, y3, y4, y5, y6]))) ≠ 0) || decide ((shownE (madeN 7 ly) (madeF 7 10 ly mn [z0, z1, z2, z3, z4, z5, z6, z7, z8, z9]) (List.reverse (ordW (madeN 7 ly) [y0, y1, y2, y3, y4, y5, y6]))) ≠ 0)) || decide ((shownE (madeN 7 ly) (madeF 7 10 ly mn [z0, z1, z2, z3, z4, z5, z6, z7, z8, z9]) (List.reverse (ordW (madeN 7 ly) [y0, y1, y2, y3, y4, y5, y6]))) ≠ 0)) || decide ((gapsE (madeN 7 ly) (madeF 7 10 ly mn [z0, z1, z2, z3, z4, z5, z6, z7, z8, z9]) (ordW (madeN 7 ly) [y0, y1, y2, y3, y4, y5, y6])) ≠ s)) || !((decide (shownE (madeN 7 ly) (madeF 7 10 ly mn [z0, z1, z2, z3, z4, z5, z6, z7, z8, z9]) (ordW (madeN 7 ly) [y0, y1, y2, y3, y4, y5, y6]) = 0) && decide (gapsE (madeN 7 ly) (madeF 7 10 ly mn [z0, z1, z2, z3, z4, z5, z6, z7, z8, z9]) (ordW (madeN 7 ly) [y0, y1, y2, y3, y4, y5, y6]) = 0)) == (decide (s = 0)))) || !((decide (shownE (madeN 7 ly) (madeF 7 10 ly mn [z0, z1, z2, z3, z4, z5, z6, z7, z8, z9]) (List.reverse (ordW (madeN 7 ly) [y0, y1, y2, y3, y4, y5, y6])) = 0) && decide (gapsE (madeN 7 ly) (madeF 7 10 ly mn [z0, z1, z2, z3, z4, z5, z6, z7, z8, z9]) (List.reverse (ordW (madeN 7 ly) [y0, y1, y2, y3, y4, y5, y6])) = 0)) == (decide (shownE (madeN 7 ly) (madeF 7 10 ly mn [z0, z1, z2, z3, z4, z5, z6, z7, z8, z9]) (ordW (madeN 7 ly) [y0, y1, y2, y3, y4, y5, y6]) = 0) && decide (gapsE (madeN 7 ly) (madeF 7 10 ly mn [z0, z1, z2, z3, z4, z5, z6, z7, z8, z9]) (ordW (madeN 7 ly) [y0, y1, y2, y3, y4, y5, y6]) = 0)))) || decide ((gapsE (madeN 7 ly) (madeF 7 10 ly mn [z0, z1, z2, z3, z4, z5, z6, z7, z8, z9]) (List.reverse (ordW (madeN 7 ly) [y0, y1, y2, y3, y4, y5, y6]))) ≠ (gapsE (madeN 7 ly) (madeF 7 10 ly mn [z0, z1, z2, z3, z4, z5, z6, z7, z8, z9]) (ordW (madeN 7 ly) [y0, y1, y2, y3, y4, y5, y6])))) || decide (((datesL (madeN 7 ly) (madeF 7 10 ly mn [z0, z1, z2, z3, z4, z5, z6, z7, z8, z9]) (List.reverse (ordW (madeN 7 ly) [y0, y1, y2, y3, y4, y5, y6]))).length : Int) ≠ ((datesL (madeN 7 ly) (madeF 7 10 ly mn [z0, z1, z2, z3, z4, z5, z6, z7, z8, z9]) (ordW (madeN 7 ly) [y0, y1, y2, y3, y4, y5, y6])).length : Int)))
        rw [g_133]; rfl
    rintro ⟨⟩ u_137 w_136 hS
    refine Wx.nil ?_
    refine W.condF rfl (by simp [hs1, hs2, hg2, hd1, hd2, hsum]) ?_
    refine W.skip ?_
    refine W.seq ?_
    refine W.seq ?_
    refine W.reg ?_
    refine Wx.rd (v := v_100) (rd_move rfl) rfl ?_
    refine Wx.rd (v := .int .i64 ((datesL (madeN 7 ly) (madeF 7 10 ly mn [z0, z1, z2, z3, z4, z5, z6, z7, z8, z9]) (List.reverse (ordW (madeN 7 ly) [y0, y1, y2, y3, y4, y5, y6]))).length : Int)) (rd_lenR hS 0 rfl rfl Try.underlying36) rfl ?_
    refine Wx.rd (v := .int .i64 0) (rd_move rfl) rfl ?_
    refine Wx.nil ?_
    refine W.block ?_
    refine W.loop [4, 26, 183, 184, 185, 186, 187, 188, 189, 190, 191, 192, 193, 194, 195, 196, 197, 198, 199, 200, 201, 202, 203, 204, 205, 206, 207, 208] (fun (i : Int) => [(183, .int .i64 i)]) (fun (i : Int) w' => St w [] w' [.row (tP (tI .i64) (tI .i64)) 61 v_100 (datesL (madeN 7 ly) (madeF 7 10 ly mn [z0, z1, z2, z3, z4, z5, z6, z7, z8, z9]) (List.reverse (ordW (madeN 7 ly) [y0, y1, y2, y3, y4, y5, y6]))), .row (tP (tI .i64) (tI .i64)) 61 v_43 (datesL (madeN 7 ly) (madeF 7 10 ly mn [z0, z1, z2, z3, z4, z5, z6, z7, z8, z9]) (ordW (madeN 7 ly) [y0, y1, y2, y3, y4, y5, y6])), .row (tI .i64) 3 r_27 (List.reverse (ordW (madeN 7 ly) [y0, y1, y2, y3, y4, y5, y6])), .row (tI .i64) 3 r_22 (ordW (madeN 7 ly) [y0, y1, y2, y3, y4, y5, y6]), .box g_16 24 [.int .i64 (madeN 7 ly), v_12], Ob.v (tSl (tSl (tI .i64))) (madeF 7 10 ly mn [z0, z1, z2, z3, z4, z5, z6, z7, z8, z9]) v_12, .box g_5 78 [.int .u8 y0, .int .u8 y1, .int .u8 y2, .int .u8 y3, .int .u8 y4, .int .u8 y5, .int .u8 y6], .box g_1 64 [.int .u8 ly, .int .u8 mn, .int .u8 z0, .int .u8 z1, .int .u8 z2, .int .u8 z3, .int .u8 z4, .int .u8 z5, .int .u8 z6, .int .u8 z7, .int .u8 z8, .int .u8 z9]] ∧ 0 ≤ i ∧ i ≤ (datesL (madeN 7 ly) (madeF 7 10 ly mn [z0, z1, z2, z3, z4, z5, z6, z7, z8, z9]) (ordW (madeN 7 ly) [y0, y1, y2, y3, y4, y5, y6]).reverse).length) (fun (i : Int) => ((datesL (madeN 7 ly) (madeF 7 10 ly mn [z0, z1, z2, z3, z4, z5, z6, z7, z8, z9]) (ordW (madeN 7 ly) [y0, y1, y2, y3, y4, y5, y6]).reverse).length - i).toNat) 0 ⟨rfl, trivial⟩ ⟨hS, (by first | omega | simp), (by first | omega | simp)⟩ ?_
    rintro i u_139 w_138 ⟨hS, i0, i1⟩
    refine W.seq ?_
    refine W.reg ?_
    refine Wx.rd (v := .bool (decide (i < ((datesL (madeN 7 ly) (madeF 7 10 ly mn [z0, z1, z2, z3, z4, z5, z6, z7, z8, z9]) (List.reverse (ordW (madeN 7 ly) [y0, y1, y2, y3, y4, y5, y6]))).length : Int)))) (rd_lss rfl rfl) rfl ?_
    refine Wx.nil ?_
    refine W.seq ?_
    refine W.condD rfl (fun c6 => ?_) (fun c6 => ?_)
    · -- yes
      obtain ⟨-, -, -, hkd, hke⟩ := hk i i0 (by omega)
      refine W.skip ?_
      refine W.seq ?_
      refine W.block ?_
      refine W.seq ?_
      refine W.reg ?_
      refine Wx.rd (v := .int .i64 i) (rd_move rfl) rfl ?_
      refine Wx.rd (v := .int .i64 i) (rd_assign rfl) rfl ?_
      refine Wx.nil ?_
      refine W.seq ?_
      refine W.regQ mixedGi_ (by kernel_rfl) ?_
      refine Wx.rd (v := v_100) (rd_move rfl) rfl ?_
      refine Wx.rd (v := .int .i64 i) (rd_move rfl) rfl ?_
      refine Wx.indexR hS 0 rfl rfl rfl Try.underlying36 Try.sizeOf61 (by first | omega | (simp only [List.length_set, List.length_append, List.length_cons, List.length_nil, List.length_replicate]; omega)) (by first | omega | (simp only [List.length_set, List.length_append, List.length_cons, List.length_nil, List.length_replicate]; omega)) rfl (fun g_140 hg_141 => ?_)
      refine Wx.ex (rd_loadR' (0, 0) hS 0 rfl hg_141 rfl (by first | omega | (simp only [List.length_set, List.length_append, List.length_cons, List.length_nil, List.length_replicate]; omega)) (by first | omega | (simp only [List.length_set, List.length_append, List.length_cons, List.length_nil, List.length_replicate]; omega)) Try.isAgg61 Try.sizeOf61) rfl (fun v_142 hv_143 => ?_)
      obtain ⟨rfl, bd_144, bd_145⟩ := hv_143.i2
      have bd_144 := bd_i64 bd_144
      have bd_145 := bd_i64 bd_145
      refine Wx.rd (v := .int .i64 (madeN 7 ly)) (rd_move rfl) rfl ?_
      refine Wx.rd (v := .int .i64 ((madeN 7 ly) - 1)) (rd_sub rfl rfl (in_i64 (by omega) (by omega))) rfl ?_
      refine Wx.rd (v := v_43) (rd_move rfl) rfl ?_
      refine Wx.rd (v := .int .i64 i) (rd_move rfl) rfl ?_
      refine Wx.indexR hS 1 rfl rfl rfl Try.underlying36 Try.sizeOf61 (by first | omega | (simp only [List.length_set, List.length_append, List.length_cons, List.length_nil, List.length_replicate]; omega)) (by first | omega | (simp only [List.length_set, List.length_append, List.length_cons, List.length_nil, List.length_replicate]; omega)) rfl (fun g_146 hg_147 => ?_)
      refine Wx.rd (v := .pointer (some ⟨g_146, i.toNat * 2 + 1, none⟩)) (rd_indexArr (n := 1) rfl rfl Try.underlying61 Try.sizeOf3 (by decide) (by decide)) rfl ?_
      refine Wx.rd (v := .int .i64 ((ix (0, 0) (datesL (madeN 7 ly) (madeF 7 10 ly mn [z0, z1, z2, z3, z4, z5, z6, z7, z8, z9]) (ordW (madeN 7 ly) [y0, y1, y2, y3, y4, y5, y6])) i).2)) (rd_loadR2 hS 1 rfl hg_147 rfl (by first | omega | (simp only [List.length_set, List.length_append, List.length_cons, List.length_nil, List.length_replicate]; omega)) (by first | omega | (simp only [List.length_set, List.length_append, List.length_cons, List.length_nil, List.length_replicate]; omega)) Try.isAgg3) rfl ?_
      have rp_148 := row_pair hS 1 rfl hg_147 (by first | omega | (simp only [List.length_set, List.length_append, List.length_cons, List.length_nil, List.length_replicate]; omega)) (by first | omega | (simp only [List.length_set, List.length_append, List.length_cons, List.length_nil, List.length_replicate]; omega))
      have bd_149 := bd_i64 rp_148.2.1
      refine Wx.rd (v := .int .i64 (((madeN 7 ly) - 1) - ((ix (0, 0) (datesL (madeN 7 ly) (madeF 7 10 ly mn [z0, z1, z2, z3, z4, z5, z6, z7, z8, z9]) (ordW (madeN 7 ly) [y0, y1, y2, y3, y4, y5, y6])) i).2))) (rd_sub rfl rfl (in_i64 (by omega) (by omega))) rfl ?_
      refine Wx.rd (v := .int .i64 (madeN 7 ly)) (rd_move rfl) rfl ?_
      refine Wx.rd (v := .int .i64 ((madeN 7 ly) - 1)) (rd_sub rfl rfl (in_i64 (by omega) (by omega))) rfl ?_
      refine Wx.rd (v := v_43) (rd_move rfl) rfl ?_
      refine Wx.rd (v := .int .i64 i) (rd_move rfl) rfl ?_
      refine Wx.indexR hS 1 rfl rfl rfl Try.underlying36 Try.sizeOf61 (by first | omega | (simp only [List.length_set, List.length_append, List.length_cons, List.length_nil, List.length_replicate]; omega)) (by first | omega | (simp only [List.length_set, List.length_append, List.length_cons, List.length_nil, List.length_replicate]; omega)) rfl (fun g_150 hg_151 => ?_)
      refine Wx.rd (v := .pointer (some ⟨g_150, i.toNat * 2 + 0, none⟩)) (rd_indexArr (n := 0) rfl rfl Try.underlying61 Try.sizeOf3 (by decide) (by decide)) rfl ?_
      refine Wx.rd (v := .int .i64 ((ix (0, 0) (datesL (madeN 7 ly) (madeF 7 10 ly mn [z0, z1, z2, z3, z4, z5, z6, z7, z8, z9]) (ordW (madeN 7 ly) [y0, y1, y2, y3, y4, y5, y6])) i).1)) (rd_loadR1 hS 1 rfl hg_151 rfl (by first | omega | (simp only [List.length_set, List.length_append, List.length_cons, List.length_nil, List.length_replicate]; omega)) (by first | omega | (simp only [List.length_set, List.length_append, List.length_cons, List.length_nil, List.length_replicate]; omega)) Try.isAgg3) rfl ?_
      have rp_152 := row_pair hS 1 rfl hg_151 (by first | omega | (simp only [List.length_set, List.length_append, List.length_cons, List.length_nil, List.length_replicate]; omega)) (by first | omega | (simp only [List.length_set, List.length_append, List.length_cons, List.length_nil, List.length_replicate]; omega))
      have bd_153 := bd_i64 rp_152.1
      refine Wx.rd (v := .int .i64 (((madeN 7 ly) - 1) - ((ix (0, 0) (datesL (madeN 7 ly) (madeF 7 10 ly mn [z0, z1, z2, z3, z4, z5, z6, z7, z8, z9]) (ordW (madeN 7 ly) [y0, y1, y2, y3, y4, y5, y6])) i).1))) (rd_sub rfl rfl (in_i64 (by omega) (by omega))) rfl ?_
      refine Wx.rd (v := .agg #[.int .i64 (((madeN 7 ly) - 1) - ((ix (0, 0) (datesL (madeN 7 ly) (madeF 7 10 ly mn [z0, z1, z2, z3, z4, z5, z6, z7, z8, z9]) (ordW (madeN 7 ly) [y0, y1, y2, y3, y4, y5, y6])) i).2)), .int .i64 (((madeN 7 ly) - 1) - ((ix (0, 0) (datesL (madeN 7 ly) (madeF 7 10 ly mn [z0, z1, z2, z3, z4, z5, z6, z7, z8, z9]) (ordW (madeN 7 ly) [y0, y1, y2, y3, y4, y5, y6])) i).1))]) (rd_build (vs := [(0, .int .i64 (((madeN 7 ly) - 1) - ((ix (0, 0) (datesL (madeN 7 ly) (madeF 7 10 ly mn [z0, z1, z2, z3, z4, z5, z6, z7, z8, z9]) (ordW (madeN 7 ly) [y0, y1, y2, y3, y4, y5, y6])) i).2))), (1, .int .i64 (((madeN 7 ly) - 1) - ((ix (0, 0) (datesL (madeN 7 ly) (madeF 7 10 ly mn [z0, z1, z2, z3, z4, z5, z6, z7, z8, z9]) (ordW (madeN 7 ly) [y0, y1, y2, y3, y4, y5, y6])) i).1)))]) rfl (by kernel_rfl)) rfl ?_
      refine Wx.rd (v := .bool (!(decide ((ix (0, 0) (datesL (madeN 7 ly) (madeF 7 10 ly mn [z0, z1, z2, z3, z4, z5, z6, z7, z8, z9]) (List.reverse (ordW (madeN 7 ly) [y0, y1, y2, y3, y4, y5, y6]))) i).1 = ((madeN 7 ly) - 1) - ((ix (0, 0) (datesL (madeN 7 ly) (madeF 7 10 ly mn [z0, z1, z2, z3, z4, z5, z6, z7, z8, z9]) (ordW (madeN 7 ly) [y0, y1, y2, y3, y4, y5, y6])) i).2)) && decide ((ix (0, 0) (datesL (madeN 7 ly) (madeF 7 10 ly mn [z0, z1, z2, z3, z4, z5, z6, z7, z8, z9]) (List.reverse (ordW (madeN 7 ly) [y0, y1, y2, y3, y4, y5, y6]))) i).2 = ((madeN 7 ly) - 1) - ((ix (0, 0) (datesL (madeN 7 ly) (madeF 7 10 ly mn [z0, z1, z2, z3, z4, z5, z6, z7, z8, z9]) (ordW (madeN 7 ly) [y0, y1, y2, y3, y4, y5, y6])) i).1))))) (rd_neqA2 rfl rfl Try.underlying61 Try.underlying3 Try.sizeOf3 Try.eqGuardType61) rfl ?_
      refine Wx.nilQ (fun w_154 hx_155 => ?_)
      have hS := hS.ext hx_155
      refine W.condF rfl (by simp [hke]) ?_
      refine W.skip ?_
      refine W.reg ?_
      refine Wx.rd (v := .int .i64 (i + 1)) (rd_add rfl rfl (in_i64 (by omega) (by omega))) rfl ?_
      refine Wx.rd (v := .int .i64 (i + 1)) (rd_move rfl) rfl ?_
      refine Wx.nil ?_
      refine ⟨i + 1, (by show ((datesL (madeN 7 ly) (madeF 7 10 ly mn [z0, z1, z2, z3, z4, z5, z6, z7, z8, z9]) (ordW (madeN 7 ly) [y0, y1, y2, y3, y4, y5, y6]).reverse).length - (i + 1)).toNat < ((datesL (madeN 7 ly) (madeF 7 10 ly mn [z0, z1, z2, z3, z4, z5, z6, z7, z8, z9]) (ordW (madeN 7 ly) [y0, y1, y2, y3, y4, y5, y6]).reverse).length - i).toNat; omega), ?_, ?_, Out.look rfl Out.self⟩
      · exact ⟨hS, (by first | omega | assumption), (by first | omega | assumption)⟩
      · exact ⟨rfl, trivial⟩
    · -- no
      refine W.exit rfl ?_
      refine W.seq ?_
      refine W.reg ?_
      refine Wx.callF (run_callF Try.call15 rfl) (F15) rfl ?_
      rintro r_156 w_157 hx_158 rfl
      have hS := hS.ext hx_158
      refine Wx.rd (v := .bool true) (rd_assign rfl) rfl ?_
      refine Wx.nil ?_
      exact W.ret ⟨.bool true, ResIs.one, hS.bel, rfl⟩
end Go.Proofs.Ytjmpojoimcljoaa
