/-
  WHAT IS PROVED HERE: what functions of layer 3 hand back, each out of its own code; the conditions stand in each statement.
-/
import Derived.Test.YtjmpojoimcljoaaProg
import Derived.Test.YtjmpojoimcljoaaWk9
import Derived.Test.YtjmpojoimcljoaaSpec6
import Derived.Test.YtjmpojoimcljoaaFa
import Derived.Test.YtjmpojoimcljoaaFb
import Derived.Test.YtjmpojoimcljoaaFc
import Derived.Test.YtjmpojoimcljoaaFe
import Derived.Test.YtjmpojoimcljoaaFf
import Derived.Test.YtjmpojoimcljoaaFg
import Derived.Test.YtjmpojoimcljoaaFi
import Derived.Test.YtjmpojoimcljoaaFk
import Derived.Test.YtjmpojoimcljoaaGa
import Derived.Test.YtjmpojoimcljoaaGh
import Derived.Test.YtjmpojoimcljoaaGm
import Derived.Test.YtjmpojoimcljoaaWk11
import Derived.Test.YtjmpojoimcljoaaSpec7
namespace Go.Proofs.Ytjmpojoimcljoaa
open Go.Wk Go.RowKit
set_option linter.unusedVariables false
set_option linter.unusedSimpArgs false
theorem foGn_24_0 : fldOff Try.prog 24 0 = some 0 := by kernel_rfl
theorem foGn_24_1 : fldOff Try.prog 24 1 = some 1 := by kernel_rfl
theorem elGn_28 : ElemI Try.prog 28 3 (.int .i64 0) 1 8 := ElemI.of Try.underlying28 (by kernel_rfl) (by first | rfl | kernel_rfl) (by decide)
theorem elGn_22 : ElemI Try.prog 22 28 ((.slice none 0 0)) 1 24 := ElemI.of Try.underlying22 (by kernel_rfl) (by first | rfl | kernel_rfl) (by decide)

set_option maxHeartbeats 1000000 in
theorem F13 {ly : Int} {mn : Int} {z0 : Int} {z1 : Int} {z2 : Int} {z3 : Int} {z4 : Int} {z5 : Int} {z6 : Int} {z7 : Int} {z8 : Int} {z9 : Int} {y0 : Int} {y1 : Int} {y2 : Int} {y3 : Int} {y4 : Int} {y5 : Int} {y6 : Int} {w : World} (i_ly : InK .u8 ly) (i_mn : InK .u8 mn) (i_z0 : InK .u8 z0) (i_z1 : InK .u8 z1) (i_z2 : InK .u8 z2) (i_z3 : InK .u8 z3) (i_z4 : InK .u8 z4) (i_z5 : InK .u8 z5) (i_z6 : InK .u8 z6) (i_z7 : InK .u8 z7) (i_z8 : InK .u8 z8) (i_z9 : InK .u8 z9) (i_y0 : InK .u8 y0) (i_y1 : InK .u8 y1) (i_y2 : InK .u8 y2) (i_y3 : InK .u8 y3) (i_y4 : InK .u8 y4) (i_y5 : InK .u8 y5) (i_y6 : InK .u8 y6) (p_law : namedP (madeN 6 ly) (madeF 6 8 ly mn [z0, z1, z2, z3, z4, z5, z6, z7, z8, z9]) (ordW (madeN 6 ly) [y0, y1, y2, y3, y4, y5, y6])) : Calls Try.prog 13 #[.agg #[.int .u8 ly, .int .u8 mn, .int .u8 z0, .int .u8 z1, .int .u8 z2, .int .u8 z3, .int .u8 z4, .int .u8 z5, .int .u8 z6, .int .u8 z7, .int .u8 z8, .int .u8 z9], .agg #[.int .u8 y0, .int .u8 y1, .int .u8 y2, .int .u8 y3, .int .u8 y4, .int .u8 y5, .int .u8 y6]] w (Ret w (fun r _ => r = .bool true)) := by
  have b_y6 := bd_u8 i_y6
  have b_y5 := bd_u8 i_y5
  have b_y4 := bd_u8 i_y4
  have b_y3 := bd_u8 i_y3
  have b_y2 := bd_u8 i_y2
  have b_y1 := bd_u8 i_y1
  have b_y0 := bd_u8 i_y0
  have b_z9 := bd_u8 i_z9
  have b_z8 := bd_u8 i_z8
  have b_z7 := bd_u8 i_z7
  have b_z6 := bd_u8 i_z6
  have b_z5 := bd_u8 i_z5
  have b_z4 := bd_u8 i_z4
  have b_z3 := bd_u8 i_z3
  have b_z2 := bd_u8 i_z2
  have b_z1 := bd_u8 i_z1
  have b_z0 := bd_u8 i_z0
  have b_mn := bd_u8 i_mn
  have b_ly := bd_u8 i_ly
  obtain ⟨hc0, hto, hf7, hcg, hcc, hfl, hf0, he1, he2, hl⟩ := p_law
  have hN := madeN_bd (a := 6) (ly := ly) (by omega)
  have hck := check_ok hc0
  have hS := St.start0 w
  refine enterR Try.func13 rfl Try.ntmps13 Try.results13 rfl ?_
  refine W.seq ?_
  refine W.reg ?_
  refine Wx.box (cs := [.int .u8 ly, .int .u8 mn, .int .u8 z0, .int .u8 z1, .int .u8 z2, .int .u8 z3, .int .u8 z4, .int .u8 z5, .int .u8 z6, .int .u8 z7, .int .u8 z8, .int .u8 z9]) hS rfl rfl rfl (fun g_1 w_2 hx_4 hb_3 hS => ?_)
  refine Wx.box (cs := [.int .u8 y0, .int .u8 y1, .int .u8 y2, .int .u8 y3, .int .u8 y4, .int .u8 y5, .int .u8 y6]) hS rfl rfl rfl (fun g_5 w_6 hx_8 hb_7 hS => ?_)
  refine Wx.rd (v := .bool false) (rd_assign rfl) rfl ?_
  refine Wx.nil ?_
  refine W.seq ?_
  refine W.reg ?_
  refine Wx.rd (v := .agg #[.int .u8 ly, .int .u8 mn, .int .u8 z0, .int .u8 z1, .int .u8 z2, .int .u8 z3, .int .u8 z4, .int .u8 z5, .int .u8 z6, .int .u8 z7, .int .u8 z8, .int .u8 z9]) (rd_loadXs (ds := [.int .u8 ly, .int .u8 mn, .int .u8 z0, .int .u8 z1, .int .u8 z2, .int .u8 z3, .int .u8 z4, .int .u8 z5, .int .u8 z6, .int .u8 z7, .int .u8 z8, .int .u8 z9]) hS 1 rfl rfl rfl rfl Try.isAgg64 Try.sizeOf64) rfl ?_
  refine Wx.callF (run_callF Try.call43 rfl) (F43 (in_u8 (by omega) (by omega)) (in_u8 (by omega) (by omega)) (in_u8 (by omega) (by omega)) (in_u8 (by omega) (by omega)) (in_u8 (by omega) (by omega)) (in_u8 (by omega) (by omega)) (in_u8 (by omega) (by omega)) (in_u8 (by omega) (by omega)) (in_u8 (by omega) (by omega)) (in_u8 (by omega) (by omega)) (in_u8 (by omega) (by omega)) (in_u8 (by omega) (by omega)) (in_i64 (by omega) (by omega)) (in_i64 (by omega) (by omega)) (by omega) (by omega) (by omega) (by omega) hS.fb_lt) rfl ?_
  rintro r_9 w_10 hx_11 ⟨v_12, rfl, hv_13⟩
  have ln_15 := hv_13.len63
  have hS := hS.ext hx_11
  have hS := hS.add hv_13
  refine Wx.alloc (cs := [.int .i64 0, (.slice none 0 0)]) hS Try.zeroValue24 rfl rfl (fun g_16 w_17 hx_19 hb_18 hS => ?_)
  refine Wx.storeX (cs' := [.int .i64 (madeN 6 ly), v_12]) (ds := [.int .i64 (madeN 6 ly), v_12]) hS 0 rfl rfl rfl rfl Try.sizeOf24 (Nat.le_of_ble_eq_true rfl) (one_cons rfl (one_cons (V.oneC (hS.v 1 rfl)) one_nil)) rfl (fun w_20 hz_21 hS => ?_)
  refine Wx.nil ?_
  refine W.seq ?_
  refine W.reg ?_
  refine Wx.rd (v := .pointer (some ⟨g_16, 0, none⟩)) (rd_fieldAddr rfl foGn_24_0) rfl ?_
  refine Wx.rd (v := .int .i64 (madeN 6 ly)) (rd_loadX hS 0 rfl rfl rfl Try.isAgg3) rfl ?_
  refine Wx.rd (v := .int .i64 (madeN 6 ly)) (rd_assign rfl) rfl ?_
  refine Wx.nil ?_
  refine W.seq ?_
  refine W.reg ?_
  refine Wx.rd (v := .int .i64 (madeN 6 ly)) (rd_move rfl) rfl ?_
  refine Wx.rd (v := .agg #[.int .u8 y0, .int .u8 y1, .int .u8 y2, .int .u8 y3, .int .u8 y4, .int .u8 y5, .int .u8 y6]) (rd_loadXs (ds := [.int .u8 y0, .int .u8 y1, .int .u8 y2, .int .u8 y3, .int .u8 y4, .int .u8 y5, .int .u8 y6]) hS 2 rfl rfl rfl rfl Try.isAgg78 Try.sizeOf78) rfl ?_
  refine Wx.callF (run_callF Try.call54 rfl) (F54 (in_i64 (by omega) (by omega)) (in_u8 (by omega) (by omega)) (in_u8 (by omega) (by omega)) (in_u8 (by omega) (by omega)) (in_u8 (by omega) (by omega)) (in_u8 (by omega) (by omega)) (in_u8 (by omega) (by omega)) (in_u8 (by omega) (by omega)) (by omega) (by omega)) rfl ?_
  rintro r_22 w_23 hx_24 ⟨_, rfl, hv_25⟩
  have hS := hS.pushFr hx_24 hv_25
  refine Wx.rd (v := r_22) (rd_assign rfl) rfl ?_
  refine Wx.nil ?_
  refine W.seq ?_
  refine W.reg ?_
  refine Wx.rd (v := .int .i64 (madeN 6 ly)) (rd_move rfl) rfl ?_
  refine Wx.rd (v := .agg #[.int .i64 (madeN 6 ly), (.slice none 0 0)]) (rd_build (vs := [(0, .int .i64 (madeN 6 ly))]) rfl (by kernel_rfl)) rfl ?_
  refine Wx.alloc (cs := [.int .i64 0, (.slice none 0 0)]) hS Try.zeroValue24 rfl rfl (fun g_27 w_28 hx_30 hb_29 hS => ?_)
  refine Wx.storeX (cs' := [.int .i64 (madeN 6 ly), (.slice none 0 0)]) (ds := [.int .i64 (madeN 6 ly), (.slice none 0 0)]) hS 0 rfl rfl rfl rfl Try.sizeOf24 (Nat.le_of_ble_eq_true rfl) (one_cons rfl (one_cons rfl one_nil)) rfl (fun w_31 hz_32 hS => ?_)
  refine Wx.nil ?_
  refine W.seq ?_
  refine W.seq ?_
  refine W.reg ?_
  refine Wx.rd (v := .pointer (some ⟨g_16, 1, none⟩)) (rd_fieldAddr rfl foGn_24_1) rfl ?_
  refine Wx.rd (v := v_12) (rd_loadX hS 2 rfl rfl rfl Try.isAgg22) rfl ?_
  refine Wx.rd (v := .int .i64 ((madeF 6 8 ly mn [z0, z1, z2, z3, z4, z5, z6, z7, z8, z9]).length : Int)) (rd_lenV rfl (hS.v 3 rfl) Try.underlying22) rfl ?_
  refine Wx.rd (v := .int .i64 0) (rd_move rfl) rfl ?_
  refine Wx.nil ?_
  refine W.block ?_
  have hS := hS.addNil (tSl (tI .i64)) 28
  refine W.loop [10, 11, 13, 40, 41, 42, 43, 44, 45, 46, 47, 48, 49, 50, 51, 52, 53, 54, 55, 56, 57, 58, 59, 60, 61, 62, 63, 64, 65, 66] (fun x : Int × Value × (List (List Int)) => match x with | (k, sv, acc) => [(40, .int .i64 k)]) (fun (x : Int × Value × (List (List Int))) w' => match x with | (k, sv, acc) => St w [] w' [.row (tSl (tI .i64)) 28 sv acc, .box g_27 24 [.int .i64 (madeN 6 ly), sv], .row (tI .i64) 3 r_22 (ordW (madeN 6 ly) [y0, y1, y2, y3, y4, y5, y6]), .box g_16 24 [.int .i64 (madeN 6 ly), v_12], Ob.v (tSl (tSl (tI .i64))) (madeF 6 8 ly mn [z0, z1, z2, z3, z4, z5, z6, z7, z8, z9]) v_12, .box g_5 78 [.int .u8 y0, .int .u8 y1, .int .u8 y2, .int .u8 y3, .int .u8 y4, .int .u8 y5, .int .u8 y6], .box g_1 64 [.int .u8 ly, .int .u8 mn, .int .u8 z0, .int .u8 z1, .int .u8 z2, .int .u8 z3, .int .u8 z4, .int .u8 z5, .int .u8 z6, .int .u8 z7, .int .u8 z8, .int .u8 z9]] ∧ 0 ≤ k ∧ k ≤ (madeF 6 8 ly mn [z0, z1, z2, z3, z4, z5, z6, z7, z8, z9]).length ∧ acc = ((madeF 6 8 ly mn [z0, z1, z2, z3, z4, z5, z6, z7, z8, z9]).take k.toNat).map (renF (ordW (madeN 6 ly) [y0, y1, y2, y3, y4, y5, y6])) ∧ (acc.length : Int) ≤ k) (fun x : Int × Value × (List (List Int)) => match x with | (k, sv, acc) => ((madeF 6 8 ly mn [z0, z1, z2, z3, z4, z5, z6, z7, z8, z9]).length - k).toNat) (0, (.slice none 0 0), []) ⟨rfl, trivial⟩ ⟨hS, (by first | omega | simp), (by first | omega | simp), (rfl), (by simp)⟩ ?_
  rintro ⟨k, sv, acc⟩ u_34 w_33 ⟨hS, h0, h1, h2, h3⟩
  refine W.seq ?_
  refine W.reg ?_
  refine Wx.rd (v := .bool (decide (k < ((madeF 6 8 ly mn [z0, z1, z2, z3, z4, z5, z6, z7, z8, z9]).length : Int)))) (rd_lss rfl rfl) rfl ?_
  refine Wx.nil ?_
  refine W.seq ?_
  refine W.condD rfl (fun c0 => ?_) (fun c0 => ?_)
  · -- yes
    have hfm : (ix [] (madeF 6 8 ly mn [z0, z1, z2, z3, z4, z5, z6, z7, z8, z9]) k) ∈ madeF 6 8 ly mn [z0, z1, z2, z3, z4, z5, z6, z7, z8, z9] := List.mem_of_getElem? (ix_get (d := []) c0 h0)
    have hfk := hf7 _ hfm
    refine W.skip ?_
    refine W.seq ?_
    refine W.block ?_
    refine W.seq ?_
    refine W.reg ?_
    refine Wx.ex (rd_index [] (hS.v 4 rfl) rfl rfl Try.underlying22 Try.sizeOf28 (by first | omega | (simp only [List.length_set, List.length_append, List.length_cons, List.length_nil, List.length_replicate]; omega)) (by first | omega | (simp only [List.length_set, List.length_append, List.length_cons, List.length_nil, List.length_replicate]; omega))) rfl (fun p_35 hp_36 => ?_)
    refine Wx.ex (rd_load hp_36 rfl Try.isAgg28 Try.sizeOf28) rfl (fun v_37 hv_38 => ?_)
    have ln_39 := hv_38.len63
    have hS := hS.add hv_38
    refine Wx.rd (v := v_37) (rd_assign rfl) rfl ?_
    refine Wx.nil ?_
    refine W.seq ?_
    refine W.reg ?_
    refine Wx.rd (v := (.slice none 0 0)) (rd_assign rfl) rfl ?_
    refine Wx.nil ?_
    refine W.seq ?_
    refine W.seq ?_
    refine W.reg ?_
    refine Wx.rd (v := v_37) (rd_move rfl) rfl ?_
    refine Wx.rd (v := .int .i64 ((ix [] (madeF 6 8 ly mn [z0, z1, z2, z3, z4, z5, z6, z7, z8, z9]) k).length : Int)) (rd_lenV rfl (hS.v 0 rfl) Try.underlying28) rfl ?_
    refine Wx.rd (v := .int .i64 0) (rd_move rfl) rfl ?_
    refine Wx.nil ?_
    refine W.block ?_
    have hS := hS.addNil (tI .i64) 3
    refine W.loop [11, 13, 46, 47, 48, 49, 50, 51, 52, 53, 54, 55, 56, 57] (fun x : Int × Value × (List Int) => match x with | (j, lv, l) => [(46, .int .i64 j), (11, lv)]) (fun (x : Int × Value × (List Int)) w' => match x with | (j, lv, l) => St w [] w' [.row (tI .i64) 3 lv l, Ob.v (tSl (tI .i64)) (ix [] (madeF 6 8 ly mn [z0, z1, z2, z3, z4, z5, z6, z7, z8, z9]) k) v_37, .row (tSl (tI .i64)) 28 sv acc, .box g_27 24 [.int .i64 (madeN 6 ly), sv], .row (tI .i64) 3 r_22 (ordW (madeN 6 ly) [y0, y1, y2, y3, y4, y5, y6]), .box g_16 24 [.int .i64 (madeN 6 ly), v_12], Ob.v (tSl (tSl (tI .i64))) (madeF 6 8 ly mn [z0, z1, z2, z3, z4, z5, z6, z7, z8, z9]) v_12, .box g_5 78 [.int .u8 y0, .int .u8 y1, .int .u8 y2, .int .u8 y3, .int .u8 y4, .int .u8 y5, .int .u8 y6], .box g_1 64 [.int .u8 ly, .int .u8 mn, .int .u8 z0, .int .u8 z1, .int .u8 z2, .int .u8 z3, .int .u8 z4, .int .u8 z5, .int .u8 z6, .int .u8 z7, .int .u8 z8, .int .u8 z9]] ∧ 0 ≤ j ∧ j ≤ (ix [] (madeF 6 8 ly mn [z0, z1, z2, z3, z4, z5, z6, z7, z8, z9]) k).length ∧ l = ((ix [] (madeF 6 8 ly mn [z0, z1, z2, z3, z4, z5, z6, z7, z8, z9]) k).take j.toNat).map (fun x => ix 0 (ordW (madeN 6 ly) [y0, y1, y2, y3, y4, y5, y6]) x) ∧ (l.length : Int) ≤ j) (fun x : Int × Value × (List Int) => match x with | (j, lv, l) => ((ix [] (madeF 6 8 ly mn [z0, z1, z2, z3, z4, z5, z6, z7, z8, z9]) k).length - j).toNat) (0, (.slice none 0 0), []) ⟨rfl, rfl, trivial⟩ ⟨hS, (by first | omega | simp), (by first | omega | simp), (rfl), (by simp)⟩ ?_
    rintro ⟨j, lv, l⟩ u_42 w_41 ⟨hS, g0, g1, g2, g3⟩
    refine W.seq ?_
    refine W.reg ?_
    refine Wx.rd (v := .bool (decide (j < ((ix [] (madeF 6 8 ly mn [z0, z1, z2, z3, z4, z5, z6, z7, z8, z9]) k).length : Int)))) (rd_lss rfl rfl) rfl ?_
    refine Wx.nil ?_
    refine W.seq ?_
    refine W.condD rfl (fun c1 => ?_) (fun c1 => ?_)
    · -- yes
      have hxb := hck.2.2.2 _ hfm _ (ix_mem g0 c1)
      refine W.skip ?_
      refine W.seq ?_
      refine W.block ?_
      refine W.seq ?_
      refine W.reg ?_
      refine Wx.ex (rd_index 0 (hS.v 1 rfl) rfl rfl Try.underlying28 Try.sizeOf3 (by first | omega | (simp only [List.length_set, List.length_append, List.length_cons, List.length_nil, List.length_replicate]; omega)) (by first | omega | (simp only [List.length_set, List.length_append, List.length_cons, List.length_nil, List.length_replicate]; omega))) rfl (fun p_43 hp_44 => ?_)
      refine Wx.rd (v := .int .i64 (ix 0 (ix [] (madeF 6 8 ly mn [z0, z1, z2, z3, z4, z5, z6, z7, z8, z9]) k) j)) (rd_loadI hp_44 rfl Try.isAgg3 Try.sizeOf3) rfl ?_
      have bd_45 := bd_i64 hp_44.inK
      refine Wx.rd (v := .int .i64 (ix 0 (ix [] (madeF 6 8 ly mn [z0, z1, z2, z3, z4, z5, z6, z7, z8, z9]) k) j)) (rd_assign rfl) rfl ?_
      refine Wx.nil ?_
      refine W.reg ?_
      refine Wx.rd (v := lv) (rd_move rfl) rfl ?_
      refine Wx.rd (v := r_22) (rd_move rfl) rfl ?_
      refine Wx.rd (v := .int .i64 (ix 0 (ix [] (madeF 6 8 ly mn [z0, z1, z2, z3, z4, z5, z6, z7, z8, z9]) k) j)) (rd_move rfl) rfl ?_
      refine Wx.indexR hS 4 rfl rfl rfl Try.underlying28 Try.sizeOf3 (by first | omega | (simp only [List.length_set, List.length_append, List.length_cons, List.length_nil, List.length_replicate]; omega)) (by first | omega | (simp only [List.length_set, List.length_append, List.length_cons, List.length_nil, List.length_replicate]; omega)) rfl (fun g_46 hg_47 => ?_)
      refine Wx.rd (v := .int .i64 (ix 0 (ordW (madeN 6 ly) [y0, y1, y2, y3, y4, y5, y6]) (ix 0 (ix [] (madeF 6 8 ly mn [z0, z1, z2, z3, z4, z5, z6, z7, z8, z9]) k) j))) (rd_loadRI' hS 4 rfl hg_47 rfl (by first | omega | (simp only [List.length_set, List.length_append, List.length_cons, List.length_nil, List.length_replicate]; omega)) (by first | omega | (simp only [List.length_set, List.length_append, List.length_cons, List.length_nil, List.length_replicate]; omega)) Try.isAgg3 Try.sizeOf3) rfl ?_
      have bd_48 := bd_i64 (hS.rowInK' 4 rfl (by first | omega | (simp only [List.length_set, List.length_append, List.length_cons, List.length_nil, List.length_replicate]; omega)) (by first | omega | (simp only [List.length_set, List.length_append, List.length_cons, List.length_nil, List.length_replicate]; omega)) : InK .i64 (ix 0 (ordW (madeN 6 ly) [y0, y1, y2, y3, y4, y5, y6]) (ix 0 (ix [] (madeF 6 8 ly mn [z0, z1, z2, z3, z4, z5, z6, z7, z8, z9]) k) j)))
      refine Wx.lit (t := (tI .i64)) (ys := [ix 0 (ordW (madeN 6 ly) [y0, y1, y2, y3, y4, y5, y6]) (ix 0 (ix [] (madeF 6 8 ly mn [z0, z1, z2, z3, z4, z5, z6, z7, z8, z9]) k) j)]) (vs := [.int .i64 (ix 0 (ordW (madeN 6 ly) [y0, y1, y2, y3, y4, y5, y6]) (ix 0 (ix [] (madeF 6 8 ly mn [z0, z1, z2, z3, z4, z5, z6, z7, z8, z9]) k) j))]) elGn_28 hS rfl rfl ⟨(V.mkInt (in_i64 (by omega) (by omega))), trivial⟩ (by decide) rfl (fun v_49 w_50 hx_51 hS => ?_)
      refine Wx.append elGn_28 hS 1 rfl rfl rfl (Src.ofR hS 0 rfl) (by simp only [maxLen]; simp; omega) (by simp; omega) rfl (fun v_52 w_53 hz_54 hS => ?_)
      refine Wx.rd (v := v_52) (rd_assign rfl) rfl ?_
      refine Wx.nil ?_
      refine W.reg ?_
      refine Wx.rd (v := .int .i64 (j + 1)) (rd_add rfl rfl (in_i64 (by omega) (by omega))) rfl ?_
      refine Wx.rd (v := .int .i64 (j + 1)) (rd_move rfl) rfl ?_
      refine Wx.nil ?_
      refine ⟨(j + 1, v_52, l ++ [ix 0 (ordW (madeN 6 ly) [y0, y1, y2, y3, y4, y5, y6]) (ix 0 (ix [] (madeF 6 8 ly mn [z0, z1, z2, z3, z4, z5, z6, z7, z8, z9]) k) j)]), (by show ((ix [] (madeF 6 8 ly mn [z0, z1, z2, z3, z4, z5, z6, z7, z8, z9]) k).length - (j + 1)).toNat < ((ix [] (madeF 6 8 ly mn [z0, z1, z2, z3, z4, z5, z6, z7, z8, z9]) k).length - j).toNat; omega), ?_, ?_, Out.look rfl Out.self⟩
      · exact ⟨hS.tl, (by first | omega | assumption), (by first | omega | assumption), (by rw [g2, take_ix (d := 0) g0 c1, List.map_append]; rfl), (by simp; omega)⟩
      · exact ⟨rfl, rfl, trivial⟩
    · -- no
      refine W.exit rfl ?_
      refine W.seq ?_
      refine W.reg ?_
      refine Wx.rd (v := lv) (rd_move rfl) rfl ?_
      refine Wx.callB (run_callF Try.call59 rfl) (F59 (ob := [Ob.v (tSl (tI .i64)) (ix [] (madeF 6 8 ly mn [z0, z1, z2, z3, z4, z5, z6, z7, z8, z9]) k) v_37, .row (tSl (tI .i64)) 28 sv acc, .box g_27 24 [.int .i64 (madeN 6 ly), sv], .row (tI .i64) 3 r_22 (ordW (madeN 6 ly) [y0, y1, y2, y3, y4, y5, y6]), .box g_16 24 [.int .i64 (madeN 6 ly), v_12], Ob.v (tSl (tSl (tI .i64))) (madeF 6 8 ly mn [z0, z1, z2, z3, z4, z5, z6, z7, z8, z9]) v_12, .box g_5 78 [.int .u8 y0, .int .u8 y1, .int .u8 y2, .int .u8 y3, .int .u8 y4, .int .u8 y5, .int .u8 y6], .box g_1 64 [.int .u8 ly, .int .u8 mn, .int .u8 z0, .int .u8 z1, .int .u8 z2, .int .u8 z3, .int .u8 z4, .int .u8 z5, .int .u8 z6, .int .u8 z7, .int .u8 z8, .int .u8 z9]]) (by omega) (hS.front 0 rfl)) rfl ?_
      rintro r_55 w_56 ⟨rfl, hS⟩
      have hS : St _ _ w_56 [.row (tI .i64) 3 lv (sortW l), Ob.v (tSl (tI .i64)) (ix [] (madeF 6 8 ly mn [z0, z1, z2, z3, z4, z5, z6, z7, z8, z9]) k) v_37, .row (tSl (tI .i64)) 28 sv acc, .box g_27 24 [.int .i64 (madeN 6 ly), sv], .row (tI .i64) 3 r_22 (ordW (madeN 6 ly) [y0, y1, y2, y3, y4, y5, y6]), .box g_16 24 [.int .i64 (madeN 6 ly), v_12], Ob.v (tSl (tSl (tI .i64))) (madeF 6 8 ly mn [z0, z1, z2, z3, z4, z5, z6, z7, z8, z9]) v_12, .box g_5 78 [.int .u8 y0, .int .u8 y1, .int .u8 y2, .int .u8 y3, .int .u8 y4, .int .u8 y5, .int .u8 y6], .box g_1 64 [.int .u8 ly, .int .u8 mn, .int .u8 z0, .int .u8 z1, .int .u8 z2, .int .u8 z3, .int .u8 z4, .int .u8 z5, .int .u8 z6, .int .u8 z7, .int .u8 z8, .int .u8 z9]] := St.putBack (obs := [.row (tI .i64) 3 lv l, Ob.v (tSl (tI .i64)) (ix [] (madeF 6 8 ly mn [z0, z1, z2, z3, z4, z5, z6, z7, z8, z9]) k) v_37, .row (tSl (tI .i64)) 28 sv acc, .box g_27 24 [.int .i64 (madeN 6 ly), sv], .row (tI .i64) 3 r_22 (ordW (madeN 6 ly) [y0, y1, y2, y3, y4, y5, y6]), .box g_16 24 [.int .i64 (madeN 6 ly), v_12], Ob.v (tSl (tSl (tI .i64))) (madeF 6 8 ly mn [z0, z1, z2, z3, z4, z5, z6, z7, z8, z9]) v_12, .box g_5 78 [.int .u8 y0, .int .u8 y1, .int .u8 y2, .int .u8 y3, .int .u8 y4, .int .u8 y5, .int .u8 y6], .box g_1 64 [.int .u8 ly, .int .u8 mn, .int .u8 z0, .int .u8 z1, .int .u8 z2, .int .u8 z3, .int .u8 z4, .int .u8 z5, .int .u8 z6, .int .u8 z7, .int .u8 z8, .int .u8 z9]]) 0 hS (by simp)
      refine Wx.nil ?_
      refine W.reg ?_
      refine Wx.rd (v := .pointer (some ⟨g_27, 1, none⟩)) (rd_fieldAddr rfl foGn_24_1) rfl ?_
      refine Wx.rd (v := sv) (rd_loadX hS 3 rfl rfl rfl Try.isAgg22) rfl ?_
      refine Wx.rd (v := lv) (rd_move rfl) rfl ?_
      have hS := hS.freeze 0 rfl
      refine Wx.lit (t := (tSl (tI .i64))) (ys := [sortW l]) (vs := [lv]) elGn_22 hS rfl rfl ⟨(hS.v 0 rfl), trivial⟩ (by decide) rfl (fun v_58 w_59 hx_60 hS => ?_)
      refine Wx.append elGn_22 hS 3 rfl rfl rfl (Src.ofR hS 0 rfl) (by simp only [maxLen]; simp; omega) (by simp; omega) rfl (fun v_61 w_62 hz_63 hS => ?_)
      refine Wx.rd (v := .pointer (some ⟨g_27, 1, none⟩)) (rd_fieldAddr rfl foGn_24_1) rfl ?_
      refine Wx.storeX (cs' := [.int .i64 (madeN 6 ly), v_61]) (ds := [v_61]) hS 4 rfl rfl rfl (cells_one (hS.rowOne 3 rfl)) Try.sizeOf22 (Nat.le_of_ble_eq_true rfl) (one_cons (hS.rowOne 3 rfl) one_nil) rfl (fun w_64 hz_65 hS => ?_)
      refine Wx.nil ?_
      refine W.reg ?_
      refine Wx.rd (v := .int .i64 (k + 1)) (rd_add rfl rfl (in_i64 (by omega) (by omega))) rfl ?_
      refine Wx.rd (v := .int .i64 (k + 1)) (rd_move rfl) rfl ?_
      refine Wx.nil ?_
      refine ⟨(k + 1, v_61, acc ++ [sortW l]), (by show ((madeF 6 8 ly mn [z0, z1, z2, z3, z4, z5, z6, z7, z8, z9]).length - (k + 1)).toNat < ((madeF 6 8 ly mn [z0, z1, z2, z3, z4, z5, z6, z7, z8, z9]).length - k).toNat; omega), ?_, ?_, Out.look rfl (Out.hav rfl (Out.look rfl Out.self))⟩
      · exact ⟨St.tl (St.tl (hS.tl)), (by first | omega | assumption), (by first | omega | assumption), (by rw [h2, take_ix (d := []) h0 c0, List.map_append, g2, take_end (xs := (ix [] (madeF 6 8 ly mn [z0, z1, z2, z3, z4, z5, z6, z7, z8, z9]) k)) (n := j) (by omega)]; rfl), (by simp; omega)⟩
      · exact ⟨rfl, trivial⟩
  · -- no
    refine W.exit rfl ?_
    refine W.seq ?_
    refine W.reg ?_
    have hacc : acc = (madeF 6 8 ly mn [z0, z1, z2, z3, z4, z5, z6, z7, z8, z9]).map (renF (ordW (madeN 6 ly) [y0, y1, y2, y3, y4, y5, y6])) := by rw [h2, take_end (by omega)]
    refine Wx.rd (v := .agg #[.int .i64 (madeN 6 ly), v_12]) (rd_loadXs (ds := [.int .i64 (madeN 6 ly), v_12]) hS 3 rfl rfl rfl rfl Try.isAgg24 Try.sizeOf24) rfl ?_
    refine Wx.callF (run_callF Try.call18 rfl) (F18 (in_i64 (by omega) (by omega)) (hS.v 4 rfl)) rfl ?_
    rintro r_66 w_67 hx_68 rfl
    have hS := hS.ext hx_68
    refine Wx.rd (v := .tuple #[.int .i64 (countE (madeN 6 ly) (madeF 6 8 ly mn [z0, z1, z2, z3, z4, z5, z6, z7, z8, z9])), .int .i64 (checkE (madeN 6 ly) (madeF 6 8 ly mn [z0, z1, z2, z3, z4, z5, z6, z7, z8, z9]))]) (rd_move rfl) rfl ?_
    refine Wx.rd (v := .int .i64 (countE (madeN 6 ly) (madeF 6 8 ly mn [z0, z1, z2, z3, z4, z5, z6, z7, z8, z9]))) (rd_extract rfl rfl) rfl ?_
    refine Wx.rd (v := .int .i64 (checkE (madeN 6 ly) (madeF 6 8 ly mn [z0, z1, z2, z3, z4, z5, z6, z7, z8, z9]))) (rd_extract rfl rfl) rfl ?_
    refine Wx.rd (v := .int .i64 (countE (madeN 6 ly) (madeF 6 8 ly mn [z0, z1, z2, z3, z4, z5, z6, z7, z8, z9]))) (rd_assign rfl) rfl ?_
    refine Wx.rd (v := .int .i64 (checkE (madeN 6 ly) (madeF 6 8 ly mn [z0, z1, z2, z3, z4, z5, z6, z7, z8, z9]))) (rd_assign rfl) rfl ?_
    refine Wx.nil ?_
    refine W.seq ?_
    refine W.reg ?_
    refine Wx.rd (v := .agg #[.int .i64 (madeN 6 ly), sv]) (rd_loadXs (ds := [.int .i64 (madeN 6 ly), sv]) hS 1 rfl rfl rfl rfl Try.isAgg24 Try.sizeOf24) rfl ?_
    refine Wx.callF (run_callF Try.call18 rfl) (F18 (in_i64 (by omega) (by omega)) (hS.lend 0 rfl)) rfl ?_
    rintro r_69 w_70 hx_71 rfl
    have hS := hS.ext hx_71
    refine Wx.rd (v := .tuple #[.int .i64 (countE (madeN 6 ly) acc), .int .i64 (checkE (madeN 6 ly) acc)]) (rd_move rfl) rfl ?_
    refine Wx.rd (v := .int .i64 (countE (madeN 6 ly) acc)) (rd_extract rfl rfl) rfl ?_
    refine Wx.rd (v := .int .i64 (checkE (madeN 6 ly) acc)) (rd_extract rfl rfl) rfl ?_
    refine Wx.rd (v := .int .i64 (countE (madeN 6 ly) acc)) (rd_assign rfl) rfl ?_
    refine Wx.rd (v := .int .i64 (checkE (madeN 6 ly) acc)) (rd_assign rfl) rfl ?_
    refine Wx.nil ?_
    refine W.seq ?_
    refine W.reg ?_
    refine Wx.rd (v := .agg #[.int .i64 (madeN 6 ly), v_12]) (rd_loadXs (ds := [.int .i64 (madeN 6 ly), v_12]) hS 3 rfl rfl rfl rfl Try.isAgg24 Try.sizeOf24) rfl ?_
    refine Wx.callF (run_callF Try.call28 rfl) (F28 (in_i64 (by omega) (by omega)) (hS.v 4 rfl) hS.fb_lt) rfl ?_
    rintro r_72 w_73 hx_74 ⟨v_75, rfl, hv_76⟩
    have ln_78 := hv_76.len63
    have hS := hS.ext hx_74
    have hS := hS.add hv_76
    refine Wx.rd (v := .tuple #[v_75, .int .i64 (checkE (madeN 6 ly) (madeF 6 8 ly mn [z0, z1, z2, z3, z4, z5, z6, z7, z8, z9]))]) (rd_move rfl) rfl ?_
    refine Wx.rd (v := v_75) (rd_extract rfl rfl) rfl ?_
    refine Wx.rd (v := .int .i64 (checkE (madeN 6 ly) (madeF 6 8 ly mn [z0, z1, z2, z3, z4, z5, z6, z7, z8, z9]))) (rd_extract rfl rfl) rfl ?_
    refine Wx.rd (v := v_75) (rd_assign rfl) rfl ?_
    refine Wx.rd (v := .int .i64 (checkE (madeN 6 ly) (madeF 6 8 ly mn [z0, z1, z2, z3, z4, z5, z6, z7, z8, z9]))) (rd_assign rfl) rfl ?_
    refine Wx.nil ?_
    refine W.seq ?_
    refine W.reg ?_
    refine Wx.rd (v := .agg #[.int .i64 (madeN 6 ly), sv]) (rd_loadXs (ds := [.int .i64 (madeN 6 ly), sv]) hS 2 rfl rfl rfl rfl Try.isAgg24 Try.sizeOf24) rfl ?_
    have hS := hS.freeze 1 rfl
    refine Wx.callF (run_callF Try.call28 rfl) (F28 (in_i64 (by omega) (by omega)) (hS.v 0 rfl) hS.fb_lt) rfl ?_
    rintro r_80 w_81 hx_82 ⟨v_83, rfl, hv_84⟩
    have ln_86 := hv_84.len63
    have hS := hS.ext hx_82
    have hS := hS.add hv_84
    refine Wx.rd (v := .tuple #[v_83, .int .i64 (checkE (madeN 6 ly) acc)]) (rd_move rfl) rfl ?_
    refine Wx.rd (v := v_83) (rd_extract rfl rfl) rfl ?_
    refine Wx.rd (v := .int .i64 (checkE (madeN 6 ly) acc)) (rd_extract rfl rfl) rfl ?_
    refine Wx.rd (v := v_83) (rd_assign rfl) rfl ?_
    refine Wx.rd (v := .int .i64 (checkE (madeN 6 ly) acc)) (rd_assign rfl) rfl ?_
    refine Wx.nil ?_
    refine W.seq ?_
    refine W.seq ?_
    refine W.reg ?_
    refine Wx.rd (v := .int .i64 (checkE (madeN 6 ly) (madeF 6 8 ly mn [z0, z1, z2, z3, z4, z5, z6, z7, z8, z9]))) (rd_move rfl) rfl ?_
    refine Wx.rd (v := .bool (decide ((checkE (madeN 6 ly) (madeF 6 8 ly mn [z0, z1, z2, z3, z4, z5, z6, z7, z8, z9])) ≠ 0))) (rd_neq rfl rfl) rfl ?_
    refine Wx.rd (v := .bool (decide ((checkE (madeN 6 ly) (madeF 6 8 ly mn [z0, z1, z2, z3, z4, z5, z6, z7, z8, z9])) ≠ 0))) (rd_move rfl) rfl ?_
    refine Wx.cut (X := Unit) 3 [90, 91, 92] (fun _ => [(92, .bool (decide ((checkE (madeN 6 ly) (madeF 6 8 ly mn [z0, z1, z2, z3, z4, z5, z6, z7, z8, z9])) ≠ 0) || decide ((checkE (madeN 6 ly) acc) ≠ 0)))]) (fun _ w' => St w [] w' [Ob.v (tSl (tI .i64)) (fewestL (madeN 6 ly) acc) v_83, Ob.v (tSl (tSl (tI .i64))) acc sv, Ob.v (tSl (tI .i64)) (fewestL (madeN 6 ly) (madeF 6 8 ly mn [z0, z1, z2, z3, z4, z5, z6, z7, z8, z9])) v_75, .box g_27 24 [.int .i64 (madeN 6 ly), sv], .row (tI .i64) 3 r_22 (ordW (madeN 6 ly) [y0, y1, y2, y3, y4, y5, y6]), .box g_16 24 [.int .i64 (madeN 6 ly), v_12], Ob.v (tSl (tSl (tI .i64))) (madeF 6 8 ly mn [z0, z1, z2, z3, z4, z5, z6, z7, z8, z9]) v_12, .box g_5 78 [.int .u8 y0, .int .u8 y1, .int .u8 y2, .int .u8 y3, .int .u8 y4, .int .u8 y5, .int .u8 y6], .box g_1 64 [.int .u8 ly, .int .u8 mn, .int .u8 z0, .int .u8 z1, .int .u8 z2, .int .u8 z3, .int .u8 z4, .int .u8 z5, .int .u8 z6, .int .u8 z7, .int .u8 z8, .int .u8 z9]]) ?_ ?_
    · rcases Bool.eq_false_or_eq_true (decide ((checkE (madeN 6 ly) (madeF 6 8 ly mn [z0, z1, z2, z3, z4, z5, z6, z7, z8, z9])) ≠ 0)) with g_87 | g_87
      · -- True
        have gp_88 := of_decide_eq_true g_87
        refine Wx.gnoB rfl rfl (congrArg Value.bool g_87) rfl rfl ?_
        refine Wx.gnoB rfl rfl (congrArg Value.bool g_87) rfl rfl ?_
        refine Wx.rd (v := .bool true) (rd_pickT (congrArg Value.bool g_87) rfl) rfl ?_
        refine Wx.nil ⟨(), hS, ⟨?_, trivial⟩, Out.look rfl Out.refl⟩
        show Value.bool true = Value.bool (decide ((checkE (madeN 6 ly) (madeF 6 8 ly mn [z0, z1, z2, z3, z4, z5, z6, z7, z8, z9])) ≠ 0) || decide ((checkE (madeN 6 ly) acc) ≠ 0))
        rw [g_87]; rfl
      · -- False
        have gp_89 := of_decide_eq_false g_87
        refine Wx.gyes rfl rfl (congrArg Value.bool g_87) ?_
        refine Wx.rd (v := .int .i64 (checkE (madeN 6 ly) acc)) (rd_move rfl) rfl ?_
        refine Wx.gyes rfl rfl (congrArg Value.bool g_87) ?_
        refine Wx.rd (v := .bool (decide ((checkE (madeN 6 ly) acc) ≠ 0))) (rd_neq rfl rfl) rfl ?_
        refine Wx.rd (v := .bool (decide ((checkE (madeN 6 ly) acc) ≠ 0))) (rd_pickF (congrArg Value.bool g_87) rfl) rfl ?_
        refine Wx.nil ⟨(), hS, ⟨?_, trivial⟩, Out.look rfl Out.refl⟩
        show Value.bool (decide ((checkE (madeN 6 ly) acc) ≠ 0)) = Value.bool (decide ((checkE (madeN 6 ly) (madeF 6 8 ly mn [z0, z1, z2, z3, z4, z5, z6, z7, z8, z9])) ≠ 0) || decide ((checkE (madeN 6 ly) acc) ≠ 0))
        rw [g_87]; rfl
    rintro ⟨⟩ u_91 w_90 hS
    refine Wx.rd (v := .bool (decide ((checkE (madeN 6 ly) (madeF 6 8 ly mn [z0, z1, z2, z3, z4, z5, z6, z7, z8, z9])) ≠ 0) || decide ((checkE (madeN 6 ly) acc) ≠ 0))) (rd_move rfl) rfl ?_
    refine Wx.cut (X := Unit) 3 [94, 95, 96] (fun _ => [(96, .bool ((decide ((checkE (madeN 6 ly) (madeF 6 8 ly mn [z0, z1, z2, z3, z4, z5, z6, z7, z8, z9])) ≠ 0) || decide ((checkE (madeN 6 ly) acc) ≠ 0)) || decide ((checkE (madeN 6 ly) (madeF 6 8 ly mn [z0, z1, z2, z3, z4, z5, z6, z7, z8, z9])) ≠ 0)))]) (fun _ w' => St w [] w' [Ob.v (tSl (tI .i64)) (fewestL (madeN 6 ly) acc) v_83, Ob.v (tSl (tSl (tI .i64))) acc sv, Ob.v (tSl (tI .i64)) (fewestL (madeN 6 ly) (madeF 6 8 ly mn [z0, z1, z2, z3, z4, z5, z6, z7, z8, z9])) v_75, .box g_27 24 [.int .i64 (madeN 6 ly), sv], .row (tI .i64) 3 r_22 (ordW (madeN 6 ly) [y0, y1, y2, y3, y4, y5, y6]), .box g_16 24 [.int .i64 (madeN 6 ly), v_12], Ob.v (tSl (tSl (tI .i64))) (madeF 6 8 ly mn [z0, z1, z2, z3, z4, z5, z6, z7, z8, z9]) v_12, .box g_5 78 [.int .u8 y0, .int .u8 y1, .int .u8 y2, .int .u8 y3, .int .u8 y4, .int .u8 y5, .int .u8 y6], .box g_1 64 [.int .u8 ly, .int .u8 mn, .int .u8 z0, .int .u8 z1, .int .u8 z2, .int .u8 z3, .int .u8 z4, .int .u8 z5, .int .u8 z6, .int .u8 z7, .int .u8 z8, .int .u8 z9]]) ?_ ?_
    · rcases Bool.eq_false_or_eq_true (decide ((checkE (madeN 6 ly) (madeF 6 8 ly mn [z0, z1, z2, z3, z4, z5, z6, z7, z8, z9])) ≠ 0) || decide ((checkE (madeN 6 ly) acc) ≠ 0)) with g_92 | g_92
      · -- True
        have gp_93 := g_92
        try simp only [Bool.and_eq_true, Bool.or_eq_true, Bool.not_eq_true', Bool.and_eq_false_iff, Bool.or_eq_false_iff, Bool.not_eq_false', decide_eq_true_eq, decide_eq_false_iff_not, not_or, Bool.false_eq_true, Bool.true_eq_false, false_or, or_false, not_false_eq_true] at gp_93
        refine Wx.gnoB rfl rfl (congrArg Value.bool g_92) rfl rfl ?_
        refine Wx.gnoB rfl rfl (congrArg Value.bool g_92) rfl rfl ?_
        refine Wx.rd (v := .bool true) (rd_pickT (congrArg Value.bool g_92) rfl) rfl ?_
        refine Wx.nil ⟨(), hS, ⟨?_, trivial⟩, Out.look rfl Out.refl⟩
        show Value.bool true = Value.bool ((decide ((checkE (madeN 6 ly) (madeF 6 8 ly mn [z0, z1, z2, z3, z4, z5, z6, z7, z8, z9])) ≠ 0) || decide ((checkE (madeN 6 ly) acc) ≠ 0)) || decide ((checkE (madeN 6 ly) (madeF 6 8 ly mn [z0, z1, z2, z3, z4, z5, z6, z7, z8, z9])) ≠ 0))
        rw [g_92]; rfl
      · -- False
        have gp_94 := g_92
        try simp only [Bool.and_eq_true, Bool.or_eq_true, Bool.not_eq_true', Bool.and_eq_false_iff, Bool.or_eq_false_iff, Bool.not_eq_false', decide_eq_true_eq, decide_eq_false_iff_not, not_or, Bool.false_eq_true, Bool.true_eq_false, false_or, or_false, not_false_eq_true] at gp_94
        refine Wx.gyes rfl rfl (congrArg Value.bool g_92) ?_
        refine Wx.rd (v := .int .i64 (checkE (madeN 6 ly) (madeF 6 8 ly mn [z0, z1, z2, z3, z4, z5, z6, z7, z8, z9]))) (rd_move rfl) rfl ?_
        refine Wx.gyes rfl rfl (congrArg Value.bool g_92) ?_
        refine Wx.rd (v := .bool (decide ((checkE (madeN 6 ly) (madeF 6 8 ly mn [z0, z1, z2, z3, z4, z5, z6, z7, z8, z9])) ≠ 0))) (rd_neq rfl rfl) rfl ?_
        refine Wx.rd (v := .bool (decide ((checkE (madeN 6 ly) (madeF 6 8 ly mn [z0, z1, z2, z3, z4, z5, z6, z7, z8, z9])) ≠ 0))) (rd_pickF (congrArg Value.bool g_92) rfl) rfl ?_
        refine Wx.nil ⟨(), hS, ⟨?_, trivial⟩, Out.look rfl Out.refl⟩
        show Value.bool (decide ((checkE (madeN 6 ly) (madeF 6 8 ly mn [z0, z1, z2, z3, z4, z5, z6, z7, z8, z9])) ≠ 0)) = Value.bool ((decide ((checkE (madeN 6 ly) (madeF 6 8 ly mn [z0, z1, z2, z3, z4, z5, z6, z7, z8, z9])) ≠ 0) || decide ((checkE (madeN 6 ly) acc) ≠ 0)) || decide ((checkE (madeN 6 ly) (madeF 6 8 ly mn [z0, z1, z2, z3, z4, z5, z6, z7, z8, z9])) ≠ 0))
        rw [g_92]; rfl
    rintro ⟨⟩ u_96 w_95 hS
    refine Wx.rd (v := .bool ((decide ((checkE (madeN 6 ly) (madeF 6 8 ly mn [z0, z1, z2, z3, z4, z5, z6, z7, z8, z9])) ≠ 0) || decide ((checkE (madeN 6 ly) acc) ≠ 0)) || decide ((checkE (madeN 6 ly) (madeF 6 8 ly mn [z0, z1, z2, z3, z4, z5, z6, z7, z8, z9])) ≠ 0))) (rd_move rfl) rfl ?_
    refine Wx.cut (X := Unit) 3 [98, 99, 100] (fun _ => [(100, .bool (((decide ((checkE (madeN 6 ly) (madeF 6 8 ly mn [z0, z1, z2, z3, z4, z5, z6, z7, z8, z9])) ≠ 0) || decide ((checkE (madeN 6 ly) acc) ≠ 0)) || decide ((checkE (madeN 6 ly) (madeF 6 8 ly mn [z0, z1, z2, z3, z4, z5, z6, z7, z8, z9])) ≠ 0)) || decide ((checkE (madeN 6 ly) acc) ≠ 0)))]) (fun _ w' => St w [] w' [Ob.v (tSl (tI .i64)) (fewestL (madeN 6 ly) acc) v_83, Ob.v (tSl (tSl (tI .i64))) acc sv, Ob.v (tSl (tI .i64)) (fewestL (madeN 6 ly) (madeF 6 8 ly mn [z0, z1, z2, z3, z4, z5, z6, z7, z8, z9])) v_75, .box g_27 24 [.int .i64 (madeN 6 ly), sv], .row (tI .i64) 3 r_22 (ordW (madeN 6 ly) [y0, y1, y2, y3, y4, y5, y6]), .box g_16 24 [.int .i64 (madeN 6 ly), v_12], Ob.v (tSl (tSl (tI .i64))) (madeF 6 8 ly mn [z0, z1, z2, z3, z4, z5, z6, z7, z8, z9]) v_12, .box g_5 78 [.int .u8 y0, .int .u8 y1, .int .u8 y2, .int .u8 y3, .int .u8 y4, .int .u8 y5, .int .u8 y6], .box g_1 64 [.int .u8 ly, .int .u8 mn, .int .u8 z0, .int .u8 z1, .int .u8 z2, .int .u8 z3, .int .u8 z4, .int .u8 z5, .int .u8 z6, .int .u8 z7, .int .u8 z8, .int .u8 z9]]) ?_ ?_
    · rcases Bool.eq_false_or_eq_true ((decide ((checkE (madeN 6 ly) (madeF 6 8 ly mn [z0, z1, z2, z3, z4, z5, z6, z7, z8, z9])) ≠ 0) || decide ((checkE (madeN 6 ly) acc) ≠ 0)) || decide ((checkE (madeN 6 ly) (madeF 6 8 ly mn [z0, z1, z2, z3, z4, z5, z6, z7, z8, z9])) ≠ 0)) with g_97 | g_97
      · -- True
        have gp_98 := g_97
        try simp only [Bool.and_eq_true, Bool.or_eq_true, Bool.not_eq_true', Bool.and_eq_false_iff, Bool.or_eq_false_iff, Bool.not_eq_false', decide_eq_true_eq, decide_eq_false_iff_not, not_or, Bool.false_eq_true, Bool.true_eq_false, false_or, or_false, not_false_eq_true] at gp_98
        refine Wx.gnoB rfl rfl (congrArg Value.bool g_97) rfl rfl ?_
        refine Wx.gnoB rfl rfl (congrArg Value.bool g_97) rfl rfl ?_
        refine Wx.rd (v := .bool true) (rd_pickT (congrArg Value.bool g_97) rfl) rfl ?_
        refine Wx.nil ⟨(), hS, ⟨?_, trivial⟩, Out.look rfl Out.refl⟩
        show Value.bool true = Value.bool (((decide ((checkE (madeN 6 ly) (madeF 6 8 ly mn [z0, z1, z2, z3, z4, z5, z6, z7, z8, z9])) ≠ 0) || decide ((checkE (madeN 6 ly) acc) ≠ 0)) || decide ((checkE (madeN 6 ly) (madeF 6 8 ly mn [z0, z1, z2, z3, z4, z5, z6, z7, z8, z9])) ≠ 0)) || decide ((checkE (madeN 6 ly) acc) ≠ 0))
        rw [g_97]; rfl
      · -- False
        have gp_99 := g_97
        try simp only [Bool.and_eq_true, Bool.or_eq_true, Bool.not_eq_true', Bool.and_eq_false_iff, Bool.or_eq_false_iff, Bool.not_eq_false', decide_eq_true_eq, decide_eq_false_iff_not, not_or, Bool.false_eq_true, Bool.true_eq_false, false_or, or_false, not_false_eq_true] at gp_99
        refine Wx.gyes rfl rfl (congrArg Value.bool g_97) ?_
        refine Wx.rd (v := .int .i64 (checkE (madeN 6 ly) acc)) (rd_move rfl) rfl ?_
        refine Wx.gyes rfl rfl (congrArg Value.bool g_97) ?_
        refine Wx.rd (v := .bool (decide ((checkE (madeN 6 ly) acc) ≠ 0))) (rd_neq rfl rfl) rfl ?_
        refine Wx.rd (v := .bool (decide ((checkE (madeN 6 ly) acc) ≠ 0))) (rd_pickF (congrArg Value.bool g_97) rfl) rfl ?_
        refine Wx.nil ⟨(), hS, ⟨?_, trivial⟩, Out.look rfl Out.refl⟩
        show Value.bool (decide ((checkE (madeN 6 ly) acc) ≠ 0)) = Value.bool (((decide ((checkE (madeN 6 ly) (madeF 6 8 ly mn [z0, z1, z2, z3, z4, z5, z6, z7, z8, z9])) ≠ 0) || decide ((checkE (madeN 6 ly) acc) ≠ 0)) || decide ((checkE (madeN 6 ly) (madeF 6 8 ly mn [z0, z1, z2, z3, z4, z5, z6, z7, z8, z9])) ≠ 0)) || decide ((checkE (madeN 6 ly) acc) ≠ 0))
        rw [g_97]; rfl
    rintro ⟨⟩ u_101 w_100 hS
    refine Wx.rd (v := .bool (((decide ((checkE (madeN 6 ly) (madeF 6 8 ly mn [z0, z1, z2, z3, z4, z5, z6, z7, z8, z9])) ≠ 0) || decide ((checkE (madeN 6 ly) acc) ≠ 0)) || decide ((checkE (madeN 6 ly) (madeF 6 8 ly mn [z0, z1, z2, z3, z4, z5, z6, z7, z8, z9])) ≠ 0)) || decide ((checkE (madeN 6 ly) acc) ≠ 0))) (rd_move rfl) rfl ?_
    refine Wx.cut (X := Unit) 4 [102, 103, 104, 105] (fun _ => [(105, .bool ((((decide ((checkE (madeN 6 ly) (madeF 6 8 ly mn [z0, z1, z2, z3, z4, z5, z6, z7, z8, z9])) ≠ 0) || decide ((checkE (madeN 6 ly) acc) ≠ 0)) || decide ((checkE (madeN 6 ly) (madeF 6 8 ly mn [z0, z1, z2, z3, z4, z5, z6, z7, z8, z9])) ≠ 0)) || decide ((checkE (madeN 6 ly) acc) ≠ 0)) || decide ((countE (madeN 6 ly) (madeF 6 8 ly mn [z0, z1, z2, z3, z4, z5, z6, z7, z8, z9])) ≠ (countE (madeN 6 ly) acc))))]) (fun _ w' => St w [] w' [Ob.v (tSl (tI .i64)) (fewestL (madeN 6 ly) acc) v_83, Ob.v (tSl (tSl (tI .i64))) acc sv, Ob.v (tSl (tI .i64)) (fewestL (madeN 6 ly) (madeF 6 8 ly mn [z0, z1, z2, z3, z4, z5, z6, z7, z8, z9])) v_75, .box g_27 24 [.int .i64 (madeN 6 ly), sv], .row (tI .i64) 3 r_22 (ordW (madeN 6 ly) [y0, y1, y2, y3, y4, y5, y6]), .box g_16 24 [.int .i64 (madeN 6 ly), v_12], Ob.v (tSl (tSl (tI .i64))) (madeF 6 8 ly mn [z0, z1, z2, z3, z4, z5, z6, z7, z8, z9]) v_12, .box g_5 78 [.int .u8 y0, .int .u8 y1, .int .u8 y2, .int .u8 y3, .int .u8 y4, .int .u8 y5, .int .u8 y6], .box g_1 64 [.int .u8 ly, .int .u8 mn, .int .u8 z0, .int .u8 z1, .int .u8 z2, .int .u8 z3, .int .u8 z4, .int .u8 z5, .int .u8 z6, .int .u8 z7, .int .u8 z8, .int .u8 z9]]) ?_ ?_
    · rcases Bool.eq_false_or_eq_true (((decide ((checkE (madeN 6 ly) (madeF 6 8 ly mn [z0, z1, z2, z3, z4, z5, z6, z7, z8, z9])) ≠ 0) || decide ((checkE (madeN 6 ly) acc) ≠ 0)) || decide ((checkE (madeN 6 ly) (madeF 6 8 ly mn [z0, z1, z2, z3, z4, z5, z6, z7, z8, z9])) ≠ 0)) || decide ((checkE (madeN 6 ly) acc) ≠ 0)) with g_102 | g_102
      · -- True
        have gp_103 := g_102
        try simp only [Bool.and_eq_true, Bool.or_eq_true, Bool.not_eq_true', Bool.and_eq_false_iff, Bool.or_eq_false_iff, Bool.not_eq_false', decide_eq_true_eq, decide_eq_false_iff_not, not_or, Bool.false_eq_true, Bool.true_eq_false, false_or, or_false, not_false_eq_true] at gp_103
        refine Wx.gnoB rfl rfl (congrArg Value.bool g_102) rfl rfl ?_
        refine Wx.gnoB rfl rfl (congrArg Value.bool g_102) rfl rfl ?_
        refine Wx.gnoB rfl rfl (congrArg Value.bool g_102) rfl rfl ?_
        refine Wx.rd (v := .bool true) (rd_pickT (congrArg Value.bool g_102) rfl) rfl ?_
        refine Wx.nil ⟨(), hS, ⟨?_, trivial⟩, Out.look rfl Out.refl⟩
        show Value.bool true = Value.bool ((((decide ((checkE (madeN 6 ly) (madeF 6 8 ly mn [z0, z1, z2, z3, z4, z5, z6, z7, z8, z9])) ≠ 0) || decide ((checkE (madeN 6 ly) acc) ≠ 0)) || decide ((checkE (madeN 6 ly) (madeF 6 8 ly mn [z0, z1, z2, z3, z4, z5, z6, z7, z8, z9])) ≠ 0)) || decide ((checkE (madeN 6 ly) acc) ≠ 0)) || decide ((countE (madeN 6 ly) (madeF 6 8 ly mn [z0, z1, z2, z3, z4, z5, z6, z7, z8, z9])) ≠ (countE (madeN 6 ly) acc)))
        rw [g_102]; rfl
      · -- False
        have gp_104 := g_102
        try simp only [Bool.and_eq_true, Bool.or_eq_true, Bool.not_eq_true', Bool.and_eq_false_iff, Bool.or_eq_false_iff, Bool.not_eq_false', decide_eq_true_eq, decide_eq_false_iff_not, not_or, Bool.false_eq_true, Bool.true_eq_false, false_or, or_false, not_false_eq_true] at gp_104
        refine Wx.gyes rfl rfl (congrArg Value.bool g_102) ?_
        refine Wx.rd (v := .int .i64 (countE (madeN 6 ly) (madeF 6 8 ly mn [z0, z1, z2, z3, z4, z5, z6, z7, z8, z9]))) (rd_move rfl) rfl ?_
        refine Wx.gyes rfl rfl (congrArg Value.bool g_102) ?_
        refine Wx.rd (v := .int .i64 (countE (madeN 6 ly) acc)) (rd_move rfl) rfl ?_
        refine Wx.gyes rfl rfl (congrArg Value.bool g_102) ?_
        refine Wx.rd (v := .bool (decide ((countE (madeN 6 ly) (madeF 6 8 ly mn [z0, z1, z2, z3, z4, z5, z6, z7, z8, z9])) ≠ (countE (madeN 6 ly) acc)))) (rd_neq rfl rfl) rfl ?_
        refine Wx.rd (v := .bool (decide ((countE (madeN 6 ly) (madeF 6 8 ly mn [z0, z1, z2, z3, z4, z5, z6, z7, z8, z9])) ≠ (countE (madeN 6 ly) acc)))) (rd_pickF (congrArg Value.bool g_102) rfl) rfl ?_
        refine Wx.nil ⟨(), hS, ⟨?_, trivial⟩, Out.look rfl Out.refl⟩
        show Value.bool (decide ((countE (madeN 6 ly) (madeF 6 8 ly mn [z0, z1, z2, z3, z4, z5, z6, z7, z8, z9])) ≠ (countE (madeN 6 ly) acc))) = Value.bool ((((decide ((checkE (madeN 6 ly) (madeF 6 8 ly mn [z0, z1, z2, z3, z4, z5, z6, z7, z8, z9])) ≠ 0) || decide ((checkE (madeN 6 ly) acc) ≠ 0)) || decide ((checkE (madeN 6 ly) (madeF 6 8 ly mn [z0, z1, z2, z3, z4, z5, z6, z7, z8, z9])) ≠ 0)) || decide ((checkE (madeN 6 ly) acc) ≠ 0)) || decide ((countE (madeN 6 ly) (madeF 6 8 ly mn [z0, z1, z2, z3, z4, z5, z6, z7, z8, z9])) ≠ (countE (madeN 6 ly) acc)))
        rw [g_102]; rfl
    rintro ⟨⟩ u_106 w_105 hS
    refine Wx.rd (v := .bool ((((decide ((checkE (madeN 6 ly) (madeF 6 8 ly mn [z0, z1, z2, z3, z4, z5, z6, z7, z8, z9])) ≠ 0) || decide ((checkE (madeN 6 ly) acc) ≠ 0)) || decide ((checkE (madeN 6 ly) (madeF 6 8 ly mn [z0, z1, z2, z3, z4, z5, z6, z7, z8, z9])) ≠ 0)) || decide ((checkE (madeN 6 ly) acc) ≠ 0)) || decide ((countE (madeN 6 ly) (madeF 6 8 ly mn [z0, z1, z2, z3, z4, z5, z6, z7, z8, z9])) ≠ (countE (madeN 6 ly) acc)))) (rd_move rfl) rfl ?_
    refine Wx.cut (X := Unit) 6 [107, 108, 109, 110, 111, 112] (fun _ => [(112, .bool (((((decide ((checkE (madeN 6 ly) (madeF 6 8 ly mn [z0, z1, z2, z3, z4, z5, z6, z7, z8, z9])) ≠ 0) || decide ((checkE (madeN 6 ly) acc) ≠ 0)) || decide ((checkE (madeN 6 ly) (madeF 6 8 ly mn [z0, z1, z2, z3, z4, z5, z6, z7, z8, z9])) ≠ 0)) || decide ((checkE (madeN 6 ly) acc) ≠ 0)) || decide ((countE (madeN 6 ly) (madeF 6 8 ly mn [z0, z1, z2, z3, z4, z5, z6, z7, z8, z9])) ≠ (countE (madeN 6 ly) acc))) || decide (((fewestL (madeN 6 ly) (madeF 6 8 ly mn [z0, z1, z2, z3, z4, z5, z6, z7, z8, z9])).length : Int) ≠ ((fewestL (madeN 6 ly) acc).length : Int))))]) (fun _ w' => St w [] w' [Ob.v (tSl (tI .i64)) (fewestL (madeN 6 ly) acc) v_83, Ob.v (tSl (tSl (tI .i64))) acc sv, Ob.v (tSl (tI .i64)) (fewestL (madeN 6 ly) (madeF 6 8 ly mn [z0, z1, z2, z3, z4, z5, z6, z7, z8, z9])) v_75, .box g_27 24 [.int .i64 (madeN 6 ly), sv], .row (tI .i64) 3 r_22 (ordW (madeN 6 ly) [y0, y1, y2, y3, y4, y5, y6]), .box g_16 24 [.int .i64 (madeN 6 ly), v_12], Ob.v (tSl (tSl (tI .i64))) (madeF 6 8 ly mn [z0, z1, z2, z3, z4, z5, z6, z7, z8, z9]) v_12, .box g_5 78 [.int .u8 y0, .int .u8 y1, .int .u8 y2, .int .u8 y3, .int .u8 y4, .int .u8 y5, .int .u8 y6], .box g_1 64 [.int .u8 ly, .int .u8 mn, .int .u8 z0, .int .u8 z1, .int .u8 z2, .int .u8 z3, .int .u8 z4, .int .u8 z5, .int .u8 z6, .int .u8 z7, .int .u8 z8, .int .u8 z9]]) ?_ ?_
    · rcases Bool.eq_false_or_eq_true ((((decide ((checkE (madeN 6 ly) (madeF 6 8 ly mn [z0, z1, z2, z3, z4, z5, z6, z7, z8, z9])) ≠ 0) || decide ((checkE (madeN 6 ly) acc) ≠ 0)) || decide ((checkE (madeN 6 ly) (madeF 6 8 ly mn [z0, z1, z2, z3, z4, z5, z6, z7, z8, z9])) ≠ 0)) || decide ((checkE (madeN 6 ly) acc) ≠ 0)) || decide ((countE (madeN 6 ly) (madeF 6 8 ly mn [z0, z1, z2, z3, z4, z5, z6, z7, z8, z9])) ≠ (countE (madeN 6 ly) acc))) with g_107 | g_107
      · -- True
        have gp_108 := g_107
        try simp only [Bool.and_eq_true, Bool.or_eq_true, Bool.not_eq_true', Bool.and_eq_false_iff, Bool.or_eq_false_iff, Bool.not_eq_false', decide_eq_true_eq, decide_eq_false_iff_not, not_or, Bool.false_eq_true, Bool.true_eq_false, false_or, or_false, not_false_eq_true] at gp_108
        refine Wx.gnoB rfl rfl (congrArg Value.bool g_107) rfl rfl ?_
        refine Wx.gnoB rfl rfl (congrArg Value.bool g_107) rfl rfl ?_
        refine Wx.gnoB rfl rfl (congrArg Value.bool g_107) rfl rfl ?_
        refine Wx.gnoB rfl rfl (congrArg Value.bool g_107) rfl rfl ?_
        refine Wx.gnoB rfl rfl (congrArg Value.bool g_107) rfl rfl ?_
        refine Wx.rd (v := .bool true) (rd_pickT (congrArg Value.bool g_107) rfl) rfl ?_
        refine Wx.nil ⟨(), hS, ⟨?_, trivial⟩, Out.look rfl Out.refl⟩
        show Value.bool true = Value.bool (((((decide ((checkE (madeN 6 ly) (madeF 6 8 ly mn [z0, z1, z2, z3, z4, z5, z6, z7, z8, z9])) ≠ 0) || decide ((checkE (madeN 6 ly) acc) ≠ 0)) || decide ((checkE (madeN 6 ly) (madeF 6 8 ly mn [z0, z1, z2, z3, z4, z5, z6, z7, z8, z9])) ≠ 0)) || decide ((checkE (madeN 6 ly) acc) ≠ 0)) || decide ((countE (madeN 6 ly) (madeF 6 8 ly mn [z0, z1, z2, z3, z4, z5, z6, z7, z8, z9])) ≠ (countE (madeN 6 ly) acc))) || decide (((fewestL (madeN 6 ly) (madeF 6 8 ly mn [z0, z1, z2, z3, z4, z5, z6, z7, z8, z9])).length : Int) ≠ ((fewestL (madeN 6 ly) acc).length : Int)))
        rw [g_107]; rfl
      · -- False
        have gp_109 := g_107
        try simp only [Bool.and_eq_true, Bool.or_eq_true, Bool.not_eq_true', Bool.and_eq_false_iff, Bool.or_eq_false_iff, Bool.not_eq_false', decide_eq_true_eq, decide_eq_false_iff_not, not_or, Bool.false_eq_true, Bool.true_eq_false, false_or, or_false, not_false_eq_true] at gp_109
        refine Wx.gyes rfl rfl (congrArg Value.bool g_107) ?_
        refine Wx.rd (v := v_75) (rd_move rfl) rfl ?_
        refine Wx.gyes rfl rfl (congrArg Value.bool g_107) ?_
        refine Wx.rd (v := .int .i64 ((fewestL (madeN 6 ly) (madeF 6 8 ly mn [z0, z1, z2, z3, z4, z5, z6, z7, z8, z9])).length : Int)) (rd_lenV rfl (hS.v 2 rfl) Try.underlying28) rfl ?_
        refine Wx.gyes rfl rfl (congrArg Value.bool g_107) ?_
        refine Wx.rd (v := v_83) (rd_move rfl) rfl ?_
        refine Wx.gyes rfl rfl (congrArg Value.bool g_107) ?_
        refine Wx.rd (v := .int .i64 ((fewestL (madeN 6 ly) acc).length : Int)) (rd_lenV rfl (hS.v 0 rfl) Try.underlying28) rfl ?_
        refine Wx.gyes rfl rfl (congrArg Value.bool g_107) ?_
        refine Wx.rd (v := .bool (decide (((fewestL (madeN 6 ly) (madeF 6 8 ly mn [z0, z1, z2, z3, z4, z5, z6, z7, z8, z9])).length : Int) ≠ ((fewestL (madeN 6 ly) acc).length : Int)))) (rd_neq rfl rfl) rfl ?_
        refine Wx.rd (v := .bool (decide (((fewestL (madeN 6 ly) (madeF 6 8 ly mn [z0, z1, z2, z3, z4, z5, z6, z7, z8, z9])).length : Int) ≠ ((fewestL (madeN 6 ly) acc).length : Int)))) (rd_pickF (congrArg Value.bool g_107) rfl) rfl ?_
        refine Wx.nil ⟨(), hS, ⟨?_, trivial⟩, Out.look rfl Out.refl⟩
        show Value.bool (decide (((fewestL (madeN 6 ly) (madeF 6 8 ly mn [z0, z1, z2, z3, z4, z5, z6, z7, z8, z9])).length : Int) ≠ ((fewestL (madeN 6 ly) acc).length : Int))) = Value.bool (((((decide ((checkE (madeN 6 ly) (madeF 6 8 ly mn [z0, z1, z2, z3, z4, z5, z6, z7, z8, z9])) ≠ 0) || decide ((checkE (madeN 6 ly) acc) ≠ 0)) || decide ((checkE (madeN 6 ly) (madeF 6 8 ly mn [z0, z1, z2, z3, z4, z5, z6, z7, z8, z9])) ≠ 0)) || decide ((checkE (madeN 6 ly) acc) ≠ 0)) || decide ((countE (madeN 6 ly) (madeF 6 8 ly mn [z0, z1, z2, z3, z4, z5, z6, z7, z8, z9])) ≠ (countE (madeN 6 ly) acc))) || decide (((fewestL (madeN 6 ly) (madeF 6 8 ly mn [z0, z1, z2, z3, z4, z5, z6, z7, z8, z9])).length : Int) ≠ ((fewestL (madeN 6 ly) acc).length : Int)))
        rw [g_107]; rfl
    rintro ⟨⟩ u_111 w_110 hS
    refine Wx.rd (v := .bool (((((decide ((checkE (madeN 6 ly) (madeF 6 8 ly mn [z0, z1, z2, z3, z4, z5, z6, z7, z8, z9])) ≠ 0) || decide ((checkE (madeN 6 ly) acc) ≠ 0)) || decide ((checkE (madeN 6 ly) (madeF 6 8 ly mn [z0, z1, z2, z3, z4, z5, z6, z7, z8, z9])) ≠ 0)) || decide ((checkE (madeN 6 ly) acc) ≠ 0)) || decide ((countE (madeN 6 ly) (madeF 6 8 ly mn [z0, z1, z2, z3, z4, z5, z6, z7, z8, z9])) ≠ (countE (madeN 6 ly) acc))) || decide (((fewestL (madeN 6 ly) (madeF 6 8 ly mn [z0, z1, z2, z3, z4, z5, z6, z7, z8, z9])).length : Int) ≠ ((fewestL (madeN 6 ly) acc).length : Int)))) (rd_move rfl) rfl ?_
    refine Wx.cut (X := Unit) 7 [114, 115, 116, 117, 118, 119, 120] (fun _ => [(120, .bool ((((((decide ((checkE (madeN 6 ly) (madeF 6 8 ly mn [z0, z1, z2, z3, z4, z5, z6, z7, z8, z9])) ≠ 0) || decide ((checkE (madeN 6 ly) acc) ≠ 0)) || decide ((checkE (madeN 6 ly) (madeF 6 8 ly mn [z0, z1, z2, z3, z4, z5, z6, z7, z8, z9])) ≠ 0)) || decide ((checkE (madeN 6 ly) acc) ≠ 0)) || decide ((countE (madeN 6 ly) (madeF 6 8 ly mn [z0, z1, z2, z3, z4, z5, z6, z7, z8, z9])) ≠ (countE (madeN 6 ly) acc))) || decide (((fewestL (madeN 6 ly) (madeF 6 8 ly mn [z0, z1, z2, z3, z4, z5, z6, z7, z8, z9])).length : Int) ≠ ((fewestL (madeN 6 ly) acc).length : Int))) || !((decide (((fewestL (madeN 6 ly) (madeF 6 8 ly mn [z0, z1, z2, z3, z4, z5, z6, z7, z8, z9])).length : Int) = 0)) == (decide (0 < (countE (madeN 6 ly) (madeF 6 8 ly mn [z0, z1, z2, z3, z4, z5, z6, z7, z8, z9])))))))]) (fun _ w' => St w [] w' [Ob.v (tSl (tI .i64)) (fewestL (madeN 6 ly) acc) v_83, Ob.v (tSl (tSl (tI .i64))) acc sv, Ob.v (tSl (tI .i64)) (fewestL (madeN 6 ly) (madeF 6 8 ly mn [z0, z1, z2, z3, z4, z5, z6, z7, z8, z9])) v_75, .box g_27 24 [.int .i64 (madeN 6 ly), sv], .row (tI .i64) 3 r_22 (ordW (madeN 6 ly) [y0, y1, y2, y3, y4, y5, y6]), .box g_16 24 [.int .i64 (madeN 6 ly), v_12], Ob.v (tSl (tSl (tI .i64))) (madeF 6 8 ly mn [z0, z1, z2, z3, z4, z5, z6, z7, z8, z9]) v_12, .box g_5 78 [.int .u8 y0, .int .u8 y1, .int .u8 y2, .int .u8 y3, .int .u8 y4, .int .u8 y5, .int .u8 y6], .box g_1 64 [.int .u8 ly, .int .u8 mn, .int .u8 z0, .int .u8 z1, .int .u8 z2, .int .u8 z3, .int .u8 z4, .int .u8 z5, .int .u8 z6, .int .u8 z7, .int .u8 z8, .int .u8 z9]]) ?_ ?_
    · rcases Bool.eq_false_or_eq_true (((((decide ((checkE (madeN 6 ly) (madeF 6 8 ly mn [z0, z1, z2, z3, z4, z5, z6, z7, z8, z9])) ≠ 0) || decide ((checkE (madeN 6 ly) acc) ≠ 0)) || decide ((checkE (madeN 6 ly) (madeF 6 8 ly mn [z0, z1, z2, z3, z4, z5, z6, z7, z8, z9])) ≠ 0)) || decide ((checkE (madeN 6 ly) acc) ≠ 0)) || decide ((countE (madeN 6 ly) (madeF 6 8 ly mn [z0, z1, z2, z3, z4, z5, z6, z7, z8, z9])) ≠ (countE (madeN 6 ly) acc))) || decide (((fewestL (madeN 6 ly) (madeF 6 8 ly mn [z0, z1, z2, z3, z4, z5, z6, z7, z8, z9])).length : Int) ≠ ((fewestL (madeN 6 ly) acc).length : Int))) with g_112 | g_112
      · -- True
        have gp_113 := g_112
        try simp only [Bool.and_eq_true, Bool.or_eq_true, Bool.not_eq_true', Bool.and_eq_false_iff, Bool.or_eq_false_iff, Bool.not_eq_false', decide_eq_true_eq, decide_eq_false_iff_not, not_or, Bool.false_eq_true, Bool.true_eq_false, false_or, or_false, not_false_eq_true] at gp_113
        refine Wx.gnoB rfl rfl (congrArg Value.bool g_112) rfl rfl ?_
        refine Wx.gnoB rfl rfl (congrArg Value.bool g_112) rfl rfl ?_
        refine Wx.gnoB rfl rfl (congrArg Value.bool g_112) rfl rfl ?_
        refine Wx.gnoB rfl rfl (congrArg Value.bool g_112) rfl rfl ?_
        refine Wx.gnoB rfl rfl (congrArg Value.bool g_112) rfl rfl ?_
        refine Wx.gnoB rfl rfl (congrArg Value.bool g_112) rfl rfl ?_
        refine Wx.rd (v := .bool true) (rd_pickT (congrArg Value.bool g_112) rfl) rfl ?_
        refine Wx.nil ⟨(), hS, ⟨?_, trivial⟩, Out.look rfl Out.refl⟩
        show Value.bool true = Value.bool ((((((decide ((checkE (madeN 6 ly) (madeF 6 8 ly mn [z0, z1, z2, z3, z4, z5, z6, z7, z8, z9])) ≠ 0) || decide ((checkE (madeN 6 ly) acc) ≠ 0)) || decide ((checkE (madeN 6 ly) (madeF 6 8 ly mn [z0, z1, z2, z3, z4, z5, z6, z7, z8, z9])) ≠ 0)) || decide ((checkE (madeN 6 ly) acc) ≠ 0)) || decide ((countE (madeN 6 ly) (madeF 6 8 ly mn [z0, z1, z2, z3, z4, z5, z6, z7, z8, z9])) ≠ (countE (madeN 6 ly) acc))) || decide (((fewestL (madeN 6 ly) (madeF 6 8 ly mn [z0, z1, z2, z3, z4, z5, z6, z7, z8, z9])).length : Int) ≠ ((fewestL (madeN 6 ly) acc).length : Int))) || !((decide (((fewestL (madeN 6 ly) (madeF 6 8 ly mn [z0, z1, z2, z3, z4, z5, z6, z7, z8, z9])).length : Int) = 0)) == (decide (0 < (countE (madeN 6 ly) (madeF 6 8 ly mn [z0, z1, z2, z3, z4, z5, z6, z7, z8, z9]))))))
        rw [g_112]; rfl
      · -- False
        have gp_114 := g_112
        try simp only [Bool.and_eq_true, Bool.or_eq_true, Bool.not_eq_true', Bool.and_eq_false_iff, Bool.or_eq_false_iff, Bool.not_eq_false', decide_eq_true_eq, decide_eq_false_iff_not, not_or, Bool.false_eq_true, Bool.true_eq_false, false_or, or_false, not_false_eq_true] at gp_114
        refine Wx.gyes rfl rfl (congrArg Value.bool g_112) ?_
        refine Wx.rd (v := v_75) (rd_move rfl) rfl ?_
        refine Wx.gyes rfl rfl (congrArg Value.bool g_112) ?_
        refine Wx.rd (v := .int .i64 ((fewestL (madeN 6 ly) (madeF 6 8 ly mn [z0, z1, z2, z3, z4, z5, z6, z7, z8, z9])).length : Int)) (rd_lenV rfl (hS.v 2 rfl) Try.underlying28) rfl ?_
        refine Wx.gyes rfl rfl (congrArg Value.bool g_112) ?_
        refine Wx.rd (v := .bool (decide (((fewestL (madeN 6 ly) (madeF 6 8 ly mn [z0, z1, z2, z3, z4, z5, z6, z7, z8, z9])).length : Int) = 0))) (rd_eql rfl rfl) rfl ?_
        refine Wx.gyes rfl rfl (congrArg Value.bool g_112) ?_
        refine Wx.rd (v := .int .i64 (countE (madeN 6 ly) (madeF 6 8 ly mn [z0, z1, z2, z3, z4, z5, z6, z7, z8, z9]))) (rd_move rfl) rfl ?_
        refine Wx.gyes rfl rfl (congrArg Value.bool g_112) ?_
        refine Wx.rd (v := .bool (decide (0 < (countE (madeN 6 ly) (madeF 6 8 ly mn [z0, z1, z2, z3, z4, z5, z6, z7, z8, z9]))))) (rd_gtr rfl rfl) rfl ?_
        refine Wx.gyes rfl rfl (congrArg Value.bool g_112) ?_
        refine Wx.rd (v := .bool (!((decide (((fewestL (madeN 6 ly) (madeF 6 8 ly mn [z0, z1, z2, z3, z4, z5, z6, z7, z8, z9])).length : Int) = 0)) == (decide (0 < (countE (madeN 6 ly) (madeF 6 8 ly mn [z0, z1, z2, z3, z4, z5, z6, z7, z8, z9]))))))) (rd_neqB rfl rfl Try.underlying4) rfl ?_
        refine Wx.rd (v := .bool (!((decide (((fewestL (madeN 6 ly) (madeF 6 8 ly mn [z0, z1, z2, z3, z4, z5, z6, z7, z8, z9])).length : Int) = 0)) == (decide (0 < (countE (madeN 6 ly) (madeF 6 8 ly mn [z0, z1, z2, z3, z4, z5, z6, z7, z8, z9]))))))) (rd_pickF (congrArg Value.bool g_112) rfl) rfl ?_
        refine Wx.nil ⟨(), hS, ⟨?_, trivial⟩, Out.look rfl Out.refl⟩
        show Value.bool (!((decide (((fewestL (madeN 6 ly) (madeF 6 8 ly mn [z0, z1, z2, z3, z4, z5, z6, z7, z8, z9])).length : Int) = 0)) == (decide (0 < (countE (madeN 6 ly) (madeF 6 8 ly mn [z0, z1, z2, z3, z4, z5, z6, z7, z8, z9])))))) = Value.bool ((((((decide ((checkE (madeN 6 ly) (madeF 6 8 ly mn [z0, z1, z2, z3, z4, z5, z6, z7, z8, z9])) ≠ 0) || decide ((checkE (madeN 6 ly) acc) ≠ 0)) || decide ((checkE (madeN 6 ly) (madeF 6 8 ly mn [z0, z1, z2, z3, z4, z5, z6, z7, z8, z9])) ≠ 0)) || decide ((checkE (madeN 6 ly) acc) ≠ 0)) || decide ((countE (madeN 6 ly) (madeF 6 8 ly mn [z0, z1, z2, z3, z4, z5, z6, z7, z8, z9])) ≠ (countE (madeN 6 ly) acc))) || decide (((fewestL (madeN 6 ly) (madeF 6 8 ly mn [z0, z1, z2, z3, z4, z5, z6, z7, z8, z9])).length : Int) ≠ ((fewestL (madeN 6 ly) acc).length : Int))) || !((decide (((fewestL (madeN 6 ly) (madeF 6 8 ly mn [z0, z1, z2, z3, z4, z5, z6, z7, z8, z9])).length : Int) = 0)) == (decide (0 < (countE (madeN 6 ly) (madeF 6 8 ly mn [z0, z1, z2, z3, z4, z5, z6, z7, z8, z9]))))))
        rw [g_112]; rfl
    rintro ⟨⟩ u_116 w_115 hS
    refine Wx.nil ?_
    refine W.condF rfl (by simp [hacc, hc0, hcg, hcc, hfl, hf0]) ?_
    refine W.skip ?_
    refine W.seq ?_
    refine W.reg ?_
    refine Wx.rd (v := .agg #[.int .i64 (madeN 6 ly), v_12]) (rd_loadXs (ds := [.int .i64 (madeN 6 ly), v_12]) hS 5 rfl rfl rfl rfl Try.isAgg24 Try.sizeOf24) rfl ?_
    refine Wx.callF (run_callF Try.call16 rfl) (F16 (in_i64 (by omega) (by omega)) (hS.v 6 rfl)) rfl ?_
    rintro r_117 w_118 hx_119 ⟨v_120, rfl, hv_121⟩
    have hS := hS.pushFr hx_119 hv_121
    refine Wx.rd (v := .tuple #[v_120, .int .i64 (firstE (madeN 6 ly) (madeF 6 8 ly mn [z0, z1, z2, z3, z4, z5, z6, z7, z8, z9]))]) (rd_move rfl) rfl ?_
    refine Wx.rd (v := v_120) (rd_extract rfl rfl) rfl ?_
    refine Wx.rd (v := .int .i64 (firstE (madeN 6 ly) (madeF 6 8 ly mn [z0, z1, z2, z3, z4, z5, z6, z7, z8, z9]))) (rd_extract rfl rfl) rfl ?_
    refine Wx.rd (v := v_120) (rd_assign rfl) rfl ?_
    refine Wx.rd (v := .int .i64 (firstE (madeN 6 ly) (madeF 6 8 ly mn [z0, z1, z2, z3, z4, z5, z6, z7, z8, z9]))) (rd_assign rfl) rfl ?_
    refine Wx.nil ?_
    refine W.seq ?_
    refine W.reg ?_
    refine Wx.rd (v := .agg #[.int .i64 (madeN 6 ly), sv]) (rd_loadXs (ds := [.int .i64 (madeN 6 ly), sv]) hS 4 rfl rfl rfl rfl Try.isAgg24 Try.sizeOf24) rfl ?_
    refine Wx.callF (run_callF Try.call16 rfl) (F16 (in_i64 (by omega) (by omega)) (hS.v 2 rfl)) rfl ?_
    rintro r_123 w_124 hx_125 ⟨v_126, rfl, hv_127⟩
    have hS := hS.pushFr hx_125 hv_127
    refine Wx.rd (v := .tuple #[v_126, .int .i64 (firstE (madeN 6 ly) acc)]) (rd_move rfl) rfl ?_
    refine Wx.rd (v := v_126) (rd_extract rfl rfl) rfl ?_
    refine Wx.rd (v := .int .i64 (firstE (madeN 6 ly) acc)) (rd_extract rfl rfl) rfl ?_
    refine Wx.rd (v := .int .i64 (firstE (madeN 6 ly) acc)) (rd_assign rfl) rfl ?_
    refine Wx.nil ?_
    refine W.seq ?_
    refine W.seq ?_
    refine W.reg ?_
    refine Wx.rd (v := .int .i64 (firstE (madeN 6 ly) (madeF 6 8 ly mn [z0, z1, z2, z3, z4, z5, z6, z7, z8, z9]))) (rd_move rfl) rfl ?_
    refine Wx.rd (v := .int .i64 (firstE (madeN 6 ly) acc)) (rd_move rfl) rfl ?_
    refine Wx.rd (v := .bool (decide ((firstE (madeN 6 ly) (madeF 6 8 ly mn [z0, z1, z2, z3, z4, z5, z6, z7, z8, z9])) ≠ (firstE (madeN 6 ly) acc)))) (rd_neq rfl rfl) rfl ?_
    refine Wx.rd (v := .bool (decide ((firstE (madeN 6 ly) (madeF 6 8 ly mn [z0, z1, z2, z3, z4, z5, z6, z7, z8, z9])) ≠ (firstE (madeN 6 ly) acc)))) (rd_move rfl) rfl ?_
    refine Wx.cut (X := Unit) 6 [135, 136, 137, 138, 139, 140] (fun _ => [(140, .bool (decide ((firstE (madeN 6 ly) (madeF 6 8 ly mn [z0, z1, z2, z3, z4, z5, z6, z7, z8, z9])) ≠ (firstE (madeN 6 ly) acc)) || !((decide (0 < (countE (madeN 6 ly) (madeF 6 8 ly mn [z0, z1, z2, z3, z4, z5, z6, z7, z8, z9])))) == (decide ((firstE (madeN 6 ly) (madeF 6 8 ly mn [z0, z1, z2, z3, z4, z5, z6, z7, z8, z9])) = 0)))))]) (fun _ w' => St w [] w' [.row (tI .i64) 3 v_126 (firstL (madeN 6 ly) acc), .row (tI .i64) 3 v_120 (firstL (madeN 6 ly) (madeF 6 8 ly mn [z0, z1, z2, z3, z4, z5, z6, z7, z8, z9])), Ob.v (tSl (tI .i64)) (fewestL (madeN 6 ly) acc) v_83, Ob.v (tSl (tSl (tI .i64))) acc sv, Ob.v (tSl (tI .i64)) (fewestL (madeN 6 ly) (madeF 6 8 ly mn [z0, z1, z2, z3, z4, z5, z6, z7, z8, z9])) v_75, .box g_27 24 [.int .i64 (madeN 6 ly), sv], .row (tI .i64) 3 r_22 (ordW (madeN 6 ly) [y0, y1, y2, y3, y4, y5, y6]), .box g_16 24 [.int .i64 (madeN 6 ly), v_12], Ob.v (tSl (tSl (tI .i64))) (madeF 6 8 ly mn [z0, z1, z2, z3, z4, z5, z6, z7, z8, z9]) v_12, .box g_5 78 [.int .u8 y0, .int .u8 y1, .int .u8 y2, .int .u8 y3, .int .u8 y4, .int .u8 y5, .int .u8 y6], .box g_1 64 [.int .u8 ly, .int .u8 mn, .int .u8 z0, .int .u8 z1, .int .u8 z2, .int .u8 z3, .int .u8 z4, .int .u8 z5, .int .u8 z6, .int .u8 z7, .int .u8 z8, .int .u8 z9]]) ?_ ?_
    · rcases Bool.eq_false_or_eq_true (decide ((firstE (madeN 6 ly) (madeF 6 8 ly mn [z0, z1, z2, z3, z4, z5, z6, z7, z8, z9])) ≠ (firstE (madeN 6 ly) acc))) with g_129 | g_129
      · -- True
        have gp_130 := of_decide_eq_true g_129
        refine Wx.gnoB rfl rfl (congrArg Value.bool g_129) rfl rfl ?_
        refine Wx.gnoB rfl rfl (congrArg Value.bool g_129) rfl rfl ?_
        refine Wx.gnoB rfl rfl (congrArg Value.bool g_129) rfl rfl ?_
        refine Wx.gnoB rfl rfl (congrArg Value.bool g_129) rfl rfl ?_
        refine Wx.gnoB rfl rfl (congrArg Value.bool g_129) rfl rfl ?_
        refine Wx.rd (v := .bool true) (rd_pickT (congrArg Value.bool g_129) rfl) rfl ?_
        refine Wx.nil ⟨(), hS, ⟨?_, trivial⟩, Out.look rfl Out.refl⟩
        show Value.bool true = Value.bool (decide ((firstE (madeN 6 ly) (madeF 6 8 ly mn [z0, z1, z2, z3, z4, z5, z6, z7, z8, z9])) ≠ (firstE (madeN 6 ly) acc)) || !((decide (0 < (countE (madeN 6 ly) (madeF 6 8 ly mn [z0, z1, z2, z3, z4, z5, z6, z7, z8, z9])))) == (decide ((firstE (madeN 6 ly) (madeF 6 8 ly mn [z0, z1, z2, z3, z4, z5, z6, z7, z8, z9])) = 0))))
        rw [g_129]; rfl
      · -- False
        have gp_131 := of_decide_eq_false g_129
        refine Wx.gyes rfl rfl (congrArg Value.bool g_129) ?_
        refine Wx.rd (v := .int .i64 (countE (madeN 6 ly) (madeF 6 8 ly mn [z0, z1, z2, z3, z4, z5, z6, z7, z8, z9]))) (rd_move rfl) rfl ?_
        refine Wx.gyes rfl rfl (congrArg Value.bool g_129) ?_
        refine Wx.rd (v := .bool (decide (0 < (countE (madeN 6 ly) (madeF 6 8 ly mn [z0, z1, z2, z3, z4, z5, z6, z7, z8, z9]))))) (rd_gtr rfl rfl) rfl ?_
        refine Wx.gyes rfl rfl (congrArg Value.bool g_129) ?_
        refine Wx.rd (v := .int .i64 (firstE (madeN 6 ly) (madeF 6 8 ly mn [z0, z1, z2, z3, z4, z5, z6, z7, z8, z9]))) (rd_move rfl) rfl ?_
        refine Wx.gyes rfl rfl (congrArg Value.bool g_129) ?_
        refine Wx.rd (v := .bool (decide ((firstE (madeN 6 ly) (madeF 6 8 ly mn [z0, z1, z2, z3, z4, z5, z6, z7, z8, z9])) = 0))) (rd_eql rfl rfl) rfl ?_
        refine Wx.gyes rfl rfl (congrArg Value.bool g_129) ?_
        refine Wx.rd (v := .bool (!((decide (0 < (countE (madeN 6 ly) (madeF 6 8 ly mn [z0, z1, z2, z3, z4, z5, z6, z7, z8, z9])))) == (decide ((firstE (madeN 6 ly) (madeF 6 8 ly mn [z0, z1, z2, z3, z4, z5, z6, z7, z8, z9])) = 0))))) (rd_neqB rfl rfl Try.underlying4) rfl ?_
        refine Wx.rd (v := .bool (!((decide (0 < (countE (madeN 6 ly) (madeF 6 8 ly mn [z0, z1, z2, z3, z4, z5, z6, z7, z8, z9])))) == (decide ((firstE (madeN 6 ly) (madeF 6 8 ly mn [z0, z1, z2, z3, z4, z5, z6, z7, z8, z9])) = 0))))) (rd_pickF (congrArg Value.bool g_129) rfl) rfl ?_
        refine Wx.nil ⟨(), hS, ⟨?_, trivial⟩, Out.look rfl Out.refl⟩
        show Value.bool (!((decide (0 < (countE (madeN 6 ly) (madeF 6 8 ly mn [z0, z1, z2, z3, z4, z5, z6, z7, z8, z9])))) == (decide ((firstE (madeN 6 ly) (madeF 6 8 ly mn [z0, z1, z2, z3, z4, z5, z6, z7, z8, z9])) = 0)))) = Value.bool (decide ((firstE (madeN 6 ly) (madeF 6 8 ly mn [z0, z1, z2, z3, z4, z5, z6, z7, z8, z9])) ≠ (firstE (madeN 6 ly) acc)) || !((decide (0 < (countE (madeN 6 ly) (madeF 6 8 ly mn [z0, z1, z2, z3, z4, z5, z6, z7, z8, z9])))) == (decide ((firstE (madeN 6 ly) (madeF 6 8 ly mn [z0, z1, z2, z3, z4, z5, z6, z7, z8, z9])) = 0))))
        rw [g_129]; rfl
    rintro ⟨⟩ u_133 w_132 hS
    refine Wx.nil ?_
    refine W.condF rfl (by simp [hacc, he1, he2]) ?_
    refine W.skip ?_
    refine W.seq ?_
    refine W.seq ?_
    refine W.reg ?_
    refine Wx.rd (v := .int .i64 (firstE (madeN 6 ly) (madeF 6 8 ly mn [z0, z1, z2, z3, z4, z5, z6, z7, z8, z9]))) (rd_move rfl) rfl ?_
    refine Wx.rd (v := .bool (decide ((firstE (madeN 6 ly) (madeF 6 8 ly mn [z0, z1, z2, z3, z4, z5, z6, z7, z8, z9])) ≠ 0))) (rd_neq rfl rfl) rfl ?_
    refine Wx.nil ?_
    refine W.condD rfl (fun c4 => ?_) (fun c4 => ?_)
    · -- yes
      refine W.seq ?_
      refine W.reg ?_
      refine Wx.callF (run_callF Try.call15 rfl) (F15) rfl ?_
      rintro r_134 w_135 hx_136 rfl
      have hS := hS.ext hx_136
      refine Wx.rd (v := .bool true) (rd_assign rfl) rfl ?_
      refine Wx.nil ?_
      exact W.ret ⟨.bool true, ResIs.one, hS.bel, rfl⟩
    · -- no
      obtain ⟨hl1, hl2, hl3, hl4, hl5, hl6⟩ := hl (by omega)
      refine W.skip ?_
      refine W.seq ?_
      refine W.seq ?_
      refine W.reg ?_
      refine Wx.rd (v := v_120) (rd_move rfl) rfl ?_
      refine Wx.rd (v := .int .i64 ((firstL (madeN 6 ly) (madeF 6 8 ly mn [z0, z1, z2, z3, z4, z5, z6, z7, z8, z9])).length : Int)) (rd_lenR hS 1 rfl rfl Try.underlying28) rfl ?_
      refine Wx.rd (v := .int .i64 (madeN 6 ly)) (rd_move rfl) rfl ?_
      refine Wx.rd (v := .bool (decide (((firstL (madeN 6 ly) (madeF 6 8 ly mn [z0, z1, z2, z3, z4, z5, z6, z7, z8, z9])).length : Int) ≠ (madeN 6 ly)))) (rd_neq rfl rfl) rfl ?_
      refine Wx.nil ?_
      refine W.condF rfl (decide_eq_false (by omega)) ?_
      refine W.skip ?_
      refine W.seq ?_
      refine W.reg ?_
      refine Wx.rd (v := (.slice none 0 0)) (rd_assign rfl) rfl ?_
      refine Wx.nil ?_
      refine W.seq ?_
      refine W.seq ?_
      refine W.reg ?_
      refine Wx.rd (v := v_120) (rd_move rfl) rfl ?_
      refine Wx.rd (v := .int .i64 ((firstL (madeN 6 ly) (madeF 6 8 ly mn [z0, z1, z2, z3, z4, z5, z6, z7, z8, z9])).length : Int)) (rd_lenR hS 1 rfl rfl Try.underlying28) rfl ?_
      refine Wx.rd (v := .int .i64 0) (rd_move rfl) rfl ?_
      refine Wx.nil ?_
      refine W.block ?_
      have hS := hS.addNil (tI .i64) 3
      refine W.loop [4, 23, 25, 150, 151, 152, 153, 154, 155, 156, 157, 158, 159, 160, 161, 162, 163, 164, 165, 166, 167, 168] (fun x : Int × Value × (List Int) => match x with | (p, mv, m) => [(150, .int .i64 p), (23, mv)]) (fun (x : Int × Value × (List Int)) w' => match x with | (p, mv, m) => St w [] w' [.row (tI .i64) 3 mv m, .row (tI .i64) 3 v_126 (firstL (madeN 6 ly) acc), .row (tI .i64) 3 v_120 (firstL (madeN 6 ly) (madeF 6 8 ly mn [z0, z1, z2, z3, z4, z5, z6, z7, z8, z9])), Ob.v (tSl (tI .i64)) (fewestL (madeN 6 ly) acc) v_83, Ob.v (tSl (tSl (tI .i64))) acc sv, Ob.v (tSl (tI .i64)) (fewestL (madeN 6 ly) (madeF 6 8 ly mn [z0, z1, z2, z3, z4, z5, z6, z7, z8, z9])) v_75, .box g_27 24 [.int .i64 (madeN 6 ly), sv], .row (tI .i64) 3 r_22 (ordW (madeN 6 ly) [y0, y1, y2, y3, y4, y5, y6]), .box g_16 24 [.int .i64 (madeN 6 ly), v_12], Ob.v (tSl (tSl (tI .i64))) (madeF 6 8 ly mn [z0, z1, z2, z3, z4, z5, z6, z7, z8, z9]) v_12, .box g_5 78 [.int .u8 y0, .int .u8 y1, .int .u8 y2, .int .u8 y3, .int .u8 y4, .int .u8 y5, .int .u8 y6], .box g_1 64 [.int .u8 ly, .int .u8 mn, .int .u8 z0, .int .u8 z1, .int .u8 z2, .int .u8 z3, .int .u8 z4, .int .u8 z5, .int .u8 z6, .int .u8 z7, .int .u8 z8, .int .u8 z9]] ∧ 0 ≤ p ∧ p ≤ (firstL (madeN 6 ly) (madeF 6 8 ly mn [z0, z1, z2, z3, z4, z5, z6, z7, z8, z9])).length ∧ m = ((firstL (madeN 6 ly) (madeF 6 8 ly mn [z0, z1, z2, z3, z4, z5, z6, z7, z8, z9])).take p.toNat).map (fun x => ix 0 (ordW (madeN 6 ly) [y0, y1, y2, y3, y4, y5, y6]) x) ∧ (m.length : Int) ≤ p) (fun x : Int × Value × (List Int) => match x with | (p, mv, m) => ((firstL (madeN 6 ly) (madeF 6 8 ly mn [z0, z1, z2, z3, z4, z5, z6, z7, z8, z9])).length - p).toNat) (0, (.slice none 0 0), []) ⟨rfl, rfl, trivial⟩ ⟨hS, (by first | omega | simp), (by first | omega | simp), (rfl), (by simp)⟩ ?_
      rintro ⟨p, mv, m⟩ u_138 w_137 ⟨hS, m0, m1, m2, m3⟩
      refine W.seq ?_
      refine W.reg ?_
      refine Wx.rd (v := .bool (decide (p < ((firstL (madeN 6 ly) (madeF 6 8 ly mn [z0, z1, z2, z3, z4, z5, z6, z7, z8, z9])).length : Int)))) (rd_lss rfl rfl) rfl ?_
      refine Wx.nil ?_
      refine W.seq ?_
      refine W.condD rfl (fun c6 => ?_) (fun c6 => ?_)
      · -- yes
        have hxb := hl2 _ (ix_mem m0 c6)
        refine W.skip ?_
        refine W.seq ?_
        refine W.block ?_
        refine W.seq ?_
        refine W.reg ?_
        refine Wx.indexR hS 2 rfl rfl rfl Try.underlying28 Try.sizeOf3 (by first | omega | (simp only [List.length_set, List.length_append, List.length_cons, List.length_nil, List.length_replicate]; omega)) (by first | omega | (simp only [List.length_set, List.length_append, List.length_cons, List.length_nil, List.length_replicate]; omega)) rfl (fun g_139 hg_140 => ?_)
        refine Wx.rd (v := .int .i64 (ix 0 (firstL (madeN 6 ly) (madeF 6 8 ly mn [z0, z1, z2, z3, z4, z5, z6, z7, z8, z9])) p)) (rd_loadRI' hS 2 rfl hg_140 rfl (by first | omega | (simp only [List.length_set, List.length_append, List.length_cons, List.length_nil, List.length_replicate]; omega)) (by first | omega | (simp only [List.length_set, List.length_append, List.length_cons, List.length_nil, List.length_replicate]; omega)) Try.isAgg3 Try.sizeOf3) rfl ?_
        have bd_141 := bd_i64 (hS.rowInK' 2 rfl (by first | omega | (simp only [List.length_set, List.length_append, List.length_cons, List.length_nil, List.length_replicate]; omega)) (by first | omega | (simp only [List.length_set, List.length_append, List.length_cons, List.length_nil, List.length_replicate]; omega)) : InK .i64 (ix 0 (firstL (madeN 6 ly) (madeF 6 8 ly mn [z0, z1, z2, z3, z4, z5, z6, z7, z8, z9])) p))
        refine Wx.rd (v := .int .i64 (ix 0 (firstL (madeN 6 ly) (madeF 6 8 ly mn [z0, z1, z2, z3, z4, z5, z6, z7, z8, z9])) p)) (rd_assign rfl) rfl ?_
        refine Wx.nil ?_
        refine W.seq ?_
        refine W.seq ?_
        refine W.reg ?_
        refine Wx.rd (v := .int .i64 (ix 0 (firstL (madeN 6 ly) (madeF 6 8 ly mn [z0, z1, z2, z3, z4, z5, z6, z7, z8, z9])) p)) (rd_move rfl) rfl ?_
        refine Wx.rd (v := .bool (decide ((ix 0 (firstL (madeN 6 ly) (madeF 6 8 ly mn [z0, z1, z2, z3, z4, z5, z6, z7, z8, z9])) p) < 0))) (rd_lss rfl rfl) rfl ?_
        refine Wx.rd (v := .bool (decide ((ix 0 (firstL (madeN 6 ly) (madeF 6 8 ly mn [z0, z1, z2, z3, z4, z5, z6, z7, z8, z9])) p) < 0))) (rd_move rfl) rfl ?_
        refine Wx.cut (X := Unit) 4 [157, 158, 159, 160] (fun _ => [(160, .bool (decide ((ix 0 (firstL (madeN 6 ly) (madeF 6 8 ly mn [z0, z1, z2, z3, z4, z5, z6, z7, z8, z9])) p) < 0) || decide ((madeN 6 ly) ≤ (ix 0 (firstL (madeN 6 ly) (madeF 6 8 ly mn [z0, z1, z2, z3, z4, z5, z6, z7, z8, z9])) p))))]) (fun _ w' => St w [] w' [.row (tI .i64) 3 mv m, .row (tI .i64) 3 v_126 (firstL (madeN 6 ly) acc), .row (tI .i64) 3 v_120 (firstL (madeN 6 ly) (madeF 6 8 ly mn [z0, z1, z2, z3, z4, z5, z6, z7, z8, z9])), Ob.v (tSl (tI .i64)) (fewestL (madeN 6 ly) acc) v_83, Ob.v (tSl (tSl (tI .i64))) acc sv, Ob.v (tSl (tI .i64)) (fewestL (madeN 6 ly) (madeF 6 8 ly mn [z0, z1, z2, z3, z4, z5, z6, z7, z8, z9])) v_75, .box g_27 24 [.int .i64 (madeN 6 ly), sv], .row (tI .i64) 3 r_22 (ordW (madeN 6 ly) [y0, y1, y2, y3, y4, y5, y6]), .box g_16 24 [.int .i64 (madeN 6 ly), v_12], Ob.v (tSl (tSl (tI .i64))) (madeF 6 8 ly mn [z0, z1, z2, z3, z4, z5, z6, z7, z8, z9]) v_12, .box g_5 78 [.int .u8 y0, .int .u8 y1, .int .u8 y2, .int .u8 y3, .int .u8 y4, .int .u8 y5, .int .u8 y6], .box g_1 64 [.int .u8 ly, .int .u8 mn, .int .u8 z0, .int .u8 z1, .int .u8 z2, .int .u8 z3, .int .u8 z4, .int .u8 z5, .int .u8 z6, .int .u8 z7, .int .u8 z8, .int .u8 z9]]) ?_ ?_
        · rcases Bool.eq_false_or_eq_true (decide ((ix 0 (firstL (madeN 6 ly) (madeF 6 8 ly mn [z0, z1, z2, z3, z4, z5, z6, z7, z8, z9])) p) < 0)) with g_142 | g_142
          · -- True
            have gp_143 := of_decide_eq_true g_142
            refine Wx.gnoB rfl rfl (congrArg Value.bool g_142) rfl rfl ?_
            refine Wx.gnoB rfl rfl (congrArg Value.bool g_142) rfl rfl ?_
            refine Wx.gnoB rfl rfl (congrArg Value.bool g_142) rfl rfl ?_
            refine Wx.rd (v := .bool true) (rd_pickT (congrArg Value.bool g_142) rfl) rfl ?_
            refine Wx.nil ⟨(), hS, ⟨?_, trivial⟩, Out.look rfl Out.refl⟩
            show Value.bool true = Value.bool (decide ((ix 0 (firstL (madeN 6 ly) (madeF 6 8 ly mn [z0, z1, z2, z3, z4, z5, z6, z7, z8, z9])) p) < 0) || decide ((madeN 6 ly) ≤ (ix 0 (firstL (madeN 6 ly) (madeF 6 8 ly mn [z0, z1, z2, z3, z4, z5, z6, z7, z8, z9])) p)))
            rw [g_142]; rfl
          · -- False
            have gp_144 := of_decide_eq_false g_142
            refine Wx.gyes rfl rfl (congrArg Value.bool g_142) ?_
            refine Wx.rd (v := .int .i64 (ix 0 (firstL (madeN 6 ly) (madeF 6 8 ly mn [z0, z1, z2, z3, z4, z5, z6, z7, z8, z9])) p)) (rd_move rfl) rfl ?_
            refine Wx.gyes rfl rfl (congrArg Value.bool g_142) ?_
            refine Wx.rd (v := .int .i64 (madeN 6 ly)) (rd_move rfl) rfl ?_
            refine Wx.gyes rfl rfl (congrArg Value.bool g_142) ?_
            refine Wx.rd (v := .bool (decide ((madeN 6 ly) ≤ (ix 0 (firstL (madeN 6 ly) (madeF 6 8 ly mn [z0, z1, z2, z3, z4, z5, z6, z7, z8, z9])) p)))) (rd_geq rfl rfl) rfl ?_
            refine Wx.rd (v := .bool (decide ((madeN 6 ly) ≤ (ix 0 (firstL (madeN 6 ly) (madeF 6 8 ly mn [z0, z1, z2, z3, z4, z5, z6, z7, z8, z9])) p)))) (rd_pickF (congrArg Value.bool g_142) rfl) rfl ?_
            refine Wx.nil ⟨(), hS, ⟨?_, trivial⟩, Out.look rfl Out.refl⟩
            show Value.bool (decide ((madeN 6 ly) ≤ (ix 0 (firstL (madeN 6 ly) (madeF 6 8 ly mn [z0, z1, z2, z3, z4, z5, z6, z7, z8, z9])) p))) = Value.bool (decide ((ix 0 (firstL (madeN 6 ly) (madeF 6 8 ly mn [z0, z1, z2, z3, z4, z5, z6, z7, z8, z9])) p) < 0) || decide ((madeN 6 ly) ≤ (ix 0 (firstL (madeN 6 ly) (madeF 6 8 ly mn [z0, z1, z2, z3, z4, z5, z6, z7, z8, z9])) p)))
            rw [g_142]; rfl
        rintro ⟨⟩ u_146 w_145 hS
        refine Wx.nil ?_
        refine W.condF rfl (by rw [decide_eq_false (by omega), decide_eq_false (by omega)]; rfl) ?_
        refine W.skip ?_
        refine W.reg ?_
        refine Wx.rd (v := mv) (rd_move rfl) rfl ?_
        refine Wx.rd (v := r_22) (rd_move rfl) rfl ?_
        refine Wx.rd (v := .int .i64 (ix 0 (firstL (madeN 6 ly) (madeF 6 8 ly mn [z0, z1, z2, z3, z4, z5, z6, z7, z8, z9])) p)) (rd_move rfl) rfl ?_
        refine Wx.indexR hS 7 rfl rfl rfl Try.underlying28 Try.sizeOf3 (by first | omega | (simp only [List.length_set, List.length_append, List.length_cons, List.length_nil, List.length_replicate]; omega)) (by first | omega | (simp only [List.length_set, List.length_append, List.length_cons, List.length_nil, List.length_replicate]; omega)) rfl (fun g_147 hg_148 => ?_)
        refine Wx.rd (v := .int .i64 (ix 0 (ordW (madeN 6 ly) [y0, y1, y2, y3, y4, y5, y6]) (ix 0 (firstL (madeN 6 ly) (madeF 6 8 ly mn [z0, z1, z2, z3, z4, z5, z6, z7, z8, z9])) p))) (rd_loadRI' hS 7 rfl hg_148 rfl (by first | omega | (simp only [List.length_set, List.length_append, List.length_cons, List.length_nil, List.length_replicate]; omega)) (by first | omega | (simp only [List.length_set, List.length_append, List.length_cons, List.length_nil, List.length_replicate]; omega)) Try.isAgg3 Try.sizeOf3) rfl ?_
        have bd_149 := bd_i64 (hS.rowInK' 7 rfl (by first | omega | (simp only [List.length_set, List.length_append, List.length_cons, List.length_nil, List.length_replicate]; omega)) (by first | omega | (simp only [List.length_set, List.length_append, List.length_cons, List.length_nil, List.length_replicate]; omega)) : InK .i64 (ix 0 (ordW (madeN 6 ly) [y0, y1, y2, y3, y4, y5, y6]) (ix 0 (firstL (madeN 6 ly) (madeF 6 8 ly mn [z0, z1, z2, z3, z4, z5, z6, z7, z8, z9])) p)))
        refine Wx.lit (t := (tI .i64)) (ys := [ix 0 (ordW (madeN 6 ly) [y0, y1, y2, y3, y4, y5, y6]) (ix 0 (firstL (madeN 6 ly) (madeF 6 8 ly mn [z0, z1, z2, z3, z4, z5, z6, z7, z8, z9])) p)]) (vs := [.int .i64 (ix 0 (ordW (madeN 6 ly) [y0, y1, y2, y3, y4, y5, y6]) (ix 0 (firstL (madeN 6 ly) (madeF 6 8 ly mn [z0, z1, z2, z3, z4, z5, z6, z7, z8, z9])) p))]) elGn_28 hS rfl rfl ⟨(V.mkInt (in_i64 (by omega) (by omega))), trivial⟩ (by decide) rfl (fun v_150 w_151 hx_152 hS => ?_)
        refine Wx.append elGn_28 hS 1 rfl rfl rfl (Src.ofR hS 0 rfl) (by simp only [maxLen]; simp; omega) (by simp; omega) rfl (fun v_153 w_154 hz_155 hS => ?_)
        refine Wx.rd (v := v_153) (rd_assign rfl) rfl ?_
        refine Wx.nil ?_
        refine W.reg ?_
        refine Wx.rd (v := .int .i64 (p + 1)) (rd_add rfl rfl (in_i64 (by omega) (by omega))) rfl ?_
        refine Wx.rd (v := .int .i64 (p + 1)) (rd_move rfl) rfl ?_
        refine Wx.nil ?_
        refine ⟨(p + 1, v_153, m ++ [ix 0 (ordW (madeN 6 ly) [y0, y1, y2, y3, y4, y5, y6]) (ix 0 (firstL (madeN 6 ly) (madeF 6 8 ly mn [z0, z1, z2, z3, z4, z5, z6, z7, z8, z9])) p)]), (by show ((firstL (madeN 6 ly) (madeF 6 8 ly mn [z0, z1, z2, z3, z4, z5, z6, z7, z8, z9])).length - (p + 1)).toNat < ((firstL (madeN 6 ly) (madeF 6 8 ly mn [z0, z1, z2, z3, z4, z5, z6, z7, z8, z9])).length - p).toNat; omega), ?_, ?_, Out.look rfl (Out.hav rfl (Out.look rfl Out.self))⟩
        · exact ⟨hS.tl, (by first | omega | assumption), (by first | omega | assumption), (by rw [m2, take_ix (d := 0) m0 c6, List.map_append]; rfl), (by simp; omega)⟩
        · exact ⟨rfl, rfl, trivial⟩
      · -- no
        refine W.exit rfl ?_
        refine W.seq ?_
        refine W.reg ?_
        refine Wx.rd (v := .agg #[.int .i64 (madeN 6 ly), v_12]) (rd_loadXs (ds := [.int .i64 (madeN 6 ly), v_12]) hS 8 rfl rfl rfl rfl Try.isAgg24 Try.sizeOf24) rfl ?_
        refine Wx.rd (v := v_120) (rd_move rfl) rfl ?_
        refine Wx.callF (run_callF Try.call30 rfl) (F30 (in_i64 (by omega) (by omega)) (hS.v 9 rfl) (hS.lend 2 rfl)) rfl ?_
        rintro r_156 w_157 hx_158 rfl
        have hS := hS.ext hx_158
        refine Wx.rd (v := .tuple #[.bool (decide (shownE (madeN 6 ly) (madeF 6 8 ly mn [z0, z1, z2, z3, z4, z5, z6, z7, z8, z9]) (firstL (madeN 6 ly) (madeF 6 8 ly mn [z0, z1, z2, z3, z4, z5, z6, z7, z8, z9])) = 0) && decide (gapsE (madeN 6 ly) (madeF 6 8 ly mn [z0, z1, z2, z3, z4, z5, z6, z7, z8, z9]) (firstL (madeN 6 ly) (madeF 6 8 ly mn [z0, z1, z2, z3, z4, z5, z6, z7, z8, z9])) = 0)), .int .i64 (shownE (madeN 6 ly) (madeF 6 8 ly mn [z0, z1, z2, z3, z4, z5, z6, z7, z8, z9]) (firstL (madeN 6 ly) (madeF 6 8 ly mn [z0, z1, z2, z3, z4, z5, z6, z7, z8, z9])))]) (rd_move rfl) rfl ?_
        refine Wx.rd (v := .bool (decide (shownE (madeN 6 ly) (madeF 6 8 ly mn [z0, z1, z2, z3, z4, z5, z6, z7, z8, z9]) (firstL (madeN 6 ly) (madeF 6 8 ly mn [z0, z1, z2, z3, z4, z5, z6, z7, z8, z9])) = 0) && decide (gapsE (madeN 6 ly) (madeF 6 8 ly mn [z0, z1, z2, z3, z4, z5, z6, z7, z8, z9]) (firstL (madeN 6 ly) (madeF 6 8 ly mn [z0, z1, z2, z3, z4, z5, z6, z7, z8, z9])) = 0))) (rd_extract rfl rfl) rfl ?_
        refine Wx.rd (v := .int .i64 (shownE (madeN 6 ly) (madeF 6 8 ly mn [z0, z1, z2, z3, z4, z5, z6, z7, z8, z9]) (firstL (madeN 6 ly) (madeF 6 8 ly mn [z0, z1, z2, z3, z4, z5, z6, z7, z8, z9])))) (rd_extract rfl rfl) rfl ?_
        refine Wx.rd (v := .bool (decide (shownE (madeN 6 ly) (madeF 6 8 ly mn [z0, z1, z2, z3, z4, z5, z6, z7, z8, z9]) (firstL (madeN 6 ly) (madeF 6 8 ly mn [z0, z1, z2, z3, z4, z5, z6, z7, z8, z9])) = 0) && decide (gapsE (madeN 6 ly) (madeF 6 8 ly mn [z0, z1, z2, z3, z4, z5, z6, z7, z8, z9]) (firstL (madeN 6 ly) (madeF 6 8 ly mn [z0, z1, z2, z3, z4, z5, z6, z7, z8, z9])) = 0))) (rd_assign rfl) rfl ?_
        refine Wx.rd (v := .int .i64 (shownE (madeN 6 ly) (madeF 6 8 ly mn [z0, z1, z2, z3, z4, z5, z6, z7, z8, z9]) (firstL (madeN 6 ly) (madeF 6 8 ly mn [z0, z1, z2, z3, z4, z5, z6, z7, z8, z9])))) (rd_assign rfl) rfl ?_
        refine Wx.nil ?_
        refine W.seq ?_
        refine W.reg ?_
        refine Wx.rd (v := .agg #[.int .i64 (madeN 6 ly), sv]) (rd_loadXs (ds := [.int .i64 (madeN 6 ly), sv]) hS 6 rfl rfl rfl rfl Try.isAgg24 Try.sizeOf24) rfl ?_
        refine Wx.rd (v := mv) (rd_move rfl) rfl ?_
        refine Wx.callF (run_callF Try.call30 rfl) (F30 (in_i64 (by omega) (by omega)) (hS.v 4 rfl) (hS.lend 0 rfl)) rfl ?_
        rintro r_159 w_160 hx_161 rfl
        have hS := hS.ext hx_161
        refine Wx.rd (v := .tuple #[.bool (decide (shownE (madeN 6 ly) acc m = 0) && decide (gapsE (madeN 6 ly) acc m = 0)), .int .i64 (shownE (madeN 6 ly) acc m)]) (rd_move rfl) rfl ?_
        refine Wx.rd (v := .bool (decide (shownE (madeN 6 ly) acc m = 0) && decide (gapsE (madeN 6 ly) acc m = 0))) (rd_extract rfl rfl) rfl ?_
        refine Wx.rd (v := .int .i64 (shownE (madeN 6 ly) acc m)) (rd_extract rfl rfl) rfl ?_
        refine Wx.rd (v := .bool (decide (shownE (madeN 6 ly) acc m = 0) && decide (gapsE (madeN 6 ly) acc m = 0))) (rd_assign rfl) rfl ?_
        refine Wx.rd (v := .int .i64 (shownE (madeN 6 ly) acc m)) (rd_assign rfl) rfl ?_
        refine Wx.nil ?_
        refine W.seq ?_
        refine W.reg ?_
        refine Wx.rd (v := .int .i64 (shownE (madeN 6 ly) (madeF 6 8 ly mn [z0, z1, z2, z3, z4, z5, z6, z7, z8, z9]) (firstL (madeN 6 ly) (madeF 6 8 ly mn [z0, z1, z2, z3, z4, z5, z6, z7, z8, z9])))) (rd_move rfl) rfl ?_
        refine Wx.rd (v := .bool (decide ((shownE (madeN 6 ly) (madeF 6 8 ly mn [z0, z1, z2, z3, z4, z5, z6, z7, z8, z9]) (firstL (madeN 6 ly) (madeF 6 8 ly mn [z0, z1, z2, z3, z4, z5, z6, z7, z8, z9]))) = 0))) (rd_eql rfl rfl) rfl ?_
        refine Wx.rd (v := .bool (decide ((shownE (madeN 6 ly) (madeF 6 8 ly mn [z0, z1, z2, z3, z4, z5, z6, z7, z8, z9]) (firstL (madeN 6 ly) (madeF 6 8 ly mn [z0, z1, z2, z3, z4, z5, z6, z7, z8, z9]))) = 0))) (rd_move rfl) rfl ?_
        refine Wx.cut (X := Unit) 3 [184, 185, 186] (fun _ => [(186, .bool (decide ((shownE (madeN 6 ly) (madeF 6 8 ly mn [z0, z1, z2, z3, z4, z5, z6, z7, z8, z9]) (firstL (madeN 6 ly) (madeF 6 8 ly mn [z0, z1, z2, z3, z4, z5, z6, z7, z8, z9]))) = 0) && decide ((shownE (madeN 6 ly) acc m) = 0)))]) (fun _ w' => St w [] w' [.row (tI .i64) 3 mv m, .row (tI .i64) 3 v_126 (firstL (madeN 6 ly) acc), .row (tI .i64) 3 v_120 (firstL (madeN 6 ly) (madeF 6 8 ly mn [z0, z1, z2, z3, z4, z5, z6, z7, z8, z9])), Ob.v (tSl (tI .i64)) (fewestL (madeN 6 ly) acc) v_83, Ob.v (tSl (tSl (tI .i64))) acc sv, Ob.v (tSl (tI .i64)) (fewestL (madeN 6 ly) (madeF 6 8 ly mn [z0, z1, z2, z3, z4, z5, z6, z7, z8, z9])) v_75, .box g_27 24 [.int .i64 (madeN 6 ly), sv], .row (tI .i64) 3 r_22 (ordW (madeN 6 ly) [y0, y1, y2, y3, y4, y5, y6]), .box g_16 24 [.int .i64 (madeN 6 ly), v_12], Ob.v (tSl (tSl (tI .i64))) (madeF 6 8 ly mn [z0, z1, z2, z3, z4, z5, z6, z7, z8, z9]) v_12, .box g_5 78 [.int .u8 y0, .int .u8 y1, .int .u8 y2, .int .u8 y3, .int .u8 y4, .int .u8 y5, .int .u8 y6], .box g_1 64 [.int .u8 ly, .int .u8 mn, .int .u8 z0, .int .u8 z1, .int .u8 z2, .int .u8 z3, .int .u8 z4, .int .u8 z5, .int .u8 z6, .int .u8 z7, .int .u8 z8, .int .u8 z9]]) ?_ ?_
        · rcases Bool.eq_false_or_eq_true (decide ((shownE (madeN 6 ly) (madeF 6 8 ly mn [z0, z1, z2, z3, z4, z5, z6, z7, z8, z9]) (firstL (madeN 6 ly) (madeF 6 8 ly mn [z0, z1, z2, z3, z4, z5, z6, z7, z8, z9]))) = 0)) with g_162 | g_162
          · -- True
            have gp_163 := of_decide_eq_true g_162
            refine Wx.gyes rfl rfl (congrArg Value.bool g_162) ?_
            refine Wx.rd (v := .int .i64 (shownE (madeN 6 ly) acc m)) (rd_move rfl) rfl ?_
            refine Wx.gyes rfl rfl (congrArg Value.bool g_162) ?_
            refine Wx.rd (v := .bool (decide ((shownE (madeN 6 ly) acc m) = 0))) (rd_eql rfl rfl) rfl ?_
            refine Wx.rd (v := .bool (decide ((shownE (madeN 6 ly) acc m) = 0))) (rd_pickT (congrArg Value.bool g_162) rfl) rfl ?_
            refine Wx.nil ⟨(), hS, ⟨?_, trivial⟩, Out.look rfl Out.refl⟩
            show Value.bool (decide ((shownE (madeN 6 ly) acc m) = 0)) = Value.bool (decide ((shownE (madeN 6 ly) (madeF 6 8 ly mn [z0, z1, z2, z3, z4, z5, z6, z7, z8, z9]) (firstL (madeN 6 ly) (madeF 6 8 ly mn [z0, z1, z2, z3, z4, z5, z6, z7, z8, z9]))) = 0) && decide ((shownE (madeN 6 ly) acc m) = 0))
            rw [g_162]; rfl
          · -- False
            have gp_164 := of_decide_eq_false g_162
            refine Wx.gnoB rfl rfl (congrArg Value.bool g_162) rfl rfl ?_
            refine Wx.gnoB rfl rfl (congrArg Value.bool g_162) rfl rfl ?_
            refine Wx.rd (v := .bool false) (rd_pickF (congrArg Value.bool g_162) rfl) rfl ?_
            refine Wx.nil ⟨(), hS, ⟨?_, trivial⟩, Out.look rfl Out.refl⟩
            show Value.bool false = Value.bool (decide ((shownE (madeN 6 ly) (madeF 6 8 ly mn [z0, z1, z2, z3, z4, z5, z6, z7, z8, z9]) (firstL (madeN 6 ly) (madeF 6 8 ly mn [z0, z1, z2, z3, z4, z5, z6, z7, z8, z9]))) = 0) && decide ((shownE (madeN 6 ly) acc m) = 0))
            rw [g_162]; rfl
        rintro ⟨⟩ u_166 w_165 hS
        refine Wx.rd (v := .bool (decide ((shownE (madeN 6 ly) (madeF 6 8 ly mn [z0, z1, z2, z3, z4, z5, z6, z7, z8, z9]) (firstL (madeN 6 ly) (madeF 6 8 ly mn [z0, z1, z2, z3, z4, z5, z6, z7, z8, z9]))) = 0) && decide ((shownE (madeN 6 ly) acc m) = 0))) (rd_move rfl) rfl ?_
        refine Wx.cut (X := Unit) 2 [188, 189] (fun _ => [(189, .bool ((decide ((shownE (madeN 6 ly) (madeF 6 8 ly mn [z0, z1, z2, z3, z4, z5, z6, z7, z8, z9]) (firstL (madeN 6 ly) (madeF 6 8 ly mn [z0, z1, z2, z3, z4, z5, z6, z7, z8, z9]))) = 0) && decide ((shownE (madeN 6 ly) acc m) = 0)) && decide (shownE (madeN 6 ly) (madeF 6 8 ly mn [z0, z1, z2, z3, z4, z5, z6, z7, z8, z9]) (firstL (madeN 6 ly) (madeF 6 8 ly mn [z0, z1, z2, z3, z4, z5, z6, z7, z8, z9])) = 0) && decide (gapsE (madeN 6 ly) (madeF 6 8 ly mn [z0, z1, z2, z3, z4, z5, z6, z7, z8, z9]) (firstL (madeN 6 ly) (madeF 6 8 ly mn [z0, z1, z2, z3, z4, z5, z6, z7, z8, z9])) = 0)))]) (fun _ w' => St w [] w' [.row (tI .i64) 3 mv m, .row (tI .i64) 3 v_126 (firstL (madeN 6 ly) acc), .row (tI .i64) 3 v_120 (firstL (madeN 6 ly) (madeF 6 8 ly mn [z0, z1, z2, z3, z4, z5, z6, z7, z8, z9])), Ob.v (tSl (tI .i64)) (fewestL (madeN 6 ly) acc) v_83, Ob.v (tSl (tSl (tI .i64))) acc sv, Ob.v (tSl (tI .i64)) (fewestL (madeN 6 ly) (madeF 6 8 ly mn [z0, z1, z2, z3, z4, z5, z6, z7, z8, z9])) v_75, .box g_27 24 [.int .i64 (madeN 6 ly), sv], .row (tI .i64) 3 r_22 (ordW (madeN 6 ly) [y0, y1, y2, y3, y4, y5, y6]), .box g_16 24 [.int .i64 (madeN 6 ly), v_12], Ob.v (tSl (tSl (tI .i64))) (madeF 6 8 ly mn [z0, z1, z2, z3, z4, z5, z6, z7, z8, z9]) v_12, .box g_5 78 [.int .u8 y0, .int .u8 y1, .int .u8 y2, .int .u8 y3, .int .u8 y4, .int .u8 y5, .int .u8 y6], .box g_1 64 [.int .u8 ly, .int .u8 mn, .int .u8 z0, .int .u8 z1, .int .u8 z2, .int .u8 z3, .int .u8 z4, .int .u8 z5, .int .u8 z6, .int .u8 z7, .int .u8 z8, .int .u8 z9]]) ?_ ?_
        · rcases Bool.eq_false_or_eq_true (decide ((shownE (madeN 6 ly) (madeF 6 8 ly mn [z0, z1, z2, z3, z4, z5, z6, z7, z8, z9]) (firstL (madeN 6 ly) (madeF 6 8 ly mn [z0, z1, z2, z3, z4, z5, z6, z7, z8, z9]))) = 0) && decide ((shownE (madeN 6 ly) acc m) = 0)) with g_167 | g_167
          · -- True
            have gp_168 := g_167
            try simp only [Bool.and_eq_true, Bool.or_eq_true, Bool.not_eq_true', Bool.and_eq_false_iff, Bool.or_eq_false_iff, Bool.not_eq_false', decide_eq_true_eq, decide_eq_false_iff_not, not_or, Bool.false_eq_true, Bool.true_eq_false, false_or, or_false, not_false_eq_true] at gp_168
            refine Wx.gyes rfl rfl (congrArg Value.bool g_167) ?_
            refine Wx.rd (v := .bool (decide (shownE (madeN 6 ly) (madeF 6 8 ly mn [z0, z1, z2, z3, z4, z5, z6, z7, z8, z9]) (firstL (madeN 6 ly) (madeF 6 8 ly mn [z0, z1, z2, z3, z4, z5, z6, z7, z8, z9])) = 0) && decide (gapsE (madeN 6 ly) (madeF 6 8 ly mn [z0, z1, z2, z3, z4, z5, z6, z7, z8, z9]) (firstL (madeN 6 ly) (madeF 6 8 ly mn [z0, z1, z2, z3, z4, z5, z6, z7, z8, z9])) = 0))) (rd_move rfl) rfl ?_
            refine Wx.rd (v := .bool (decide (shownE (madeN 6 ly) (madeF 6 8 ly mn [z0, z1, z2, z3, z4, z5, z6, z7, z8, z9]) (firstL (madeN 6 ly) (madeF 6 8 ly mn [z0, z1, z2, z3, z4, z5, z6, z7, z8, z9])) = 0) && decide (gapsE (madeN 6 ly) (madeF 6 8 ly mn [z0, z1, z2, z3, z4, z5, z6, z7, z8, z9]) (firstL (madeN 6 ly) (madeF 6 8 ly mn [z0, z1, z2, z3, z4, z5, z6, z7, z8, z9])) = 0))) (rd_pickT (congrArg Value.bool g_167) rfl) rfl ?_
            refine Wx.nil ⟨(), hS, ⟨?_, trivial⟩, Out.look rfl Out.refl⟩
            show Value.bool (decide (shownE (madeN 6 ly) (madeF 6 8 ly mn [z0, z1, z2, z3, z4, z5, z6, z7, z8, z9]) (firstL (madeN 6 ly) (madeF 6 8 ly mn [z0, z1, z2, z3, z4, z5, z6, z7, z8, z9])) = 0) && decide (gapsE (madeN 6 ly) (madeF 6 8 ly mn [z0, z1, z2, z3, z4, z5, z6, z7, z8, z9]) (firstL (madeN 6 ly) (madeF 6 8 ly mn [z0, z1, z2, z3, z4, z5, z6, z7, z8, z9])) = 0)) = Value.bool ((decide ((shownE (madeN 6 ly) (madeF 6 8 ly mn [z0, z1, z2, z3, z4, z5, z6, z7, z8, z9]) (firstL (madeN 6 ly) (madeF 6 8 ly mn [z0, z1, z2, z3, z4, z5, z6, z7, z8, z9]))) = 0) && decide ((shownE (madeN 6 ly) acc m) = 0)) && decide (shownE (madeN 6 ly) (madeF 6 8 ly mn [z0, z1, z2, z3, z4, z5, z6, z7, z8, z9]) (firstL (madeN 6 ly) (madeF 6 8 ly mn [z0, z1, z2, z3, z4, z5, z6, z7, z8, z9])) = 0) && decide (gapsE (madeN 6 ly) (madeF 6 8 ly mn [z0, z1, z2, z3, z4, z5, z6, z7, z8, z9]) (firstL (madeN 6 ly) (madeF 6 8 ly mn [z0, z1, z2, z3, z4, z5, z6, z7, z8, z9])) = 0))
            rw [g_167]; rfl
          · -- False
            have gp_169 := g_167
            try simp only [Bool.and_eq_true, Bool.or_eq_true, Bool.not_eq_true', Bool.and_eq_false_iff, Bool.or_eq_false_iff, Bool.not_eq_false', decide_eq_true_eq, decide_eq_false_iff_not, not_or, Bool.false_eq_true, Bool.true_eq_false, false_or, or_false, not_false_eq_true] at gp_169
            refine Wx.gnoB rfl rfl (congrArg Value.bool g_167) rfl rfl ?_
            refine Wx.rd (v := .bool false) (rd_pickF (congrArg Value.bool g_167) rfl) rfl ?_
            refine Wx.nil ⟨(), hS, ⟨?_, trivial⟩, Out.look rfl Out.refl⟩
            show Value.bool false = Value.bool ((decide ((shownE (madeN 6 ly) (madeF 6 8 ly mn [z0, z1, z2, z3, z4, z5, z6, z7, z8, z9]) (firstL (madeN 6 ly) (madeF 6 8 ly mn [z0, z1, z2, z3, z4, z5, z6, z7, z8, z9]))) = 0) && decide ((shownE (madeN 6 ly) acc m) = 0)) && decide (shownE (madeN 6 ly) (madeF 6 8 ly mn [z0, z1, z2, z3, z4, z5, z6, z7, z8, z9]) (firstL (madeN 6 ly) (madeF 6 8 ly mn [z0, z1, z2, z3, z4, z5, z6, z7, z8, z9])) = 0) && decide (gapsE (madeN 6 ly) (madeF 6 8 ly mn [z0, z1, z2, z3, z4, z5, z6, z7, z8, z9]) (firstL (madeN 6 ly) (madeF 6 8 ly mn [z0, z1, z2, z3, z4, z5, z6, z7, z8, z9])) = 0))
            rw [g_167]; rfl
        rintro ⟨⟩ u_171 w_170 hS
        refine Wx.rd (v := .bool ((decide ((shownE (madeN 6 ly) (madeF 6 8 ly mn [z0, z1, z2, z3, z4, z5, z6, z7, z8, z9]) (firstL (madeN 6 ly) (madeF 6 8 ly mn [z0, z1, z2, z3, z4, z5, z6, z7, z8, z9]))) = 0) && decide ((shownE (madeN 6 ly) acc m) = 0)) && decide (shownE (madeN 6 ly) (madeF 6 8 ly mn [z0, z1, z2, z3, z4, z5, z6, z7, z8, z9]) (firstL (madeN 6 ly) (madeF 6 8 ly mn [z0, z1, z2, z3, z4, z5, z6, z7, z8, z9])) = 0) && decide (gapsE (madeN 6 ly) (madeF 6 8 ly mn [z0, z1, z2, z3, z4, z5, z6, z7, z8, z9]) (firstL (madeN 6 ly) (madeF 6 8 ly mn [z0, z1, z2, z3, z4, z5, z6, z7, z8, z9])) = 0))) (rd_move rfl) rfl ?_
        refine Wx.cut (X := Unit) 2 [191, 192] (fun _ => [(192, .bool (((decide ((shownE (madeN 6 ly) (madeF 6 8 ly mn [z0, z1, z2, z3, z4, z5, z6, z7, z8, z9]) (firstL (madeN 6 ly) (madeF 6 8 ly mn [z0, z1, z2, z3, z4, z5, z6, z7, z8, z9]))) = 0) && decide ((shownE (madeN 6 ly) acc m) = 0)) && decide (shownE (madeN 6 ly) (madeF 6 8 ly mn [z0, z1, z2, z3, z4, z5, z6, z7, z8, z9]) (firstL (madeN 6 ly) (madeF 6 8 ly mn [z0, z1, z2, z3, z4, z5, z6, z7, z8, z9])) = 0) && decide (gapsE (madeN 6 ly) (madeF 6 8 ly mn [z0, z1, z2, z3, z4, z5, z6, z7, z8, z9]) (firstL (madeN 6 ly) (madeF 6 8 ly mn [z0, z1, z2, z3, z4, z5, z6, z7, z8, z9])) = 0)) && decide (shownE (madeN 6 ly) acc m = 0) && decide (gapsE (madeN 6 ly) acc m = 0)))]) (fun _ w' => St w [] w' [.row (tI .i64) 3 mv m, .row (tI .i64) 3 v_126 (firstL (madeN 6 ly) acc), .row (tI .i64) 3 v_120 (firstL (madeN 6 ly) (madeF 6 8 ly mn [z0, z1, z2, z3, z4, z5, z6, z7, z8, z9])), Ob.v (tSl (tI .i64)) (fewestL (madeN 6 ly) acc) v_83, Ob.v (tSl (tSl (tI .i64))) acc sv, Ob.v (tSl (tI .i64)) (fewestL (madeN 6 ly) (madeF 6 8 ly mn [z0, z1, z2, z3, z4, z5, z6, z7, z8, z9])) v_75, .box g_27 24 [.int .i64 (madeN 6 ly), sv], .row (tI .i64) 3 r_22 (ordW (madeN 6 ly) [y0, y1, y2, y3, y4, y5, y6]), .box g_16 24 [.int .i64 (madeN 6 ly), v_12], Ob.v (tSl (tSl (tI .i64))) (madeF 6 8 ly mn [z0, z1, z2, z3, z4, z5, z6, z7, z8, z9]) v_12, .box g_5 78 [.int .u8 y0, .int .u8 y1, .int .u8 y2, .int .u8 y3, .int .u8 y4, .int .u8 y5, .int .u8 y6], .box g_1 64 [.int .u8 ly, .int .u8 mn, .int .u8 z0, .int .u8 z1, .int .u8 z2, .int .u8 z3, .int .u8 z4, .int .u8 z5, .int .u8 z6, .int .u8 z7, .int .u8 z8, .int .u8 z9]]) ?_ ?_
        · rcases Bool.eq_false_or_eq_true ((decide ((shownE (madeN 6 ly) (madeF 6 8 ly mn [z0, z1, z2, z3, z4, z5, z6, z7, z8, z9]) (firstL (madeN 6 ly) (madeF 6 8 ly mn [z0, z1, z2, z3, z4, z5, z6, z7, z8, z9]))) = 0) && decide ((shownE (madeN 6 ly) acc m) = 0)) && decide (shownE (madeN 6 ly) (madeF 6 8 ly mn [z0, z1, z2, z3, z4, z5, z6, z7, z8, z9]) (firstL (madeN 6 ly) (madeF 6 8 ly mn [z0, z1, z2, z3, z4, z5, z6, z7, z8, z9])) = 0) && decide (gapsE (madeN 6 ly) (madeF 6 8 ly mn [z0, z1, z2, z3, z4, z5, z6, z7, z8, z9]) (firstL (madeN 6 ly) (madeF 6 8 ly mn [z0, z1, z2, z3, z4, z5, z6, z7, z8, z9])) = 0)) with g_172 | g_172
          · -- True
            have gp_173 := g_172
            try simp only [Bool.and_eq_true, Bool.or_eq_true, Bool.not_eq_true', Bool.and_eq_false_iff, Bool.or_eq_false_iff, Bool.not_eq_false', decide_eq_true_eq, decide_eq_false_iff_not, not_or, Bool.false_eq_true, Bool.true_eq_false, false_or, or_false, not_false_eq_true] at gp_173
            refine Wx.gyes rfl rfl (congrArg Value.bool g_172) ?_
            refine Wx.rd (v := .bool (decide (shownE (madeN 6 ly) acc m = 0) && decide (gapsE (madeN 6 ly) acc m = 0))) (rd_move rfl) rfl ?_
            refine Wx.rd (v := .bool (decide (shownE (madeN 6 ly) acc m = 0) && decide (gapsE (madeN 6 ly) acc m = 0))) (rd_pickT (congrArg Value.bool g_172) rfl) rfl ?_
            refine Wx.nil ⟨(), hS, ⟨?_, trivial⟩, Out.look rfl Out.refl⟩
            show Value.bool (decide (shownE (madeN 6 ly) acc m = 0) && decide (gapsE (madeN 6 ly) acc m = 0)) = Value.bool (((decide ((shownE (madeN 6 ly) (madeF 6 8 ly mn [z0, z1, z2, z3, z4, z5, z6, z7, z8, z9]) (firstL (madeN 6 ly) (madeF 6 8 ly mn [z0, z1, z2, z3, z4, z5, z6, z7, z8, z9]))) = 0) && decide ((shownE (madeN 6 ly) acc m) = 0)) && decide (shownE (madeN 6 ly) (madeF 6 8 ly mn [z0, z1, z2, z3, z4, z5, z6, z7, z8, z9]) (firstL (madeN 6 ly) (madeF 6 8 ly mn [z0, z1, z2, z3, z4, z5, z6, z7, z8, z9])) = 0) && decide (gapsE (madeN 6 ly) (madeF 6 8 ly mn [z0, z1, z2, z3, z4, z5, z6, z7, z8, z9]) (firstL (madeN 6 ly) (madeF 6 8 ly mn [z0, z1, z2, z3, z4, z5, z6, z7, z8, z9])) = 0)) && decide (shownE (madeN 6 ly) acc m = 0) && decide (gapsE (madeN 6 ly) acc m = 0))
            rw [g_172]; rfl
          · -- False
            have gp_174 := g_172
            try simp only [Bool.and_eq_true, Bool.or_eq_true, Bool.not_eq_true', Bool.and_eq_false_iff, Bool.or_eq_false_iff, Bool.not_eq_false', decide_eq_true_eq, decide_eq_false_iff_not, not_or, Bool.false_eq_true, Bool.true_eq_false, false_or, or_false, not_false_eq_true] at gp_174
            refine Wx.gnoB rfl rfl (congrArg Value.bool g_172) rfl rfl ?_
            refine Wx.rd (v := .bool false) (rd_pickF (congrArg Value.bool g_172) rfl) rfl ?_
            refine Wx.nil ⟨(), hS, ⟨?_, trivial⟩, Out.look rfl Out.refl⟩
            show Value.bool false = Value.bool (((decide ((shownE (madeN 6 ly) (madeF 6 8 ly mn [z0, z1, z2, z3, z4, z5, z6, z7, z8, z9]) (firstL (madeN 6 ly) (madeF 6 8 ly mn [z0, z1, z2, z3, z4, z5, z6, z7, z8, z9]))) = 0) && decide ((shownE (madeN 6 ly) acc m) = 0)) && decide (shownE (madeN 6 ly) (madeF 6 8 ly mn [z0, z1, z2, z3, z4, z5, z6, z7, z8, z9]) (firstL (madeN 6 ly) (madeF 6 8 ly mn [z0, z1, z2, z3, z4, z5, z6, z7, z8, z9])) = 0) && decide (gapsE (madeN 6 ly) (madeF 6 8 ly mn [z0, z1, z2, z3, z4, z5, z6, z7, z8, z9]) (firstL (madeN 6 ly) (madeF 6 8 ly mn [z0, z1, z2, z3, z4, z5, z6, z7, z8, z9])) = 0)) && decide (shownE (madeN 6 ly) acc m = 0) && decide (gapsE (madeN 6 ly) acc m = 0))
            rw [g_172]; rfl
        rintro ⟨⟩ u_176 w_175 hS
        refine Wx.rd (v := .bool (((decide ((shownE (madeN 6 ly) (madeF 6 8 ly mn [z0, z1, z2, z3, z4, z5, z6, z7, z8, z9]) (firstL (madeN 6 ly) (madeF 6 8 ly mn [z0, z1, z2, z3, z4, z5, z6, z7, z8, z9]))) = 0) && decide ((shownE (madeN 6 ly) acc m) = 0)) && decide (shownE (madeN 6 ly) (madeF 6 8 ly mn [z0, z1, z2, z3, z4, z5, z6, z7, z8, z9]) (firstL (madeN 6 ly) (madeF 6 8 ly mn [z0, z1, z2, z3, z4, z5, z6, z7, z8, z9])) = 0) && decide (gapsE (madeN 6 ly) (madeF 6 8 ly mn [z0, z1, z2, z3, z4, z5, z6, z7, z8, z9]) (firstL (madeN 6 ly) (madeF 6 8 ly mn [z0, z1, z2, z3, z4, z5, z6, z7, z8, z9])) = 0)) && decide (shownE (madeN 6 ly) acc m = 0) && decide (gapsE (madeN 6 ly) acc m = 0))) (rd_move rfl) rfl ?_
        refine Wx.cut (X := Unit) 2 [194, 195] (fun _ => [(195, .bool ((((decide ((shownE (madeN 6 ly) (madeF 6 8 ly mn [z0, z1, z2, z3, z4, z5, z6, z7, z8, z9]) (firstL (madeN 6 ly) (madeF 6 8 ly mn [z0, z1, z2, z3, z4, z5, z6, z7, z8, z9]))) = 0) && decide ((shownE (madeN 6 ly) acc m) = 0)) && decide (shownE (madeN 6 ly) (madeF 6 8 ly mn [z0, z1, z2, z3, z4, z5, z6, z7, z8, z9]) (firstL (madeN 6 ly) (madeF 6 8 ly mn [z0, z1, z2, z3, z4, z5, z6, z7, z8, z9])) = 0) && decide (gapsE (madeN 6 ly) (madeF 6 8 ly mn [z0, z1, z2, z3, z4, z5, z6, z7, z8, z9]) (firstL (madeN 6 ly) (madeF 6 8 ly mn [z0, z1, z2, z3, z4, z5, z6, z7, z8, z9])) = 0)) && decide (shownE (madeN 6 ly) acc m = 0) && decide (gapsE (madeN 6 ly) acc m = 0)) && true))]) (fun _ w' => St w [] w' [.row (tI .i64) 3 mv m, .row (tI .i64) 3 v_126 (firstL (madeN 6 ly) acc), .row (tI .i64) 3 v_120 (firstL (madeN 6 ly) (madeF 6 8 ly mn [z0, z1, z2, z3, z4, z5, z6, z7, z8, z9])), Ob.v (tSl (tI .i64)) (fewestL (madeN 6 ly) acc) v_83, Ob.v (tSl (tSl (tI .i64))) acc sv, Ob.v (tSl (tI .i64)) (fewestL (madeN 6 ly) (madeF 6 8 ly mn [z0, z1, z2, z3, z4, z5, z6, z7, z8, z9])) v_75, .box g_27 24 [.int .i64 (madeN 6 ly), sv], .row (tI .i64) 3 r_22 (ordW (madeN 6 ly) [y0, y1, y2, y3, y4, y5, y6]), .box g_16 24 [.int .i64 (madeN 6 ly), v_12], Ob.v (tSl (tSl (tI .i64))) (madeF 6 8 ly mn [z0, z1, z2, z3, z4, z5, z6, z7, z8, z9]) v_12, .box g_5 78 [.int .u8 y0, .int .u8 y1, .int .u8 y2, .int .u8 y3, .int .u8 y4, .int .u8 y5, .int .u8 y6], .box g_1 64 [.int .u8 ly, .int .u8 mn, .int .u8 z0, .int .u8 z1, .int .u8 z2, .int .u8 z3, .int .u8 z4, .int .u8 z5, .int .u8 z6, .int .u8 z7, .int .u8 z8, .int .u8 z9]]) ?_ ?_
        · rcases Bool.eq_false_or_eq_true (((decide ((shownE (madeN 6 ly) (madeF 6 8 ly mn [z0, z1, z2, z3, z4, z5, z6, z7, z8, z9]) (firstL (madeN 6 ly) (madeF 6 8 ly mn [z0, z1, z2, z3, z4, z5, z6, z7, z8, z9]))) = 0) && decide ((shownE (madeN 6 ly) acc m) = 0)) && decide (shownE (madeN 6 ly) (madeF 6 8 ly mn [z0, z1, z2, z3, z4, z5, z6, z7, z8, z9]) (firstL (madeN 6 ly) (madeF 6 8 ly mn [z0, z1, z2, z3, z4, z5, z6, z7, z8, z9])) = 0) && decide (gapsE (madeN 6 ly) (madeF 6 8 ly mn [z0, z1, z2, z3, z4, z5, z6, z7, z8, z9]) (firstL (madeN 6 ly) (madeF 6 8 ly mn [z0, z1, z2, z3, z4, z5, z6, z7, z8, z9])) = 0)) && decide (shownE (madeN 6 ly) acc m = 0) && decide (gapsE (madeN 6 ly) acc m = 0)) with g_177 | g_177
          · -- True
            have gp_178 := g_177
            try simp only [Bool.and_eq_true, Bool.or_eq_true, Bool.not_eq_true', Bool.and_eq_false_iff, Bool.or_eq_false_iff, Bool.not_eq_false', decide_eq_true_eq, decide_eq_false_iff_not, not_or, Bool.false_eq_true, Bool.true_eq_false, false_or, or_false, not_false_eq_true] at gp_178
            refine Wx.gyes rfl rfl (congrArg Value.bool g_177) ?_
            refine Wx.callF (run_callF Try.call15 rfl) (F15) rfl ?_
            rintro r_179 w_180 hx_181 rfl
            have hS := hS.ext hx_181
            refine Wx.rd (v := .bool true) (rd_pickT (congrArg Value.bool g_177) rfl) rfl ?_
            refine Wx.nil ⟨(), hS, ⟨?_, trivial⟩, Out.look rfl Out.refl⟩
            show Value.bool true = Value.bool ((((decide ((shownE (madeN 6 ly) (madeF 6 8 ly mn [z0, z1, z2, z3, z4, z5, z6, z7, z8, z9]) (firstL (madeN 6 ly) (madeF 6 8 ly mn [z0, z1, z2, z3, z4, z5, z6, z7, z8, z9]))) = 0) && decide ((shownE (madeN 6 ly) acc m) = 0)) && decide (shownE (madeN 6 ly) (madeF 6 8 ly mn [z0, z1, z2, z3, z4, z5, z6, z7, z8, z9]) (firstL (madeN 6 ly) (madeF 6 8 ly mn [z0, z1, z2, z3, z4, z5, z6, z7, z8, z9])) = 0) && decide (gapsE (madeN 6 ly) (madeF 6 8 ly mn [z0, z1, z2, z3, z4, z5, z6, z7, z8, z9]) (firstL (madeN 6 ly) (madeF 6 8 ly mn [z0, z1, z2, z3, z4, z5, z6, z7, z8, z9])) = 0)) && decide (shownE (madeN 6 ly) acc m = 0) && decide (gapsE (madeN 6 ly) acc m = 0)) && true)
            rw [g_177]; rfl
          · -- False
            have gp_182 := g_177
            try simp only [Bool.and_eq_true, Bool.or_eq_true, Bool.not_eq_true', Bool.and_eq_false_iff, Bool.or_eq_false_iff, Bool.not_eq_false', decide_eq_true_eq, decide_eq_false_iff_not, not_or, Bool.false_eq_true, Bool.true_eq_false, false_or, or_false, not_false_eq_true] at gp_182
            refine Wx.gnoB rfl rfl (congrArg Value.bool g_177) rfl rfl ?_
            refine Wx.rd (v := .bool false) (rd_pickF (congrArg Value.bool g_177) rfl) rfl ?_
            refine Wx.nil ⟨(), hS, ⟨?_, trivial⟩, Out.look rfl Out.refl⟩
            show Value.bool false = Value.bool ((((decide ((shownE (madeN 6 ly) (madeF 6 8 ly mn [z0, z1, z2, z3, z4, z5, z6, z7, z8, z9]) (firstL (madeN 6 ly) (madeF 6 8 ly mn [z0, z1, z2, z3, z4, z5, z6, z7, z8, z9]))) = 0) && decide ((shownE (madeN 6 ly) acc m) = 0)) && decide (shownE (madeN 6 ly) (madeF 6 8 ly mn [z0, z1, z2, z3, z4, z5, z6, z7, z8, z9]) (firstL (madeN 6 ly) (madeF 6 8 ly mn [z0, z1, z2, z3, z4, z5, z6, z7, z8, z9])) = 0) && decide (gapsE (madeN 6 ly) (madeF 6 8 ly mn [z0, z1, z2, z3, z4, z5, z6, z7, z8, z9]) (firstL (madeN 6 ly) (madeF 6 8 ly mn [z0, z1, z2, z3, z4, z5, z6, z7, z8, z9])) = 0)) && decide (shownE (madeN 6 ly) acc m = 0) && decide (gapsE (madeN 6 ly) acc m = 0)) && true)
            rw [g_177]; rfl
        rintro ⟨⟩ u_184 w_183 hS
        refine Wx.rd (v := .bool ((((decide ((shownE (madeN 6 ly) (madeF 6 8 ly mn [z0, z1, z2, z3, z4, z5, z6, z7, z8, z9]) (firstL (madeN 6 ly) (madeF 6 8 ly mn [z0, z1, z2, z3, z4, z5, z6, z7, z8, z9]))) = 0) && decide ((shownE (madeN 6 ly) acc m) = 0)) && decide (shownE (madeN 6 ly) (madeF 6 8 ly mn [z0, z1, z2, z3, z4, z5, z6, z7, z8, z9]) (firstL (madeN 6 ly) (madeF 6 8 ly mn [z0, z1, z2, z3, z4, z5, z6, z7, z8, z9])) = 0) && decide (gapsE (madeN 6 ly) (madeF 6 8 ly mn [z0, z1, z2, z3, z4, z5, z6, z7, z8, z9]) (firstL (madeN 6 ly) (madeF 6 8 ly mn [z0, z1, z2, z3, z4, z5, z6, z7, z8, z9])) = 0)) && decide (shownE (madeN 6 ly) acc m = 0) && decide (gapsE (madeN 6 ly) acc m = 0)) && true)) (rd_assign rfl) rfl ?_
        refine Wx.nil ?_
        have hm : m = (firstL (madeN 6 ly) (madeF 6 8 ly mn [z0, z1, z2, z3, z4, z5, z6, z7, z8, z9])).map (fun x => ix 0 (ordW (madeN 6 ly) [y0, y1, y2, y3, y4, y5, y6]) x) := by rw [m2, take_end (by omega)]
        have e1_0 : ((((decide ((shownE (madeN 6 ly) (madeF 6 8 ly mn [z0, z1, z2, z3, z4, z5, z6, z7, z8, z9]) (firstL (madeN 6 ly) (madeF 6 8 ly mn [z0, z1, z2, z3, z4, z5, z6, z7, z8, z9]))) = 0) && decide ((shownE (madeN 6 ly) acc m) = 0)) && decide (shownE (madeN 6 ly) (madeF 6 8 ly mn [z0, z1, z2, z3, z4, z5, z6, z7, z8, z9]) (firstL (madeN 6 ly) (madeF 6 8 ly mn [z0, z1, z2, z3, z4, z5, z6, z7, z8, z9])) = 0) && decide (gapsE (madeN 6 ly) (madeF 6 8 ly mn [z0, z1, z2, z3, z4, z5, z6, z7, z8, z9]) (firstL (madeN 6 ly) (madeF 6 8 ly mn [z0, z1, z2, z3, z4, z5, z6, z7, z8, z9])) = 0)) && decide (shownE (madeN 6 ly) acc m = 0) && decide (gapsE (madeN 6 ly) acc m = 0)) && true) = true := by rw [hm]; simp [hl3, hl4, hl5, hl6, hacc]
        exact W.ret ⟨.bool ((((decide ((shownE (madeN 6 ly) (madeF 6 8 ly mn [z0, z1, z2, z3, z4, z5, z6, z7, z8, z9]) (firstL (madeN 6 ly) (madeF 6 8 ly mn [z0, z1, z2, z3, z4, z5, z6, z7, z8, z9]))) = 0) && decide ((shownE (madeN 6 ly) acc m) = 0)) && decide (shownE (madeN 6 ly) (madeF 6 8 ly mn [z0, z1, z2, z3, z4, z5, z6, z7, z8, z9]) (firstL (madeN 6 ly) (madeF 6 8 ly mn [z0, z1, z2, z3, z4, z5, z6, z7, z8, z9])) = 0) && decide (gapsE (madeN 6 ly) (madeF 6 8 ly mn [z0, z1, z2, z3, z4, z5, z6, z7, z8, z9]) (firstL (madeN 6 ly) (madeF 6 8 ly mn [z0, z1, z2, z3, z4, z5, z6, z7, z8, z9])) = 0)) && decide (shownE (madeN 6 ly) acc m = 0) && decide (gapsE (madeN 6 ly) acc m = 0)) && true), ResIs.one, hS.bel, (by rw [e1_0])⟩
end Go.Proofs.Ytjmpojoimcljoaa
