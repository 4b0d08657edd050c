/-
  WHAT IS PROVED HERE, TEXT BY TEXT (several texts of one prover, joined to one file; the conditions stand in each statement):
  * WHAT IS PROVED HERE: what functions of layer 1 hand back, each out of its own code; the conditions stand in each statement.
-/
import Derived.Test.YtjhimoeodkaihaaProg
import Derived.Test.YtjhimoeodkaihaaU2
import Derived.Test.YtjhimoeodkaihaaU7
import Derived.Test.YtjhimoeodkaihaaU8

set_option linter.unusedVariables false
set_option linter.unusedSimpArgs false

namespace Go.Proofs.Ytjhimoeodkaihaa
open Go.Wk Go.RowKit Go.Lib
set_option linter.unusedVariables false
set_option linter.unusedSimpArgs false
theorem foMu_24_2 : fldOff Try.prog 24 2 = some 2 := by kernel_rfl
theorem elMu_37 : ElemI Try.prog 37 22 ((.slice none 0 0)) 1 24 := ElemI.of Try.underlying37 (by kernel_rfl) (by first | rfl | kernel_rfl) (by decide)
theorem elMu_22 : ElemI Try.prog 22 3 (.int .i64 0) 1 8 := ElemI.of Try.underlying22 (by kernel_rfl) (by first | rfl | kernel_rfl) (by decide)
theorem mixedMu_ : Try.prog.follows .mixedOrders = true := by kernel_rfl

set_option maxHeartbeats 8000000 in
set_option maxRecDepth 10000 in
attribute [local irreducible] sdR sdC sdH treeV teA teB hjV betwV highV sillV ix sillsE in
theorem F12 {zs : List Int} {O : List (Option Nat)} {w : World} (n_zs : zs.length = 38) (i_zs : ∀ z ∈ zs, InK .u8 z) (hO : ∀ b, some b ∈ O → b < w.heap.size) : Calls Try.prog 12 #[.agg (List.map (Value.int .u8) zs).toArray] w (Ret w (fun r _ => r = .bool true)) := by
  have p_ok := sd_ok (most := 5) (by decide) (by decide) n_zs
  obtain ⟨⟨r1, r2⟩, ⟨c1_, c2_⟩, hRC, ⟨n1, n36⟩, hCn, hok⟩ := id p_ok
  have hsl := sills_len p_ok
  have htc := tree_cnt p_ok
  have hhl : ((sdH 5 zs ++ [0]).length : Int) = (((sdH 5 zs).length : Int) + 1) := by simp
  have hS := St.start w O hO
  refine enterR Try.func12 rfl Try.ntmps12 Try.results12 rfl ?_
  refine W.seq ?_
  refine W.reg ?_
  refine Wx.box (cs := List.map (Value.int .u8) zs) hS rfl rfl rfl (fun g_1 w_2 hx_4 hb_3 hS => ?_)
  refine Wx.rd (v := .bool false) (rd_assign rfl) rfl ?_
  refine Wx.nil ?_
  refine W.seq ?_
  refine W.reg ?_
  refine Wx.rd (v := .agg (List.map (Value.int .u8) zs).toArray) (rd_loadXs (ds := List.map (Value.int .u8) zs) hS 0 rfl rfl (by rw [List.drop_zero, List.take_of_length_le (by simp; omega)]) (by simp; omega) Try.isAgg60 Try.sizeOf60) rfl ?_
  refine Wx.callF (run_callF Try.call42 rfl) (F42 n_zs i_zs (in_i64 (by omega) (by omega)) (by omega) (by omega) hS.fb_lt) rfl ?_
  rintro r_5 w_6 hx_7 ⟨v_8, rfl, hv_9⟩
  have hS := hS.pushFr hx_7 hv_9
  refine Wx.alloc (cs := [.int .i64 0, .int .i64 0, (.slice none 0 0)]) hS Try.zeroValue24 rfl rfl (fun g_11 w_12 hx_14 hb_13 hS => ?_)
  have hS := hS.freeze 1 rfl
  refine Wx.storeX (cs' := [.int .i64 (sdR 5 zs), .int .i64 (sdC 5 zs), v_8]) (ds := [.int .i64 (sdR 5 zs), .int .i64 (sdC 5 zs), v_8]) hS 1 rfl rfl rfl rfl Try.sizeOf24 (Nat.le_of_ble_eq_true rfl) (one_cons rfl (one_cons rfl (one_cons (V.oneC (hS.v 0 rfl)) one_nil))) rfl (fun w_16 hz_17 hS => ?_)
  refine Wx.nil ?_
  refine W.seq ?_
  refine W.reg ?_
  refine Wx.rd (v := .pointer (some ⟨g_11, 2, none⟩)) (rd_fieldAddr rfl foMu_24_2) rfl ?_
  refine Wx.rd (v := v_8) (rd_loadX hS 1 rfl rfl rfl Try.isAgg22) rfl ?_
  refine Wx.rd (v := .int .i64 ((sdH 5 zs).length : Int)) (rd_lenV rfl (hS.v 0 rfl) Try.underlying22) rfl ?_
  refine Wx.rd (v := .int .i64 ((sdH 5 zs).length : Int)) (rd_assign rfl) rfl ?_
  refine Wx.nil ?_
  refine W.seq ?_
  refine W.reg ?_
  refine Wx.rd (v := .agg #[.int .i64 (sdR 5 zs), .int .i64 (sdC 5 zs), v_8]) (rd_loadXs (ds := [.int .i64 (sdR 5 zs), .int .i64 (sdC 5 zs), v_8]) hS 1 rfl rfl rfl rfl Try.isAgg24 Try.sizeOf24) rfl ?_
  refine Wx.callF (run_callF Try.call50 rfl) (F50 (in_i64 (by omega) (by omega)) (in_i64 (by omega) (by omega)) (hS.v 0 rfl) (by omega) hS.fb_lt) rfl ?_
  rintro r_18 w_19 hx_20 ⟨_, rfl, hv_21⟩
  have ln_23 := hv_21.len63
  have hS := hS.ext hx_20
  have hS := hS.add hv_21
  refine Wx.rd (v := r_18) (rd_assign rfl) rfl ?_
  refine Wx.nil ?_
  refine W.seq ?_
  refine W.reg ?_
  refine Wx.rd (v := .agg #[.int .i64 (sdR 5 zs), .int .i64 (sdC 5 zs), v_8]) (rd_loadXs (ds := [.int .i64 (sdR 5 zs), .int .i64 (sdC 5 zs), v_8]) hS 2 rfl rfl rfl rfl Try.isAgg24 Try.sizeOf24) rfl ?_
  refine Wx.callF (run_callF Try.call39 rfl) (F39 (in_i64 (by omega) (by omega)) (in_i64 (by omega) (by omega)) (hS.v 1 rfl) hS.fb_lt) rfl ?_
  rintro r_24 w_25 hx_26 ⟨v_27, rfl, hv_28⟩
  have hS := hS.pushFr hx_26 hv_28
  refine Wx.rd (v := .tuple #[v_27, .int .i64 (checkS (sdR 5 zs) (sdC 5 zs) (sdH 5 zs))]) (rd_move rfl) rfl ?_
  refine Wx.rd (v := v_27) (rd_extract rfl rfl) rfl ?_
  refine Wx.rd (v := .int .i64 (checkS (sdR 5 zs) (sdC 5 zs) (sdH 5 zs))) (rd_extract rfl rfl) rfl ?_
  refine Wx.rd (v := v_27) (rd_assign rfl) rfl ?_
  refine Wx.rd (v := .int .i64 0) (Rd.to (v := .int .i64 (checkS (sdR 5 zs) (sdC 5 zs) (sdH 5 zs))) (rd_assign rfl) (congrArg (Value.int .i64) (show (0 : Int) = (checkS (sdR 5 zs) (sdC 5 zs) (sdH 5 zs) : Int) from p_ok.chk.symm).symm)) rfl ?_
  refine Wx.nil ?_
  refine W.seq ?_
  refine W.reg ?_
  refine Wx.rd (v := .agg #[.int .i64 (sdR 5 zs), .int .i64 (sdC 5 zs), v_8]) (rd_loadXs (ds := [.int .i64 (sdR 5 zs), .int .i64 (sdC 5 zs), v_8]) hS 3 rfl rfl rfl rfl Try.isAgg24 Try.sizeOf24) rfl ?_
  refine Wx.callF (run_callF Try.call17 rfl) (F17 (in_i64 (by omega) (by omega)) (in_i64 (by omega) (by omega)) (hS.v 2 rfl) hS.fb_lt) rfl ?_
  rintro r_30 w_31 hx_32 ⟨v_33, rfl, hv_34⟩
  have hS := hS.pushFr hx_32 hv_34
  refine Wx.rd (v := .tuple #[v_33, .int .i64 (checkS (sdR 5 zs) (sdC 5 zs) (sdH 5 zs))]) (rd_move rfl) rfl ?_
  refine Wx.rd (v := v_33) (rd_extract rfl rfl) rfl ?_
  refine Wx.rd (v := .int .i64 (checkS (sdR 5 zs) (sdC 5 zs) (sdH 5 zs))) (rd_extract rfl rfl) rfl ?_
  refine Wx.rd (v := v_33) (rd_assign rfl) rfl ?_
  refine Wx.rd (v := .int .i64 0) (Rd.to (v := .int .i64 (checkS (sdR 5 zs) (sdC 5 zs) (sdH 5 zs))) (rd_assign rfl) (congrArg (Value.int .i64) (show (0 : Int) = (checkS (sdR 5 zs) (sdC 5 zs) (sdH 5 zs) : Int) from p_ok.chk.symm).symm)) rfl ?_
  refine Wx.nil ?_
  refine W.seq ?_
  refine W.seq ?_
  refine W.reg ?_
  refine Wx.rd (v := .int .i64 0) (rd_move rfl) rfl ?_
  have hsay : treeE (sdR 5 zs) (sdC 5 zs) (sdH 5 zs) = (treeV (sdC 5 zs) (sdH 5 zs)) := tree_is p_ok
  rw [hsay] at hS
  refine Wx.rd (v := .bool false) (Rd.to (v := .bool (decide ((0 : Int) ≠ 0))) (rd_neq rfl rfl) rfl) rfl ?_
  refine Wx.rd (v := .bool false) (rd_move rfl) rfl ?_
  refine Wx.gyes rfl rfl rfl ?_
  refine Wx.rd (v := .int .i64 0) (rd_move rfl) rfl ?_
  refine Wx.gyes rfl rfl rfl ?_
  refine Wx.rd (v := .bool false) (Rd.to (v := .bool (decide ((0 : Int) ≠ 0))) (rd_neq rfl rfl) rfl) rfl ?_
  refine Wx.rd (v := .bool false) (rd_pickF rfl rfl) rfl ?_
  refine Wx.rd (v := .bool false) (rd_move rfl) rfl ?_
  refine Wx.gyes rfl rfl rfl ?_
  refine Wx.rd (v := v_27) (rd_move rfl) rfl ?_
  refine Wx.gyes rfl rfl rfl ?_
  refine Wx.rd (v := .int .i64 ((treeV (sdC 5 zs) (sdH 5 zs)).length : Int)) (rd_lenR hS 1 rfl rfl Try.underlying52) rfl ?_
  refine Wx.gyes rfl rfl rfl ?_
  refine Wx.rd (v := .int .i64 ((sdH 5 zs).length : Int)) (rd_move rfl) rfl ?_
  refine Wx.gyes rfl rfl rfl ?_
  refine Wx.rd (v := .bool false) (Rd.to (v := .bool (decide (((treeV (sdC 5 zs) (sdH 5 zs)).length : Int) ≠ ((sdH 5 zs).length : Int)))) (rd_neq rfl rfl) (congrArg (Value.bool) (show (false : Bool) = (decide (((treeV (sdC 5 zs) (sdH 5 zs)).length : Int) ≠ ((sdH 5 zs).length : Int)) : Bool) from (decide_eq_false (fun z => z htc)).symm).symm)) rfl ?_
  refine Wx.rd (v := .bool false) (rd_pickF rfl rfl) rfl ?_
  refine Wx.rd (v := .bool false) (rd_move rfl) rfl ?_
  refine Wx.gyes rfl rfl rfl ?_
  refine Wx.rd (v := v_33) (rd_move rfl) rfl ?_
  refine Wx.gyes rfl rfl rfl ?_
  refine Wx.rd (v := .int .i64 ((sillsE (sdR 5 zs) (sdC 5 zs) (sdH 5 zs)).length : Int)) (rd_lenR hS 0 rfl rfl Try.underlying22) rfl ?_
  refine Wx.gyes rfl rfl rfl ?_
  refine Wx.rd (v := .int .i64 ((sdH 5 zs).length : Int)) (rd_move rfl) rfl ?_
  refine Wx.gyes rfl rfl rfl ?_
  refine Wx.rd (v := .bool false) (Rd.to (v := .bool (decide (((sillsE (sdR 5 zs) (sdC 5 zs) (sdH 5 zs)).length : Int) ≠ ((sdH 5 zs).length : Int)))) (rd_neq rfl rfl) (congrArg (Value.bool) (show (false : Bool) = (decide (((sillsE (sdR 5 zs) (sdC 5 zs) (sdH 5 zs)).length : Int) ≠ ((sdH 5 zs).length : Int)) : Bool) from (decide_eq_false (fun z => z hsl)).symm).symm)) rfl ?_
  refine Wx.rd (v := .bool false) (rd_pickF rfl rfl) rfl ?_
  refine Wx.nil ?_
  refine W.condF rfl rfl ?_
  refine W.skip ?_
  refine W.seq ?_
  refine W.reg ?_
  refine Wx.rd (v := .int .i64 ((sdH 5 zs).length : Int)) (rd_move rfl) rfl ?_
  refine Wx.rd (v := .int .i64 (((sdH 5 zs).length : Int) + 1)) (rd_add rfl rfl (in_i64 (by omega) (by omega))) rfl ?_
  refine Wx.makeM (e1 := 3) (m := ((sdH 5 zs).length + 1)) elMu_37 hS (congrArg (Value.int .i64) (by omega)) (congrArg (Value.int .i64) (by omega)) (by omega) (by simp only [maxLen]; omega) rfl (fun g_41 w_37 hx_38 hS => ?_)
  have hS : St _ _ w_37 (.row (tI .i64) 3 v_33 (sillsE (sdR 5 zs) (sdC 5 zs) (sdH 5 zs)) :: .row (tP (tI .i64) (tI .i64)) 74 v_27 (treeV (sdC 5 zs) (sdH 5 zs)) :: Ob.v (tSl (tI .i64)) ((sdH 5 zs) ++ [0]) r_18 :: Ob.v (tSl (tI .i64)) (sdH 5 zs) v_8 :: .box g_11 24 [.int .i64 (sdR 5 zs), .int .i64 (sdC 5 zs), v_8] :: .box g_1 60 (List.map (Value.int .u8) zs) :: matO 22 3 g_41 (List.replicate ((sdH 5 zs).length + 1) (.slice none 0 0)) (List.replicate ((sdH 5 zs).length + 1) [])) := hS
  refine Wx.rd (v := .slice (some ⟨g_41, 0, none⟩) ((sdH 5 zs).length + 1) ((sdH 5 zs).length + 1)) (rd_assign rfl) rfl ?_
  refine Wx.nil ?_
  refine W.seq ?_
  refine W.seq ?_
  refine W.reg ?_
  refine Wx.rd (v := .slice (some ⟨g_41, 0, none⟩) ((sdH 5 zs).length + 1) ((sdH 5 zs).length + 1)) (rd_move rfl) rfl ?_
  refine Wx.rd (v := .int .i64 ((((sdH 5 zs).length + 1) : Nat) : Int)) (rd_len rfl Try.underlying37) rfl ?_
  refine Wx.rd (v := .int .i64 0) (rd_move rfl) rfl ?_
  refine Wx.nil ?_
  refine W.block ?_
  refine W.loop [11, 65, 66, 67, 68, 69, 70, 71, 72, 73, 74, 75, 76, 77, 78, 79, 80, 81] (fun x : Int × (List Value) × (List (List Int)) => match x with | (i, vs, yss) => [(65, .int .i64 i)]) (fun (x : Int × (List Value) × (List (List Int))) w' => match x with | (i, vs, yss) => St w O w' (.row (tI .i64) 3 v_33 (sillsE (sdR 5 zs) (sdC 5 zs) (sdH 5 zs)) :: .row (tP (tI .i64) (tI .i64)) 74 v_27 (treeV (sdC 5 zs) (sdH 5 zs)) :: Ob.v (tSl (tI .i64)) ((sdH 5 zs) ++ [0]) r_18 :: Ob.v (tSl (tI .i64)) (sdH 5 zs) v_8 :: .box g_11 24 [.int .i64 (sdR 5 zs), .int .i64 (sdC 5 zs), v_8] :: .box g_1 60 (List.map (Value.int .u8) zs) :: matO 22 3 g_41 vs yss) ∧ 0 ≤ i ∧ i ≤ (((sdH 5 zs).length : Int) + 1) ∧ FiI (((sdH 5 zs).length : Int) + 1) i yss ∧ vs.length = ((sdH 5 zs).length + 1)) (fun x : Int × (List Value) × (List (List Int)) => match x with | (i, vs, yss) => ((((sdH 5 zs).length : Int) + 1) - i).toNat) (0, List.replicate ((sdH 5 zs).length + 1) (.slice none 0 0), List.replicate ((sdH 5 zs).length + 1) []) ⟨rfl, trivial⟩ ⟨hS, (by first | omega | simp), (by first | omega | simp), (fi_start), (by simp)⟩ ?_
  rintro ⟨i, vs, yss⟩ u_43 w_42 ⟨hS, i0, i1, i2, i3⟩
  refine W.seq ?_
  refine W.reg ?_
  refine Wx.rd (v := .bool (decide (i < ((((sdH 5 zs).length + 1) : Nat) : Int)))) (rd_lss rfl rfl) rfl ?_
  refine Wx.nil ?_
  refine W.seq ?_
  refine W.condD rfl (fun c1 => ?_) (fun c1 => ?_)
  · -- yes
    have hyl := i2.1
    refine W.skip ?_
    refine W.seq ?_
    refine W.block ?_
    refine W.seq ?_
    refine W.reg ?_
    refine Wx.rd (v := .int .i64 i) (rd_move rfl) rfl ?_
    refine Wx.rd (v := .int .i64 i) (rd_assign rfl) rfl ?_
    refine Wx.nil ?_
    refine W.seq ?_
    refine W.reg ?_
    refine Wx.rd (v := .slice (some ⟨g_41, 0, none⟩) ((sdH 5 zs).length + 1) ((sdH 5 zs).length + 1)) (rd_move rfl) rfl ?_
    refine Wx.rd (v := .int .i64 i) (rd_move rfl) rfl ?_
    refine Wx.lit (t := (tI .i64)) (ys := [-1]) (vs := [.int .i64 (-1)]) elMu_22 hS rfl rfl ⟨(V.mkInt (in_i64 (by omega) (by omega))), trivial⟩ (by decide) rfl (fun v_44 w_45 hx_46 hS => ?_)
    refine Wx.rd (v := .int .i64 ((sdH 5 zs).length : Int)) (rd_move rfl) rfl ?_
    refine Wx.rd (v := .int .i64 (((sdH 5 zs).length : Int) + 1)) (rd_add rfl rfl (in_i64 (by omega) (by omega))) rfl ?_
    refine Wx.callF (run_callF Try.call51 rfl) (F51 (a := -1) (hS.lend 0 rfl) (in_i64 (by omega) (by omega)) (by omega) (by omega)) rfl ?_
    rintro r_47 w_48 hx_49 ⟨_, rfl, hv_50⟩
    have hS := hS.pushFr hx_49 hv_50
    refine Wx.rd (v := .pointer (some ⟨g_41, i.toNat, none⟩)) (rd_indexM rfl rfl Try.underlying37 Try.sizeOf22 (by first | assumption | omega | (simp only [List.length_set, List.length_append, List.length_cons, List.length_nil, List.length_replicate]; omega)) (by first | assumption | omega | (simp only [List.length_set, List.length_append, List.length_cons, List.length_nil, List.length_replicate]; omega))) rfl ?_
    have hS : St _ _ w_48 (.row (tI .i64) 3 r_47 (List.replicate (((sdH 5 zs).length : Int) + 1).toNat (-1)) :: (.row (tI .i64) 3 v_44 [-1] :: .row (tI .i64) 3 v_33 (sillsE (sdR 5 zs) (sdC 5 zs) (sdH 5 zs)) :: .row (tP (tI .i64) (tI .i64)) 74 v_27 (treeV (sdC 5 zs) (sdH 5 zs)) :: Ob.v (tSl (tI .i64)) ((sdH 5 zs) ++ [0]) r_18 :: Ob.v (tSl (tI .i64)) (sdH 5 zs) v_8 :: .box g_11 24 [.int .i64 (sdR 5 zs), .int .i64 (sdC 5 zs), v_8] :: .box g_1 60 (List.map (Value.int .u8) zs) :: matO 22 3 g_41 vs yss)) := hS
    have hS := hS.instead (7 + 1 + i.toNat) (by simp [matO, rowsO]; omega)
    refine Wx.storeMV (e2 := 22) (e1 := 3) (g := g_41) (vs := vs) (yss := yss) (v := r_47) (y := List.replicate (((sdH 5 zs).length : Int) + 1).toNat (-1)) (obs := (.row (tI .i64) 3 v_44 [-1] :: .row (tI .i64) 3 v_33 (sillsE (sdR 5 zs) (sdC 5 zs) (sdH 5 zs)) :: .row (tP (tI .i64) (tI .i64)) 74 v_27 (treeV (sdC 5 zs) (sdH 5 zs)) :: Ob.v (tSl (tI .i64)) ((sdH 5 zs) ++ [0]) r_18 :: Ob.v (tSl (tI .i64)) (sdH 5 zs) v_8 :: .box g_11 24 [.int .i64 (sdR 5 zs), .int .i64 (sdC 5 zs), v_8] :: .box g_1 60 (List.map (Value.int .u8) zs) :: matO 22 3 g_41 vs yss)) (i := i.toNat) 7 rfl (by first | assumption | omega | (simp only [List.length_set, List.length_append, List.length_cons, List.length_nil, List.length_replicate]; omega)) (by first | assumption | omega | (simp only [List.length_set, List.length_append, List.length_cons, List.length_nil, List.length_replicate]; omega)) hS rfl rfl Try.sizeOf22 (fun w_52 hz_53 hS => ?_)
    have hS : St _ _ w_52 (.row (tI .i64) 3 v_44 [-1] :: .row (tI .i64) 3 v_33 (sillsE (sdR 5 zs) (sdC 5 zs) (sdH 5 zs)) :: .row (tP (tI .i64) (tI .i64)) 74 v_27 (treeV (sdC 5 zs) (sdH 5 zs)) :: Ob.v (tSl (tI .i64)) ((sdH 5 zs) ++ [0]) r_18 :: Ob.v (tSl (tI .i64)) (sdH 5 zs) v_8 :: .box g_11 24 [.int .i64 (sdR 5 zs), .int .i64 (sdC 5 zs), v_8] :: .box g_1 60 (List.map (Value.int .u8) zs) :: matO 22 3 g_41 (List.set vs i.toNat r_47) (List.set yss i.toNat (List.replicate (((sdH 5 zs).length : Int) + 1).toNat (-1)))) := hS
    refine Wx.nil ?_
    refine W.reg ?_
    refine Wx.rd (v := .slice (some ⟨g_41, 0, none⟩) ((sdH 5 zs).length + 1) ((sdH 5 zs).length + 1)) (rd_move rfl) rfl ?_
    refine Wx.rd (v := .int .i64 i) (rd_move rfl) rfl ?_
    refine Wx.rd (v := .pointer (some ⟨g_41, i.toNat, none⟩)) (rd_indexM rfl rfl Try.underlying37 Try.sizeOf22 (by first | assumption | omega | (simp only [List.length_set, List.length_append, List.length_cons, List.length_nil, List.length_replicate]; omega)) (by first | assumption | omega | (simp only [List.length_set, List.length_append, List.length_cons, List.length_nil, List.length_replicate]; omega))) rfl ?_
    obtain ⟨v_54, hv_55⟩ := mat_v (vs := List.set vs i.toNat r_47) (i := i.toNat) (by first | assumption | omega | (simp only [List.length_set, List.length_append, List.length_cons, List.length_nil, List.length_replicate]; omega))
    refine Wx.rd (v := v_54) (rd_loadM hS 7 (e2 := 22) (e1 := 3) (g := g_41) (vs := List.set vs i.toNat r_47) (yss := List.set yss i.toNat (List.replicate (((sdH 5 zs).length : Int) + 1).toNat (-1))) rfl hv_55 rfl Try.isAgg22) rfl ?_
    have hrr : ((ix [] (List.set yss i.toNat (List.replicate ((((sdH 5 zs).length : Int) + 1)).toNat (-1))) i).length : Int) = (((sdH 5 zs).length : Int) + 1) := by rw [ixs_set i0 (by omega) i0, if_pos rfl, List.length_replicate]; omega
    refine Wx.rd (v := .int .i64 i) (rd_move rfl) rfl ?_
    refine Wx.indexR hS (7 + 1 + i.toNat) (mat_row (e2 := 22) (g := g_41) (vs := List.set vs i.toNat r_47) (yss := List.set yss i.toNat (List.replicate (((sdH 5 zs).length : Int) + 1).toNat (-1))) (i := i.toNat) rfl hv_55 (ix_get (d := []) (by first | assumption | omega | (simp only [List.length_set, List.length_append, List.length_cons, List.length_nil, List.length_replicate]; omega)) (by first | assumption | omega | (simp only [List.length_set, List.length_append, List.length_cons, List.length_nil, List.length_replicate]; omega)))) rfl rfl Try.underlying22 Try.sizeOf3 (by first | assumption | omega | (simp only [List.length_set, List.length_append, List.length_cons, List.length_nil, List.length_replicate]; omega)) (by first | assumption | omega | (simp only [List.length_set, List.length_append, List.length_cons, List.length_nil, List.length_replicate]; omega)) rfl (fun g_56 hg_57 => ?_)
    refine Wx.storeM (e2 := 22) (e1 := 3) (g := g_41) (vs := List.set vs i.toNat r_47) (yss := List.set yss i.toNat (List.replicate (((sdH 5 zs).length : Int) + 1).toNat (-1))) (i := i.toNat) (j := i.toNat) hS 7 rfl hv_55 (ix_get (d := []) (by first | assumption | omega | (simp only [List.length_set, List.length_append, List.length_cons, List.length_nil, List.length_replicate]; omega)) (by first | assumption | omega | (simp only [List.length_set, List.length_append, List.length_cons, List.length_nil, List.length_replicate]; omega))) hg_57 rfl (by first | assumption | omega | (simp only [List.length_set, List.length_append, List.length_cons, List.length_nil, List.length_replicate]; omega)) rfl (in_i64 (by omega) (by omega)) Try.sizeOf3 (fun w_58 hz_59 hS => ?_)
    have hS : St _ _ w_58 (.row (tI .i64) 3 v_44 [-1] :: .row (tI .i64) 3 v_33 (sillsE (sdR 5 zs) (sdC 5 zs) (sdH 5 zs)) :: .row (tP (tI .i64) (tI .i64)) 74 v_27 (treeV (sdC 5 zs) (sdH 5 zs)) :: Ob.v (tSl (tI .i64)) ((sdH 5 zs) ++ [0]) r_18 :: Ob.v (tSl (tI .i64)) (sdH 5 zs) v_8 :: .box g_11 24 [.int .i64 (sdR 5 zs), .int .i64 (sdC 5 zs), v_8] :: .box g_1 60 (List.map (Value.int .u8) zs) :: matO 22 3 g_41 (List.set vs i.toNat r_47) (List.set (List.set yss i.toNat (List.replicate (((sdH 5 zs).length : Int) + 1).toNat (-1))) i.toNat (List.set (ix [] (List.set yss i.toNat (List.replicate (((sdH 5 zs).length : Int) + 1).toNat (-1))) i) i.toNat 0))) := hS
    refine Wx.nil ?_
    refine W.reg ?_
    refine Wx.rd (v := .int .i64 (i + 1)) (rd_add rfl rfl (in_i64 (by omega) (by omega))) rfl ?_
    refine Wx.rd (v := .int .i64 (i + 1)) (rd_move rfl) rfl ?_
    refine Wx.nil ?_
    refine ⟨(i + 1, List.set vs i.toNat r_47, List.set (List.set yss i.toNat (List.replicate (((sdH 5 zs).length : Int) + 1).toNat (-1))) i.toNat (List.set (ix [] (List.set yss i.toNat (List.replicate (((sdH 5 zs).length : Int) + 1).toNat (-1))) i) i.toNat 0)), (by show ((((sdH 5 zs).length : Int) + 1) - (i + 1)).toNat < ((((sdH 5 zs).length : Int) + 1) - i).toNat; omega), ?_, ?_, Out.look rfl Out.self⟩
    · exact ⟨hS.tl, (by first | omega | assumption), (by first | omega | assumption), (fi_next i2 i0 (by omega)), (by simp only [List.length_set]; exact i3)⟩
    · exact ⟨rfl, trivial⟩
  · -- no
    have hf0 : FarT (sdC 5 zs) (sdH 5 zs) 0 yss := fi_end i2 (by omega)
    refine W.exit rfl ?_
    refine W.seq ?_
    refine W.seq ?_
    refine W.reg ?_
    refine Wx.rd (v := v_27) (rd_move rfl) rfl ?_
    refine Wx.rd (v := .int .i64 ((treeV (sdC 5 zs) (sdH 5 zs)).length : Int)) (rd_lenR hS 1 rfl rfl Try.underlying52) rfl ?_
    refine Wx.rd (v := .int .i64 0) (rd_move rfl) rfl ?_
    refine Wx.nil ?_
    refine W.block ?_
    refine W.loop [2, 13, 14, 15, 16, 17, 18, 19, 84, 85, 86, 87, 88, 89, 90, 91, 92, 93, 94, 95, 96, 97, 98, 99, 100, 101, 102, 103, 104, 105, 106, 107, 108, 109, 110, 111, 112, 113, 114, 115, 116, 117, 118, 119, 120, 121, 122, 123, 124, 125, 126, 127, 128, 129, 130, 131, 132, 133, 134, 135, 136, 137, 138, 139, 140, 141, 142, 143, 144, 145, 146, 147, 148, 149, 150, 151, 152, 153, 154, 155, 156, 157, 158, 159, 160, 161, 162, 163, 164, 165, 166, 167, 168, 169, 170, 171, 172, 173, 174, 175, 176, 177, 178, 179, 180, 181, 182, 183, 184, 185, 186, 187, 188, 189, 190, 191, 192, 193, 194, 195, 196, 197, 198] (fun x : Int × (List Value) × (List (List Int)) => match x with | (k, vs2, ys2) => [(84, .int .i64 k)]) (fun (x : Int × (List Value) × (List (List Int))) w' => match x with | (k, vs2, ys2) => St w O w' (.row (tI .i64) 3 v_33 (sillsE (sdR 5 zs) (sdC 5 zs) (sdH 5 zs)) :: .row (tP (tI .i64) (tI .i64)) 74 v_27 (treeV (sdC 5 zs) (sdH 5 zs)) :: Ob.v (tSl (tI .i64)) ((sdH 5 zs) ++ [0]) r_18 :: Ob.v (tSl (tI .i64)) (sdH 5 zs) v_8 :: .box g_11 24 [.int .i64 (sdR 5 zs), .int .i64 (sdC 5 zs), v_8] :: .box g_1 60 (List.map (Value.int .u8) zs) :: matO 22 3 g_41 vs2 ys2) ∧ 0 ≤ k ∧ k ≤ (treeV (sdC 5 zs) (sdH 5 zs)).length ∧ FarT (sdC 5 zs) (sdH 5 zs) k ys2 ∧ vs2.length = ((sdH 5 zs).length + 1)) (fun x : Int × (List Value) × (List (List Int)) => match x with | (k, vs2, ys2) => ((treeV (sdC 5 zs) (sdH 5 zs)).length - k).toNat) (0, vs, yss) ⟨rfl, trivial⟩ ⟨hS, (by first | omega | simp), (by first | omega | simp), (hf0), (i3)⟩ ?_
    rintro ⟨k, vs2, ys2⟩ u_61 w_60 ⟨hS, k0, k1, k2, k3⟩
    refine W.seq ?_
    refine W.reg ?_
    refine Wx.rd (v := .bool (decide (k < ((treeV (sdC 5 zs) (sdH 5 zs)).length : Int)))) (rd_lss rfl rfl) rfl ?_
    refine Wx.nil ?_
    refine W.seq ?_
    refine W.condD rfl (fun c2 => ?_) (fun c2 => ?_)
    · -- yes
      obtain ⟨⟨⟨tA0, tA1⟩, tAB, tB1⟩, tnr, tno, tsn, ⟨thj0, thj1⟩, _, _⟩ := te_facts p_ok k0 c2
      have hml := k2.1.1
      have hra := k2.1.2 (teA (sdC 5 zs) (sdH 5 zs) k) tA0 (by omega)
      have hrb := k2.1.2 (teB (sdC 5 zs) (sdH 5 zs) k) (by omega) (by omega)
      have hxa := high_bd p_ok (x := (teA (sdC 5 zs) (sdH 5 zs) k)) ⟨by omega, by omega⟩
      have hxb := high_bd p_ok (x := (teB (sdC 5 zs) (sdH 5 zs) k)) ⟨by omega, by omega⟩
      refine W.skip ?_
      refine W.seq ?_
      refine W.block ?_
      refine W.seq ?_
      refine W.reg ?_
      refine Wx.indexR hS 1 rfl rfl rfl Try.underlying52 Try.sizeOf74 (by first | omega | (simp only [List.length_set, List.length_append, List.length_cons, List.length_nil, List.length_replicate]; omega)) (by first | omega | (simp only [List.length_set, List.length_append, List.length_cons, List.length_nil, List.length_replicate]; omega)) rfl (fun g_62 hg_63 => ?_)
      refine Wx.ex (rd_loadR' (0, 0) hS 1 rfl hg_63 rfl (by first | omega | (simp only [List.length_set, List.length_append, List.length_cons, List.length_nil, List.length_replicate]; omega)) (by first | omega | (simp only [List.length_set, List.length_append, List.length_cons, List.length_nil, List.length_replicate]; omega)) Try.isAgg74 Try.sizeOf74) rfl (fun v_64 hv_65 => ?_)
      obtain ⟨rfl, bd_66, bd_67⟩ := hv_65.i2
      have bd_66 := bd_i64 bd_66
      have bd_67 := bd_i64 bd_67
      refine Wx.alloc (cs := [.int .i64 0, .int .i64 0]) hS Try.zeroValue74 rfl rfl (fun g_68 w_69 hx_71 hb_70 hS => ?_)
      refine Wx.storeX (cs' := [.int .i64 ((ix (0, 0) (treeV (sdC 5 zs) (sdH 5 zs)) k).1), .int .i64 ((ix (0, 0) (treeV (sdC 5 zs) (sdH 5 zs)) k).2)]) (ds := [.int .i64 ((ix (0, 0) (treeV (sdC 5 zs) (sdH 5 zs)) k).1), .int .i64 ((ix (0, 0) (treeV (sdC 5 zs) (sdH 5 zs)) k).2)]) hS 0 rfl rfl rfl rfl Try.sizeOf74 (Nat.le_of_ble_eq_true rfl) (one_cons rfl (one_cons rfl one_nil)) rfl (fun w_72 hz_73 hS => ?_)
      refine Wx.nil ?_
      refine W.seq ?_
      refine W.regQ mixedMu_ (by kernel_rfl) ?_
      refine Wx.rd (v := .pointer (some ⟨g_68, 0, none⟩)) (rd_indexArr (n := 0) rfl rfl Try.underlying74 Try.sizeOf3 (by decide) (by decide)) rfl ?_
      refine Wx.rd (v := .int .i64 (teA (sdC 5 zs) (sdH 5 zs) k)) (Rd.to (v := .int .i64 ((ix (0, 0) (treeV (sdC 5 zs) (sdH 5 zs)) k).1)) (rd_loadX hS 0 rfl rfl rfl Try.isAgg3) (congrArg (Value.int .i64) (show ((teA (sdC 5 zs) (sdH 5 zs) k) : Int) = ((ix (0, 0) (treeV (sdC 5 zs) (sdH 5 zs)) k).1 : Int) from teA_eq).symm)) rfl ?_
      refine Wx.rd (v := .pointer (some ⟨g_68, 1, none⟩)) (rd_indexArr (n := 1) rfl rfl Try.underlying74 Try.sizeOf3 (by decide) (by decide)) rfl ?_
      refine Wx.rd (v := .int .i64 (teB (sdC 5 zs) (sdH 5 zs) k)) (Rd.to (v := .int .i64 ((ix (0, 0) (treeV (sdC 5 zs) (sdH 5 zs)) k).2)) (rd_loadX hS 0 rfl rfl rfl Try.isAgg3) (congrArg (Value.int .i64) (show ((teB (sdC 5 zs) (sdH 5 zs) k) : Int) = ((ix (0, 0) (treeV (sdC 5 zs) (sdH 5 zs)) k).2 : Int) from teB_eq).symm)) rfl ?_
      refine Wx.rd (v := .int .i64 (teA (sdC 5 zs) (sdH 5 zs) k)) (rd_assign rfl) rfl ?_
      refine Wx.rd (v := .int .i64 (teB (sdC 5 zs) (sdH 5 zs) k)) (rd_assign rfl) rfl ?_
      refine Wx.nilQ (fun w_74 hx_75 => ?_)
      have hS := hS.ext hx_75
      refine W.seq ?_
      refine W.seq ?_
      refine W.reg ?_
      refine Wx.rd (v := .int .i64 (teA (sdC 5 zs) (sdH 5 zs) k)) (rd_move rfl) rfl ?_
      refine Wx.rd (v := .bool false) (Rd.to (v := .bool (decide ((teA (sdC 5 zs) (sdH 5 zs) k) < 0))) (rd_lss rfl rfl) (congrArg (Value.bool) (show (false : Bool) = (decide ((teA (sdC 5 zs) (sdH 5 zs) k) < 0) : Bool) from (decide_eq_false (by omega)).symm).symm)) rfl ?_
      refine Wx.rd (v := .bool false) (rd_move rfl) rfl ?_
      refine Wx.gyes rfl rfl rfl ?_
      refine Wx.rd (v := .int .i64 (teB (sdC 5 zs) (sdH 5 zs) k)) (rd_move rfl) rfl ?_
      refine Wx.gyes rfl rfl rfl ?_
      refine Wx.rd (v := .int .i64 (teA (sdC 5 zs) (sdH 5 zs) k)) (rd_move rfl) rfl ?_
      refine Wx.gyes rfl rfl rfl ?_
      refine Wx.rd (v := .bool false) (Rd.to (v := .bool (decide ((teB (sdC 5 zs) (sdH 5 zs) k) ≤ (teA (sdC 5 zs) (sdH 5 zs) k)))) (rd_leq rfl rfl) (congrArg (Value.bool) (show (false : Bool) = (decide ((teB (sdC 5 zs) (sdH 5 zs) k) ≤ (teA (sdC 5 zs) (sdH 5 zs) k)) : Bool) from (decide_eq_false (by omega)).symm).symm)) rfl ?_
      refine Wx.rd (v := .bool false) (rd_pickF rfl rfl) rfl ?_
      refine Wx.rd (v := .bool false) (rd_move rfl) rfl ?_
      refine Wx.gyes rfl rfl rfl ?_
      refine Wx.rd (v := .int .i64 (teB (sdC 5 zs) (sdH 5 zs) k)) (rd_move rfl) rfl ?_
      refine Wx.gyes rfl rfl rfl ?_
      refine Wx.rd (v := .int .i64 ((sdH 5 zs).length : Int)) (rd_move rfl) rfl ?_
      refine Wx.gyes rfl rfl rfl ?_
      refine Wx.rd (v := .bool false) (Rd.to (v := .bool (decide (((sdH 5 zs).length : Int) < (teB (sdC 5 zs) (sdH 5 zs) k)))) (rd_gtr rfl rfl) (congrArg (Value.bool) (show (false : Bool) = (decide (((sdH 5 zs).length : Int) < (teB (sdC 5 zs) (sdH 5 zs) k)) : Bool) from (decide_eq_false (by omega)).symm).symm)) rfl ?_
      refine Wx.rd (v := .bool false) (rd_pickF rfl rfl) rfl ?_
      refine Wx.rd (v := .bool false) (rd_move rfl) rfl ?_
      refine Wx.gyes rfl rfl rfl ?_
      refine Wx.rd (v := .agg #[.int .i64 (sdR 5 zs), .int .i64 (sdC 5 zs), v_8]) (rd_loadXs (ds := [.int .i64 (sdR 5 zs), .int .i64 (sdC 5 zs), v_8]) hS 5 rfl rfl rfl rfl Try.isAgg24 Try.sizeOf24) rfl ?_
      refine Wx.gyes rfl rfl rfl ?_
      refine Wx.rd (v := .int .i64 (teA (sdC 5 zs) (sdH 5 zs) k)) (rd_move rfl) rfl ?_
      refine Wx.gyes rfl rfl rfl ?_
      refine Wx.rd (v := .int .i64 (teB (sdC 5 zs) (sdH 5 zs) k)) (rd_move rfl) rfl ?_
      refine Wx.gyes rfl rfl rfl ?_
      refine Wx.callF (run_callF Try.call43 rfl) (F43 (in_i64 (by omega) (by omega)) (in_i64 (by omega) (by omega)) (hS.v 4 rfl) (in_i64 (by omega) (by omega)) (in_i64 (by omega) (by omega)) ⟨by omega, by omega⟩ ⟨by omega, by omega⟩ ⟨c1_, c2_⟩ n36) rfl ?_
      rintro r_76 w_77 hx_78 rfl
      have hS := hS.ext hx_78
      rw [show (nearB (sdC 5 zs) (sdH 5 zs).length (teA (sdC 5 zs) (sdH 5 zs) k) (teB (sdC 5 zs) (sdH 5 zs) k) : Bool) = true from tnr]
      refine Wx.gyes rfl rfl rfl ?_
      refine Wx.rd (v := .bool false) (rd_not (c := true) rfl) rfl ?_
      refine Wx.rd (v := .bool false) (rd_pickF rfl rfl) rfl ?_
      refine Wx.rd (v := .bool false) (rd_move rfl) rfl ?_
      refine Wx.gyes rfl rfl rfl ?_
      refine Wx.rd (v := .slice (some ⟨g_41, 0, none⟩) ((sdH 5 zs).length + 1) ((sdH 5 zs).length + 1)) (rd_move rfl) rfl ?_
      refine Wx.gyes rfl rfl rfl ?_
      refine Wx.rd (v := .int .i64 (teA (sdC 5 zs) (sdH 5 zs) k)) (rd_move rfl) rfl ?_
      refine Wx.gyes rfl rfl rfl ?_
      refine Wx.rd (v := .pointer (some ⟨g_41, (teA (sdC 5 zs) (sdH 5 zs) k).toNat, none⟩)) (rd_indexM rfl rfl Try.underlying37 Try.sizeOf22 (by first | assumption | omega | (simp only [List.length_set, List.length_append, List.length_cons, List.length_nil, List.length_replicate]; omega)) (by first | assumption | omega | (simp only [List.length_set, List.length_append, List.length_cons, List.length_nil, List.length_replicate]; omega))) rfl ?_
      refine Wx.gyes rfl rfl rfl ?_
      obtain ⟨v_79, hv_80⟩ := mat_v (vs := vs2) (i := (teA (sdC 5 zs) (sdH 5 zs) k).toNat) (by first | assumption | omega | (simp only [List.length_set, List.length_append, List.length_cons, List.length_nil, List.length_replicate]; omega))
      refine Wx.rd (v := v_79) (rd_loadM hS 7 (e2 := 22) (e1 := 3) (g := g_41) (vs := vs2) (yss := ys2) rfl hv_80 rfl Try.isAgg22) rfl ?_
      refine Wx.gyes rfl rfl rfl ?_
      refine Wx.rd (v := .int .i64 (teB (sdC 5 zs) (sdH 5 zs) k)) (rd_move rfl) rfl ?_
      refine Wx.gyes rfl rfl rfl ?_
      refine Wx.indexR hS (7 + 1 + (teA (sdC 5 zs) (sdH 5 zs) k).toNat) (mat_row (e2 := 22) (g := g_41) (vs := vs2) (yss := ys2) (i := (teA (sdC 5 zs) (sdH 5 zs) k).toNat) rfl hv_80 (ix_get (d := []) (by first | assumption | omega | (simp only [List.length_set, List.length_append, List.length_cons, List.length_nil, List.length_replicate]; omega)) (by first | assumption | omega | (simp only [List.length_set, List.length_append, List.length_cons, List.length_nil, List.length_replicate]; omega)))) rfl rfl Try.underlying22 Try.sizeOf3 (by first | assumption | omega | (simp only [List.length_set, List.length_append, List.length_cons, List.length_nil, List.length_replicate]; omega)) (by first | assumption | omega | (simp only [List.length_set, List.length_append, List.length_cons, List.length_nil, List.length_replicate]; omega)) rfl (fun g_81 hg_82 => ?_)
      refine Wx.gyes rfl rfl rfl ?_
      refine Wx.rd (v := .int .i64 (ix 0 (ix [] ys2 (teA (sdC 5 zs) (sdH 5 zs) k)) (teB (sdC 5 zs) (sdH 5 zs) k))) (rd_loadRI' hS (7 + 1 + (teA (sdC 5 zs) (sdH 5 zs) k).toNat) (mat_row (e2 := 22) (g := g_41) (vs := vs2) (yss := ys2) (i := (teA (sdC 5 zs) (sdH 5 zs) k).toNat) rfl hv_80 (ix_get (d := []) (by first | assumption | omega | (simp only [List.length_set, List.length_append, List.length_cons, List.length_nil, List.length_replicate]; omega)) (by first | assumption | omega | (simp only [List.length_set, List.length_append, List.length_cons, List.length_nil, List.length_replicate]; omega)))) hg_82 rfl (by first | assumption | omega | (simp only [List.length_set, List.length_append, List.length_cons, List.length_nil, List.length_replicate]; omega)) (by first | assumption | omega | (simp only [List.length_set, List.length_append, List.length_cons, List.length_nil, List.length_replicate]; omega)) Try.isAgg3 Try.sizeOf3) rfl ?_
      have bd_83 := bd_i64 (hS.rowInK' (7 + 1 + (teA (sdC 5 zs) (sdH 5 zs) k).toNat) (mat_row (e2 := 22) (g := g_41) (vs := vs2) (yss := ys2) (i := (teA (sdC 5 zs) (sdH 5 zs) k).toNat) rfl hv_80 (ix_get (d := []) (by first | assumption | omega | (simp only [List.length_set, List.length_append, List.length_cons, List.length_nil, List.length_replicate]; omega)) (by first | assumption | omega | (simp only [List.length_set, List.length_append, List.length_cons, List.length_nil, List.length_replicate]; omega)))) (by first | assumption | omega | (simp only [List.length_set, List.length_append, List.length_cons, List.length_nil, List.length_replicate]; omega)) (by first | assumption | omega | (simp only [List.length_set, List.length_append, List.length_cons, List.length_nil, List.length_replicate]; omega)) : InK .i64 (ix 0 (ix [] ys2 (teA (sdC 5 zs) (sdH 5 zs) k)) (teB (sdC 5 zs) (sdH 5 zs) k)))
      refine Wx.gyes rfl rfl rfl ?_
      refine Wx.rd (v := .bool false) (Rd.to (v := .bool (decide (0 ≤ (ix 0 (ix [] ys2 (teA (sdC 5 zs) (sdH 5 zs) k)) (teB (sdC 5 zs) (sdH 5 zs) k))))) (rd_geq rfl rfl) (congrArg (Value.bool) (show (false : Bool) = (decide (0 ≤ (ix 0 (ix [] ys2 (teA (sdC 5 zs) (sdH 5 zs) k)) (teB (sdC 5 zs) (sdH 5 zs) k))) : Bool) from (decide_eq_false (by have hq := far_pos p_ok k2 tA0 (by omega) (by omega) tB1; rw [tno] at hq; exact of_decide_eq_false hq)).symm).symm)) rfl ?_
      refine Wx.rd (v := .bool false) (rd_pickF rfl rfl) rfl ?_
      refine Wx.nil ?_
      refine W.condF rfl rfl ?_
      refine W.skip ?_
      refine W.seq ?_
      refine W.regQ mixedMu_ (by kernel_rfl) ?_
      refine Wx.rd (v := r_18) (rd_move rfl) rfl ?_
      refine Wx.rd (v := .int .i64 (teA (sdC 5 zs) (sdH 5 zs) k)) (rd_move rfl) rfl ?_
      refine Wx.ex (rd_index 0 (hS.v 3 rfl) rfl rfl Try.underlying22 Try.sizeOf3 (by first | omega | (simp only [List.length_set, List.length_append, List.length_cons, List.length_nil, List.length_replicate]; omega)) (by first | omega | (simp only [List.length_set, List.length_append, List.length_cons, List.length_nil, List.length_replicate]; omega))) rfl (fun p_84 hp_85 => ?_)
      refine Wx.rd (v := .int .i64 (highV (sdH 5 zs) (teA (sdC 5 zs) (sdH 5 zs) k))) (Rd.to (v := .int .i64 (ix 0 ((sdH 5 zs) ++ [0]) (teA (sdC 5 zs) (sdH 5 zs) k))) (rd_loadI hp_85 rfl Try.isAgg3 Try.sizeOf3) (congrArg (Value.int .i64) (show (highV (sdH 5 zs) (teA (sdC 5 zs) (sdH 5 zs) k) : Int) = (ix 0 ((sdH 5 zs) ++ [0]) (teA (sdC 5 zs) (sdH 5 zs) k) : Int) from (highs_ix (by omega) (by omega)).symm).symm)) rfl ?_
      have bd_86 := bd_i64 hp_85.inK
      refine Wx.rd (v := r_18) (rd_move rfl) rfl ?_
      refine Wx.rd (v := .int .i64 (teB (sdC 5 zs) (sdH 5 zs) k)) (rd_move rfl) rfl ?_
      refine Wx.ex (rd_index 0 (hS.v 3 rfl) rfl rfl Try.underlying22 Try.sizeOf3 (by first | omega | (simp only [List.length_set, List.length_append, List.length_cons, List.length_nil, List.length_replicate]; omega)) (by first | omega | (simp only [List.length_set, List.length_append, List.length_cons, List.length_nil, List.length_replicate]; omega))) rfl (fun p_87 hp_88 => ?_)
      refine Wx.rd (v := .int .i64 (highV (sdH 5 zs) (teB (sdC 5 zs) (sdH 5 zs) k))) (Rd.to (v := .int .i64 (ix 0 ((sdH 5 zs) ++ [0]) (teB (sdC 5 zs) (sdH 5 zs) k))) (rd_loadI hp_88 rfl Try.isAgg3 Try.sizeOf3) (congrArg (Value.int .i64) (show (highV (sdH 5 zs) (teB (sdC 5 zs) (sdH 5 zs) k) : Int) = (ix 0 ((sdH 5 zs) ++ [0]) (teB (sdC 5 zs) (sdH 5 zs) k) : Int) from (highs_ix (by omega) (by omega)).symm).symm)) rfl ?_
      have bd_89 := bd_i64 hp_88.inK
      refine Wx.rd (v := .int .i64 (hjV (sdC 5 zs) (sdH 5 zs) k)) (Rd.to (v := .int .i64 (max (highV (sdH 5 zs) (teA (sdC 5 zs) (sdH 5 zs) k)) (highV (sdH 5 zs) (teB (sdC 5 zs) (sdH 5 zs) k)))) (rd_max rfl rfl) (congrArg (Value.int .i64) (show ((hjV (sdC 5 zs) (sdH 5 zs) k) : Int) = (max (highV (sdH 5 zs) (teA (sdC 5 zs) (sdH 5 zs) k)) (highV (sdH 5 zs) (teB (sdC 5 zs) (sdH 5 zs) k)) : Int) from hj_eq).symm)) rfl ?_
      refine Wx.rd (v := .int .i64 (hjV (sdC 5 zs) (sdH 5 zs) k)) (rd_assign rfl) rfl ?_
      refine Wx.nilQ (fun w_90 hx_91 => ?_)
      have hS := hS.ext hx_91
      refine W.seq ?_
      refine W.cutK [17, 130, 131, 132, 133, 134, 135, 136, 137, 138, 139, 140] (fun x : Nat × Value × Value => match x with | (g17, ca, cb) => [(17, .pointer (some ⟨g17, 0, none⟩))]) (fun (x : Nat × Value × Value) w' => match x with | (g17, ca, cb) => St w O w' (.box g17 77 [ca, cb] :: .row (tI .i64) 3 ca (ix [] ys2 (teA (sdC 5 zs) (sdH 5 zs) k)) :: .row (tI .i64) 3 cb (ix [] ys2 (teB (sdC 5 zs) (sdH 5 zs) k)) :: .box g_68 74 [.int .i64 ((ix (0, 0) (treeV (sdC 5 zs) (sdH 5 zs)) k).1), .int .i64 ((ix (0, 0) (treeV (sdC 5 zs) (sdH 5 zs)) k).2)] :: .row (tI .i64) 3 v_33 (sillsE (sdR 5 zs) (sdC 5 zs) (sdH 5 zs)) :: .row (tP (tI .i64) (tI .i64)) 74 v_27 (treeV (sdC 5 zs) (sdH 5 zs)) :: Ob.v (tSl (tI .i64)) ((sdH 5 zs) ++ [0]) r_18 :: Ob.v (tSl (tI .i64)) (sdH 5 zs) v_8 :: .box g_11 24 [.int .i64 (sdR 5 zs), .int .i64 (sdC 5 zs), v_8] :: .box g_1 60 (List.map (Value.int .u8) zs) :: matO 22 3 g_41 vs2 ys2)) ?_ ?_
      · -- up to the cut
        refine W.regZ (fun _ w' => St w O w' (matO 22 3 g_41 vs2 ys2)) mixedMu_ (fun w_92 hx_93 => ?_)
        have hS := hS.ext hx_93
        refine Wz.rd (v := .slice (some ⟨g_41, 0, none⟩) ((sdH 5 zs).length + 1) ((sdH 5 zs).length + 1)) 0 rfl (by kernel_rfl) (St.sub hS (.cons _ (.cons _ (.cons _ (.cons _ (.cons _ (.cons _ (.cons _ (List.Sublist.refl _))))))))) (fun _ hS => (rd_move rfl)) rfl ?_
        refine Wz.rd (v := .int .i64 (teA (sdC 5 zs) (sdH 5 zs) k)) 1 rfl (by kernel_rfl) (St.sub hS (.cons _ (.cons _ (.cons _ (.cons _ (.cons _ (.cons _ (.cons _ (List.Sublist.refl _))))))))) (fun _ hS => (rd_move rfl)) rfl ?_
        refine Wz.rd (v := .pointer (some ⟨g_41, (teA (sdC 5 zs) (sdH 5 zs) k).toNat, none⟩)) 2 rfl (by kernel_rfl) (St.sub hS (.cons _ (.cons _ (.cons _ (.cons _ (.cons _ (.cons _ (.cons _ (List.Sublist.refl _))))))))) (fun _ hS => (rd_indexM rfl rfl Try.underlying37 Try.sizeOf22 (by first | assumption | omega | (simp only [List.length_set, List.length_append, List.length_cons, List.length_nil, List.length_replicate]; omega)) (by first | assumption | omega | (simp only [List.length_set, List.length_append, List.length_cons, List.length_nil, List.length_replicate]; omega)))) rfl ?_
        obtain ⟨v_94, hv_95⟩ := mat_v (vs := vs2) (i := (teA (sdC 5 zs) (sdH 5 zs) k).toNat) (by first | assumption | omega | (simp only [List.length_set, List.length_append, List.length_cons, List.length_nil, List.length_replicate]; omega))
        refine Wz.rd (v := v_94) 3 rfl (by kernel_rfl) (St.sub hS (.cons _ (.cons _ (.cons _ (.cons _ (.cons _ (.cons _ (.cons _ (List.Sublist.refl _))))))))) (fun _ hS => (rd_loadM hS 0 (e2 := 22) (e1 := 3) (g := g_41) (vs := vs2) (yss := ys2) rfl hv_95 rfl Try.isAgg22)) rfl ?_
        refine Wz.rd (v := .slice (some ⟨g_41, 0, none⟩) ((sdH 5 zs).length + 1) ((sdH 5 zs).length + 1)) 5 rfl (by kernel_rfl) (St.sub hS (.cons _ (.cons _ (.cons _ (.cons _ (.cons _ (.cons _ (.cons _ (List.Sublist.refl _))))))))) (fun _ hS => (rd_move rfl)) rfl ?_
        refine Wz.rd (v := .int .i64 (teB (sdC 5 zs) (sdH 5 zs) k)) 6 rfl (by kernel_rfl) (St.sub hS (.cons _ (.cons _ (.cons _ (.cons _ (.cons _ (.cons _ (.cons _ (List.Sublist.refl _))))))))) (fun _ hS => (rd_move rfl)) rfl ?_
        refine Wz.rd (v := .pointer (some ⟨g_41, (teB (sdC 5 zs) (sdH 5 zs) k).toNat, none⟩)) 7 rfl (by kernel_rfl) (St.sub hS (.cons _ (.cons _ (.cons _ (.cons _ (.cons _ (.cons _ (.cons _ (List.Sublist.refl _))))))))) (fun _ hS => (rd_indexM rfl rfl Try.underlying37 Try.sizeOf22 (by first | assumption | omega | (simp only [List.length_set, List.length_append, List.length_cons, List.length_nil, List.length_replicate]; omega)) (by first | assumption | omega | (simp only [List.length_set, List.length_append, List.length_cons, List.length_nil, List.length_replicate]; omega)))) rfl ?_
        obtain ⟨v_96, hv_97⟩ := mat_v (vs := vs2) (i := (teB (sdC 5 zs) (sdH 5 zs) k).toNat) (by first | assumption | omega | (simp only [List.length_set, List.length_append, List.length_cons, List.length_nil, List.length_replicate]; omega))
        refine Wz.rd (v := v_96) 8 rfl (by kernel_rfl) (St.sub hS (.cons _ (.cons _ (.cons _ (.cons _ (.cons _ (.cons _ (.cons _ (List.Sublist.refl _))))))))) (fun _ hS => (rd_loadM hS 0 (e2 := 22) (e1 := 3) (g := g_41) (vs := vs2) (yss := ys2) rfl hv_97 rfl Try.isAgg22)) rfl ?_
        refine Wz.br [4, 11] (by kernel_rfl) (by decide) ⟨⟨_, rfl, ?_⟩, ⟨_, rfl, ?_⟩, trivial⟩
        · -- operation 4
          refine Wx.callF (run_callF Try.call45 rfl) (F45 (hS.lend (7 + 1 + (teA (sdC 5 zs) (sdH 5 zs) k).toNat) (mat_row (e2 := 22) (g := g_41) (vs := vs2) (yss := ys2) (i := (teA (sdC 5 zs) (sdH 5 zs) k).toNat) rfl hv_95 (ix_get (d := []) (by first | assumption | omega | (simp only [List.length_set, List.length_append, List.length_cons, List.length_nil, List.length_replicate]; omega)) (by first | assumption | omega | (simp only [List.length_set, List.length_append, List.length_cons, List.length_nil, List.length_replicate]; omega))))) (by omega)) rfl ?_
          rintro r_98 w_99 hx_100 ⟨_, rfl, hv_101⟩
          have hS := hS.pushFr hx_100 hv_101
          refine Wx.nil ⟨(St.sub hS (.cons _ (.cons _ (.cons _ (.cons _ (.cons _ (.cons _ (.cons _ (.cons _ (List.Sublist.refl _)))))))))), ?_⟩
          refine Wz.br [9, 11] (by kernel_rfl) (by decide) ⟨⟨_, rfl, ?_⟩, ⟨_, rfl, ?_⟩, trivial⟩
          · -- operation 9
            refine Wx.callF (run_callF Try.call45 rfl) (F45 (hS.lend (8 + 1 + (teB (sdC 5 zs) (sdH 5 zs) k).toNat) (mat_row (e2 := 22) (g := g_41) (vs := vs2) (yss := ys2) (i := (teB (sdC 5 zs) (sdH 5 zs) k).toNat) rfl hv_97 (ix_get (d := []) (by first | assumption | omega | (simp only [List.length_set, List.length_append, List.length_cons, List.length_nil, List.length_replicate]; omega)) (by first | assumption | omega | (simp only [List.length_set, List.length_append, List.length_cons, List.length_nil, List.length_replicate]; omega))))) (by omega)) rfl ?_
            rintro r_103 w_104 hx_105 ⟨_, rfl, hv_106⟩
            have hS := hS.pushFr hx_105 hv_106
            refine Wx.nil ⟨(St.sub hS (.cons _ (.cons _ (.cons _ (.cons _ (.cons _ (.cons _ (.cons _ (.cons _ (.cons _ (List.Sublist.refl _))))))))))), ?_⟩
            refine Wz.br [10, 11] (by kernel_rfl) (by decide) ⟨⟨_, rfl, ?_⟩, ⟨_, rfl, ?_⟩, trivial⟩
            · -- operation 10
              refine Wx.rd (v := .agg #[r_98, r_103]) (rd_buildC (vs := [(0, r_98), (1, r_103)]) (us := [(0, .agg #[r_98]), (1, .agg #[r_103])]) rfl (parts_cons (Go.Wk.cells_one (hS.rowOne 1 rfl)) (parts_cons (Go.Wk.cells_one (hS.rowOne 0 rfl)) parts_nil)) (by kernel_rfl)) rfl ?_
              refine Wx.nil ⟨(St.sub hS (.cons _ (.cons _ (.cons _ (.cons _ (.cons _ (.cons _ (.cons _ (.cons _ (.cons _ (List.Sublist.refl _))))))))))), ?_⟩
              refine Wz.br [11] (by kernel_rfl) (by decide) ⟨⟨_, rfl, ?_⟩, trivial⟩
              refine Wx.alloc (cs := [(.slice none 0 0), (.slice none 0 0)]) hS Try.zeroValue77 rfl rfl (fun g_108 w_109 hx_111 hb_110 hS => ?_)
              refine Wx.nil ⟨(St.sub hS (.cons _ (.cons _ (.cons _ (.cons _ (.cons _ (.cons _ (.cons _ (.cons _ (.cons _ (.cons _ (List.Sublist.refl _)))))))))))), ?_⟩
              refine Wz.br [12] (by kernel_rfl) (by decide) ⟨⟨_, rfl, ?_⟩, trivial⟩
              refine Wx.storeX (cs' := [r_98, r_103]) (ds := [r_98, r_103]) hS 0 rfl rfl rfl rfl Try.sizeOf77 (Nat.le_of_ble_eq_true rfl) (one_cons (hS.rowOne 2 rfl) (one_cons (hS.rowOne 1 rfl) one_nil)) rfl (fun w_112 hz_113 hS => ?_)
              refine Wx.nil ⟨(St.sub hS (.cons _ (.cons _ (.cons _ (.cons _ (.cons _ (.cons _ (.cons _ (.cons _ (.cons _ (.cons _ (List.Sublist.refl _)))))))))))), ?_⟩
              refine Wz.done (by kernel_rfl) ?_
              have hS := hS.front 9 rfl
              have hS := hS.front 9 rfl
              have hS := hS.front 9 rfl
              have hS := hS.front 9 rfl
              have hS := hS.front 9 rfl
              have hS := hS.front 9 rfl
              have hS := hS.front 9 rfl
              have hS := hS.front 8 rfl
              have hS := hS.front 9 rfl
              have hS := hS.front 9 rfl
              refine ⟨(g_108, r_98, r_103), ?_, ?_, Out.look rfl Out.refl⟩
              · exact hS
              · exact ⟨rfl, trivial⟩
            · -- operation 11
              refine Wx.alloc (cs := [(.slice none 0 0), (.slice none 0 0)]) hS Try.zeroValue77 rfl rfl (fun g_114 w_115 hx_117 hb_116 hS => ?_)
              refine Wx.nil ⟨(St.sub hS (.cons _ (.cons _ (.cons _ (.cons _ (.cons _ (.cons _ (.cons _ (.cons _ (.cons _ (.cons _ (List.Sublist.refl _)))))))))))), ?_⟩
              refine Wz.br [10] (by kernel_rfl) (by decide) ⟨⟨_, rfl, ?_⟩, trivial⟩
              refine Wx.rd (v := .agg #[r_98, r_103]) (rd_buildC (vs := [(0, r_98), (1, r_103)]) (us := [(0, .agg #[r_98]), (1, .agg #[r_103])]) rfl (parts_cons (Go.Wk.cells_one (hS.rowOne 2 rfl)) (parts_cons (Go.Wk.cells_one (hS.rowOne 1 rfl)) parts_nil)) (by kernel_rfl)) rfl ?_
              refine Wx.nil ⟨(St.sub hS (.cons _ (.cons _ (.cons _ (.cons _ (.cons _ (.cons _ (.cons _ (.cons _ (.cons _ (.cons _ (List.Sublist.refl _)))))))))))), ?_⟩
              refine Wz.br [12] (by kernel_rfl) (by decide) ⟨⟨_, rfl, ?_⟩, trivial⟩
              refine Wx.storeX (cs' := [r_98, r_103]) (ds := [r_98, r_103]) hS 0 rfl rfl rfl rfl Try.sizeOf77 (Nat.le_of_ble_eq_true rfl) (one_cons (hS.rowOne 2 rfl) (one_cons (hS.rowOne 1 rfl) one_nil)) rfl (fun w_118 hz_119 hS => ?_)
              refine Wx.nil ⟨(St.sub hS (.cons _ (.cons _ (.cons _ (.cons _ (.cons _ (.cons _ (.cons _ (.cons _ (.cons _ (.cons _ (List.Sublist.refl _)))))))))))), ?_⟩
              refine Wz.done (by kernel_rfl) ?_
              have hS := hS.front 9 rfl
              have hS := hS.front 9 rfl
              have hS := hS.front 9 rfl
              have hS := hS.front 9 rfl
              have hS := hS.front 9 rfl
              have hS := hS.front 9 rfl
              have hS := hS.front 9 rfl
              have hS := hS.front 8 rfl
              have hS := hS.front 9 rfl
              have hS := hS.front 9 rfl
              refine ⟨(g_114, r_98, r_103), ?_, ?_, Out.look rfl Out.refl⟩
              · exact hS
              · exact ⟨rfl, trivial⟩
          · -- operation 11
            refine Wx.alloc (cs := [(.slice none 0 0), (.slice none 0 0)]) hS Try.zeroValue77 rfl rfl (fun g_120 w_121 hx_123 hb_122 hS => ?_)
            refine Wx.nil ⟨(St.sub hS (.cons _ (.cons _ (.cons _ (.cons _ (.cons _ (.cons _ (.cons _ (.cons _ (.cons _ (List.Sublist.refl _))))))))))), ?_⟩
            refine Wz.br [9] (by kernel_rfl) (by decide) ⟨⟨_, rfl, ?_⟩, trivial⟩
            refine Wx.callF (run_callF Try.call45 rfl) (F45 (hS.lend (9 + 1 + (teB (sdC 5 zs) (sdH 5 zs) k).toNat) (mat_row (e2 := 22) (g := g_41) (vs := vs2) (yss := ys2) (i := (teB (sdC 5 zs) (sdH 5 zs) k).toNat) rfl hv_97 (ix_get (d := []) (by first | assumption | omega | (simp only [List.length_set, List.length_append, List.length_cons, List.length_nil, List.length_replicate]; omega)) (by first | assumption | omega | (simp only [List.length_set, List.length_append, List.length_cons, List.length_nil, List.length_replicate]; omega))))) (by omega)) rfl ?_
            rintro r_124 w_125 hx_126 ⟨_, rfl, hv_127⟩
            have hS := hS.pushFr hx_126 hv_127
            refine Wx.nil ⟨(St.sub hS (.cons _ (.cons _ (.cons _ (.cons _ (.cons _ (.cons _ (.cons _ (.cons _ (.cons _ (.cons _ (List.Sublist.refl _)))))))))))), ?_⟩
            refine Wz.br [10] (by kernel_rfl) (by decide) ⟨⟨_, rfl, ?_⟩, trivial⟩
            refine Wx.rd (v := .agg #[r_98, r_124]) (rd_buildC (vs := [(0, r_98), (1, r_124)]) (us := [(0, .agg #[r_98]), (1, .agg #[r_124])]) rfl (parts_cons (Go.Wk.cells_one (hS.rowOne 2 rfl)) (parts_cons (Go.Wk.cells_one (hS.rowOne 0 rfl)) parts_nil)) (by kernel_rfl)) rfl ?_
            refine Wx.nil ⟨(St.sub hS (.cons _ (.cons _ (.cons _ (.cons _ (.cons _ (.cons _ (.cons _ (.cons _ (.cons _ (.cons _ (List.Sublist.refl _)))))))))))), ?_⟩
            refine Wz.br [12] (by kernel_rfl) (by decide) ⟨⟨_, rfl, ?_⟩, trivial⟩
            refine Wx.storeX (cs' := [r_98, r_124]) (ds := [r_98, r_124]) hS 1 rfl rfl rfl rfl Try.sizeOf77 (Nat.le_of_ble_eq_true rfl) (one_cons (hS.rowOne 2 rfl) (one_cons (hS.rowOne 0 rfl) one_nil)) rfl (fun w_129 hz_130 hS => ?_)
            refine Wx.nil ⟨(St.sub hS (.cons _ (.cons _ (.cons _ (.cons _ (.cons _ (.cons _ (.cons _ (.cons _ (.cons _ (.cons _ (List.Sublist.refl _)))))))))))), ?_⟩
            refine Wz.done (by kernel_rfl) ?_
            have hS := hS.front 9 rfl
            have hS := hS.front 9 rfl
            have hS := hS.front 9 rfl
            have hS := hS.front 9 rfl
            have hS := hS.front 9 rfl
            have hS := hS.front 9 rfl
            have hS := hS.front 9 rfl
            have hS := hS.front 7 rfl
            have hS := hS.front 9 rfl
            have hS := hS.front 9 rfl
            refine ⟨(g_120, r_98, r_124), ?_, ?_, Out.look rfl Out.refl⟩
            · exact hS
            · exact ⟨rfl, trivial⟩
        · -- operation 11
          refine Wx.alloc (cs := [(.slice none 0 0), (.slice none 0 0)]) hS Try.zeroValue77 rfl rfl (fun g_131 w_132 hx_134 hb_133 hS => ?_)
          refine Wx.nil ⟨(St.sub hS (.cons _ (.cons _ (.cons _ (.cons _ (.cons _ (.cons _ (.cons _ (.cons _ (List.Sublist.refl _)))))))))), ?_⟩
          refine Wz.br [4] (by kernel_rfl) (by decide) ⟨⟨_, rfl, ?_⟩, trivial⟩
          refine Wx.callF (run_callF Try.call45 rfl) (F45 (hS.lend (8 + 1 + (teA (sdC 5 zs) (sdH 5 zs) k).toNat) (mat_row (e2 := 22) (g := g_41) (vs := vs2) (yss := ys2) (i := (teA (sdC 5 zs) (sdH 5 zs) k).toNat) rfl hv_95 (ix_get (d := []) (by first | assumption | omega | (simp only [List.length_set, List.length_append, List.length_cons, List.length_nil, List.length_replicate]; omega)) (by first | assumption | omega | (simp only [List.length_set, List.length_append, List.length_cons, List.length_nil, List.length_replicate]; omega))))) (by omega)) rfl ?_
          rintro r_135 w_136 hx_137 ⟨_, rfl, hv_138⟩
          have hS := hS.pushFr hx_137 hv_138
          refine Wx.nil ⟨(St.sub hS (.cons _ (.cons _ (.cons _ (.cons _ (.cons _ (.cons _ (.cons _ (.cons _ (.cons _ (List.Sublist.refl _))))))))))), ?_⟩
          refine Wz.br [9] (by kernel_rfl) (by decide) ⟨⟨_, rfl, ?_⟩, trivial⟩
          refine Wx.callF (run_callF Try.call45 rfl) (F45 (hS.lend (9 + 1 + (teB (sdC 5 zs) (sdH 5 zs) k).toNat) (mat_row (e2 := 22) (g := g_41) (vs := vs2) (yss := ys2) (i := (teB (sdC 5 zs) (sdH 5 zs) k).toNat) rfl hv_97 (ix_get (d := []) (by first | assumption | omega | (simp only [List.length_set, List.length_append, List.length_cons, List.length_nil, List.length_replicate]; omega)) (by first | assumption | omega | (simp only [List.length_set, List.length_append, List.length_cons, List.length_nil, List.length_replicate]; omega))))) (by omega)) rfl ?_
          rintro r_140 w_141 hx_142 ⟨_, rfl, hv_143⟩
          have hS := hS.pushFr hx_142 hv_143
          refine Wx.nil ⟨(St.sub hS (.cons _ (.cons _ (.cons _ (.cons _ (.cons _ (.cons _ (.cons _ (.cons _ (.cons _ (.cons _ (List.Sublist.refl _)))))))))))), ?_⟩
          refine Wz.br [10] (by kernel_rfl) (by decide) ⟨⟨_, rfl, ?_⟩, trivial⟩
          refine Wx.rd (v := .agg #[r_135, r_140]) (rd_buildC (vs := [(0, r_135), (1, r_140)]) (us := [(0, .agg #[r_135]), (1, .agg #[r_140])]) rfl (parts_cons (Go.Wk.cells_one (hS.rowOne 1 rfl)) (parts_cons (Go.Wk.cells_one (hS.rowOne 0 rfl)) parts_nil)) (by kernel_rfl)) rfl ?_
          refine Wx.nil ⟨(St.sub hS (.cons _ (.cons _ (.cons _ (.cons _ (.cons _ (.cons _ (.cons _ (.cons _ (.cons _ (.cons _ (List.Sublist.refl _)))))))))))), ?_⟩
          refine Wz.br [12] (by kernel_rfl) (by decide) ⟨⟨_, rfl, ?_⟩, trivial⟩
          refine Wx.storeX (cs' := [r_135, r_140]) (ds := [r_135, r_140]) hS 2 rfl rfl rfl rfl Try.sizeOf77 (Nat.le_of_ble_eq_true rfl) (one_cons (hS.rowOne 1 rfl) (one_cons (hS.rowOne 0 rfl) one_nil)) rfl (fun w_145 hz_146 hS => ?_)
          refine Wx.nil ⟨(St.sub hS (.cons _ (.cons _ (.cons _ (.cons _ (.cons _ (.cons _ (.cons _ (.cons _ (.cons _ (.cons _ (List.Sublist.refl _)))))))))))), ?_⟩
          refine Wz.done (by kernel_rfl) ?_
          have hS := hS.front 9 rfl
          have hS := hS.front 9 rfl
          have hS := hS.front 9 rfl
          have hS := hS.front 9 rfl
          have hS := hS.front 9 rfl
          have hS := hS.front 9 rfl
          have hS := hS.front 9 rfl
          have hS := hS.front 7 rfl
          have hS := hS.front 8 rfl
          have hS := hS.front 9 rfl
          refine ⟨(g_131, r_135, r_140), ?_, ?_, Out.look rfl Out.refl⟩
          · exact hS
          · exact ⟨rfl, trivial⟩
      rintro ⟨g17, ca, cb⟩ u_148 w_147 hS
      refine W.seq ?_
      refine W.reg ?_
      refine Wx.rd (v := .slice (some ⟨g_41, 0, none⟩) ((sdH 5 zs).length + 1) ((sdH 5 zs).length + 1)) (rd_move rfl) rfl ?_
      refine Wx.rd (v := .int .i64 ((((sdH 5 zs).length + 1) : Nat) : Int)) (rd_len rfl Try.underlying37) rfl ?_
      refine Wx.rd (v := .int .i64 0) (rd_move rfl) rfl ?_
      refine Wx.nil ?_
      refine W.block ?_
      have tA2 : (teA (sdC 5 zs) (sdH 5 zs) k) ≤ ((sdH 5 zs).length : Int) := by omega
      have tB0 : 0 ≤ (teB (sdC 5 zs) (sdH 5 zs) k) := by omega
      have hn0 : 0 ≤ (((sdH 5 zs).length : Int) + 1) := by omega
      have hn36 : ((sdH 5 zs).length : Int) ≤ 36 := by omega
      have hk36 : k < 37 := by omega
      clear hsl htc hhl hRC hCn r1 r2 hxa hxb n1 n36 i0 i1 i2 i3 c1 hf0 tA1 tAB
      refine W.loop [18, 19, 143, 144, 145, 146, 147, 148, 149, 150, 151, 152, 153, 154, 155, 156, 157, 158, 159, 160, 161, 162, 163, 164, 165, 166, 167, 168, 169, 170, 171, 172, 173, 174, 175, 176, 177, 178, 179, 180, 181, 182, 183, 184, 185, 186, 187, 188, 189, 190, 191, 192, 193, 194, 195, 196, 197] (fun x : Int × (List Value) × (List (List Int)) => match x with | (u, vs3, ys3) => [(143, .int .i64 u)]) (fun (x : Int × (List Value) × (List (List Int))) w' => match x with | (u, vs3, ys3) => St w O w' (.box g17 77 [ca, cb] :: .row (tI .i64) 3 ca (ix [] ys2 (teA (sdC 5 zs) (sdH 5 zs) k)) :: .row (tI .i64) 3 cb (ix [] ys2 (teB (sdC 5 zs) (sdH 5 zs) k)) :: .box g_68 74 [.int .i64 ((ix (0, 0) (treeV (sdC 5 zs) (sdH 5 zs)) k).1), .int .i64 ((ix (0, 0) (treeV (sdC 5 zs) (sdH 5 zs)) k).2)] :: .row (tI .i64) 3 v_33 (sillsE (sdR 5 zs) (sdC 5 zs) (sdH 5 zs)) :: .row (tP (tI .i64) (tI .i64)) 74 v_27 (treeV (sdC 5 zs) (sdH 5 zs)) :: Ob.v (tSl (tI .i64)) ((sdH 5 zs) ++ [0]) r_18 :: Ob.v (tSl (tI .i64)) (sdH 5 zs) v_8 :: .box g_11 24 [.int .i64 (sdR 5 zs), .int .i64 (sdC 5 zs), v_8] :: .box g_1 60 (List.map (Value.int .u8) zs) :: matO 22 3 g_41 vs3 ys3) ∧ 0 ≤ u ∧ u ≤ (((sdH 5 zs).length : Int) + 1) ∧ FarU (sdC 5 zs) (sdH 5 zs) k ys2 u 0 ys3 ∧ vs3.length = ((sdH 5 zs).length + 1)) (fun x : Int × (List Value) × (List (List Int)) => match x with | (u, vs3, ys3) => ((((sdH 5 zs).length : Int) + 1) - u).toNat) (0, vs2, ys2) ⟨rfl, trivial⟩ ⟨hS, (Int.le_refl 0), (hn0), (fu_start k2), (k3)⟩ ?_
      rintro ⟨u, vs3, ys3⟩ u_150 w_149 ⟨hS, u0, u1, u2, u3⟩
      refine W.seq ?_
      refine W.reg ?_
      refine Wx.rd (v := .bool (decide (u < ((((sdH 5 zs).length + 1) : Nat) : Int)))) (rd_lss rfl rfl) rfl ?_
      refine Wx.nil ?_
      refine W.seq ?_
      refine W.condD rfl (fun c4 => ?_) (fun c4 => ?_)
      · -- yes
        have hml3 := u2.1.1
        refine W.skip ?_
        refine W.seq ?_
        refine W.block ?_
        refine W.seq ?_
        refine W.reg ?_
        refine Wx.rd (v := .int .i64 u) (rd_move rfl) rfl ?_
        refine Wx.rd (v := .int .i64 u) (rd_assign rfl) rfl ?_
        refine Wx.nil ?_
        refine W.seq ?_
        refine W.reg ?_
        refine Wx.rd (v := .slice (some ⟨g_41, 0, none⟩) ((sdH 5 zs).length + 1) ((sdH 5 zs).length + 1)) (rd_move rfl) rfl ?_
        refine Wx.rd (v := .int .i64 ((((sdH 5 zs).length + 1) : Nat) : Int)) (rd_len rfl Try.underlying37) rfl ?_
        refine Wx.rd (v := .int .i64 0) (rd_move rfl) rfl ?_
        refine Wx.nil ?_
        refine W.block ?_
        refine W.loop [19, 148, 149, 150, 151, 152, 153, 154, 155, 156, 157, 158, 159, 160, 161, 162, 163, 164, 165, 166, 167, 168, 169, 170, 171, 172, 173, 174, 175, 176, 177, 178, 179, 180, 181, 182, 183, 184, 185, 186, 187, 188, 189, 190, 191, 192, 193, 194, 195, 196] (fun x : Int × (List Value) × (List (List Int)) => match x with | (q, vs4, ys4) => [(148, .int .i64 q)]) (fun (x : Int × (List Value) × (List (List Int))) w' => match x with | (q, vs4, ys4) => St w O w' (.box g17 77 [ca, cb] :: .row (tI .i64) 3 ca (ix [] ys2 (teA (sdC 5 zs) (sdH 5 zs) k)) :: .row (tI .i64) 3 cb (ix [] ys2 (teB (sdC 5 zs) (sdH 5 zs) k)) :: .box g_68 74 [.int .i64 ((ix (0, 0) (treeV (sdC 5 zs) (sdH 5 zs)) k).1), .int .i64 ((ix (0, 0) (treeV (sdC 5 zs) (sdH 5 zs)) k).2)] :: .row (tI .i64) 3 v_33 (sillsE (sdR 5 zs) (sdC 5 zs) (sdH 5 zs)) :: .row (tP (tI .i64) (tI .i64)) 74 v_27 (treeV (sdC 5 zs) (sdH 5 zs)) :: Ob.v (tSl (tI .i64)) ((sdH 5 zs) ++ [0]) r_18 :: Ob.v (tSl (tI .i64)) (sdH 5 zs) v_8 :: .box g_11 24 [.int .i64 (sdR 5 zs), .int .i64 (sdC 5 zs), v_8] :: .box g_1 60 (List.map (Value.int .u8) zs) :: matO 22 3 g_41 vs4 ys4) ∧ 0 ≤ q ∧ q ≤ (((sdH 5 zs).length : Int) + 1) ∧ FarU (sdC 5 zs) (sdH 5 zs) k ys2 u q ys4 ∧ vs4.length = ((sdH 5 zs).length + 1)) (fun x : Int × (List Value) × (List (List Int)) => match x with | (q, vs4, ys4) => ((((sdH 5 zs).length : Int) + 1) - q).toNat) (0, vs3, ys3) ⟨rfl, trivial⟩ ⟨hS, (Int.le_refl 0), (hn0), (u2), (u3)⟩ ?_
        rintro ⟨q, vs4, ys4⟩ u_152 w_151 ⟨hS, q0, q1, q2, q3⟩
        refine W.seq ?_
        refine W.reg ?_
        refine Wx.rd (v := .bool (decide (q < ((((sdH 5 zs).length + 1) : Nat) : Int)))) (rd_lss rfl rfl) rfl ?_
        refine Wx.nil ?_
        refine W.seq ?_
        refine W.condD rfl (fun c5 => ?_) (fun c5 => ?_)
        · -- yes
          have hml4 := q2.1.1
          have hul := le_suc c4
          have hql := le_suc c5
          have hua := lt_len c4 hra
          have hqb := lt_len c5 hrb
          refine W.skip ?_
          refine W.seq ?_
          refine W.block ?_
          refine W.seq ?_
          refine W.reg ?_
          refine Wx.rd (v := .int .i64 q) (rd_move rfl) rfl ?_
          refine Wx.rd (v := .int .i64 q) (rd_assign rfl) rfl ?_
          refine Wx.nil ?_
          refine W.seq ?_
          refine W.reg ?_
          refine Wx.rd (v := .pointer (some ⟨g17, 0, none⟩)) (rd_indexArr (n := 0) rfl rfl Try.underlying77 Try.sizeOf22 (by decide) (by decide)) rfl ?_
          refine Wx.rd (v := ca) (rd_loadX hS 0 rfl rfl rfl Try.isAgg22) rfl ?_
          refine Wx.rd (v := .int .i64 u) (rd_move rfl) rfl ?_
          refine Wx.indexR hS 1 rfl rfl rfl Try.underlying22 Try.sizeOf3 (by first | assumption | omega | (simp only [List.length_set, List.length_append, List.length_cons, List.length_nil, List.length_replicate]; omega)) (by first | assumption | omega | (simp only [List.length_set, List.length_append, List.length_cons, List.length_nil, List.length_replicate]; omega)) rfl (fun g_153 hg_154 => ?_)
          refine Wx.rd (v := .int .i64 (ix 0 (ix [] ys2 (teA (sdC 5 zs) (sdH 5 zs) k)) u)) (rd_loadRI' hS 1 rfl hg_154 rfl (by first | assumption | omega | (simp only [List.length_set, List.length_append, List.length_cons, List.length_nil, List.length_replicate]; omega)) (by first | assumption | omega | (simp only [List.length_set, List.length_append, List.length_cons, List.length_nil, List.length_replicate]; omega)) Try.isAgg3 Try.sizeOf3) rfl ?_
          have bd_155 := bd_i64 (hS.rowInK' 1 rfl (by first | assumption | omega | (simp only [List.length_set, List.length_append, List.length_cons, List.length_nil, List.length_replicate]; omega)) (by first | assumption | omega | (simp only [List.length_set, List.length_append, List.length_cons, List.length_nil, List.length_replicate]; omega)) : InK .i64 (ix 0 (ix [] ys2 (teA (sdC 5 zs) (sdH 5 zs) k)) u))
          refine Wx.rd (v := .bool (conF (tkE (sdC 5 zs) (sdH 5 zs) k) (teA (sdC 5 zs) (sdH 5 zs) k) u)) (Rd.to (v := .bool (decide (0 ≤ (ix 0 (ix [] ys2 (teA (sdC 5 zs) (sdH 5 zs) k)) u)))) (rd_geq rfl rfl) (congrArg (Value.bool) (show (conF (tkE (sdC 5 zs) (sdH 5 zs) k) (teA (sdC 5 zs) (sdH 5 zs) k) u : Bool) = (decide (0 ≤ (ix 0 (ix [] ys2 (teA (sdC 5 zs) (sdH 5 zs) k)) u)) : Bool) from (far_pos p_ok k2 tA0 tA2 u0 hul).symm).symm)) rfl ?_
          refine Wx.rd (v := .bool (conF (tkE (sdC 5 zs) (sdH 5 zs) k) (teA (sdC 5 zs) (sdH 5 zs) k) u)) (rd_move rfl) rfl ?_
          refine Wx.cut (X := Unit) 7 [158, 159, 160, 161, 162, 163, 164] (fun _ => [(164, .bool (conF (tkE (sdC 5 zs) (sdH 5 zs) k) (teA (sdC 5 zs) (sdH 5 zs) k) u && conF (tkE (sdC 5 zs) (sdH 5 zs) k) (teB (sdC 5 zs) (sdH 5 zs) k) q))]) (fun _ w' => St w O w' (.box g17 77 [ca, cb] :: .row (tI .i64) 3 ca (ix [] ys2 (teA (sdC 5 zs) (sdH 5 zs) k)) :: .row (tI .i64) 3 cb (ix [] ys2 (teB (sdC 5 zs) (sdH 5 zs) k)) :: .box g_68 74 [.int .i64 ((ix (0, 0) (treeV (sdC 5 zs) (sdH 5 zs)) k).1), .int .i64 ((ix (0, 0) (treeV (sdC 5 zs) (sdH 5 zs)) k).2)] :: .row (tI .i64) 3 v_33 (sillsE (sdR 5 zs) (sdC 5 zs) (sdH 5 zs)) :: .row (tP (tI .i64) (tI .i64)) 74 v_27 (treeV (sdC 5 zs) (sdH 5 zs)) :: Ob.v (tSl (tI .i64)) ((sdH 5 zs) ++ [0]) r_18 :: Ob.v (tSl (tI .i64)) (sdH 5 zs) v_8 :: .box g_11 24 [.int .i64 (sdR 5 zs), .int .i64 (sdC 5 zs), v_8] :: .box g_1 60 (List.map (Value.int .u8) zs) :: matO 22 3 g_41 vs4 ys4)) ?_ ?_
          · rcases Bool.eq_false_or_eq_true (conF (tkE (sdC 5 zs) (sdH 5 zs) k) (teA (sdC 5 zs) (sdH 5 zs) k) u) with g_156 | g_156
            · -- True
              have gp_157 := g_156
              try simp only [Bool.and_eq_true, Bool.or_eq_true, Bool.not_eq_true', Bool.and_eq_false_iff, Bool.or_eq_false_iff, Bool.not_eq_false', decide_eq_true_eq, decide_eq_false_iff_not, not_or, Bool.false_eq_true, Bool.true_eq_false, false_or, or_false, not_false_eq_true] at gp_157
              refine Wx.gyes rfl rfl (congrArg Value.bool g_156) ?_
              refine Wx.rd (v := .pointer (some ⟨g17, 1, none⟩)) (rd_indexArr (n := 1) rfl rfl Try.underlying77 Try.sizeOf22 (by decide) (by decide)) rfl ?_
              refine Wx.gyes rfl rfl (congrArg Value.bool g_156) ?_
              refine Wx.rd (v := cb) (rd_loadX hS 0 rfl rfl rfl Try.isAgg22) rfl ?_
              refine Wx.gyes rfl rfl (congrArg Value.bool g_156) ?_
              refine Wx.rd (v := .int .i64 q) (rd_move rfl) rfl ?_
              refine Wx.gyes rfl rfl (congrArg Value.bool g_156) ?_
              refine Wx.indexR hS 2 rfl rfl rfl Try.underlying22 Try.sizeOf3 (by first | assumption | omega | (simp only [List.length_set, List.length_append, List.length_cons, List.length_nil, List.length_replicate]; omega)) (by first | assumption | omega | (simp only [List.length_set, List.length_append, List.length_cons, List.length_nil, List.length_replicate]; omega)) rfl (fun g_158 hg_159 => ?_)
              refine Wx.gyes rfl rfl (congrArg Value.bool g_156) ?_
              refine Wx.rd (v := .int .i64 (ix 0 (ix [] ys2 (teB (sdC 5 zs) (sdH 5 zs) k)) q)) (rd_loadRI' hS 2 rfl hg_159 rfl (by first | assumption | omega | (simp only [List.length_set, List.length_append, List.length_cons, List.length_nil, List.length_replicate]; omega)) (by first | assumption | omega | (simp only [List.length_set, List.length_append, List.length_cons, List.length_nil, List.length_replicate]; omega)) Try.isAgg3 Try.sizeOf3) rfl ?_
              have bd_160 := bd_i64 (hS.rowInK' 2 rfl (by first | assumption | omega | (simp only [List.length_set, List.length_append, List.length_cons, List.length_nil, List.length_replicate]; omega)) (by first | assumption | omega | (simp only [List.length_set, List.length_append, List.length_cons, List.length_nil, List.length_replicate]; omega)) : InK .i64 (ix 0 (ix [] ys2 (teB (sdC 5 zs) (sdH 5 zs) k)) q))
              refine Wx.gyes rfl rfl (congrArg Value.bool g_156) ?_
              refine Wx.rd (v := .bool (conF (tkE (sdC 5 zs) (sdH 5 zs) k) (teB (sdC 5 zs) (sdH 5 zs) k) q)) (Rd.to (v := .bool (decide (0 ≤ (ix 0 (ix [] ys2 (teB (sdC 5 zs) (sdH 5 zs) k)) q)))) (rd_geq rfl rfl) (congrArg (Value.bool) (show (conF (tkE (sdC 5 zs) (sdH 5 zs) k) (teB (sdC 5 zs) (sdH 5 zs) k) q : Bool) = (decide (0 ≤ (ix 0 (ix [] ys2 (teB (sdC 5 zs) (sdH 5 zs) k)) q)) : Bool) from (far_pos p_ok k2 tB0 tB1 q0 hql).symm).symm)) rfl ?_
              refine Wx.rd (v := .bool (conF (tkE (sdC 5 zs) (sdH 5 zs) k) (teB (sdC 5 zs) (sdH 5 zs) k) q)) (rd_pickT (congrArg Value.bool g_156) rfl) rfl ?_
              refine Wx.nil ⟨(), hS, ⟨?_, trivial⟩, Out.look rfl Out.refl⟩
              show Value.bool (conF (tkE (sdC 5 zs) (sdH 5 zs) k) (teB (sdC 5 zs) (sdH 5 zs) k) q) = Value.bool (conF (tkE (sdC 5 zs) (sdH 5 zs) k) (teA (sdC 5 zs) (sdH 5 zs) k) u && conF (tkE (sdC 5 zs) (sdH 5 zs) k) (teB (sdC 5 zs) (sdH 5 zs) k) q)
              first | rw [g_156, Bool.true_and] | (rw [g_156]; rfl)
            · -- False
              have gp_161 := g_156
              try simp only [Bool.and_eq_true, Bool.or_eq_true, Bool.not_eq_true', Bool.and_eq_false_iff, Bool.or_eq_false_iff, Bool.not_eq_false', decide_eq_true_eq, decide_eq_false_iff_not, not_or, Bool.false_eq_true, Bool.true_eq_false, false_or, or_false, not_false_eq_true] at gp_161
              refine Wx.gnoB rfl rfl (congrArg Value.bool g_156) rfl rfl ?_
              refine Wx.gnoB rfl rfl (congrArg Value.bool g_156) rfl rfl ?_
              refine Wx.gnoB rfl rfl (congrArg Value.bool g_156) rfl rfl ?_
              refine Wx.gnoB rfl rfl (congrArg Value.bool g_156) rfl rfl ?_
              refine Wx.gnoB rfl rfl (congrArg Value.bool g_156) rfl rfl ?_
              refine Wx.gnoB rfl rfl (congrArg Value.bool g_156) rfl rfl ?_
              refine Wx.rd (v := .bool false) (rd_pickF (congrArg Value.bool g_156) rfl) rfl ?_
              refine Wx.nil ⟨(), hS, ⟨?_, trivial⟩, Out.look rfl Out.refl⟩
              show Value.bool false = Value.bool (conF (tkE (sdC 5 zs) (sdH 5 zs) k) (teA (sdC 5 zs) (sdH 5 zs) k) u && conF (tkE (sdC 5 zs) (sdH 5 zs) k) (teB (sdC 5 zs) (sdH 5 zs) k) q)
              first | rw [g_156, Bool.false_and] | (rw [g_156]; rfl)
          rintro ⟨⟩ u_163 w_162 hS
          refine Wx.nil ?_
          refine W.cond rfl (fun c6 => ?_) (fun c6 => ?_)
          · -- yes
            try simp only [Bool.and_eq_true, Bool.or_eq_true, Bool.not_eq_true', Bool.and_eq_false_iff, Bool.or_eq_false_iff, Bool.not_eq_false', decide_eq_true_eq, decide_eq_false_iff_not, not_or, Bool.false_eq_true, Bool.true_eq_false, false_or, or_false, not_false_eq_true] at c6
            have hA : ix 0 (ix [] ys2 (teA (sdC 5 zs) (sdH 5 zs) k)) u ≤ (hjV (sdC 5 zs) (sdH 5 zs) k) := far_low p_ok k2 k0 c2 tA0 tA2 u0 hul
            have hB : ix 0 (ix [] ys2 (teB (sdC 5 zs) (sdH 5 zs) k)) q ≤ (hjV (sdC 5 zs) (sdH 5 zs) k) := far_low p_ok k2 k0 c2 tB0 tB1 q0 hql
            have hru := q2.1.2 u u0 (lt_suc c4)
            have hm1 := mx_set (v := (hjV (sdC 5 zs) (sdH 5 zs) k)) q2.1 (x := u) (y := q) u0 (lt_suc c4) q0 (lt_suc c5)
            have hm2 := mx_set (v := (hjV (sdC 5 zs) (sdH 5 zs) k)) hm1.1 (x := q) (y := u) q0 (lt_suc c5) u0 (lt_suc c4)
            have hvu := lt_lenV u0 c4 q3
            have hvq := lt_lenV q0 c5 q3
            have hyu := lt_len c4 hml4
            have hrq := lt_len c5 hru
            have hrqN := lt_lenN q0 c5 hru
            have hyu2 := lt_len c4 hm1.1.1
            have hyq2 := lt_len c5 hm1.1.1
            have hrq2 := lt_len c5 (hm1.1.2 u u0 (lt_suc c4))
            have hru2 := lt_len c4 (hm1.1.2 q q0 (lt_suc c5))
            have hruN := lt_lenN u0 c4 (hm1.1.2 q q0 (lt_suc c5))
            have hjK : InK .i64 (hjV (sdC 5 zs) (sdH 5 zs) k) := in_i64 (by omega) (by omega)
            refine W.seq ?_
            refine W.regT 18 mixedMu_ (by kernel_rfl) ?_
            refine Wx.rd (v := .slice (some ⟨g_41, 0, none⟩) ((sdH 5 zs).length + 1) ((sdH 5 zs).length + 1)) (rd_move rfl) rfl ?_
            refine Wx.rd (v := .int .i64 u) (rd_move rfl) rfl ?_
            refine Wx.rd (v := .pointer (some ⟨g_41, u.toNat, none⟩)) (rd_indexM rfl rfl Try.underlying37 Try.sizeOf22 (by first | assumption | omega | (simp only [List.length_set, List.length_append, List.length_cons, List.length_nil, List.length_replicate]; omega)) (by first | assumption | omega | (simp only [List.length_set, List.length_append, List.length_cons, List.length_nil, List.length_replicate]; omega))) rfl ?_
            obtain ⟨v_164, hv_165⟩ := mat_v (vs := vs4) (i := u.toNat) (by first | assumption | omega | (simp only [List.length_set, List.length_append, List.length_cons, List.length_nil, List.length_replicate]; omega))
            refine Wx.rd (v := v_164) (rd_loadM hS 10 (e2 := 22) (e1 := 3) (g := g_41) (vs := vs4) (yss := ys4) rfl hv_165 rfl Try.isAgg22) rfl ?_
            refine Wx.rd (v := .int .i64 q) (rd_move rfl) rfl ?_
            refine Wx.rd (v := .pointer (some ⟨g17, 0, none⟩)) (rd_indexArr (n := 0) rfl rfl Try.underlying77 Try.sizeOf22 (by decide) (by decide)) rfl ?_
            refine Wx.rd (v := ca) (rd_loadX hS 0 rfl rfl rfl Try.isAgg22) rfl ?_
            refine Wx.rd (v := .int .i64 u) (rd_move rfl) rfl ?_
            refine Wx.indexR hS 1 rfl rfl rfl Try.underlying22 Try.sizeOf3 (by first | assumption | omega | (simp only [List.length_set, List.length_append, List.length_cons, List.length_nil, List.length_replicate]; omega)) (by first | assumption | omega | (simp only [List.length_set, List.length_append, List.length_cons, List.length_nil, List.length_replicate]; omega)) rfl (fun g_166 hg_167 => ?_)
            refine Wx.rd (v := .int .i64 (ix 0 (ix [] ys2 (teA (sdC 5 zs) (sdH 5 zs) k)) u)) (rd_loadRI' hS 1 rfl hg_167 rfl (by first | assumption | omega | (simp only [List.length_set, List.length_append, List.length_cons, List.length_nil, List.length_replicate]; omega)) (by first | assumption | omega | (simp only [List.length_set, List.length_append, List.length_cons, List.length_nil, List.length_replicate]; omega)) Try.isAgg3 Try.sizeOf3) rfl ?_
            have bd_168 := bd_i64 (hS.rowInK' 1 rfl (by first | assumption | omega | (simp only [List.length_set, List.length_append, List.length_cons, List.length_nil, List.length_replicate]; omega)) (by first | assumption | omega | (simp only [List.length_set, List.length_append, List.length_cons, List.length_nil, List.length_replicate]; omega)) : InK .i64 (ix 0 (ix [] ys2 (teA (sdC 5 zs) (sdH 5 zs) k)) u))
            refine Wx.rd (v := .pointer (some ⟨g17, 1, none⟩)) (rd_indexArr (n := 1) rfl rfl Try.underlying77 Try.sizeOf22 (by decide) (by decide)) rfl ?_
            refine Wx.rd (v := cb) (rd_loadX hS 0 rfl rfl rfl Try.isAgg22) rfl ?_
            refine Wx.rd (v := .int .i64 q) (rd_move rfl) rfl ?_
            refine Wx.indexR hS 2 rfl rfl rfl Try.underlying22 Try.sizeOf3 (by first | assumption | omega | (simp only [List.length_set, List.length_append, List.length_cons, List.length_nil, List.length_replicate]; omega)) (by first | assumption | omega | (simp only [List.length_set, List.length_append, List.length_cons, List.length_nil, List.length_replicate]; omega)) rfl (fun g_169 hg_170 => ?_)
            refine Wx.rd (v := .int .i64 (ix 0 (ix [] ys2 (teB (sdC 5 zs) (sdH 5 zs) k)) q)) (rd_loadRI' hS 2 rfl hg_170 rfl (by first | assumption | omega | (simp only [List.length_set, List.length_append, List.length_cons, List.length_nil, List.length_replicate]; omega)) (by first | assumption | omega | (simp only [List.length_set, List.length_append, List.length_cons, List.length_nil, List.length_replicate]; omega)) Try.isAgg3 Try.sizeOf3) rfl ?_
            have bd_171 := bd_i64 (hS.rowInK' 2 rfl (by first | assumption | omega | (simp only [List.length_set, List.length_append, List.length_cons, List.length_nil, List.length_replicate]; omega)) (by first | assumption | omega | (simp only [List.length_set, List.length_append, List.length_cons, List.length_nil, List.length_replicate]; omega)) : InK .i64 (ix 0 (ix [] ys2 (teB (sdC 5 zs) (sdH 5 zs) k)) q))
            refine Wx.rd (v := .int .i64 (hjV (sdC 5 zs) (sdH 5 zs) k)) (rd_move rfl) rfl ?_
            refine Wx.rd (v := .int .i64 (hjV (sdC 5 zs) (sdH 5 zs) k)) (Rd.to (v := .int .i64 (max (max (ix 0 (ix [] ys2 (teA (sdC 5 zs) (sdH 5 zs) k)) u) (ix 0 (ix [] ys2 (teB (sdC 5 zs) (sdH 5 zs) k)) q)) (hjV (sdC 5 zs) (sdH 5 zs) k))) (rd_max3 rfl rfl rfl) (congrArg (Value.int .i64) (show ((hjV (sdC 5 zs) (sdH 5 zs) k) : Int) = (max (max (ix 0 (ix [] ys2 (teA (sdC 5 zs) (sdH 5 zs) k)) u) (ix 0 (ix [] ys2 (teB (sdC 5 zs) (sdH 5 zs) k)) q)) (hjV (sdC 5 zs) (sdH 5 zs) k) : Int) from (max3_eq hA hB)).symm)) rfl ?_
            refine Wx.indexR hS (10 + 1 + u.toNat) (mat_row (e2 := 22) (g := g_41) (vs := vs4) (yss := ys4) (i := u.toNat) rfl hv_165 (ix_get (d := []) (by first | assumption | omega | (simp only [List.length_set, List.length_append, List.length_cons, List.length_nil, List.length_replicate]; omega)) (by first | assumption | omega | (simp only [List.length_set, List.length_append, List.length_cons, List.length_nil, List.length_replicate]; omega)))) rfl rfl Try.underlying22 Try.sizeOf3 (by first | assumption | omega | (simp only [List.length_set, List.length_append, List.length_cons, List.length_nil, List.length_replicate]; omega)) (by first | assumption | omega | (simp only [List.length_set, List.length_append, List.length_cons, List.length_nil, List.length_replicate]; omega)) rfl (fun g_172 hg_173 => ?_)
            refine Wx.nilQ (fun w_174 hx_175 => ?_)
            have hS := hS.ext hx_175
            refine Wx.storeM (e2 := 22) (e1 := 3) (g := g_41) (vs := vs4) (yss := ys4) (i := u.toNat) (j := q.toNat) hS 10 rfl hv_165 (ix_get (d := []) (by first | assumption | omega | (simp only [List.length_set, List.length_append, List.length_cons, List.length_nil, List.length_replicate]; omega)) (by first | assumption | omega | (simp only [List.length_set, List.length_append, List.length_cons, List.length_nil, List.length_replicate]; omega))) hg_173 rfl (by first | assumption | omega | (simp only [List.length_set, List.length_append, List.length_cons, List.length_nil, List.length_replicate]; omega)) rfl hjK Try.sizeOf3 (fun w_176 hz_177 hS => ?_)
            have hS : St _ _ w_176 (.box g17 77 [ca, cb] :: .row (tI .i64) 3 ca (ix [] ys2 (teA (sdC 5 zs) (sdH 5 zs) k)) :: .row (tI .i64) 3 cb (ix [] ys2 (teB (sdC 5 zs) (sdH 5 zs) k)) :: .box g_68 74 [.int .i64 ((ix (0, 0) (treeV (sdC 5 zs) (sdH 5 zs)) k).1), .int .i64 ((ix (0, 0) (treeV (sdC 5 zs) (sdH 5 zs)) k).2)] :: .row (tI .i64) 3 v_33 (sillsE (sdR 5 zs) (sdC 5 zs) (sdH 5 zs)) :: .row (tP (tI .i64) (tI .i64)) 74 v_27 (treeV (sdC 5 zs) (sdH 5 zs)) :: Ob.v (tSl (tI .i64)) ((sdH 5 zs) ++ [0]) r_18 :: Ob.v (tSl (tI .i64)) (sdH 5 zs) v_8 :: .box g_11 24 [.int .i64 (sdR 5 zs), .int .i64 (sdC 5 zs), v_8] :: .box g_1 60 (List.map (Value.int .u8) zs) :: matO 22 3 g_41 vs4 (List.set ys4 u.toNat (List.set (ix [] ys4 u) q.toNat (hjV (sdC 5 zs) (sdH 5 zs) k)))) := hS
            refine Wx.nil ?_
            refine W.regT 13 mixedMu_ (by kernel_rfl) ?_
            refine Wx.rd (v := .slice (some ⟨g_41, 0, none⟩) ((sdH 5 zs).length + 1) ((sdH 5 zs).length + 1)) (rd_move rfl) rfl ?_
            refine Wx.rd (v := .int .i64 q) (rd_move rfl) rfl ?_
            refine Wx.rd (v := .pointer (some ⟨g_41, q.toNat, none⟩)) (rd_indexM rfl rfl Try.underlying37 Try.sizeOf22 (by first | assumption | omega | (simp only [List.length_set, List.length_append, List.length_cons, List.length_nil, List.length_replicate]; omega)) (by first | assumption | omega | (simp only [List.length_set, List.length_append, List.length_cons, List.length_nil, List.length_replicate]; omega))) rfl ?_
            obtain ⟨v_178, hv_179⟩ := mat_v (vs := vs4) (i := q.toNat) (by first | assumption | omega | (simp only [List.length_set, List.length_append, List.length_cons, List.length_nil, List.length_replicate]; omega))
            refine Wx.rd (v := v_178) (rd_loadM hS 10 (e2 := 22) (e1 := 3) (g := g_41) (vs := vs4) (yss := List.set ys4 u.toNat (List.set (ix [] ys4 u) q.toNat (hjV (sdC 5 zs) (sdH 5 zs) k))) rfl hv_179 rfl Try.isAgg22) rfl ?_
            refine Wx.rd (v := .int .i64 u) (rd_move rfl) rfl ?_
            refine Wx.rd (v := .slice (some ⟨g_41, 0, none⟩) ((sdH 5 zs).length + 1) ((sdH 5 zs).length + 1)) (rd_move rfl) rfl ?_
            refine Wx.rd (v := .int .i64 u) (rd_move rfl) rfl ?_
            refine Wx.rd (v := .pointer (some ⟨g_41, u.toNat, none⟩)) (rd_indexM rfl rfl Try.underlying37 Try.sizeOf22 (by first | assumption | omega | (simp only [List.length_set, List.length_append, List.length_cons, List.length_nil, List.length_replicate]; omega)) (by first | assumption | omega | (simp only [List.length_set, List.length_append, List.length_cons, List.length_nil, List.length_replicate]; omega))) rfl ?_
            obtain ⟨v_180, hv_181⟩ := mat_v (vs := vs4) (i := u.toNat) (by first | assumption | omega | (simp only [List.length_set, List.length_append, List.length_cons, List.length_nil, List.length_replicate]; omega))
            refine Wx.rd (v := v_180) (rd_loadM hS 10 (e2 := 22) (e1 := 3) (g := g_41) (vs := vs4) (yss := List.set ys4 u.toNat (List.set (ix [] ys4 u) q.toNat (hjV (sdC 5 zs) (sdH 5 zs) k))) rfl hv_181 rfl Try.isAgg22) rfl ?_
            refine Wx.rd (v := .int .i64 q) (rd_move rfl) rfl ?_
            refine Wx.indexR hS (10 + 1 + u.toNat) (mat_row (e2 := 22) (g := g_41) (vs := vs4) (yss := List.set ys4 u.toNat (List.set (ix [] ys4 u) q.toNat (hjV (sdC 5 zs) (sdH 5 zs) k))) (i := u.toNat) rfl hv_181 (ix_get (d := []) (by first | assumption | omega | (simp only [List.length_set, List.length_append, List.length_cons, List.length_nil, List.length_replicate]; omega)) (by first | assumption | omega | (simp only [List.length_set, List.length_append, List.length_cons, List.length_nil, List.length_replicate]; omega)))) rfl rfl Try.underlying22 Try.sizeOf3 (by first | assumption | omega | (simp only [List.length_set, List.length_append, List.length_cons, List.length_nil, List.length_replicate]; omega)) (by first | assumption | omega | (simp only [List.length_set, List.length_append, List.length_cons, List.length_nil, List.length_replicate]; omega)) rfl (fun g_182 hg_183 => ?_)
            refine Wx.rd (v := .int .i64 (hjV (sdC 5 zs) (sdH 5 zs) k)) (Rd.to (v := .int .i64 (ix 0 (ix [] (List.set ys4 u.toNat (List.set (ix [] ys4 u) q.toNat (hjV (sdC 5 zs) (sdH 5 zs) k))) u) q)) (rd_loadRI' hS (10 + 1 + u.toNat) (mat_row (e2 := 22) (g := g_41) (vs := vs4) (yss := List.set ys4 u.toNat (List.set (ix [] ys4 u) q.toNat (hjV (sdC 5 zs) (sdH 5 zs) k))) (i := u.toNat) rfl hv_181 (ix_get (d := []) (by first | assumption | omega | (simp only [List.length_set, List.length_append, List.length_cons, List.length_nil, List.length_replicate]; omega)) (by first | assumption | omega | (simp only [List.length_set, List.length_append, List.length_cons, List.length_nil, List.length_replicate]; omega)))) hg_183 rfl (by first | assumption | omega | (simp only [List.length_set, List.length_append, List.length_cons, List.length_nil, List.length_replicate]; omega)) (by first | assumption | omega | (simp only [List.length_set, List.length_append, List.length_cons, List.length_nil, List.length_replicate]; omega)) Try.isAgg3 Try.sizeOf3) (congrArg (Value.int .i64) (show ((hjV (sdC 5 zs) (sdH 5 zs) k) : Int) = (ix 0 (ix [] (List.set ys4 u.toNat (List.set (ix [] ys4 u) q.toNat (hjV (sdC 5 zs) (sdH 5 zs) k))) u) q : Int) from (by have hq := hm1.2 u q u0 q0; rw [if_pos ⟨rfl, rfl⟩] at hq; exact hq.symm)).symm)) rfl ?_
            have bd_184 := bd_i64 (hS.rowInK' (10 + 1 + u.toNat) (mat_row (e2 := 22) (g := g_41) (vs := vs4) (yss := List.set ys4 u.toNat (List.set (ix [] ys4 u) q.toNat (hjV (sdC 5 zs) (sdH 5 zs) k))) (i := u.toNat) rfl hv_181 (ix_get (d := []) (by first | assumption | omega | (simp only [List.length_set, List.length_append, List.length_cons, List.length_nil, List.length_replicate]; omega)) (by first | assumption | omega | (simp only [List.length_set, List.length_append, List.length_cons, List.length_nil, List.length_replicate]; omega)))) (by first | assumption | omega | (simp only [List.length_set, List.length_append, List.length_cons, List.length_nil, List.length_replicate]; omega)) (by first | assumption | omega | (simp only [List.length_set, List.length_append, List.length_cons, List.length_nil, List.length_replicate]; omega)) : InK .i64 (ix 0 (ix [] (List.set ys4 u.toNat (List.set (ix [] ys4 u) q.toNat (hjV (sdC 5 zs) (sdH 5 zs) k))) u) q))
            refine Wx.indexR hS (10 + 1 + q.toNat) (mat_row (e2 := 22) (g := g_41) (vs := vs4) (yss := List.set ys4 u.toNat (List.set (ix [] ys4 u) q.toNat (hjV (sdC 5 zs) (sdH 5 zs) k))) (i := q.toNat) rfl hv_179 (ix_get (d := []) (by first | assumption | omega | (simp only [List.length_set, List.length_append, List.length_cons, List.length_nil, List.length_replicate]; omega)) (by first | assumption | omega | (simp only [List.length_set, List.length_append, List.length_cons, List.length_nil, List.length_replicate]; omega)))) rfl rfl Try.underlying22 Try.sizeOf3 (by first | assumption | omega | (simp only [List.length_set, List.length_append, List.length_cons, List.length_nil, List.length_replicate]; omega)) (by first | assumption | omega | (simp only [List.length_set, List.length_append, List.length_cons, List.length_nil, List.length_replicate]; omega)) rfl (fun g_185 hg_186 => ?_)
            refine Wx.nilQ (fun w_187 hx_188 => ?_)
            have hS := hS.ext hx_188
            refine Wx.storeM (e2 := 22) (e1 := 3) (g := g_41) (vs := vs4) (yss := List.set ys4 u.toNat (List.set (ix [] ys4 u) q.toNat (hjV (sdC 5 zs) (sdH 5 zs) k))) (i := q.toNat) (j := u.toNat) hS 10 rfl hv_179 (ix_get (d := []) (by first | assumption | omega | (simp only [List.length_set, List.length_append, List.length_cons, List.length_nil, List.length_replicate]; omega)) (by first | assumption | omega | (simp only [List.length_set, List.length_append, List.length_cons, List.length_nil, List.length_replicate]; omega))) hg_186 rfl (by first | assumption | omega | (simp only [List.length_set, List.length_append, List.length_cons, List.length_nil, List.length_replicate]; omega)) rfl hjK Try.sizeOf3 (fun w_189 hz_190 hS => ?_)
            have hS : St _ _ w_189 (.box g17 77 [ca, cb] :: .row (tI .i64) 3 ca (ix [] ys2 (teA (sdC 5 zs) (sdH 5 zs) k)) :: .row (tI .i64) 3 cb (ix [] ys2 (teB (sdC 5 zs) (sdH 5 zs) k)) :: .box g_68 74 [.int .i64 ((ix (0, 0) (treeV (sdC 5 zs) (sdH 5 zs)) k).1), .int .i64 ((ix (0, 0) (treeV (sdC 5 zs) (sdH 5 zs)) k).2)] :: .row (tI .i64) 3 v_33 (sillsE (sdR 5 zs) (sdC 5 zs) (sdH 5 zs)) :: .row (tP (tI .i64) (tI .i64)) 74 v_27 (treeV (sdC 5 zs) (sdH 5 zs)) :: Ob.v (tSl (tI .i64)) ((sdH 5 zs) ++ [0]) r_18 :: Ob.v (tSl (tI .i64)) (sdH 5 zs) v_8 :: .box g_11 24 [.int .i64 (sdR 5 zs), .int .i64 (sdC 5 zs), v_8] :: .box g_1 60 (List.map (Value.int .u8) zs) :: matO 22 3 g_41 vs4 (List.set (List.set ys4 u.toNat (List.set (ix [] ys4 u) q.toNat (hjV (sdC 5 zs) (sdH 5 zs) k))) q.toNat (List.set (ix [] (List.set ys4 u.toNat (List.set (ix [] ys4 u) q.toNat (hjV (sdC 5 zs) (sdH 5 zs) k))) q) u.toNat (hjV (sdC 5 zs) (sdH 5 zs) k)))) := hS
            refine Wx.nil ?_
            refine W.reg ?_
            refine Wx.rd (v := .int .i64 (q + 1)) (rd_add rfl rfl (up_in q0 c5 hn36)) rfl ?_
            refine Wx.rd (v := .int .i64 (q + 1)) (rd_move rfl) rfl ?_
            refine Wx.nil ?_
            refine ⟨(q + 1, vs4, List.set (List.set ys4 u.toNat (List.set (ix [] ys4 u) q.toNat (hjV (sdC 5 zs) (sdH 5 zs) k))) q.toNat (List.set (ix [] (List.set ys4 u.toNat (List.set (ix [] ys4 u) q.toNat (hjV (sdC 5 zs) (sdH 5 zs) k))) q) u.toNat (hjV (sdC 5 zs) (sdH 5 zs) k))), (up_me c5), ?_, ?_, Out.look rfl (Out.hav rfl (Out.look rfl Out.self))⟩
            · exact ⟨hS, (up_ge q0), (up_suc c5), (fu_hit q2 u0 hul q0 hql (by rw [c6.1, c6.2]; rfl) hm2.1 hm1.2 hm2.2), (q3)⟩
            · exact ⟨rfl, trivial⟩
          · -- no
            try simp only [Bool.and_eq_true, Bool.or_eq_true, Bool.not_eq_true', Bool.and_eq_false_iff, Bool.or_eq_false_iff, Bool.not_eq_false', decide_eq_true_eq, decide_eq_false_iff_not, not_or, Bool.false_eq_true, Bool.true_eq_false, false_or, or_false, not_false_eq_true] at c6
            refine W.skip ?_
            refine W.reg ?_
            refine Wx.rd (v := .int .i64 (q + 1)) (rd_add rfl rfl (up_in q0 c5 hn36)) rfl ?_
            refine Wx.rd (v := .int .i64 (q + 1)) (rd_move rfl) rfl ?_
            refine Wx.nil ?_
            refine ⟨(q + 1, vs4, ys4), (up_me c5), ?_, ?_, Out.look rfl (Out.hav rfl (Out.look rfl Out.self))⟩
            · exact ⟨hS, (up_ge q0), (up_suc c5), (fu_miss q2 (by rcases c6 with z | z <;> simp [z])), (q3)⟩
            · exact ⟨rfl, trivial⟩
        · -- no
          refine W.exit rfl ?_
          refine W.reg ?_
          refine Wx.rd (v := .int .i64 (u + 1)) (rd_add rfl rfl (up_in u0 c4 hn36)) rfl ?_
          refine Wx.rd (v := .int .i64 (u + 1)) (rd_move rfl) rfl ?_
          refine Wx.nil ?_
          refine ⟨(u + 1, vs4, ys4), (up_me c4), ?_, ?_, Out.look rfl (Out.hav rfl (Out.look rfl Out.self))⟩
          · exact ⟨hS, (up_ge u0), (up_suc c4), (fu_row q2 (ge_suc c5)), (by first | omega | assumption)⟩
          · exact ⟨rfl, trivial⟩
      · -- no
        refine W.exit rfl ?_
        refine W.reg ?_
        refine Wx.rd (v := .int .i64 (k + 1)) (rd_add rfl rfl (in_i64 (by omega) (by omega))) rfl ?_
        refine Wx.rd (v := .int .i64 (k + 1)) (rd_move rfl) rfl ?_
        refine Wx.nil ?_
        refine ⟨(k + 1, vs3, ys3), (by show ((treeV (sdC 5 zs) (sdH 5 zs)).length - (k + 1)).toNat < ((treeV (sdC 5 zs) (sdH 5 zs)).length - k).toNat; omega), ?_, ?_, Out.look rfl (Out.hav rfl (Out.look rfl (Out.hav rfl (Out.look rfl Out.self))))⟩
        · exact ⟨St.tl (St.tl (St.tl (hS.tl))), (by first | omega | assumption), (by first | omega | assumption), (fu_end p_ok k2 u2 k0 c2 (by omega)), (by first | omega | assumption)⟩
        · exact ⟨rfl, trivial⟩
    · -- no
      refine W.exit rfl ?_
      refine W.seq ?_
      refine W.reg ?_
      refine Wx.rd (v := .agg #[.int .i64 (sdR 5 zs), .int .i64 (sdC 5 zs), v_8]) (rd_loadXs (ds := [.int .i64 (sdR 5 zs), .int .i64 (sdC 5 zs), v_8]) hS 4 rfl rfl rfl rfl Try.isAgg24 Try.sizeOf24) rfl ?_
      refine Wx.callF (run_callF Try.call52 rfl) (F52 (in_i64 (by omega) (by omega)) (in_i64 (by omega) (by omega)) (hS.v 3 rfl) p_ok hS.fb_lt) rfl ?_
      rintro r_191 w_192 hx_193 ⟨wl, hwl, _, rfl, hv_194⟩
      have ln_196 := hv_194.len63
      have hS := hS.ext hx_193
      have hS := hS.add hv_194
      refine Wx.rd (v := r_191) (rd_assign rfl) rfl ?_
      refine Wx.nil ?_
      refine W.seq ?_
      refine W.seq ?_
      refine W.reg ?_
      refine Wx.rd (v := .slice (some ⟨g_41, 0, none⟩) ((sdH 5 zs).length + 1) ((sdH 5 zs).length + 1)) (rd_move rfl) rfl ?_
      refine Wx.rd (v := .int .i64 ((((sdH 5 zs).length + 1) : Nat) : Int)) (rd_len rfl Try.underlying37) rfl ?_
      refine Wx.rd (v := .int .i64 0) (rd_move rfl) rfl ?_
      refine Wx.nil ?_
      refine W.block ?_
      refine W.loop [2, 21, 22, 23, 24, 203, 204, 205, 206, 207, 208, 209, 210, 211, 212, 213, 214, 215, 216, 217, 218, 219, 220, 221, 222, 223, 224, 225, 226, 227, 228, 229, 230, 231, 232, 233, 234, 235, 236, 237, 238, 239, 240, 241, 242, 243, 244, 245, 246, 247, 248, 249, 250, 251, 252, 253, 254, 255, 256, 257, 258, 259, 260, 261, 262, 263, 264, 265, 266, 267, 268, 269, 270, 271, 272, 273, 274, 275, 276, 277, 278, 279, 280, 281, 282, 283, 284, 285, 286, 287, 288, 289, 290, 291, 292, 293, 294, 295, 296, 297, 298, 299] (fun (a : Int) => [(203, .int .i64 a)]) (fun (a : Int) w' => St w O w' (Ob.v (tSl (tSl (tI .i64))) wl r_191 :: .row (tI .i64) 3 v_33 (sillsE (sdR 5 zs) (sdC 5 zs) (sdH 5 zs)) :: .row (tP (tI .i64) (tI .i64)) 74 v_27 (treeV (sdC 5 zs) (sdH 5 zs)) :: Ob.v (tSl (tI .i64)) ((sdH 5 zs) ++ [0]) r_18 :: Ob.v (tSl (tI .i64)) (sdH 5 zs) v_8 :: .box g_11 24 [.int .i64 (sdR 5 zs), .int .i64 (sdC 5 zs), v_8] :: .box g_1 60 (List.map (Value.int .u8) zs) :: matO 22 3 g_41 vs2 ys2) ∧ 0 ≤ a ∧ a ≤ (((sdH 5 zs).length : Int) + 1)) (fun (a : Int) => ((((sdH 5 zs).length : Int) + 1) - a).toNat) 0 ⟨rfl, trivial⟩ ⟨hS, (by first | omega | simp), (by first | omega | simp)⟩ ?_
      rintro a u_198 w_197 ⟨hS, g0, g1⟩
      refine W.seq ?_
      refine W.reg ?_
      refine Wx.rd (v := .bool (decide (a < ((((sdH 5 zs).length + 1) : Nat) : Int)))) (rd_lss rfl rfl) rfl ?_
      refine Wx.nil ?_
      refine W.seq ?_
      refine W.condD rfl (fun c7 => ?_) (fun c7 => ?_)
      · -- yes
        have hml6 := k2.1.1
        have hrx := k2.1.2 a g0 (by omega)
        have hwl1 := hwl.1.1
        have hwx := hwl.1.2 a g0 (by omega)
        refine W.skip ?_
        refine W.seq ?_
        refine W.block ?_
        refine W.seq ?_
        refine W.reg ?_
        refine Wx.rd (v := .int .i64 a) (rd_move rfl) rfl ?_
        refine Wx.rd (v := .int .i64 a) (rd_assign rfl) rfl ?_
        refine Wx.nil ?_
        refine W.seq ?_
        refine W.seq ?_
        refine W.reg ?_
        refine Wx.rd (v := .slice (some ⟨g_41, 0, none⟩) ((sdH 5 zs).length + 1) ((sdH 5 zs).length + 1)) (rd_move rfl) rfl ?_
        refine Wx.rd (v := .int .i64 ((((sdH 5 zs).length + 1) : Nat) : Int)) (rd_len rfl Try.underlying37) rfl ?_
        refine Wx.rd (v := .int .i64 0) (rd_move rfl) rfl ?_
        refine Wx.nil ?_
        refine W.block ?_
        refine W.loop [2, 22, 23, 24, 208, 209, 210, 211, 212, 213, 214, 215, 216, 217, 218, 219, 220, 221, 222, 223, 224, 225, 226, 227, 228, 229, 230, 231, 232, 233, 234, 235, 236, 237, 238, 239, 240, 241, 242, 243, 244, 245, 246, 247, 248, 249, 250, 251, 252, 253, 254, 255, 256, 257, 258, 259, 260, 261, 262, 263, 264, 265, 266, 267, 268, 269, 270, 271, 272, 273, 274, 275, 276, 277, 278, 279, 280, 281] (fun (b : Int) => [(208, .int .i64 b)]) (fun (b : Int) w' => St w O w' (Ob.v (tSl (tSl (tI .i64))) wl r_191 :: .row (tI .i64) 3 v_33 (sillsE (sdR 5 zs) (sdC 5 zs) (sdH 5 zs)) :: .row (tP (tI .i64) (tI .i64)) 74 v_27 (treeV (sdC 5 zs) (sdH 5 zs)) :: Ob.v (tSl (tI .i64)) ((sdH 5 zs) ++ [0]) r_18 :: Ob.v (tSl (tI .i64)) (sdH 5 zs) v_8 :: .box g_11 24 [.int .i64 (sdR 5 zs), .int .i64 (sdC 5 zs), v_8] :: .box g_1 60 (List.map (Value.int .u8) zs) :: matO 22 3 g_41 vs2 ys2) ∧ 0 ≤ b ∧ b ≤ (((sdH 5 zs).length : Int) + 1)) (fun (b : Int) => ((((sdH 5 zs).length : Int) + 1) - b).toNat) 0 ⟨rfl, trivial⟩ ⟨hS, (by first | omega | simp), (by first | omega | simp)⟩ ?_
        rintro b u_200 w_199 ⟨hS, j0, j1⟩
        refine W.seq ?_
        refine W.reg ?_
        refine Wx.rd (v := .bool (decide (b < ((((sdH 5 zs).length + 1) : Nat) : Int)))) (rd_lss rfl rfl) rfl ?_
        refine Wx.nil ?_
        refine W.seq ?_
        refine W.condD rfl (fun c8 => ?_) (fun c8 => ?_)
        · -- yes
          have hwt : ix 0 (ix [] wl a) b = betwV (sdC 5 zs) (sdH 5 zs) a b := fw_end p_ok hwl rfl g0 (by omega) j0 (by omega)
          have hft : a ≠ b → ix 0 (ix [] ys2 a) b = betwV (sdC 5 zs) (sdH 5 zs) a b := fun hne => ft_end p_ok k2 (by omega) g0 (by omega) j0 (by omega) hne
          have hba := high_bd p_ok (x := a) ⟨by omega, by omega⟩
          have hbb := high_bd p_ok (x := b) ⟨by omega, by omega⟩
          have hnb : nearB (sdC 5 zs) ((sdH 5 zs).length : Int) a b = true → betwV (sdC 5 zs) (sdH 5 zs) a b ≤ max (highV (sdH 5 zs) a) (highV (sdH 5 zs) b) := fun hn => betw_near p_ok ⟨by omega, by omega⟩ ⟨by omega, by omega⟩ hn
          have hbt := (betw_bd p_ok (x := a) (y := b) ⟨by omega, by omega⟩ ⟨by omega, by omega⟩).1
          refine W.skip ?_
          refine W.seq ?_
          refine W.block ?_
          refine W.seq ?_
          refine W.reg ?_
          refine Wx.rd (v := .int .i64 b) (rd_move rfl) rfl ?_
          refine Wx.rd (v := .int .i64 b) (rd_assign rfl) rfl ?_
          refine Wx.nil ?_
          refine W.seq ?_
          refine W.seq ?_
          refine W.regQ mixedMu_ (by kernel_rfl) ?_
          refine Wx.rd (v := .int .i64 a) (rd_move rfl) rfl ?_
          refine Wx.rd (v := .int .i64 b) (rd_move rfl) rfl ?_
          refine Wx.rd (v := .bool (decide (a ≠ b))) (rd_neq rfl rfl) rfl ?_
          refine Wx.rd (v := .bool (decide (a ≠ b))) (rd_move rfl) rfl ?_
          refine Wx.cutQ (X := Unit) 41 [215, 216, 217, 218, 219, 220, 221, 222, 223, 224, 225, 226, 227, 228, 229, 230, 231, 232, 233, 234, 235, 236, 237, 238, 239, 240, 241, 242, 243, 244, 245, 246, 247, 248, 249, 250, 251, 252, 253, 254, 255] (fun _ => [(255, .bool (decide (a ≠ b) && (nearB (sdC 5 zs) (sdH 5 zs).length a b && false)))]) (fun _ => True) ?_ ?_
          · rcases Bool.eq_false_or_eq_true (decide (a ≠ b)) with g_201 | g_201
            · -- True
              have gp_202 := of_decide_eq_true g_201
              refine Wx.gyes rfl rfl (congrArg Value.bool g_201) ?_
              refine Wx.rd (v := .slice (some ⟨g_41, 0, none⟩) ((sdH 5 zs).length + 1) ((sdH 5 zs).length + 1)) (rd_move rfl) rfl ?_
              refine Wx.gyes rfl rfl (congrArg Value.bool g_201) ?_
              refine Wx.rd (v := .int .i64 a) (rd_move rfl) rfl ?_
              refine Wx.gyes rfl rfl (congrArg Value.bool g_201) ?_
              refine Wx.rd (v := .pointer (some ⟨g_41, a.toNat, none⟩)) (rd_indexM rfl rfl Try.underlying37 Try.sizeOf22 (by first | assumption | omega | (simp only [List.length_set, List.length_append, List.length_cons, List.length_nil, List.length_replicate]; omega)) (by first | assumption | omega | (simp only [List.length_set, List.length_append, List.length_cons, List.length_nil, List.length_replicate]; omega))) rfl ?_
              refine Wx.gyes rfl rfl (congrArg Value.bool g_201) ?_
              obtain ⟨v_203, hv_204⟩ := mat_v (vs := vs2) (i := a.toNat) (by first | assumption | omega | (simp only [List.length_set, List.length_append, List.length_cons, List.length_nil, List.length_replicate]; omega))
              refine Wx.rd (v := v_203) (rd_loadM hS 7 (e2 := 22) (e1 := 3) (g := g_41) (vs := vs2) (yss := ys2) rfl hv_204 rfl Try.isAgg22) rfl ?_
              refine Wx.gyes rfl rfl (congrArg Value.bool g_201) ?_
              refine Wx.rd (v := .int .i64 b) (rd_move rfl) rfl ?_
              refine Wx.gyes rfl rfl (congrArg Value.bool g_201) ?_
              refine Wx.indexR hS (7 + 1 + a.toNat) (mat_row (e2 := 22) (g := g_41) (vs := vs2) (yss := ys2) (i := a.toNat) rfl hv_204 (ix_get (d := []) (by first | assumption | omega | (simp only [List.length_set, List.length_append, List.length_cons, List.length_nil, List.length_replicate]; omega)) (by first | assumption | omega | (simp only [List.length_set, List.length_append, List.length_cons, List.length_nil, List.length_replicate]; omega)))) rfl rfl Try.underlying22 Try.sizeOf3 (by first | assumption | omega | (simp only [List.length_set, List.length_append, List.length_cons, List.length_nil, List.length_replicate]; omega)) (by first | assumption | omega | (simp only [List.length_set, List.length_append, List.length_cons, List.length_nil, List.length_replicate]; omega)) rfl (fun g_205 hg_206 => ?_)
              refine Wx.gyes rfl rfl (congrArg Value.bool g_201) ?_
              refine Wx.rd (v := .int .i64 (ix 0 (ix [] ys2 a) b)) (rd_loadRI' hS (7 + 1 + a.toNat) (mat_row (e2 := 22) (g := g_41) (vs := vs2) (yss := ys2) (i := a.toNat) rfl hv_204 (ix_get (d := []) (by first | assumption | omega | (simp only [List.length_set, List.length_append, List.length_cons, List.length_nil, List.length_replicate]; omega)) (by first | assumption | omega | (simp only [List.length_set, List.length_append, List.length_cons, List.length_nil, List.length_replicate]; omega)))) hg_206 rfl (by first | assumption | omega | (simp only [List.length_set, List.length_append, List.length_cons, List.length_nil, List.length_replicate]; omega)) (by first | assumption | omega | (simp only [List.length_set, List.length_append, List.length_cons, List.length_nil, List.length_replicate]; omega)) Try.isAgg3 Try.sizeOf3) rfl ?_
              have bd_207 := bd_i64 (hS.rowInK' (7 + 1 + a.toNat) (mat_row (e2 := 22) (g := g_41) (vs := vs2) (yss := ys2) (i := a.toNat) rfl hv_204 (ix_get (d := []) (by first | assumption | omega | (simp only [List.length_set, List.length_append, List.length_cons, List.length_nil, List.length_replicate]; omega)) (by first | assumption | omega | (simp only [List.length_set, List.length_append, List.length_cons, List.length_nil, List.length_replicate]; omega)))) (by first | assumption | omega | (simp only [List.length_set, List.length_append, List.length_cons, List.length_nil, List.length_replicate]; omega)) (by first | assumption | omega | (simp only [List.length_set, List.length_append, List.length_cons, List.length_nil, List.length_replicate]; omega)) : InK .i64 (ix 0 (ix [] ys2 a) b))
              refine Wx.gyes rfl rfl (congrArg Value.bool g_201) ?_
              refine Wx.rd (v := r_191) (rd_move rfl) rfl ?_
              refine Wx.gyes rfl rfl (congrArg Value.bool g_201) ?_
              refine Wx.rd (v := .int .i64 a) (rd_move rfl) rfl ?_
              refine Wx.gyes rfl rfl (congrArg Value.bool g_201) ?_
              refine Wx.ex (rd_index [] (hS.v 0 rfl) rfl rfl Try.underlying37 Try.sizeOf22 (by first | omega | (simp only [List.length_set, List.length_append, List.length_cons, List.length_nil, List.length_replicate]; omega)) (by first | omega | (simp only [List.length_set, List.length_append, List.length_cons, List.length_nil, List.length_replicate]; omega))) rfl (fun p_208 hp_209 => ?_)
              refine Wx.gyes rfl rfl (congrArg Value.bool g_201) ?_
              refine Wx.ex (rd_load hp_209 rfl Try.isAgg22 Try.sizeOf22) rfl (fun v_210 hv_211 => ?_)
              have ln_212 := hv_211.len63
              have hS := hS.add hv_211
              refine Wx.gyes rfl rfl (congrArg Value.bool g_201) ?_
              refine Wx.rd (v := .int .i64 b) (rd_move rfl) rfl ?_
              refine Wx.gyes rfl rfl (congrArg Value.bool g_201) ?_
              refine Wx.ex (rd_index 0 (hS.v 0 rfl) rfl rfl Try.underlying22 Try.sizeOf3 (by first | omega | (simp only [List.length_set, List.length_append, List.length_cons, List.length_nil, List.length_replicate]; omega)) (by first | omega | (simp only [List.length_set, List.length_append, List.length_cons, List.length_nil, List.length_replicate]; omega))) rfl (fun p_214 hp_215 => ?_)
              refine Wx.gyes rfl rfl (congrArg Value.bool g_201) ?_
              refine Wx.rd (v := .int .i64 (ix 0 (ix [] wl a) b)) (rd_loadI hp_215 rfl Try.isAgg3 Try.sizeOf3) rfl ?_
              have bd_216 := bd_i64 hp_215.inK
              refine Wx.gyes rfl rfl (congrArg Value.bool g_201) ?_
              refine Wx.rd (v := .bool false) (Rd.to (v := .bool (decide ((ix 0 (ix [] ys2 a) b) ≠ (ix 0 (ix [] wl a) b)))) (rd_neq rfl rfl) (congrArg (Value.bool) (show (false : Bool) = (decide ((ix 0 (ix [] ys2 a) b) ≠ (ix 0 (ix [] wl a) b)) : Bool) from (decide_eq_false (fun z => z ((hft (by assumption)).trans hwt.symm))).symm).symm)) rfl ?_
              refine Wx.gyes rfl rfl (congrArg Value.bool g_201) ?_
              refine Wx.rd (v := .bool false) (rd_move rfl) rfl ?_
              refine Wx.gyes rfl rfl rfl ?_
              refine Wx.rd (v := .agg #[.int .i64 (sdR 5 zs), .int .i64 (sdC 5 zs), v_8]) (rd_loadXs (ds := [.int .i64 (sdR 5 zs), .int .i64 (sdC 5 zs), v_8]) hS 6 rfl rfl rfl rfl Try.isAgg24 Try.sizeOf24) rfl ?_
              refine Wx.gyes rfl rfl rfl ?_
              refine Wx.rd (v := .int .i64 a) (rd_move rfl) rfl ?_
              refine Wx.gyes rfl rfl rfl ?_
              refine Wx.rd (v := .int .i64 b) (rd_move rfl) rfl ?_
              refine Wx.gyes rfl rfl rfl ?_
              refine Wx.callV (v := .bool (nearB (sdC 5 zs) (sdH 5 zs).length a b)) (run_callF Try.call43 rfl) (fun w_217 hw_218 => (F43 (in_i64 (by omega) (by omega)) (in_i64 (by omega) (by omega)) ((hS.v 5 rfl).ext hw_218) (in_i64 (by omega) (by omega)) (in_i64 (by omega) (by omega)) ⟨by omega, by omega⟩ ⟨by omega, by omega⟩ ⟨c1_, c2_⟩ n36)) rfl ?_
              refine Wx.gyes rfl rfl rfl ?_
              refine Wx.rd (v := .bool (nearB (sdC 5 zs) (sdH 5 zs).length a b)) (rd_move rfl) rfl ?_
              refine Wx.cutQ (X := Unit) 18 [236, 237, 238, 239, 240, 241, 242, 243, 244, 245, 246, 247, 248, 249, 250, 251, 252, 253] (fun _ => [(253, .bool (nearB (sdC 5 zs) (sdH 5 zs).length a b && false))]) (fun _ => True) ?_ ?_
              · rcases Bool.eq_false_or_eq_true (nearB (sdC 5 zs) (sdH 5 zs).length a b) with g_219 | g_219
                · -- True
                  have gp_220 := g_219
                  try simp only [Bool.and_eq_true, Bool.or_eq_true, Bool.not_eq_true', Bool.and_eq_false_iff, Bool.or_eq_false_iff, Bool.not_eq_false', decide_eq_true_eq, decide_eq_false_iff_not, not_or, Bool.false_eq_true, Bool.true_eq_false, false_or, or_false, not_false_eq_true] at gp_220
                  refine Wx.gyes rfl rfl (congrArg Value.bool g_219) ?_
                  refine Wx.rd (v := r_18) (rd_move rfl) rfl ?_
                  refine Wx.gyes rfl rfl (congrArg Value.bool g_219) ?_
                  refine Wx.rd (v := .int .i64 a) (rd_move rfl) rfl ?_
                  refine Wx.gyes rfl rfl (congrArg Value.bool g_219) ?_
                  refine Wx.ex (rd_index 0 (hS.v 4 rfl) rfl rfl Try.underlying22 Try.sizeOf3 (by first | omega | (simp only [List.length_set, List.length_append, List.length_cons, List.length_nil, List.length_replicate]; omega)) (by first | omega | (simp only [List.length_set, List.length_append, List.length_cons, List.length_nil, List.length_replicate]; omega))) rfl (fun p_221 hp_222 => ?_)
                  refine Wx.gyes rfl rfl (congrArg Value.bool g_219) ?_
                  refine Wx.rd (v := .int .i64 (highV (sdH 5 zs) a)) (Rd.to (v := .int .i64 (ix 0 ((sdH 5 zs) ++ [0]) a)) (rd_loadI hp_222 rfl Try.isAgg3 Try.sizeOf3) (congrArg (Value.int .i64) (show (highV (sdH 5 zs) a : Int) = (ix 0 ((sdH 5 zs) ++ [0]) a : Int) from (highs_ix (by omega) (by omega)).symm).symm)) rfl ?_
                  have bd_223 := bd_i64 hp_222.inK
                  refine Wx.gyes rfl rfl (congrArg Value.bool g_219) ?_
                  refine Wx.rd (v := r_18) (rd_move rfl) rfl ?_
                  refine Wx.gyes rfl rfl (congrArg Value.bool g_219) ?_
                  refine Wx.rd (v := .int .i64 b) (rd_move rfl) rfl ?_
                  refine Wx.gyes rfl rfl (congrArg Value.bool g_219) ?_
                  refine Wx.ex (rd_index 0 (hS.v 4 rfl) rfl rfl Try.underlying22 Try.sizeOf3 (by first | omega | (simp only [List.length_set, List.length_append, List.length_cons, List.length_nil, List.length_replicate]; omega)) (by first | omega | (simp only [List.length_set, List.length_append, List.length_cons, List.length_nil, List.length_replicate]; omega))) rfl (fun p_224 hp_225 => ?_)
                  refine Wx.gyes rfl rfl (congrArg Value.bool g_219) ?_
                  refine Wx.rd (v := .int .i64 (highV (sdH 5 zs) b)) (Rd.to (v := .int .i64 (ix 0 ((sdH 5 zs) ++ [0]) b)) (rd_loadI hp_225 rfl Try.isAgg3 Try.sizeOf3) (congrArg (Value.int .i64) (show (highV (sdH 5 zs) b : Int) = (ix 0 ((sdH 5 zs) ++ [0]) b : Int) from (highs_ix (by omega) (by omega)).symm).symm)) rfl ?_
                  have bd_226 := bd_i64 hp_225.inK
                  refine Wx.gyes rfl rfl (congrArg Value.bool g_219) ?_
                  refine Wx.rd (v := .int .i64 (max (highV (sdH 5 zs) a) (highV (sdH 5 zs) b))) (rd_max rfl rfl) rfl ?_
                  refine Wx.gyes rfl rfl (congrArg Value.bool g_219) ?_
                  refine Wx.rd (v := .slice (some ⟨g_41, 0, none⟩) ((sdH 5 zs).length + 1) ((sdH 5 zs).length + 1)) (rd_move rfl) rfl ?_
                  refine Wx.gyes rfl rfl (congrArg Value.bool g_219) ?_
                  refine Wx.rd (v := .int .i64 a) (rd_move rfl) rfl ?_
                  refine Wx.gyes rfl rfl (congrArg Value.bool g_219) ?_
                  refine Wx.rd (v := .pointer (some ⟨g_41, a.toNat, none⟩)) (rd_indexM rfl rfl Try.underlying37 Try.sizeOf22 (by first | assumption | omega | (simp only [List.length_set, List.length_append, List.length_cons, List.length_nil, List.length_replicate]; omega)) (by first | assumption | omega | (simp only [List.length_set, List.length_append, List.length_cons, List.length_nil, List.length_replicate]; omega))) rfl ?_
                  refine Wx.gyes rfl rfl (congrArg Value.bool g_219) ?_
                  obtain ⟨v_227, hv_228⟩ := mat_v (vs := vs2) (i := a.toNat) (by first | assumption | omega | (simp only [List.length_set, List.length_append, List.length_cons, List.length_nil, List.length_replicate]; omega))
                  refine Wx.rd (v := v_227) (rd_loadM hS 8 (e2 := 22) (e1 := 3) (g := g_41) (vs := vs2) (yss := ys2) rfl hv_228 rfl Try.isAgg22) rfl ?_
                  refine Wx.gyes rfl rfl (congrArg Value.bool g_219) ?_
                  refine Wx.rd (v := .int .i64 b) (rd_move rfl) rfl ?_
                  refine Wx.gyes rfl rfl (congrArg Value.bool g_219) ?_
                  refine Wx.indexR hS (8 + 1 + a.toNat) (mat_row (e2 := 22) (g := g_41) (vs := vs2) (yss := ys2) (i := a.toNat) rfl hv_228 (ix_get (d := []) (by first | assumption | omega | (simp only [List.length_set, List.length_append, List.length_cons, List.length_nil, List.length_replicate]; omega)) (by first | assumption | omega | (simp only [List.length_set, List.length_append, List.length_cons, List.length_nil, List.length_replicate]; omega)))) rfl rfl Try.underlying22 Try.sizeOf3 (by first | assumption | omega | (simp only [List.length_set, List.length_append, List.length_cons, List.length_nil, List.length_replicate]; omega)) (by first | assumption | omega | (simp only [List.length_set, List.length_append, List.length_cons, List.length_nil, List.length_replicate]; omega)) rfl (fun g_229 hg_230 => ?_)
                  refine Wx.gyes rfl rfl (congrArg Value.bool g_219) ?_
                  refine Wx.rd (v := .int .i64 (ix 0 (ix [] ys2 a) b)) (rd_loadRI' hS (8 + 1 + a.toNat) (mat_row (e2 := 22) (g := g_41) (vs := vs2) (yss := ys2) (i := a.toNat) rfl hv_228 (ix_get (d := []) (by first | assumption | omega | (simp only [List.length_set, List.length_append, List.length_cons, List.length_nil, List.length_replicate]; omega)) (by first | assumption | omega | (simp only [List.length_set, List.length_append, List.length_cons, List.length_nil, List.length_replicate]; omega)))) hg_230 rfl (by first | assumption | omega | (simp only [List.length_set, List.length_append, List.length_cons, List.length_nil, List.length_replicate]; omega)) (by first | assumption | omega | (simp only [List.length_set, List.length_append, List.length_cons, List.length_nil, List.length_replicate]; omega)) Try.isAgg3 Try.sizeOf3) rfl ?_
                  have bd_231 := bd_i64 (hS.rowInK' (8 + 1 + a.toNat) (mat_row (e2 := 22) (g := g_41) (vs := vs2) (yss := ys2) (i := a.toNat) rfl hv_228 (ix_get (d := []) (by first | assumption | omega | (simp only [List.length_set, List.length_append, List.length_cons, List.length_nil, List.length_replicate]; omega)) (by first | assumption | omega | (simp only [List.length_set, List.length_append, List.length_cons, List.length_nil, List.length_replicate]; omega)))) (by first | assumption | omega | (simp only [List.length_set, List.length_append, List.length_cons, List.length_nil, List.length_replicate]; omega)) (by first | assumption | omega | (simp only [List.length_set, List.length_append, List.length_cons, List.length_nil, List.length_replicate]; omega)) : InK .i64 (ix 0 (ix [] ys2 a) b))
                  refine Wx.gyes rfl rfl (congrArg Value.bool g_219) ?_
                  refine Wx.rd (v := .bool false) (Rd.to (v := .bool (decide ((max (highV (sdH 5 zs) a) (highV (sdH 5 zs) b)) < (ix 0 (ix [] ys2 a) b)))) (rd_lss rfl rfl) (congrArg (Value.bool) (show (false : Bool) = (decide ((max (highV (sdH 5 zs) a) (highV (sdH 5 zs) b)) < (ix 0 (ix [] ys2 a) b)) : Bool) from (decide_eq_false (by have h1 := hft (by assumption); have h2 := hnb (by assumption); omega)).symm).symm)) rfl ?_
                  refine Wx.gyes rfl rfl rfl ?_
                  refine Wx.rd (v := .bool false) (rd_pickT (congrArg Value.bool g_219) rfl) rfl ?_
                  refine Wx.nilQ (fun _ _ => ⟨(), trivial, ⟨?_, trivial⟩, Out.look rfl Out.refl⟩)
                  show Value.bool false = Value.bool (nearB (sdC 5 zs) (sdH 5 zs).length a b && false)
                  first | rw [g_219, Bool.true_and] | (rw [g_219]; rfl)
                · -- False
                  have gp_232 := g_219
                  try simp only [Bool.and_eq_true, Bool.or_eq_true, Bool.not_eq_true', Bool.and_eq_false_iff, Bool.or_eq_false_iff, Bool.not_eq_false', decide_eq_true_eq, decide_eq_false_iff_not, not_or, Bool.false_eq_true, Bool.true_eq_false, false_or, or_false, not_false_eq_true] at gp_232
                  refine Wx.gnoB rfl rfl (congrArg Value.bool g_219) rfl rfl ?_
                  refine Wx.gnoB rfl rfl (congrArg Value.bool g_219) rfl rfl ?_
                  refine Wx.gnoB rfl rfl (congrArg Value.bool g_219) rfl rfl ?_
                  refine Wx.gnoB rfl rfl (congrArg Value.bool g_219) rfl rfl ?_
                  refine Wx.gnoB rfl rfl (congrArg Value.bool g_219) rfl rfl ?_
                  refine Wx.gnoB rfl rfl (congrArg Value.bool g_219) rfl rfl ?_
                  refine Wx.gnoB rfl rfl (congrArg Value.bool g_219) rfl rfl ?_
                  refine Wx.gnoB rfl rfl (congrArg Value.bool g_219) rfl rfl ?_
                  refine Wx.gnoB rfl rfl (congrArg Value.bool g_219) rfl rfl ?_
                  refine Wx.gnoB rfl rfl (congrArg Value.bool g_219) rfl rfl ?_
                  refine Wx.gnoB rfl rfl (congrArg Value.bool g_219) rfl rfl ?_
                  refine Wx.gnoB rfl rfl (congrArg Value.bool g_219) rfl rfl ?_
                  refine Wx.gnoB rfl rfl (congrArg Value.bool g_219) rfl rfl ?_
                  refine Wx.gnoB rfl rfl (congrArg Value.bool g_219) rfl rfl ?_
                  refine Wx.gnoB rfl rfl (congrArg Value.bool g_219) rfl rfl ?_
                  refine Wx.gnoB rfl rfl (congrArg Value.bool g_219) rfl rfl ?_
                  refine Wx.gnoB rfl rfl (congrArg Value.bool g_219) rfl rfl ?_
                  refine Wx.gyes rfl rfl rfl ?_
                  refine Wx.rd (v := .bool false) (rd_pickF (congrArg Value.bool g_219) rfl) rfl ?_
                  refine Wx.nilQ (fun _ _ => ⟨(), trivial, ⟨?_, trivial⟩, Out.look rfl Out.refl⟩)
                  show Value.bool false = Value.bool (nearB (sdC 5 zs) (sdH 5 zs).length a b && false)
                  first | rw [g_219, Bool.false_and] | (rw [g_219]; rfl)
              rintro ⟨⟩ u_234 -
              refine Wx.gyes rfl rfl (congrArg Value.bool g_201) ?_
              refine Wx.rd (v := .bool (nearB (sdC 5 zs) (sdH 5 zs).length a b && false)) (rd_pickF rfl rfl) rfl ?_
              refine Wx.rd (v := .bool (nearB (sdC 5 zs) (sdH 5 zs).length a b && false)) (rd_pickT (congrArg Value.bool g_201) rfl) rfl ?_
              refine Wx.nilQ (fun _ _ => ⟨(), trivial, ⟨?_, trivial⟩, Out.look rfl (Out.hav rfl (Out.look rfl Out.refl))⟩)
              show Value.bool (nearB (sdC 5 zs) (sdH 5 zs).length a b && false) = Value.bool (decide (a ≠ b) && (nearB (sdC 5 zs) (sdH 5 zs).length a b && false))
              first | rw [g_201, Bool.true_and] | (rw [g_201]; rfl)
            · -- False
              have gp_235 := of_decide_eq_false g_201
              refine Wx.gnoB rfl rfl (congrArg Value.bool g_201) rfl rfl ?_
              refine Wx.gnoB rfl rfl (congrArg Value.bool g_201) rfl rfl ?_
              refine Wx.gnoB rfl rfl (congrArg Value.bool g_201) rfl rfl ?_
              refine Wx.gnoB rfl rfl (congrArg Value.bool g_201) rfl rfl ?_
              refine Wx.gnoB rfl rfl (congrArg Value.bool g_201) rfl rfl ?_
              refine Wx.gnoB rfl rfl (congrArg Value.bool g_201) rfl rfl ?_
              refine Wx.gnoB rfl rfl (congrArg Value.bool g_201) rfl rfl ?_
              refine Wx.gnoB rfl rfl (congrArg Value.bool g_201) rfl rfl ?_
              refine Wx.gnoB rfl rfl (congrArg Value.bool g_201) rfl rfl ?_
              refine Wx.gnoB rfl rfl (congrArg Value.bool g_201) rfl rfl ?_
              refine Wx.gnoB rfl rfl (congrArg Value.bool g_201) rfl rfl ?_
              refine Wx.gnoB rfl rfl (congrArg Value.bool g_201) rfl rfl ?_
              refine Wx.gnoB rfl rfl (congrArg Value.bool g_201) rfl rfl ?_
              refine Wx.gnoB rfl rfl (congrArg Value.bool g_201) rfl rfl ?_
              refine Wx.gnoB rfl rfl (congrArg Value.bool g_201) rfl rfl ?_
              refine Wx.gnoB rfl rfl (congrArg Value.bool g_201) rfl rfl ?_
              refine Wx.gno rfl rfl rfl rfl ?_
              refine Wx.gno rfl rfl rfl rfl ?_
              refine Wx.gno rfl rfl rfl rfl ?_
              refine Wx.gno rfl rfl rfl rfl ?_
              refine Wx.gno rfl rfl rfl rfl ?_
              refine Wx.gno rfl rfl rfl rfl ?_
              refine Wx.gno rfl rfl rfl rfl ?_
              refine Wx.gno rfl rfl rfl rfl ?_
              refine Wx.gno rfl rfl rfl rfl ?_
              refine Wx.gno rfl rfl rfl rfl ?_
              refine Wx.gno rfl rfl rfl rfl ?_
              refine Wx.gno rfl rfl rfl rfl ?_
              refine Wx.gno rfl rfl rfl rfl ?_
              refine Wx.gno rfl rfl rfl rfl ?_
              refine Wx.gno rfl rfl rfl rfl ?_
              refine Wx.gno rfl rfl rfl rfl ?_
              refine Wx.gno rfl rfl rfl rfl ?_
              refine Wx.gno rfl rfl rfl rfl ?_
              refine Wx.gno rfl rfl rfl rfl ?_
              refine Wx.gno rfl rfl rfl rfl ?_
              refine Wx.gno rfl rfl rfl rfl ?_
              refine Wx.gno rfl rfl rfl rfl ?_
              refine Wx.gno rfl rfl rfl rfl ?_
              refine Wx.gnoB rfl rfl (congrArg Value.bool g_201) rfl rfl ?_
              refine Wx.rd (v := .bool false) (rd_pickF (congrArg Value.bool g_201) rfl) rfl ?_
              refine Wx.nilQ (fun _ _ => ⟨(), trivial, ⟨?_, trivial⟩, Out.look rfl Out.refl⟩)
              show Value.bool false = Value.bool (decide (a ≠ b) && (nearB (sdC 5 zs) (sdH 5 zs).length a b && false))
              first | rw [g_201, Bool.false_and] | (rw [g_201]; rfl)
          rintro ⟨⟩ u_237 -
          refine Wx.nilQ (fun w_238 hx_239 => ?_)
          have hS := hS.ext hx_239
          refine W.condF rfl (by simp) ?_
          refine W.skip ?_
          refine W.seq ?_
          refine W.reg ?_
          refine Wx.rd (v := .int .i64 a) (rd_move rfl) rfl ?_
          refine Wx.rd (v := .int .i64 b) (rd_move rfl) rfl ?_
          refine Wx.rd (v := .int .i64 (a + b)) (rd_add rfl rfl (in_i64 (by omega) (by omega))) rfl ?_
          refine Wx.rd (v := .int .i64 ((a + b) % 5)) (rd_rem rfl rfl (by omega) (by omega)) rfl ?_
          refine Wx.rd (v := .bool (decide (((a + b) % 5) = 0))) (rd_eql rfl rfl) rfl ?_
          refine Wx.nil ?_
          refine W.condD rfl (fun c10 => ?_) (fun c10 => ?_)
          · -- yes
            refine W.seq ?_
            refine W.reg ?_
            refine Wx.rd (v := .agg #[.int .i64 (sdR 5 zs), .int .i64 (sdC 5 zs), v_8]) (rd_loadXs (ds := [.int .i64 (sdR 5 zs), .int .i64 (sdC 5 zs), v_8]) hS 5 rfl rfl rfl rfl Try.isAgg24 Try.sizeOf24) rfl ?_
            refine Wx.rd (v := .int .i64 a) (rd_move rfl) rfl ?_
            refine Wx.rd (v := .int .i64 b) (rd_move rfl) rfl ?_
            refine Wx.callF (run_callF Try.call37 rfl) (F37 (in_i64 (by omega) (by omega)) (in_i64 (by omega) (by omega)) (hS.v 4 rfl) (in_i64 (by omega) (by omega)) (in_i64 (by omega) (by omega)) hS.fb_lt) rfl ?_
            rintro r_240 w_241 hx_242 rfl
            have hS := hS.ext hx_242
            refine Wx.rd (v := .tuple #[.int .i64 (betwE (sdR 5 zs) (sdC 5 zs) (sdH 5 zs) a b), .int .i64 (betwX (sdR 5 zs) (sdC 5 zs) (sdH 5 zs) a b)]) (rd_move rfl) rfl ?_
            refine Wx.rd (v := .int .i64 (betwE (sdR 5 zs) (sdC 5 zs) (sdH 5 zs) a b)) (rd_extract rfl rfl) rfl ?_
            refine Wx.rd (v := .int .i64 (betwX (sdR 5 zs) (sdC 5 zs) (sdH 5 zs) a b)) (rd_extract rfl rfl) rfl ?_
            refine Wx.rd (v := .int .i64 (betwV (sdC 5 zs) (sdH 5 zs) a b)) (Rd.to (v := .int .i64 (betwE (sdR 5 zs) (sdC 5 zs) (sdH 5 zs) a b)) (rd_assign rfl) (congrArg (Value.int .i64) (show (betwV (sdC 5 zs) (sdH 5 zs) a b : Int) = (betwE (sdR 5 zs) (sdC 5 zs) (sdH 5 zs) a b : Int) from (betwE_is p_ok ⟨by omega, by omega⟩ ⟨by omega, by omega⟩).symm).symm)) rfl ?_
            refine Wx.rd (v := .int .i64 0) (Rd.to (v := .int .i64 (betwX (sdR 5 zs) (sdC 5 zs) (sdH 5 zs) a b)) (rd_assign rfl) (congrArg (Value.int .i64) (show (0 : Int) = (betwX (sdR 5 zs) (sdC 5 zs) (sdH 5 zs) a b : Int) from (betwX_zero p_ok ⟨by omega, by omega⟩ ⟨by omega, by omega⟩).symm).symm)) rfl ?_
            refine Wx.nil ?_
            refine W.seq ?_
            refine W.reg ?_
            refine Wx.rd (v := .int .i64 0) (rd_move rfl) rfl ?_
            refine Wx.rd (v := .bool false) (Rd.to (v := .bool (decide ((0 : Int) ≠ 0))) (rd_neq rfl rfl) rfl) rfl ?_
            refine Wx.rd (v := .bool false) (rd_move rfl) rfl ?_
            refine Wx.gyes rfl rfl rfl ?_
            refine Wx.rd (v := .int .i64 (betwV (sdC 5 zs) (sdH 5 zs) a b)) (rd_move rfl) rfl ?_
            refine Wx.gyes rfl rfl rfl ?_
            refine Wx.rd (v := r_191) (rd_move rfl) rfl ?_
            refine Wx.gyes rfl rfl rfl ?_
            refine Wx.rd (v := .int .i64 a) (rd_move rfl) rfl ?_
            refine Wx.gyes rfl rfl rfl ?_
            refine Wx.ex (rd_index [] (hS.v 0 rfl) rfl rfl Try.underlying37 Try.sizeOf22 (by first | omega | (simp only [List.length_set, List.length_append, List.length_cons, List.length_nil, List.length_replicate]; omega)) (by first | omega | (simp only [List.length_set, List.length_append, List.length_cons, List.length_nil, List.length_replicate]; omega))) rfl (fun p_243 hp_244 => ?_)
            refine Wx.gyes rfl rfl rfl ?_
            refine Wx.ex (rd_load hp_244 rfl Try.isAgg22 Try.sizeOf22) rfl (fun v_245 hv_246 => ?_)
            have ln_247 := hv_246.len63
            have hS := hS.add hv_246
            refine Wx.gyes rfl rfl rfl ?_
            refine Wx.rd (v := .int .i64 b) (rd_move rfl) rfl ?_
            refine Wx.gyes rfl rfl rfl ?_
            refine Wx.ex (rd_index 0 (hS.v 0 rfl) rfl rfl Try.underlying22 Try.sizeOf3 (by first | omega | (simp only [List.length_set, List.length_append, List.length_cons, List.length_nil, List.length_replicate]; omega)) (by first | omega | (simp only [List.length_set, List.length_append, List.length_cons, List.length_nil, List.length_replicate]; omega))) rfl (fun p_249 hp_250 => ?_)
            refine Wx.gyes rfl rfl rfl ?_
            refine Wx.rd (v := .int .i64 (betwV (sdC 5 zs) (sdH 5 zs) a b)) (Rd.to (v := .int .i64 (ix 0 (ix [] wl a) b)) (rd_loadI hp_250 rfl Try.isAgg3 Try.sizeOf3) (congrArg (Value.int .i64) (show (betwV (sdC 5 zs) (sdH 5 zs) a b : Int) = (ix 0 (ix [] wl a) b : Int) from hwt.symm).symm)) rfl ?_
            have bd_251 := bd_i64 hp_250.inK
            refine Wx.gyes rfl rfl rfl ?_
            refine Wx.rd (v := .bool false) (Rd.to (v := .bool (decide ((betwV (sdC 5 zs) (sdH 5 zs) a b) ≠ (betwV (sdC 5 zs) (sdH 5 zs) a b)))) (rd_neq rfl rfl) (congrArg (Value.bool) (show (false : Bool) = (decide ((betwV (sdC 5 zs) (sdH 5 zs) a b) ≠ (betwV (sdC 5 zs) (sdH 5 zs) a b)) : Bool) from (decide_eq_false (fun z => z rfl)).symm).symm)) rfl ?_
            refine Wx.rd (v := .bool false) (rd_pickF rfl rfl) rfl ?_
            refine Wx.nil ?_
            refine W.condF rfl rfl ?_
            refine W.skip ?_
            refine W.reg ?_
            refine Wx.rd (v := .int .i64 (b + 1)) (rd_add rfl rfl (in_i64 (by omega) (by omega))) rfl ?_
            refine Wx.rd (v := .int .i64 (b + 1)) (rd_move rfl) rfl ?_
            refine Wx.nil ?_
            refine ⟨b + 1, (by show ((((sdH 5 zs).length : Int) + 1) - (b + 1)).toNat < ((((sdH 5 zs).length : Int) + 1) - b).toNat; omega), ?_, ?_, Out.look rfl (Out.hav rfl (Out.look rfl Out.self))⟩
            · exact ⟨hS.tl, (by first | omega | assumption), (by first | omega | assumption)⟩
            · exact ⟨rfl, trivial⟩
          · -- no
            refine W.skip ?_
            refine W.reg ?_
            refine Wx.rd (v := .int .i64 (b + 1)) (rd_add rfl rfl (in_i64 (by omega) (by omega))) rfl ?_
            refine Wx.rd (v := .int .i64 (b + 1)) (rd_move rfl) rfl ?_
            refine Wx.nil ?_
            refine ⟨b + 1, (by show ((((sdH 5 zs).length : Int) + 1) - (b + 1)).toNat < ((((sdH 5 zs).length : Int) + 1) - b).toNat; omega), ?_, ?_, Out.look rfl (Out.hav rfl (Out.look rfl Out.self))⟩
            · exact ⟨hS, (by first | omega | assumption), (by first | omega | assumption)⟩
            · exact ⟨rfl, trivial⟩
        · -- no
          refine W.exit rfl ?_
          refine W.seq ?_
          refine W.regQ mixedMu_ (by kernel_rfl) ?_
          refine Wx.rd (v := .int .i64 a) (rd_move rfl) rfl ?_
          refine Wx.rd (v := .int .i64 ((sdH 5 zs).length : Int)) (rd_move rfl) rfl ?_
          refine Wx.rd (v := .bool (decide (a < ((sdH 5 zs).length : Int)))) (rd_lss rfl rfl) rfl ?_
          refine Wx.rd (v := .bool (decide (a < ((sdH 5 zs).length : Int)))) (rd_move rfl) rfl ?_
          refine Wx.cutQ (X := Unit) 13 [286, 287, 288, 289, 290, 291, 292, 293, 294, 295, 296, 297, 298] (fun _ => [(298, .bool (decide (a < ((sdH 5 zs).length : Int)) && false))]) (fun _ => True) ?_ ?_
          · rcases Bool.eq_false_or_eq_true (decide (a < ((sdH 5 zs).length : Int))) with g_252 | g_252
            · -- True
              have gp_253 := of_decide_eq_true g_252
              refine Wx.gyes rfl rfl (congrArg Value.bool g_252) ?_
              refine Wx.rd (v := v_33) (rd_move rfl) rfl ?_
              refine Wx.gyes rfl rfl (congrArg Value.bool g_252) ?_
              refine Wx.rd (v := .int .i64 a) (rd_move rfl) rfl ?_
              refine Wx.gyes rfl rfl (congrArg Value.bool g_252) ?_
              refine Wx.indexR hS 1 rfl rfl rfl Try.underlying22 Try.sizeOf3 (by first | omega | (simp only [List.length_set, List.length_append, List.length_cons, List.length_nil, List.length_replicate]; omega)) (by first | omega | (simp only [List.length_set, List.length_append, List.length_cons, List.length_nil, List.length_replicate]; omega)) rfl (fun g_254 hg_255 => ?_)
              refine Wx.gyes rfl rfl (congrArg Value.bool g_252) ?_
              refine Wx.rd (v := .int .i64 (sillV (sdC 5 zs) (sdH 5 zs) a)) (Rd.to (v := .int .i64 (ix 0 (sillsE (sdR 5 zs) (sdC 5 zs) (sdH 5 zs)) a)) (rd_loadRI' hS 1 rfl hg_255 rfl (by first | omega | (simp only [List.length_set, List.length_append, List.length_cons, List.length_nil, List.length_replicate]; omega)) (by first | omega | (simp only [List.length_set, List.length_append, List.length_cons, List.length_nil, List.length_replicate]; omega)) Try.isAgg3 Try.sizeOf3) (congrArg (Value.int .i64) (show (sillV (sdC 5 zs) (sdH 5 zs) a : Int) = (ix 0 (sillsE (sdR 5 zs) (sdC 5 zs) (sdH 5 zs)) a : Int) from (sills_ix p_ok g0 (by omega)).symm).symm)) rfl ?_
              have bd_256 := bd_i64 (hS.rowInK' 1 rfl (by first | omega | (simp only [List.length_set, List.length_append, List.length_cons, List.length_nil, List.length_replicate]; omega)) (by first | omega | (simp only [List.length_set, List.length_append, List.length_cons, List.length_nil, List.length_replicate]; omega)) : InK .i64 (ix 0 (sillsE (sdR 5 zs) (sdC 5 zs) (sdH 5 zs)) a))
              refine Wx.gyes rfl rfl (congrArg Value.bool g_252) ?_
              refine Wx.rd (v := .slice (some ⟨g_41, 0, none⟩) ((sdH 5 zs).length + 1) ((sdH 5 zs).length + 1)) (rd_move rfl) rfl ?_
              refine Wx.gyes rfl rfl (congrArg Value.bool g_252) ?_
              refine Wx.rd (v := .int .i64 a) (rd_move rfl) rfl ?_
              refine Wx.gyes rfl rfl (congrArg Value.bool g_252) ?_
              refine Wx.rd (v := .pointer (some ⟨g_41, a.toNat, none⟩)) (rd_indexM rfl rfl Try.underlying37 Try.sizeOf22 (by first | assumption | omega | (simp only [List.length_set, List.length_append, List.length_cons, List.length_nil, List.length_replicate]; omega)) (by first | assumption | omega | (simp only [List.length_set, List.length_append, List.length_cons, List.length_nil, List.length_replicate]; omega))) rfl ?_
              refine Wx.gyes rfl rfl (congrArg Value.bool g_252) ?_
              obtain ⟨v_257, hv_258⟩ := mat_v (vs := vs2) (i := a.toNat) (by first | assumption | omega | (simp only [List.length_set, List.length_append, List.length_cons, List.length_nil, List.length_replicate]; omega))
              refine Wx.rd (v := v_257) (rd_loadM hS 7 (e2 := 22) (e1 := 3) (g := g_41) (vs := vs2) (yss := ys2) rfl hv_258 rfl Try.isAgg22) rfl ?_
              refine Wx.gyes rfl rfl (congrArg Value.bool g_252) ?_
              refine Wx.rd (v := .int .i64 ((sdH 5 zs).length : Int)) (rd_move rfl) rfl ?_
              refine Wx.gyes rfl rfl (congrArg Value.bool g_252) ?_
              refine Wx.indexR hS (7 + 1 + a.toNat) (mat_row (e2 := 22) (g := g_41) (vs := vs2) (yss := ys2) (i := a.toNat) rfl hv_258 (ix_get (d := []) (by first | assumption | omega | (simp only [List.length_set, List.length_append, List.length_cons, List.length_nil, List.length_replicate]; omega)) (by first | assumption | omega | (simp only [List.length_set, List.length_append, List.length_cons, List.length_nil, List.length_replicate]; omega)))) rfl rfl Try.underlying22 Try.sizeOf3 (by first | assumption | omega | (simp only [List.length_set, List.length_append, List.length_cons, List.length_nil, List.length_replicate]; omega)) (by first | assumption | omega | (simp only [List.length_set, List.length_append, List.length_cons, List.length_nil, List.length_replicate]; omega)) rfl (fun g_259 hg_260 => ?_)
              refine Wx.gyes rfl rfl (congrArg Value.bool g_252) ?_
              refine Wx.rd (v := .int .i64 (ix 0 (ix [] ys2 a) ((sdH 5 zs).length : Int))) (rd_loadRI' hS (7 + 1 + a.toNat) (mat_row (e2 := 22) (g := g_41) (vs := vs2) (yss := ys2) (i := a.toNat) rfl hv_258 (ix_get (d := []) (by first | assumption | omega | (simp only [List.length_set, List.length_append, List.length_cons, List.length_nil, List.length_replicate]; omega)) (by first | assumption | omega | (simp only [List.length_set, List.length_append, List.length_cons, List.length_nil, List.length_replicate]; omega)))) hg_260 rfl (by first | assumption | omega | (simp only [List.length_set, List.length_append, List.length_cons, List.length_nil, List.length_replicate]; omega)) (by first | assumption | omega | (simp only [List.length_set, List.length_append, List.length_cons, List.length_nil, List.length_replicate]; omega)) Try.isAgg3 Try.sizeOf3) rfl ?_
              have bd_261 := bd_i64 (hS.rowInK' (7 + 1 + a.toNat) (mat_row (e2 := 22) (g := g_41) (vs := vs2) (yss := ys2) (i := a.toNat) rfl hv_258 (ix_get (d := []) (by first | assumption | omega | (simp only [List.length_set, List.length_append, List.length_cons, List.length_nil, List.length_replicate]; omega)) (by first | assumption | omega | (simp only [List.length_set, List.length_append, List.length_cons, List.length_nil, List.length_replicate]; omega)))) (by first | assumption | omega | (simp only [List.length_set, List.length_append, List.length_cons, List.length_nil, List.length_replicate]; omega)) (by first | assumption | omega | (simp only [List.length_set, List.length_append, List.length_cons, List.length_nil, List.length_replicate]; omega)) : InK .i64 (ix 0 (ix [] ys2 a) ((sdH 5 zs).length : Int)))
              refine Wx.gyes rfl rfl (congrArg Value.bool g_252) ?_
              refine Wx.rd (v := .bool false) (Rd.to (v := .bool (decide ((sillV (sdC 5 zs) (sdH 5 zs) a) ≠ (ix 0 (ix [] ys2 a) ((sdH 5 zs).length : Int))))) (rd_neq rfl rfl) (congrArg (Value.bool) (show (false : Bool) = (decide ((sillV (sdC 5 zs) (sdH 5 zs) a) ≠ (ix 0 (ix [] ys2 a) ((sdH 5 zs).length : Int))) : Bool) from (decide_eq_false (by have h1 := ft_end p_ok k2 (by omega) g0 (show a ≤ ((sdH 5 zs).length : Int) by omega) (y := ((sdH 5 zs).length : Int)) (by omega) (by omega) (by omega); have h2 := sill_betw p_ok g0 (show a < ((sdH 5 zs).length : Int) by omega); exact fun z => z (h2.symm.trans h1.symm))).symm).symm)) rfl ?_
              refine Wx.rd (v := .bool false) (rd_pickT (congrArg Value.bool g_252) rfl) rfl ?_
              refine Wx.nilQ (fun _ _ => ⟨(), trivial, ⟨?_, trivial⟩, Out.look rfl Out.refl⟩)
              show Value.bool false = Value.bool (decide (a < ((sdH 5 zs).length : Int)) && false)
              first | rw [g_252, Bool.true_and] | (rw [g_252]; rfl)
            · -- False
              have gp_262 := of_decide_eq_false g_252
              refine Wx.gnoB rfl rfl (congrArg Value.bool g_252) rfl rfl ?_
              refine Wx.gnoB rfl rfl (congrArg Value.bool g_252) rfl rfl ?_
              refine Wx.gnoB rfl rfl (congrArg Value.bool g_252) rfl rfl ?_
              refine Wx.gnoB rfl rfl (congrArg Value.bool g_252) rfl rfl ?_
              refine Wx.gnoB rfl rfl (congrArg Value.bool g_252) rfl rfl ?_
              refine Wx.gnoB rfl rfl (congrArg Value.bool g_252) rfl rfl ?_
              refine Wx.gnoB rfl rfl (congrArg Value.bool g_252) rfl rfl ?_
              refine Wx.gnoB rfl rfl (congrArg Value.bool g_252) rfl rfl ?_
              refine Wx.gnoB rfl rfl (congrArg Value.bool g_252) rfl rfl ?_
              refine Wx.gnoB rfl rfl (congrArg Value.bool g_252) rfl rfl ?_
              refine Wx.gnoB rfl rfl (congrArg Value.bool g_252) rfl rfl ?_
              refine Wx.gnoB rfl rfl (congrArg Value.bool g_252) rfl rfl ?_
              refine Wx.rd (v := .bool false) (rd_pickF (congrArg Value.bool g_252) rfl) rfl ?_
              refine Wx.nilQ (fun _ _ => ⟨(), trivial, ⟨?_, trivial⟩, Out.look rfl Out.refl⟩)
              show Value.bool false = Value.bool (decide (a < ((sdH 5 zs).length : Int)) && false)
              first | rw [g_252, Bool.false_and] | (rw [g_252]; rfl)
          rintro ⟨⟩ u_264 -
          refine Wx.nilQ (fun w_265 hx_266 => ?_)
          have hS := hS.ext hx_266
          refine W.condF rfl (by simp) ?_
          refine W.skip ?_
          refine W.reg ?_
          refine Wx.rd (v := .int .i64 (a + 1)) (rd_add rfl rfl (in_i64 (by omega) (by omega))) rfl ?_
          refine Wx.rd (v := .int .i64 (a + 1)) (rd_move rfl) rfl ?_
          refine Wx.nil ?_
          refine ⟨a + 1, (by show ((((sdH 5 zs).length : Int) + 1) - (a + 1)).toNat < ((((sdH 5 zs).length : Int) + 1) - a).toNat; omega), ?_, ?_, Out.look rfl (Out.hav rfl (Out.look rfl (Out.hav rfl (Out.look rfl Out.self))))⟩
          · exact ⟨hS, (by first | omega | assumption), (by first | omega | assumption)⟩
          · exact ⟨rfl, trivial⟩
      · -- no
        refine W.exit rfl ?_
        refine W.seq ?_
        refine W.reg ?_
        refine Wx.callF (run_callF Try.call16 rfl) (F16) rfl ?_
        rintro r_267 w_268 hx_269 rfl
        have hS := hS.ext hx_269
        refine Wx.rd (v := .bool true) (rd_assign rfl) rfl ?_
        refine Wx.nil ?_
        exact W.ret ⟨.bool true, ResIs.one, hS.bel, rfl⟩
end Go.Proofs.Ytjhimoeodkaihaa
