/-
  WHAT IS PROVED HERE, TEXT BY TEXT (several texts of one prover, joined to one file; the conditions stand in each statement):
  * WHAT IS PROVED HERE: what functions hand back, each out of its own code; the conditions stand in each statement.
  * WHAT IS PROVED HERE: what functions hand back, each out of its own code; the conditions stand in each statement.
  * WHAT IS PROVED HERE: what functions hand back, each out of its own code; the conditions stand in each statement.
  * WHAT IS PROVED HERE: what functions hand back, each out of its own code; the conditions stand in each statement.
  * WHAT IS PROVED HERE: what functions hand back, each out of its own code; the conditions stand in each statement.
  * WHAT IS PROVED HERE: what functions hand back, each out of its own code; the conditions stand in each statement.
  * WHAT IS PROVED HERE: what functions hand back, each out of its own code; the conditions stand in each statement.
-/
import Derived.Test.YtdpdlplkngggoaaGreatDoorProg
import Derived.Test.YtdpdlplkngggoaaGreatDoorU2
import Derived.Test.YtdpdlplkngggoaaGreatDoorU6
import Derived.Test.YtdpdlplkngggoaaGreatDoorU4
import Derived.Test.YtdpdlplkngggoaaGreatDoorU5

set_option linter.unusedVariables false
set_option linter.unusedSimpArgs false

namespace Go.Proofs.YtdpdlplkngggoaaGreatDoor
open Go.Wk Go.RowKit Go.Lib
set_option linter.unusedVariables false
set_option linter.unusedSimpArgs false
theorem foGr_52_3 : fldOff Tryz.prog 52 3 = some 33 := by kernel_rfl

set_option maxHeartbeats 4000000 in
theorem F8 {mv : Value} {ls : List (List Int)} {O : List (Option Nat)} {w : World} (h_mv : V (tSl (tSl (tI .i64))) ls mv O w) (p_ok : MapOK ls) (p_t : TblOK (tabV ls)) (p_o : loopV (tabV ls) = false) (p_od : oddR (nearV (tabV ls)) (tnN (tabV ls)) = false) (hO : ∀ b, some b ∈ O → b < w.heap.size) (hG : Laid w) : Calls Tryz.prog 8 #[.agg #[mv]] w (Ret w (fun r w' => ∃ rv, r = .tuple #[rv, .int .i64 13] ∧ V (tSl (tI .i64)) ([] : List Int) rv O w')) := by
  have htv := tabV_len (ls := ls)
  obtain ⟨tl, tn, ⟨te, te2⟩, tp⟩ := id p_t
  have hn_ : tnN (tabV ls) = ix 0 (tabV ls) 33 := rfl
  have hnl : ((nearV (tabV ls)).length : Int) = tnN (tabV ls) := by rw [nearV, nrb_len]; omega
  have a_mv := h_mv
  have l_mv := h_mv.len63
  have hS := St.start w O hO
  refine enterR Tryz.func8 rfl Tryz.ntmps8 Tryz.results8 rfl ?_
  refine W.seq ?_
  refine W.reg ?_
  refine Wx.box (cs := [mv]) hS rfl rfl rfl (fun g_1 w_2 hx_4 hb_3 hS => ?_)
  refine Wx.rd (v := (.slice none 0 0)) (rd_assign rfl) rfl ?_
  refine Wx.rd (v := .int .i64 0) (rd_assign rfl) rfl ?_
  refine Wx.nil ?_
  refine W.seq ?_
  refine W.reg ?_
  refine Wx.rd (v := .agg #[mv]) (rd_loadXs (ds := [mv]) hS 0 rfl rfl rfl rfl Tryz.isAgg32 Tryz.sizeOf32) rfl ?_
  refine Wx.callF (run_callF Tryz.call12 rfl) (F12 (hS.arg a_mv) p_ok) rfl ?_
  rintro r_5 w_6 hx_7 rfl
  have hS := hS.ext hx_7
  refine Wx.rd (v := .tuple #[.agg (List.map (Value.int .i64) (tabV ls)).toArray, .int .i64 0]) (rd_move rfl) rfl ?_
  refine Wx.rd (v := .agg (List.map (Value.int .i64) (tabV ls)).toArray) (rd_extract rfl rfl) rfl ?_
  refine Wx.rd (v := .int .i64 0) (rd_extract rfl rfl) rfl ?_
  refine Wx.alloc (cs := List.map (Value.int .i64) (List.replicate 34 (0 : Int))) hS Tryz.zeroValue52 (by kernel_rfl) rfl (fun g_8 w_9 hx_11 hb_10 hS => ?_)
  have hS : St _ _ w_9 [.box g_8 52 (List.map (Value.int .i64) (List.replicate 34 (0 : Int))), .box g_1 32 [mv]] := hS
  refine Wx.storeX (cs' := List.map (Value.int .i64) (tabV ls)) (ds := List.map (Value.int .i64) (tabV ls)) hS 0 rfl rfl rfl rfl (fun w' => by rw [List.length_map, show List.length (tabV ls) = 34 by first | omega | (simp; omega) | simp]; exact Tryz.sizeOf52 w') (by first | (simp; omega) | simp) (by intro u hu; obtain ⟨_, _, rfl⟩ := List.mem_map.1 hu; rfl) (by rw [List.take_zero, List.nil_append, List.drop_of_length_le (by first | (simp; omega) | simp), List.append_nil]) (fun w_12 hz_13 hS => ?_)
  refine Wx.rd (v := .int .i64 0) (rd_assign rfl) rfl ?_
  refine Wx.nil ?_
  refine W.seq ?_
  refine W.block ?_
  refine W.seq ?_
  refine W.reg ?_
  refine Wx.rd (v := .int .i64 0) (rd_move rfl) rfl ?_
  refine Wx.rd (v := .bool false) (Rd.to (v := .bool (decide ((0 : Int) ≠ 0))) (rd_neq rfl rfl) rfl) rfl ?_
  refine Wx.rd (v := .bool false) (rd_assign rfl) rfl ?_
  refine Wx.nil ?_
  refine W.condF rfl rfl ?_
  refine W.seq ?_
  refine W.reg ?_
  refine Wx.rd (v := .agg (List.map (Value.int .i64) (tabV ls)).toArray) (rd_loadXs (ds := List.map (Value.int .i64) (tabV ls)) hS 0 rfl rfl (by rw [List.drop_zero, List.take_of_length_le (by simp; omega)]) (by simp; omega) Tryz.isAgg52 Tryz.sizeOf52) rfl ?_
  refine Wx.callF (run_callF Tryz.call17 rfl) (F17 htv (tab_in (ls := ls) p_ok) p_t (hG.ext hS.bel)) rfl ?_
  rintro r_14 w_15 hx_16 rfl
  have hS := hS.ext hx_16
  refine Wx.rd (v := .bool (loopV (tabV ls))) (rd_assign rfl) rfl ?_
  refine Wx.nil ?_
  refine W.condF rfl p_o ?_
  refine W.skip ?_
  refine W.seq ?_
  refine W.reg ?_
  refine Wx.rd (v := .agg (List.map (Value.int .i64) (tabV ls)).toArray) (rd_loadXs (ds := List.map (Value.int .i64) (tabV ls)) hS 0 rfl rfl (by rw [List.drop_zero, List.take_of_length_le (by simp; omega)]) (by simp; omega) Tryz.isAgg52 Tryz.sizeOf52) rfl ?_
  refine Wx.callF (run_callF Tryz.call18 rfl) (F18 htv (tab_in (ls := ls) p_ok) p_t hS.fb_lt (hG.ext hS.bel)) rfl ?_
  rintro r_17 w_18 hx_19 ⟨_, rfl, hv_20⟩
  have hS := hS.pushFr hx_19 hv_20
  refine Wx.alloc (cs := [(.slice none 0 0)]) hS Tryz.zeroValue60 rfl rfl (fun g_22 w_23 hx_25 hb_24 hS => ?_)
  refine Wx.storeX (cs' := [r_17]) (ds := [r_17]) hS 0 rfl rfl rfl (Go.Wk.cells_one (hS.rowOne 1 rfl)) Tryz.sizeOf60 (Nat.le_of_ble_eq_true rfl) (one_cons (hS.rowOne 1 rfl) one_nil) rfl (fun w_26 hz_27 hS => ?_)
  have hS := hS.freeze 1 rfl
  refine Wx.nil ?_
  refine W.seq ?_
  refine W.reg ?_
  refine Wx.alloc (cs := [(.slice none 0 0)]) hS Tryz.zeroValue25 rfl rfl (fun g_29 w_30 hx_32 hb_31 hS => ?_)
  have hS := hS.add (V.nil (t := tI .i64))
  refine Wx.nil ?_
  refine W.seq ?_
  refine W.reg ?_
  refine Wx.alloc (cs := [.int .i64 0]) hS Tryz.zeroValue3 rfl rfl (fun g_33 w_34 hx_36 hb_35 hS => ?_)
  refine Wx.storeX (cs' := [.int .i64 3]) (ds := [.int .i64 3]) hS 0 rfl rfl rfl rfl Tryz.sizeOf3 (Nat.le_of_ble_eq_true rfl) (one_cons rfl one_nil) rfl (fun w_37 hz_38 hS => ?_)
  refine Wx.nil ?_
  refine W.seq ?_
  refine W.reg ?_
  refine Wx.alloc (cs := [.nilFunc]) hS Tryz.zeroValue62 rfl rfl (fun g_39 w_40 hx_42 hb_41 hS => ?_)
  refine Wx.nil ?_
  refine W.seq ?_
  refine W.reg ?_
  refine Wx.rd (v := .func (.func 19) #[] #[.pointer (some ⟨g_33, 0, none⟩), .pointer (some ⟨g_29, 0, none⟩), .pointer (some ⟨g_22, 0, none⟩), .pointer (some ⟨g_8, 0, none⟩), .pointer (some ⟨g_39, 0, none⟩)]) (rd_makeFunc (vs := []) (us := [.pointer (some ⟨g_33, 0, none⟩), .pointer (some ⟨g_29, 0, none⟩), .pointer (some ⟨g_22, 0, none⟩), .pointer (some ⟨g_8, 0, none⟩), .pointer (some ⟨g_39, 0, none⟩)]) rfl rfl) rfl ?_
  refine Wx.storeX (cs' := [.func (.func 19) #[] #[.pointer (some ⟨g_33, 0, none⟩), .pointer (some ⟨g_29, 0, none⟩), .pointer (some ⟨g_22, 0, none⟩), .pointer (some ⟨g_8, 0, none⟩), .pointer (some ⟨g_39, 0, none⟩)]]) (ds := [.func (.func 19) #[] #[.pointer (some ⟨g_33, 0, none⟩), .pointer (some ⟨g_29, 0, none⟩), .pointer (some ⟨g_22, 0, none⟩), .pointer (some ⟨g_8, 0, none⟩), .pointer (some ⟨g_39, 0, none⟩)]]) hS 0 rfl rfl rfl rfl Tryz.sizeOf62 (Nat.le_of_ble_eq_true rfl) (one_cons rfl one_nil) rfl (fun w_43 hz_44 hS => ?_)
  have hS := hS.front 6 rfl
  have hS := hS.front 6 rfl
  have hS := hS.front 6 rfl
  have hS := hS.front 4 rfl
  have hS := hS.front 6 rfl
  have hS := hS.front 6 rfl
  have hS := hS.front 7 rfl
  have hS : St _ _ w_43 [.box g_1 32 [mv], Ob.v (tSl (tI .i64)) [] (.slice none 0 0), .box g_29 25 [(.slice none 0 0)], .box g_33 3 [.int .i64 3], Ob.v (tSl (tI .u32)) (nearV (tabV ls)) r_17, .box g_22 60 [r_17], .box g_8 52 (List.map (Value.int .i64) (tabV ls)), .box g_39 62 [.func (.func 19) #[] #[.pointer (some ⟨g_33, 0, none⟩), .pointer (some ⟨g_29, 0, none⟩), .pointer (some ⟨g_22, 0, none⟩), .pointer (some ⟨g_8, 0, none⟩), .pointer (some ⟨g_39, 0, none⟩)]]] := hS
  refine Wx.nil ?_
  refine W.seq ?_
  refine W.block ?_
  refine W.loop [2, 3, 25, 26, 27, 28, 29, 30, 31, 32, 33] (fun x : Value × (List Int) × Int => match x with | (bv2, best2, many) => []) (fun (x : Value × (List Int) × Int) w' => match x with | (bv2, best2, many) => St w O w' [.box g_1 32 [mv], Ob.v (tSl (tI .i64)) best2 bv2, .box g_29 25 [bv2], .box g_33 3 [.int .i64 many], Ob.v (tSl (tI .u32)) (nearV (tabV ls)) r_17, .box g_22 60 [r_17], .box g_8 52 (List.map (Value.int .i64) (tabV ls)), .box g_39 62 [.func (.func 19) #[] #[.pointer (some ⟨g_33, 0, none⟩), .pointer (some ⟨g_29, 0, none⟩), .pointer (some ⟨g_22, 0, none⟩), .pointer (some ⟨g_8, 0, none⟩), .pointer (some ⟨g_39, 0, none⟩)]]] ∧ 3 ≤ many ∧ many ≤ 10 ∧ many % 2 = 1) (fun x : Value × (List Int) × Int => match x with | (bv2, best2, many) => (10 - many).toNat) ((.slice none 0 0), [], 3) trivial ⟨hS, (by first | omega | simp), (by first | omega | simp), (by decide)⟩ ?_
  rintro ⟨bv2, best2, many⟩ u_46 w_45 ⟨hS, h0, h1, h2⟩
  refine W.seq ?_
  refine W.seq ?_
  refine W.reg ?_
  refine Wx.rd (v := .int .i64 many) (rd_loadX hS 3 rfl rfl rfl Tryz.isAgg3) rfl ?_
  refine Wx.rd (v := .pointer (some ⟨g_8, 0 + 33, none⟩)) (rd_fieldAddr (o := 0) rfl foGr_52_3) rfl ?_
  refine Wx.rd (v := .int .i64 (ix 0 (tabV ls) 33)) (rd_loadXa (d := 0) (f := (Value.int .i64)) (j := 33) hS 6 rfl rfl (by omega) (by omega) (by omega) Tryz.isAgg3) rfl ?_
  refine Wx.rd (v := .bool (decide (many ≤ (ix 0 (tabV ls) 33)))) (rd_leq rfl rfl) rfl ?_
  refine Wx.nil ?_
  refine W.condD rfl (fun c2 => ?_) (fun c2 => ?_)
  · -- yes
    refine W.skip ?_
    refine W.seq ?_
    refine W.block ?_
    refine W.seq ?_
    refine W.reg ?_
    refine Wx.rd (v := .func (.func 19) #[] #[.pointer (some ⟨g_33, 0, none⟩), .pointer (some ⟨g_29, 0, none⟩), .pointer (some ⟨g_22, 0, none⟩), .pointer (some ⟨g_8, 0, none⟩), .pointer (some ⟨g_39, 0, none⟩)]) (rd_loadX hS 7 rfl rfl rfl Tryz.isAgg62) rfl ?_
    have hS := hS.front 7 rfl
    have hS := hS.front 7 rfl
    have hS := hS.front 7 rfl
    have hS := hS.front 7 rfl
    have hS := hS.front 7 rfl
    have hS := hS.front 7 rfl
    have hS := hS.front 7 rfl
    have hS := hS.front 7 rfl
    have hS : St _ _ w_45 [.box g_1 32 [mv], Ob.v (tSl (tI .i64)) best2 bv2, .box g_29 25 [bv2], .box g_33 3 [.int .i64 many], Ob.v (tSl (tI .u32)) (nearV (tabV ls)) r_17, .box g_22 60 [r_17], .box g_8 52 (List.map (Value.int .i64) (tabV ls)), .box g_39 62 [.func (.func 19) #[] #[.pointer (some ⟨g_33, 0, none⟩), .pointer (some ⟨g_29, 0, none⟩), .pointer (some ⟨g_22, 0, none⟩), .pointer (some ⟨g_8, 0, none⟩), .pointer (some ⟨g_39, 0, none⟩)]]] := hS
    have hP := St.pull (pre := [.box g_1 32 [mv]]) (A := [Ob.v (tSl (tI .i64)) best2 bv2, .box g_29 25 [bv2], .box g_33 3 [.int .i64 many], Ob.v (tSl (tI .u32)) (nearV (tabV ls)) r_17, .box g_22 60 [r_17], .box g_8 52 (List.map (Value.int .i64) (tabV ls)), .box g_39 62 [.func (.func 19) #[] #[.pointer (some ⟨g_33, 0, none⟩), .pointer (some ⟨g_29, 0, none⟩), .pointer (some ⟨g_22, 0, none⟩), .pointer (some ⟨g_8, 0, none⟩), .pointer (some ⟨g_39, 0, none⟩)]]]) (R := []) hS
    refine Wx.callB (run_callC (fs := []) (cs := [(.pointer (some ⟨g_33, 0, none⟩)), (.pointer (some ⟨g_29, 0, none⟩)), (.pointer (some ⟨g_22, 0, none⟩)), (.pointer (some ⟨g_8, 0, none⟩)), (.pointer (some ⟨g_39, 0, none⟩))]) (vs := [(.slice none 0 0), .int .u32 0, (.pointer (some ⟨g_33, 0, none⟩)), (.pointer (some ⟨g_29, 0, none⟩)), (.pointer (some ⟨g_22, 0, none⟩)), (.pointer (some ⟨g_8, 0, none⟩)), (.pointer (some ⟨g_39, 0, none⟩))]) Tryz.call19 rfl rfl) (F19 9 (l := []) (lv := (.slice none 0 0)) (met := 0) (best := best2) (bv := bv2) (ob := [.box g_1 32 [mv]] ++ []) ⟨hnl, tn⟩ ⟨rfl, htv, tab_in (ls := ls) p_ok⟩ (by simp; omega) (by omega) (fun x hx => by cases hx) (by constructor <;> decide) hP (V.nil (t := tI .i64)) (by simp; omega)) rfl ?_
    rintro r_47 w_48 ⟨rfl, bv_49, best_50, hS⟩
    have hS : St _ O w_48 [.box g_1 32 [mv], Ob.v (tSl (tI .i64)) best_50 bv_49, .box g_29 25 [bv_49], .box g_33 3 [.int .i64 many], Ob.v (tSl (tI .u32)) (nearV (tabV ls)) r_17, .box g_22 60 [r_17], .box g_8 52 (List.map (Value.int .i64) (tabV ls)), .box g_39 62 [.func (.func 19) #[] #[.pointer (some ⟨g_33, 0, none⟩), .pointer (some ⟨g_29, 0, none⟩), .pointer (some ⟨g_22, 0, none⟩), .pointer (some ⟨g_8, 0, none⟩), .pointer (some ⟨g_39, 0, none⟩)]]] := St.pull (pre := [Ob.v (tSl (tI .i64)) best_50 bv_49, .box g_29 25 [bv_49], .box g_33 3 [.int .i64 many], Ob.v (tSl (tI .u32)) (nearV (tabV ls)) r_17, .box g_22 60 [r_17], .box g_8 52 (List.map (Value.int .i64) (tabV ls)), .box g_39 62 [.func (.func 19) #[] #[.pointer (some ⟨g_33, 0, none⟩), .pointer (some ⟨g_29, 0, none⟩), .pointer (some ⟨g_22, 0, none⟩), .pointer (some ⟨g_8, 0, none⟩), .pointer (some ⟨g_39, 0, none⟩)]]]) (A := [.box g_1 32 [mv]]) (R := []) hS
    refine Wx.nil ?_
    refine W.condF rfl (odd_no p_od h0 h2 (by omega) tn.2) ?_
    refine W.skip ?_
    refine W.reg ?_
    refine Wx.rd (v := .int .i64 many) (rd_loadX hS 3 rfl rfl rfl Tryz.isAgg3) rfl ?_
    refine Wx.rd (v := .int .i64 (many + 2)) (rd_add rfl rfl (in_i64 (by omega) (by omega))) rfl ?_
    refine Wx.storeX (cs' := [.int .i64 (many + 2)]) (ds := [.int .i64 (many + 2)]) hS 3 rfl rfl rfl rfl Tryz.sizeOf3 (Nat.le_of_ble_eq_true rfl) (one_cons rfl one_nil) rfl (fun w_51 hz_52 hS => ?_)
    refine Wx.nil ?_
    refine ⟨(bv_49, best_50, many + 2), (by show (10 - (many + 2)).toNat < (10 - many).toNat; omega), ?_, ?_, Out.look rfl Out.self⟩
    · exact ⟨hS, (by first | omega | assumption), (by first | omega | assumption), (by first | omega | assumption)⟩
    · exact trivial
  · -- no
    refine W.exit rfl ?_
    refine W.seq ?_
    refine W.reg ?_
    refine Wx.rd (v := (.slice none 0 0)) (rd_assign rfl) rfl ?_
    refine Wx.rd (v := .int .i64 13) (rd_assign rfl) rfl ?_
    refine Wx.nil ?_
    have e0_0 : ([] : List Int) = [] := by rfl
    exact W.ret ⟨.tuple #[(.slice none 0 0), .int .i64 13], ResIs.two, hS.bel, ⟨(.slice none 0 0), rfl, (by rw [e0_0]; exact (V.nil (t := (tI .i64))))⟩⟩
end Go.Proofs.YtdpdlplkngggoaaGreatDoor

namespace Go.Proofs.YtdpdlplkngggoaaGreatDoor
open Go.Wk Go.RowKit Go.Lib
set_option linter.unusedVariables false
set_option linter.unusedSimpArgs false
theorem foGf_52_0 : fldOff Tryz.prog 52 0 = some 0 := by kernel_rfl
theorem elGf_25 : ElemI Tryz.prog 25 3 (.int .i64 0) 1 8 := ElemI.of Tryz.underlying25 (by kernel_rfl) (by first | rfl | kernel_rfl) (by decide)
theorem elGf_30 : ElemI Tryz.prog 30 25 ((.slice none 0 0)) 1 24 := ElemI.of Tryz.underlying30 (by kernel_rfl) (by first | rfl | kernel_rfl) (by decide)

set_option maxHeartbeats 4000000 in
theorem FCa {ts : List Int} {O : List (Option Nat)} {w : World} (n_ts : ts.length = 34) (i_ts : ∀ z ∈ ts, InK .i64 z) (n_ts : ts.length = 34) (i_ts : ∀ z ∈ ts, InK .i64 z) (p_ok : TblOK ts) (p_p : permB (teN ts) (arndF ts) = true) (hO : ∀ b, some b ∈ O → b < w.heap.size) : Calls Tryz.prog 14 #[.agg (List.map (Value.int .i64) ts).toArray, .func (.func 24) #[.agg (List.map (Value.int .i64) ts).toArray] #[]] w (Ret w (fun r w' => ∃ rv, r = rv ∧ FreshO (tSl (tI .i64)) 25 (cycV (teN ts) (arndF ts)) rv O w.heap.size w')) := by
  obtain ⟨tl, tn, ⟨te, te2⟩, tp⟩ := id p_ok
  have he_ : teN ts = ix 0 ts 0 := rfl
  have hS := St.start w O hO
  refine enterR Tryz.func14 rfl Tryz.ntmps14 Tryz.results14 rfl ?_
  refine W.seq ?_
  refine W.reg ?_
  refine Wx.box (cs := List.map (Value.int .i64) ts) hS rfl rfl rfl (fun g_1 w_2 hx_4 hb_3 hS => ?_)
  refine Wx.rd (v := (.slice none 0 0)) (rd_assign rfl) rfl ?_
  refine Wx.nil ?_
  refine W.seq ?_
  refine W.reg ?_
  refine Wx.rd (v := (.slice none 0 0)) (rd_assign rfl) rfl ?_
  refine Wx.nil ?_
  refine W.seq ?_
  refine W.reg ?_
  refine Wx.alloc (cs := List.map Value.bool (List.replicate 16 false)) hS Tryz.zeroValue72 (by kernel_rfl) rfl (fun g_5 w_6 hx_8 hb_7 hS => ?_)
  have hS : St _ _ w_6 [.box g_5 72 (List.map Value.bool (List.replicate 16 false)), .box g_1 52 (List.map (Value.int .i64) ts)] := hS
  refine Wx.nil ?_
  refine W.seq ?_
  refine W.seq ?_
  refine W.reg ?_
  refine Wx.rd (v := .pointer (some ⟨g_1, 0 + 0, none⟩)) (rd_fieldAddr (o := 0) rfl foGf_52_0) rfl ?_
  have bz_9 := ix_i64 i_ts 0
  refine Wx.rd (v := .int .i64 (ix 0 ts 0)) (rd_loadXa (d := 0) (f := (Value.int .i64)) (j := 0) hS 1 rfl rfl (by omega) (by omega) (by omega) Tryz.isAgg3) rfl ?_
  refine Wx.rd (v := .int .i64 0) (rd_move rfl) rfl ?_
  refine Wx.nil ?_
  refine W.block ?_
  have hS := hS.addNil (tSl (tI .i64)) 25
  refine W.loop [5, 7, 8, 9, 12, 13, 14, 15, 16, 17, 18, 19, 20, 21, 22, 23, 24, 25, 26, 27, 28, 29, 30, 31, 32, 33, 34, 35] (fun x : Int × Value × (List (List Int)) × (List Bool) => match x with | (k, ov, out, met) => [(12, .int .i64 k), (5, ov)]) (fun (x : Int × Value × (List (List Int)) × (List Bool)) w' => match x with | (k, ov, out, met) => St w O w' [.row (tSl (tI .i64)) 25 ov out, .box g_5 72 (List.map Value.bool met), .box g_1 52 (List.map (Value.int .i64) ts)] ∧ 0 ≤ k ∧ k ≤ teN ts ∧ out = (rng 0 k).foldl (cycS (arndF ts)) [] ∧ MetB out met ∧ (out.length : Int) ≤ k) (fun x : Int × Value × (List (List Int)) × (List Bool) => match x with | (k, ov, out, met) => (teN ts - k).toNat) (0, (.slice none 0 0), [], (List.replicate 16 false)) ⟨rfl, rfl, trivial⟩ ⟨hS, (by first | omega | simp), (by first | omega | simp), (rfl), (met0), (by decide)⟩ ?_
  rintro ⟨k, ov, out, met⟩ u_11 w_10 ⟨hS, h0, h1, h2, h3, h4⟩
  refine W.seq ?_
  refine W.reg ?_
  refine Wx.rd (v := .bool (decide (k < (ix 0 ts 0)))) (rd_lss rfl rfl) rfl ?_
  refine Wx.nil ?_
  refine W.seq ?_
  refine W.condD rfl (fun c0 => ?_) (fun c0 => ?_)
  · -- yes
    have hml := h3.1
    have hkr : 0 ≤ k ∧ k < teN ts := ⟨h0, by omega⟩
    refine W.skip ?_
    refine W.seq ?_
    refine W.block ?_
    refine W.seq ?_
    refine W.reg ?_
    refine Wx.rd (v := .int .i64 k) (rd_move rfl) rfl ?_
    refine Wx.rd (v := .int .i64 k) (rd_assign rfl) rfl ?_
    refine Wx.nil ?_
    refine W.scopeL 0 [8, 9, 15, 16, 17, 18, 19, 20, 21, 22, 23, 24, 25, 26, 27, 28, 29, 30, 31, 32, 33, 34] (fun x : Int × Value × (List Int) × (List Bool) × Nat => match x with | (e, lv, l, met2, j) => [(9, .int .i64 e), (8, lv)]) (fun (x : Int × Value × (List Int) × (List Bool) × Nat) w' => match x with | (e, lv, l, met2, j) => St w O w' [.row (tI .i64) 3 lv l, .row (tSl (tI .i64)) 25 ov out, .box g_5 72 (List.map Value.bool met2), .box g_1 52 (List.map (Value.int .i64) ts)] ∧ CyI (arndF ts) k out j l e met2 ∧ met.getD k.toNat false = false) (fun x : Int × Value × (List Int) × (List Bool) × Nat => match x with | (e, lv, l, met2, j) => perF (arndF ts) k - j) rfl ?_ ?_
    · -- from the label on
      rintro ⟨e, lv, l, met2, j⟩ u_13 w_12 ⟨hS, y2, y5⟩
      have her := cy_rng p_p hkr y2
      have hml2 := y2.2.2.1
      have hll := cy_len y2
      have hjb := cy_bd p_p hkr y2
      refine WJ.seqJ ?_
      refine WJ.of ?_
      refine W.reg ?_
      refine Wx.rd (v := .int .i64 e) (rd_move rfl) rfl ?_
      refine Wx.rd (v := .pointer (some ⟨g_5, 0 + e.toNat * 1, none⟩)) (rd_indexArr rfl rfl Tryz.underlying72 Tryz.sizeOf4 (by omega) (by omega)) rfl ?_
      refine Wx.storeXa (j := e) (f := Value.bool) (u := true) hS 2 rfl rfl (by omega) rfl rfl rfl Tryz.sizeOf4 (by omega) (by omega) (fun w_14 hz_15 hS => ?_)
      refine Wx.nil ?_
      refine WJ.seqJ ?_
      refine WJ.of ?_
      refine W.reg ?_
      refine Wx.rd (v := lv) (rd_move rfl) rfl ?_
      refine Wx.rd (v := .int .i64 e) (rd_move rfl) rfl ?_
      refine Wx.lit (t := (tI .i64)) (ys := [e]) (vs := [.int .i64 e]) elGf_25 hS rfl rfl ⟨(V.mkInt (in_i64 (by omega) (by omega))), trivial⟩ (by decide) rfl (fun v_16 w_17 hx_18 hS => ?_)
      refine Wx.append elGf_25 hS 1 rfl rfl rfl (Src.ofR hS 0 rfl) (by simp only [maxLen]; first | omega | (simp; omega) | simp) (by first | omega | (simp; omega) | simp) rfl (fun v_19 w_20 hz_21 hS => ?_)
      refine Wx.rd (v := v_19) (rd_assign rfl) rfl ?_
      refine Wx.nil ?_
      refine WJ.seqJ ?_
      refine WJ.seqJ ?_
      refine WJ.of ?_
      refine W.reg ?_
      refine Wx.rd (v := .func (.func 24) #[.agg (List.map (Value.int .i64) ts).toArray] #[]) (rd_move rfl) rfl ?_
      refine Wx.rd (v := .int .i64 e) (rd_move rfl) rfl ?_
      refine Wx.callF (run_callC (fs := [.agg (List.map (Value.int .i64) ts).toArray]) (cs := []) (vs := [.agg (List.map (Value.int .i64) ts).toArray, .int .i64 e]) Tryz.call24 rfl rfl) (F24 n_ts i_ts (in_i64 (by omega) (by omega)) ⟨by omega, by omega⟩) rfl ?_
      rintro r_22 w_23 hx_24 rfl
      have hS := hS.ext hx_24
      refine Wx.rd (v := .int .i64 (taF ts e)) (rd_assign rfl) rfl ?_
      refine Wx.nil ?_
      refine WJ.seqJ ?_
      refine WJ.of ?_
      refine W.reg ?_
      refine Wx.rd (v := .int .i64 (taF ts e)) (rd_move rfl) rfl ?_
      refine Wx.rd (v := .int .i64 k) (rd_move rfl) rfl ?_
      refine Wx.rd (v := .bool (decide ((taF ts e) ≠ k))) (rd_neq rfl rfl) rfl ?_
      refine Wx.nil ?_
      refine WJ.condD rfl (fun c1 => ?_) (fun c1 => ?_)
      · -- yes
        refine WJ.goto ?_
        refine ⟨(taF ts e, v_19, l ++ [e], List.set met2 e.toNat true, j + 1), (by show perF (arndF ts) k - (j + 1) < perF (arndF ts) k - j; have := y2.2.1; omega), ?_, ?_, Out.look rfl Out.self⟩
        · exact ⟨hS.tl, (cy_next p_p hkr (by omega) y2 c1), (y5)⟩
        · exact ⟨rfl, rfl, trivial⟩
      · -- no
        refine WJ.skip ?_
        refine WJ.of ?_
        refine W.reg ?_
        refine Wx.rd (v := ov) (rd_move rfl) rfl ?_
        refine Wx.rd (v := v_19) (rd_move rfl) rfl ?_
        have hS := hS.freeze 1 rfl
        refine Wx.lit (t := (tSl (tI .i64))) (ys := [l ++ [e]]) (vs := [v_19]) elGf_30 hS rfl rfl ⟨(hS.v 0 rfl), trivial⟩ (by decide) rfl (fun v_26 w_27 hx_28 hS => ?_)
        refine Wx.append elGf_30 hS 3 rfl rfl rfl (Src.ofR hS 0 rfl) (by simp only [maxLen]; first | omega | (simp; omega) | simp) (by first | omega | (simp; omega) | simp) rfl (fun v_29 w_30 hz_31 hS => ?_)
        refine Wx.rd (v := v_29) (rd_assign rfl) rfl ?_
        refine Wx.nil ?_
        refine W.reg ?_
        refine Wx.rd (v := .int .i64 (k + 1)) (rd_add rfl rfl (in_i64 (by omega) (by omega))) rfl ?_
        refine Wx.rd (v := .int .i64 (k + 1)) (rd_move rfl) rfl ?_
        refine Wx.nil ?_
        refine ⟨(k + 1, v_29, out ++ [l ++ [e]], List.set met2 e.toNat true), (by show (teN ts - (k + 1)).toNat < (teN ts - k).toNat; omega), ?_, ?_, Out.look rfl (Out.hav rfl (Out.look rfl Out.self))⟩
        · exact ⟨St.tl (St.tl (hS.tl)), (by first | omega | assumption), (by first | omega | assumption), (by rw [(cy_end p_p hkr (by omega) y2 (Decidable.not_not.1 c1)).1]; exact cyc_take h0 h2 h3 (by omega) y5), ((cy_end p_p hkr (by omega) y2 (Decidable.not_not.1 c1)).2), (by simp only [List.length_append, List.length_cons, List.length_nil]; omega)⟩
        · exact ⟨rfl, rfl, trivial⟩
    · -- up to the label
      intro K hK hB
      refine WJ.seqJ ?_
      refine WJ.of ?_
      refine W.seq ?_
      refine W.reg ?_
      refine Wx.rd (v := .int .i64 k) (rd_move rfl) rfl ?_
      refine Wx.rd (v := .pointer (some ⟨g_5, 0 + k.toNat * 1, none⟩)) (rd_indexArr rfl rfl Tryz.underlying72 Tryz.sizeOf4 (by omega) (by omega)) rfl ?_
      refine Wx.rd (v := .bool (ix false met k)) (rd_loadXa (d := false) (f := Value.bool) (j := k) hS 1 rfl rfl (by omega) (by omega) (by omega) Tryz.isAgg4) rfl ?_
      refine Wx.nil ?_
      refine W.cond rfl (fun c2 => ?_) (fun c2 => ?_)
      · -- yes
        try simp only [Bool.and_eq_true, Bool.or_eq_true, Bool.not_eq_true', Bool.and_eq_false_iff, Bool.or_eq_false_iff, Bool.not_eq_false', decide_eq_true_eq, decide_eq_false_iff_not, not_or, Bool.false_eq_true, Bool.true_eq_false, false_or, or_false, not_false_eq_true] at c2
        refine W.exit rfl ?_
        refine W.reg ?_
        refine Wx.rd (v := .int .i64 (k + 1)) (rd_add rfl rfl (in_i64 (by omega) (by omega))) rfl ?_
        refine Wx.rd (v := .int .i64 (k + 1)) (rd_move rfl) rfl ?_
        refine Wx.nil ?_
        refine ⟨(k + 1, ov, out, met), (by show (teN ts - (k + 1)).toNat < (teN ts - k).toNat; omega), ?_, ?_, Out.look rfl (Out.look rfl Out.self)⟩
        · exact ⟨hS, (by first | omega | assumption), (by first | omega | assumption), ((cyc_skip h0 h2 h3 (by omega) c2).1), (h3), (by first | omega | assumption)⟩
        · exact ⟨rfl, rfl, trivial⟩
      · -- no
        try simp only [Bool.and_eq_true, Bool.or_eq_true, Bool.not_eq_true', Bool.and_eq_false_iff, Bool.or_eq_false_iff, Bool.not_eq_false', decide_eq_true_eq, decide_eq_false_iff_not, not_or, Bool.false_eq_true, Bool.true_eq_false, false_or, or_false, not_false_eq_true] at c2
        refine W.skip ?_
        refine WJ.seqJ ?_
        refine WJ.of ?_
        refine W.reg ?_
        refine Wx.rd (v := (.slice none 0 0)) (rd_assign rfl) rfl ?_
        refine Wx.nil ?_
        refine WJ.seqJ ?_
        refine WJ.of ?_
        refine W.reg ?_
        refine Wx.rd (v := .int .i64 k) (rd_move rfl) rfl ?_
        refine Wx.rd (v := .int .i64 k) (rd_assign rfl) rfl ?_
        refine Wx.nil ?_
        refine WJ.seq (W.label ?_)
        have hS := hS.addNil (tI .i64) 3
        refine hB _ _ (hK _ _ ?_)
        refine ⟨(k, (.slice none 0 0), [], met, 0), ?_, ?_, Out.look rfl Out.refl⟩
        · exact ⟨hS, (cy_start p_p hkr h3), (c2)⟩
        · exact ⟨rfl, rfl, trivial⟩
  · -- no
    refine W.exit rfl ?_
    refine W.seq ?_
    refine W.reg ?_
    refine Wx.rd (v := ov) (rd_move rfl) rfl ?_
    refine Wx.rd (v := ov) (rd_assign rfl) rfl ?_
    refine Wx.nil ?_
    have e0_0 : cycV (teN ts) (arndF ts) = out := by rw [h2, show k = teN ts by omega]; rfl
    exact W.ret ⟨ov, ResIs.one, hS.bel, ⟨ov, rfl, (by rw [e0_0]; exact (hS.frO 0 rfl))⟩⟩
end Go.Proofs.YtdpdlplkngggoaaGreatDoor

namespace Go.Proofs.YtdpdlplkngggoaaGreatDoor
open Go.Wk Go.RowKit Go.Lib
set_option linter.unusedVariables false
set_option linter.unusedSimpArgs false
theorem foGg_52_0 : fldOff Tryz.prog 52 0 = some 0 := by kernel_rfl
theorem foGg_32_0 : fldOff Tryz.prog 32 0 = some 0 := by kernel_rfl
theorem elGg_25 : ElemI Tryz.prog 25 3 (.int .i64 0) 1 8 := ElemI.of Tryz.underlying25 (by kernel_rfl) (by first | rfl | kernel_rfl) (by decide)
theorem elGg_30 : ElemI Tryz.prog 30 25 ((.slice none 0 0)) 1 24 := ElemI.of Tryz.underlying30 (by kernel_rfl) (by first | rfl | kernel_rfl) (by decide)

set_option maxHeartbeats 4000000 in
theorem F10 {mv : Value} {ls : List (List Int)} {line : Int} {O : List (Option Nat)} {w : World} (h_mv : V (tSl (tSl (tI .i64))) ls mv O w) (i_line : InK .i64 line) (p_ok : MapOK ls) (p_t : TblOK (tabV ls)) (p_l : 0 ≤ line ∧ line < teN (tabV ls) / 2) (p_c : TblOK (tabV (ls.map (cutL line)))) (p_a : permB (teN (tabV (ls.map (cutL line)))) (arndF (tabV (ls.map (cutL line)))) = true) (hO : ∀ b, some b ∈ O → b < w.heap.size) : Calls Tryz.prog 10 #[.agg #[mv], .int .i64 line] w (Ret w (fun r w' => ∃ rv, r = .tuple #[.agg #[rv], .int .i64 0] ∧ FreshO (tSl (tI .i64)) 25 (cutV ls line) rv O w.heap.size w')) := by
  have b_line := bd_i64 i_line
  have htv := tabV_len (ls := ls)
  obtain ⟨tl, tn, ⟨te, te2⟩, tp⟩ := id p_t
  have hlc := map_cnt p_ok
  have htz := tabV_len (ls := ls.map (cutL line))
  have he_ : teN (tabV ls) = ix 0 (tabV ls) 0 := rfl
  have hcr := cut_rng (line := line) p_ok p_l.1
  have hcl := cut_len (line := line) p_ok
  have a_mv := h_mv
  have l_mv := h_mv.len63
  have hS := St.start w O hO
  refine enterR Tryz.func10 rfl Tryz.ntmps10 Tryz.results10 rfl ?_
  refine W.seq ?_
  refine W.reg ?_
  refine Wx.box (cs := [mv]) hS rfl rfl rfl (fun g_1 w_2 hx_4 hb_3 hS => ?_)
  refine Wx.alloc (cs := [(.slice none 0 0)]) hS Tryz.zeroValue32 rfl rfl (fun g_5 w_6 hx_8 hb_7 hS => ?_)
  refine Wx.rd (v := .int .i64 0) (rd_assign rfl) rfl ?_
  refine Wx.nil ?_
  refine W.seq ?_
  refine W.reg ?_
  refine Wx.rd (v := .agg #[mv]) (rd_loadXs (ds := [mv]) hS 1 rfl rfl rfl rfl Tryz.isAgg32 Tryz.sizeOf32) rfl ?_
  refine Wx.callF (run_callF Tryz.call12 rfl) (F12 (hS.arg a_mv) p_ok) rfl ?_
  rintro r_9 w_10 hx_11 rfl
  have hS := hS.ext hx_11
  refine Wx.rd (v := .tuple #[.agg (List.map (Value.int .i64) (tabV ls)).toArray, .int .i64 0]) (rd_move rfl) rfl ?_
  refine Wx.rd (v := .agg (List.map (Value.int .i64) (tabV ls)).toArray) (rd_extract rfl rfl) rfl ?_
  refine Wx.rd (v := .int .i64 0) (rd_extract rfl rfl) rfl ?_
  refine Wx.alloc (cs := List.map (Value.int .i64) (List.replicate 34 (0 : Int))) hS Tryz.zeroValue52 (by kernel_rfl) rfl (fun g_12 w_13 hx_15 hb_14 hS => ?_)
  have hS : St _ _ w_13 [.box g_12 52 (List.map (Value.int .i64) (List.replicate 34 (0 : Int))), .box g_5 32 [(.slice none 0 0)], .box g_1 32 [mv]] := hS
  refine Wx.storeX (cs' := List.map (Value.int .i64) (tabV ls)) (ds := List.map (Value.int .i64) (tabV ls)) hS 0 rfl rfl rfl rfl (fun w' => by rw [List.length_map, show List.length (tabV ls) = 34 by first | omega | (simp; omega) | simp]; exact Tryz.sizeOf52 w') (by first | (simp; omega) | simp) (by intro u hu; obtain ⟨_, _, rfl⟩ := List.mem_map.1 hu; rfl) (by rw [List.take_zero, List.nil_append, List.drop_of_length_le (by first | (simp; omega) | simp), List.append_nil]) (fun w_16 hz_17 hS => ?_)
  refine Wx.rd (v := .int .i64 0) (rd_assign rfl) rfl ?_
  refine Wx.nil ?_
  refine W.seq ?_
  refine W.block ?_
  refine W.seq ?_
  refine W.reg ?_
  refine Wx.rd (v := .int .i64 0) (rd_move rfl) rfl ?_
  refine Wx.rd (v := .bool false) (Rd.to (v := .bool (decide ((0 : Int) ≠ 0))) (rd_neq rfl rfl) rfl) rfl ?_
  refine Wx.rd (v := .bool false) (rd_assign rfl) rfl ?_
  refine Wx.nil ?_
  refine W.condF rfl rfl ?_
  refine W.seq ?_
  refine W.reg ?_
  refine Wx.rd (v := .int .i64 line) (rd_move rfl) rfl ?_
  refine Wx.rd (v := .bool (decide (line < 0))) (rd_lss rfl rfl) rfl ?_
  refine Wx.rd (v := .bool (decide (line < 0))) (rd_move rfl) rfl ?_
  refine Wx.cut (X := Unit) 6 [29, 30, 31, 32, 33, 34] (fun _ => [(34, .bool (decide (line < 0) || decide (((ix 0 (tabV ls) 0) / 2) ≤ line)))]) (fun _ w' => St w O w' [.box g_12 52 (List.map (Value.int .i64) (tabV ls)), .box g_5 32 [(.slice none 0 0)], .box g_1 32 [mv]]) ?_ ?_
  · rcases Bool.eq_false_or_eq_true (decide (line < 0)) with g_18 | g_18
    · -- True
      have gp_19 := of_decide_eq_true g_18
      refine Wx.gnoB rfl rfl (congrArg Value.bool g_18) rfl rfl ?_
      refine Wx.gnoB rfl rfl (congrArg Value.bool g_18) rfl rfl ?_
      refine Wx.gnoB rfl rfl (congrArg Value.bool g_18) rfl rfl ?_
      refine Wx.gnoB rfl rfl (congrArg Value.bool g_18) rfl rfl ?_
      refine Wx.gnoB rfl rfl (congrArg Value.bool g_18) rfl rfl ?_
      refine Wx.rd (v := .bool true) (rd_pickT (congrArg Value.bool g_18) rfl) rfl ?_
      refine Wx.nil ⟨(), hS, ⟨?_, trivial⟩, Out.look rfl Out.refl⟩
      show Value.bool true = Value.bool (decide (line < 0) || decide (((ix 0 (tabV ls) 0) / 2) ≤ line))
      first | rw [g_18, Bool.true_or] | (rw [g_18]; rfl)
    · -- False
      have gp_20 := of_decide_eq_false g_18
      refine Wx.gyes rfl rfl (congrArg Value.bool g_18) ?_
      refine Wx.rd (v := .int .i64 line) (rd_move rfl) rfl ?_
      refine Wx.gyes rfl rfl (congrArg Value.bool g_18) ?_
      refine Wx.rd (v := .pointer (some ⟨g_12, 0 + 0, none⟩)) (rd_fieldAddr (o := 0) rfl foGg_52_0) rfl ?_
      refine Wx.gyes rfl rfl (congrArg Value.bool g_18) ?_
      refine Wx.rd (v := .int .i64 (ix 0 (tabV ls) 0)) (rd_loadXa (d := 0) (f := (Value.int .i64)) (j := 0) hS 0 rfl rfl (by omega) (by omega) (by omega) Tryz.isAgg3) rfl ?_
      refine Wx.gyes rfl rfl (congrArg Value.bool g_18) ?_
      refine Wx.rd (v := .int .i64 ((ix 0 (tabV ls) 0) / 2)) (rd_quo rfl rfl (by omega) (by omega) (in_i64 (by omega) (by omega))) rfl ?_
      refine Wx.gyes rfl rfl (congrArg Value.bool g_18) ?_
      refine Wx.rd (v := .bool (decide (((ix 0 (tabV ls) 0) / 2) ≤ line))) (rd_geq rfl rfl) rfl ?_
      refine Wx.rd (v := .bool (decide (((ix 0 (tabV ls) 0) / 2) ≤ line))) (rd_pickF (congrArg Value.bool g_18) rfl) rfl ?_
      refine Wx.nil ⟨(), hS, ⟨?_, trivial⟩, Out.look rfl Out.refl⟩
      show Value.bool (decide (((ix 0 (tabV ls) 0) / 2) ≤ line)) = Value.bool (decide (line < 0) || decide (((ix 0 (tabV ls) 0) / 2) ≤ line))
      first | rw [g_18, Bool.false_or] | (rw [g_18]; rfl)
  rintro ⟨⟩ u_22 w_21 hS
  refine Wx.rd (v := .bool (decide (line < 0) || decide (((ix 0 (tabV ls) 0) / 2) ≤ line))) (rd_assign rfl) rfl ?_
  refine Wx.nil ?_
  refine W.condF rfl (by simp; omega) ?_
  refine W.skip ?_
  refine W.seq ?_
  refine W.reg ?_
  refine Wx.rd (v := (.slice none 0 0)) (rd_assign rfl) rfl ?_
  refine Wx.nil ?_
  refine W.seq ?_
  refine W.seq ?_
  refine W.reg ?_
  refine Wx.rd (v := .pointer (some ⟨g_1, 0, none⟩)) (rd_fieldAddr rfl foGg_32_0) rfl ?_
  refine Wx.rd (v := mv) (rd_loadX hS 2 rfl rfl rfl Tryz.isAgg30) rfl ?_
  refine Wx.rd (v := .int .i64 (ls.length : Int)) (rd_lenV rfl (hS.arg a_mv) Tryz.underlying30) rfl ?_
  refine Wx.rd (v := .int .i64 0) (rd_move rfl) rfl ?_
  refine Wx.nil ?_
  refine W.block ?_
  have hS := hS.addNil (tSl (tI .i64)) 25
  refine W.loop [8, 10, 11, 13, 39, 40, 41, 42, 43, 44, 45, 46, 47, 48, 49, 50, 51, 52, 53, 54, 55, 56, 57, 58, 59, 60, 61, 62, 63, 64, 65, 66, 67, 68, 69, 70, 71, 72, 73, 74] (fun x : Int × Value × (List (List Int)) => match x with | (k, ov, out) => [(39, .int .i64 k), (8, ov)]) (fun (x : Int × Value × (List (List Int))) w' => match x with | (k, ov, out) => St w O w' [.row (tSl (tI .i64)) 25 ov out, .box g_12 52 (List.map (Value.int .i64) (tabV ls)), .box g_5 32 [(.slice none 0 0)], .box g_1 32 [mv]] ∧ 0 ≤ k ∧ k ≤ ls.length ∧ out = (ls.take k.toNat).map (cutL line) ∧ (out.length : Int) = k) (fun x : Int × Value × (List (List Int)) => match x with | (k, ov, out) => (ls.length - k).toNat) (0, (.slice none 0 0), []) ⟨rfl, rfl, trivial⟩ ⟨hS, (by first | omega | simp), (by first | omega | simp), (rfl), (rfl)⟩ ?_
  rintro ⟨k, ov, out⟩ u_24 w_23 ⟨hS, h0, h1, h2, h3⟩
  refine W.seq ?_
  refine W.reg ?_
  refine Wx.rd (v := .bool (decide (k < (ls.length : Int)))) (rd_lss rfl rfl) rfl ?_
  refine Wx.nil ?_
  refine W.seq ?_
  refine W.condD rfl (fun c2 => ?_) (fun c2 => ?_)
  · -- yes
    have hkm : ix [] ls k ∈ ls := List.mem_of_getElem? (ix_get c2 h0)
    have hkl := map_len p_ok _ hkm
    refine W.skip ?_
    refine W.seq ?_
    refine W.block ?_
    refine W.seq ?_
    refine W.reg ?_
    refine Wx.ex (rd_index [] (hS.arg a_mv) rfl rfl Tryz.underlying30 Tryz.sizeOf25 (by first | omega | (simp only [List.length_set, List.length_append, List.length_cons, List.length_nil, List.length_replicate]; omega)) (by first | omega | (simp only [List.length_set, List.length_append, List.length_cons, List.length_nil, List.length_replicate]; omega))) rfl (fun p_25 hp_26 => ?_)
    refine Wx.ex (rd_load hp_26 rfl Tryz.isAgg25 Tryz.sizeOf25) rfl (fun v_27 hv_28 => ?_)
    have ln_29 := hv_28.len63
    have hS := hS.add hv_28
    refine Wx.rd (v := v_27) (rd_assign rfl) rfl ?_
    refine Wx.nil ?_
    refine W.seq ?_
    refine W.reg ?_
    refine Wx.rd (v := (.slice none 0 0)) (rd_assign rfl) rfl ?_
    refine Wx.nil ?_
    refine W.seq ?_
    refine W.seq ?_
    refine W.reg ?_
    refine Wx.rd (v := v_27) (rd_move rfl) rfl ?_
    refine Wx.rd (v := .int .i64 ((ix [] ls k).length : Int)) (rd_lenV rfl (hS.v 0 rfl) Tryz.underlying25) rfl ?_
    refine Wx.rd (v := .int .i64 0) (rd_move rfl) rfl ?_
    refine Wx.nil ?_
    refine W.block ?_
    have hS := hS.addNil (tI .i64) 3
    refine W.loop [11, 13, 45, 46, 47, 48, 49, 50, 51, 52, 53, 54, 55, 56, 57, 58, 59, 60, 61, 62, 63, 64, 65, 66, 67, 68, 69] (fun x : Int × Value × (List Int) => match x with | (j, xv, xs) => [(45, .int .i64 j), (11, xv)]) (fun (x : Int × Value × (List Int)) w' => match x with | (j, xv, xs) => St w O w' [.row (tI .i64) 3 xv xs, Ob.v (tSl (tI .i64)) (ix [] ls k) v_27, .row (tSl (tI .i64)) 25 ov out, .box g_12 52 (List.map (Value.int .i64) (tabV ls)), .box g_5 32 [(.slice none 0 0)], .box g_1 32 [mv]] ∧ 0 ≤ j ∧ j ≤ (ix [] ls k).length ∧ xs = cutL line ((ix [] ls k).take j.toNat) ∧ (xs.length : Int) ≤ j) (fun x : Int × Value × (List Int) => match x with | (j, xv, xs) => ((ix [] ls k).length - j).toNat) (0, (.slice none 0 0), []) ⟨rfl, rfl, trivial⟩ ⟨hS, (by first | omega | simp), (by first | omega | simp), (rfl), (by decide)⟩ ?_
    rintro ⟨j, xv, xs⟩ u_32 w_31 ⟨hS, j0, j1, j2, j3⟩
    refine W.seq ?_
    refine W.reg ?_
    refine Wx.rd (v := .bool (decide (j < ((ix [] ls k).length : Int)))) (rd_lss rfl rfl) rfl ?_
    refine Wx.nil ?_
    refine W.seq ?_
    refine W.condD rfl (fun c3 => ?_) (fun c3 => ?_)
    · -- yes
      have hej := map_rng p_ok _ hkm _ (ix_inl j0 c3)
      have hcn := cut_next (line := line) j0 c3
      refine W.skip ?_
      refine W.seq ?_
      refine W.block ?_
      refine W.seq ?_
      refine W.reg ?_
      refine Wx.ex (rd_index 0 (hS.v 1 rfl) rfl rfl Tryz.underlying25 Tryz.sizeOf3 (by first | omega | (simp only [List.length_set, List.length_append, List.length_cons, List.length_nil, List.length_replicate]; omega)) (by first | omega | (simp only [List.length_set, List.length_append, List.length_cons, List.length_nil, List.length_replicate]; omega))) rfl (fun p_33 hp_34 => ?_)
      refine Wx.rd (v := .int .i64 (ix 0 (ix [] ls k) j)) (rd_loadI hp_34 rfl Tryz.isAgg3 Tryz.sizeOf3) rfl ?_
      have bd_35 := bd_i64 hp_34.inK
      refine Wx.rd (v := .int .i64 (ix 0 (ix [] ls k) j)) (rd_assign rfl) rfl ?_
      refine Wx.nil ?_
      refine W.block ?_
      refine W.seq ?_
      refine W.reg ?_
      refine Wx.rd (v := .int .i64 (ix 0 (ix [] ls k) j)) (rd_move rfl) rfl ?_
      refine Wx.rd (v := .int .i64 line) (rd_move rfl) rfl ?_
      refine Wx.rd (v := .int .i64 (2 * line)) (rd_mul rfl rfl (in_i64 (by omega) (by omega))) rfl ?_
      refine Wx.rd (v := .bool (decide ((ix 0 (ix [] ls k) j) < (2 * line)))) (rd_lss rfl rfl) rfl ?_
      refine Wx.rd (v := .bool (decide ((ix 0 (ix [] ls k) j) < (2 * line)))) (rd_assign rfl) rfl ?_
      refine Wx.nil ?_
      refine W.condD rfl (fun c4 => ?_) (fun c4 => ?_)
      · -- yes
        refine W.reg ?_
        refine Wx.rd (v := xv) (rd_move rfl) rfl ?_
        refine Wx.rd (v := .int .i64 (ix 0 (ix [] ls k) j)) (rd_move rfl) rfl ?_
        refine Wx.lit (t := (tI .i64)) (ys := [ix 0 (ix [] ls k) j]) (vs := [.int .i64 (ix 0 (ix [] ls k) j)]) elGg_25 hS rfl rfl ⟨(V.mkInt (in_i64 (by omega) (by omega))), trivial⟩ (by decide) rfl (fun v_36 w_37 hx_38 hS => ?_)
        refine Wx.append elGg_25 hS 1 rfl rfl rfl (Src.ofR hS 0 rfl) (by simp only [maxLen]; first | omega | (simp; omega) | simp) (by first | omega | (simp; omega) | simp) rfl (fun v_39 w_40 hz_41 hS => ?_)
        refine Wx.rd (v := v_39) (rd_assign rfl) rfl ?_
        refine Wx.nil ?_
        refine W.reg ?_
        refine Wx.rd (v := .int .i64 (j + 1)) (rd_add rfl rfl (in_i64 (by omega) (by omega))) rfl ?_
        refine Wx.rd (v := .int .i64 (j + 1)) (rd_move rfl) rfl ?_
        refine Wx.nil ?_
        refine ⟨(j + 1, v_39, xs ++ [ix 0 (ix [] ls k) j]), (by show ((ix [] ls k).length - (j + 1)).toNat < ((ix [] ls k).length - j).toNat; omega), ?_, ?_, Out.look rfl Out.self⟩
        · exact ⟨hS.tl, (by first | omega | assumption), (by first | omega | assumption), (by rw [hcn, ← j2, if_pos c4]), (by simp only [List.length_append, List.length_cons, List.length_nil]; omega)⟩
        · exact ⟨rfl, rfl, trivial⟩
      · -- no
        refine W.seq ?_
        refine W.reg ?_
        refine Wx.rd (v := .int .i64 (ix 0 (ix [] ls k) j)) (rd_move rfl) rfl ?_
        refine Wx.rd (v := .int .i64 line) (rd_move rfl) rfl ?_
        refine Wx.rd (v := .int .i64 (2 * line)) (rd_mul rfl rfl (in_i64 (by omega) (by omega))) rfl ?_
        refine Wx.rd (v := .int .i64 ((2 * line) + 1)) (rd_add rfl rfl (in_i64 (by omega) (by omega))) rfl ?_
        refine Wx.rd (v := .bool (decide (((2 * line) + 1) < (ix 0 (ix [] ls k) j)))) (rd_gtr rfl rfl) rfl ?_
        refine Wx.rd (v := .bool (decide (((2 * line) + 1) < (ix 0 (ix [] ls k) j)))) (rd_assign rfl) rfl ?_
        refine Wx.nil ?_
        refine W.condD rfl (fun c5 => ?_) (fun c5 => ?_)
        · -- yes
          refine W.reg ?_
          refine Wx.rd (v := xv) (rd_move rfl) rfl ?_
          refine Wx.rd (v := .int .i64 (ix 0 (ix [] ls k) j)) (rd_move rfl) rfl ?_
          refine Wx.rd (v := .int .i64 ((ix 0 (ix [] ls k) j) - 2)) (rd_sub rfl rfl (in_i64 (by omega) (by omega))) rfl ?_
          refine Wx.lit (t := (tI .i64)) (ys := [(ix 0 (ix [] ls k) j) - 2]) (vs := [.int .i64 ((ix 0 (ix [] ls k) j) - 2)]) elGg_25 hS rfl rfl ⟨(V.mkInt (in_i64 (by omega) (by omega))), trivial⟩ (by decide) rfl (fun v_42 w_43 hx_44 hS => ?_)
          refine Wx.append elGg_25 hS 1 rfl rfl rfl (Src.ofR hS 0 rfl) (by simp only [maxLen]; first | omega | (simp; omega) | simp) (by first | omega | (simp; omega) | simp) rfl (fun v_45 w_46 hz_47 hS => ?_)
          refine Wx.rd (v := v_45) (rd_assign rfl) rfl ?_
          refine Wx.nil ?_
          refine W.reg ?_
          refine Wx.rd (v := .int .i64 (j + 1)) (rd_add rfl rfl (in_i64 (by omega) (by omega))) rfl ?_
          refine Wx.rd (v := .int .i64 (j + 1)) (rd_move rfl) rfl ?_
          refine Wx.nil ?_
          refine ⟨(j + 1, v_45, xs ++ [(ix 0 (ix [] ls k) j) - 2]), (by show ((ix [] ls k).length - (j + 1)).toNat < ((ix [] ls k).length - j).toNat; omega), ?_, ?_, Out.look rfl Out.self⟩
          · exact ⟨hS.tl, (by first | omega | assumption), (by first | omega | assumption), (by rw [hcn, ← j2, if_neg c4, if_pos c5]), (by simp only [List.length_append, List.length_cons, List.length_nil]; omega)⟩
          · exact ⟨rfl, rfl, trivial⟩
        · -- no
          refine W.skip ?_
          refine W.reg ?_
          refine Wx.rd (v := .int .i64 (j + 1)) (rd_add rfl rfl (in_i64 (by omega) (by omega))) rfl ?_
          refine Wx.rd (v := .int .i64 (j + 1)) (rd_move rfl) rfl ?_
          refine Wx.nil ?_
          refine ⟨(j + 1, xv, xs), (by show ((ix [] ls k).length - (j + 1)).toNat < ((ix [] ls k).length - j).toNat; omega), ?_, ?_, Out.look rfl Out.self⟩
          · exact ⟨hS, (by first | omega | assumption), (by first | omega | assumption), (by rw [hcn, ← j2, if_neg c4, if_neg c5, List.append_nil]), (by omega)⟩
          · exact ⟨rfl, rfl, trivial⟩
    · -- no
      refine W.exit rfl ?_
      refine W.reg ?_
      refine Wx.rd (v := ov) (rd_move rfl) rfl ?_
      refine Wx.rd (v := xv) (rd_move rfl) rfl ?_
      have hS := hS.freeze 0 rfl
      refine Wx.lit (t := (tSl (tI .i64))) (ys := [xs]) (vs := [xv]) elGg_30 hS rfl rfl ⟨(hS.v 0 rfl), trivial⟩ (by decide) rfl (fun v_49 w_50 hx_51 hS => ?_)
      refine Wx.append elGg_30 hS 3 rfl rfl rfl (Src.ofR hS 0 rfl) (by simp only [maxLen]; first | omega | (simp; omega) | simp) (by first | omega | (simp; omega) | simp) rfl (fun v_52 w_53 hz_54 hS => ?_)
      refine Wx.rd (v := v_52) (rd_assign rfl) rfl ?_
      refine Wx.nil ?_
      refine W.reg ?_
      refine Wx.rd (v := .int .i64 (k + 1)) (rd_add rfl rfl (in_i64 (by omega) (by omega))) rfl ?_
      refine Wx.rd (v := .int .i64 (k + 1)) (rd_move rfl) rfl ?_
      refine Wx.nil ?_
      refine ⟨(k + 1, v_52, out ++ [xs]), (by show (ls.length - (k + 1)).toNat < (ls.length - k).toNat; omega), ?_, ?_, Out.look rfl (Out.hav rfl (Out.look rfl Out.self))⟩
      · exact ⟨St.tl (St.tl (hS.tl)), (by first | omega | assumption), (by first | omega | assumption), (by rw [cuts_next h0 c2, h2, j2, List.take_of_length_le (show (ix [] ls k).length ≤ j.toNat by omega)]), (by simp only [List.length_append, List.length_cons, List.length_nil]; omega)⟩
      · exact ⟨rfl, rfl, trivial⟩
  · -- no
    have hmp : out = ls.map (cutL line) := by rw [h2, List.take_of_length_le (by omega)]
    have htz2 := tabV_len (ls := out)
    have hin2 : ∀ z ∈ tabV out, InK .i64 z := by rw [hmp]; exact tab_in2 hcr (Nat.le_trans (cut_flat ls) p_ok.m.1) (by rw [List.length_map]; exact hlc)
    refine W.exit rfl ?_
    refine W.seq ?_
    refine W.reg ?_
    refine Wx.rd (v := ov) (rd_move rfl) rfl ?_
    refine Wx.callF (run_callF Tryz.call23 rfl) (F23 (hS.lend 0 rfl) (by rw [hmp]; exact hcr) (by rw [hmp]; exact hcl) (by omega)) rfl ?_
    rintro r_55 w_56 hx_57 rfl
    have hS := hS.ext hx_57
    refine Wx.alloc (cs := List.map (Value.int .i64) (List.replicate 34 (0 : Int))) hS Tryz.zeroValue52 (by kernel_rfl) rfl (fun g_58 w_59 hx_61 hb_60 hS => ?_)
    have hS : St _ _ w_59 [.box g_58 52 (List.map (Value.int .i64) (List.replicate 34 (0 : Int))), .row (tSl (tI .i64)) 25 ov out, .box g_12 52 (List.map (Value.int .i64) (tabV ls)), .box g_5 32 [(.slice none 0 0)], .box g_1 32 [mv]] := hS
    refine Wx.storeX (cs' := List.map (Value.int .i64) (tabV out)) (ds := List.map (Value.int .i64) (tabV out)) hS 0 rfl rfl rfl rfl (fun w' => by rw [List.length_map, show List.length (tabV out) = 34 by first | omega | (simp; omega) | simp]; exact Tryz.sizeOf52 w') (by first | (simp; omega) | simp) (by intro u hu; obtain ⟨_, _, rfl⟩ := List.mem_map.1 hu; rfl) (by rw [List.take_zero, List.nil_append, List.drop_of_length_le (by first | (simp; omega) | simp), List.append_nil]) (fun w_62 hz_63 hS => ?_)
    refine Wx.nil ?_
    refine W.seq ?_
    refine W.reg ?_
    refine Wx.rd (v := .agg (List.map (Value.int .i64) (tabV out)).toArray) (rd_loadXs (ds := List.map (Value.int .i64) (tabV out)) hS 0 rfl rfl (by rw [List.drop_zero, List.take_of_length_le (by simp; omega)]) (by simp; omega) Tryz.isAgg52 Tryz.sizeOf52) rfl ?_
    refine Wx.rd (v := .agg (List.map (Value.int .i64) (tabV out)).toArray) (rd_loadXs (ds := List.map (Value.int .i64) (tabV out)) hS 0 rfl rfl (by rw [List.drop_zero, List.take_of_length_le (by simp; omega)]) (by simp; omega) Tryz.isAgg52 Tryz.sizeOf52) rfl ?_
    refine Wx.rd (v := .func (.func 24) #[.agg (List.map (Value.int .i64) (tabV out)).toArray] #[]) (rd_makeFunc (vs := [.agg (List.map (Value.int .i64) (tabV out)).toArray]) (us := []) rfl rfl) rfl ?_
    refine Wx.callF (run_callF Tryz.call14 rfl) (FCa htz2 hin2 htz2 hin2 (by rw [hmp]; exact p_c) (by rw [hmp]; exact p_a) hS.fb_lt) rfl ?_
    rintro r_64 w_65 hx_66 ⟨_, rfl, hv_67⟩
    have hS := hS.pushFrO hx_66 hv_67
    refine Wx.rd (v := .agg #[r_64]) (rd_buildC (vs := [(0, r_64)]) (us := [(0, .agg #[r_64])]) rfl (parts_cons (Go.Wk.cells_one (hS.rowOne 0 rfl)) parts_nil) (by kernel_rfl)) rfl ?_
    refine Wx.storeX (cs' := [r_64]) (ds := [r_64]) hS 4 rfl rfl rfl rfl Tryz.sizeOf32 (Nat.le_of_ble_eq_true rfl) (one_cons (hS.rowOne 0 rfl) one_nil) rfl (fun w_69 hz_70 hS => ?_)
    refine Wx.rd (v := .int .i64 0) (rd_assign rfl) rfl ?_
    refine Wx.nil ?_
    have e0_0 : cutV ls line = cycV (teN (tabV out)) (arndF (tabV out)) := by rw [hmp]; rfl
    exact W.ret ⟨.tuple #[.agg #[r_64], .int .i64 0], (ResIs.cell2 hS 4 rfl rfl Tryz.isAgg32 Tryz.sizeOf32), hS.bel, ⟨r_64, rfl, (by rw [e0_0]; exact (hS.frO 0 rfl))⟩⟩
end Go.Proofs.YtdpdlplkngggoaaGreatDoor

namespace Go.Proofs.YtdpdlplkngggoaaGreatDoor
open Go.Wk Go.RowKit Go.Lib
set_option linter.unusedVariables false
set_option linter.unusedSimpArgs false


theorem X73 {x : Int} {w : World} (i_x : InK .i64 x) : Calls Tryz.prog 73 #[.int .i64 x] w (Bk fun r w' => r = .bool false ∧ w' = w) := by
  have b_x := bd_i64 i_x
  have hS := St.start0 w
  refine enterB Tryz.func73 rfl Tryz.ntmps73 Tryz.results73 rfl ?_
  refine W.seq ?_
  refine W.reg ?_
  refine Wx.rd (v := .bool false) (rd_assign rfl) rfl ?_
  refine Wx.nil ?_
  refine W.seq ?_
  refine W.reg ?_
  refine Wx.rd (v := .int .i64 x) (rd_move rfl) rfl ?_
  refine Wx.rd (v := .int .i64 x) (rd_move rfl) rfl ?_
  refine Wx.rd (v := .bool (decide (x ≠ x))) (rd_neq rfl rfl) rfl ?_
  refine Wx.rd (v := .bool (decide (x ≠ x))) (rd_assign rfl) rfl ?_
  refine Wx.nil ?_
  have e0_0 : (decide (x ≠ x)) = false := by simp
  exact W.ret ⟨.bool (decide (x ≠ x)), ResIs.one, (by rw [e0_0]), rfl⟩

theorem X51 {x : Int} {y : Int} {w : World} (i_x : InK .i64 x) (i_y : InK .i64 y) : Calls Tryz.prog 51 #[.int .i64 x, .int .i64 y] w (Bk fun r w' => r = .int .i64 (cmpI x y) ∧ w' = w) := by
  have b_y := bd_i64 i_y
  have b_x := bd_i64 i_x
  have hS := St.start0 w
  refine enterB Tryz.func51 rfl Tryz.ntmps51 Tryz.results51 rfl ?_
  refine W.seq ?_
  refine W.reg ?_
  refine Wx.rd (v := .int .i64 0) (rd_assign rfl) rfl ?_
  refine Wx.nil ?_
  refine W.seq ?_
  refine W.reg ?_
  refine Wx.rd (v := .int .i64 x) (rd_move rfl) rfl ?_
  refine Wx.callB (run_callF Tryz.call73 rfl) (X73 i_x) rfl ?_
  rintro r_1 w_2 ⟨rfl, hw⟩; subst w_2
  refine Wx.rd (v := .bool false) (rd_assign rfl) rfl ?_
  refine Wx.nil ?_
  refine W.seq ?_
  refine W.reg ?_
  refine Wx.rd (v := .int .i64 y) (rd_move rfl) rfl ?_
  refine Wx.callB (run_callF Tryz.call73 rfl) (X73 i_y) rfl ?_
  rintro r_4 w_5 ⟨rfl, hw⟩; subst w_5
  refine Wx.rd (v := .bool false) (rd_assign rfl) rfl ?_
  refine Wx.nil ?_
  refine W.seq ?_
  refine W.seq ?_
  refine W.reg ?_
  refine Wx.rd (v := .bool false) (rd_move rfl) rfl ?_
  refine Wx.nil ?_
  refine W.condF rfl rfl ?_
  refine W.skip ?_
  refine W.seq ?_
  refine W.seq ?_
  refine W.reg ?_
  refine Wx.rd (v := .bool false) (rd_move rfl) rfl ?_
  refine Wx.nil ?_
  refine W.condF rfl rfl ?_
  refine W.skip ?_
  refine W.seq ?_
  refine W.seq ?_
  refine W.reg ?_
  refine Wx.rd (v := .int .i64 x) (rd_move rfl) rfl ?_
  refine Wx.rd (v := .int .i64 y) (rd_move rfl) rfl ?_
  refine Wx.rd (v := .bool (decide (x < y))) (rd_lss rfl rfl) rfl ?_
  refine Wx.nil ?_
  refine W.condD rfl (fun c2 => ?_) (fun c2 => ?_)
  · -- yes
    refine W.seq ?_
    refine W.reg ?_
    refine Wx.rd (v := .int .i64 (-1)) (rd_assign rfl) rfl ?_
    refine Wx.nil ?_
    have e0_0 : (cmpI x y) = (-1 : Int) := by rw [cmpI]; (repeat' split) <;> omega
    exact W.ret ⟨.int .i64 (-1), ResIs.one, (by rw [e0_0]), rfl⟩
  · -- no
    refine W.skip ?_
    refine W.seq ?_
    refine W.seq ?_
    refine W.reg ?_
    refine Wx.rd (v := .int .i64 x) (rd_move rfl) rfl ?_
    refine Wx.rd (v := .int .i64 y) (rd_move rfl) rfl ?_
    refine Wx.rd (v := .bool (decide (y < x))) (rd_gtr rfl rfl) rfl ?_
    refine Wx.nil ?_
    refine W.condD rfl (fun c3 => ?_) (fun c3 => ?_)
    · -- yes
      refine W.seq ?_
      refine W.reg ?_
      refine Wx.rd (v := .int .i64 1) (rd_assign rfl) rfl ?_
      refine Wx.nil ?_
      have e1_0 : (cmpI x y) = (1 : Int) := by rw [cmpI]; (repeat' split) <;> omega
      exact W.ret ⟨.int .i64 1, ResIs.one, (by rw [e1_0]), rfl⟩
    · -- no
      refine W.skip ?_
      refine W.seq ?_
      refine W.reg ?_
      refine Wx.rd (v := .int .i64 0) (rd_assign rfl) rfl ?_
      refine Wx.nil ?_
      have e2_0 : (cmpI x y) = (0 : Int) := by rw [cmpI]; (repeat' split) <;> omega
      exact W.ret ⟨.int .i64 0, ResIs.one, (by rw [e2_0]), rfl⟩

theorem X41 {xv : Value} {xs : List Int} {Fr_xv : List (Option Nat)} {yv : Value} {ys : List Int} {Fr_yv : List (Option Nat)} {w : World} (h_xv : V (tSl (tI .i64)) xs xv Fr_xv w) (h_yv : V (tSl (tI .i64)) ys yv Fr_yv w) : Calls Tryz.prog 41 #[xv, yv] w (Bk fun r w' => r = .int .i64 (cmpL xs ys) ∧ w' = w) := by
  have a_xv := h_xv.any
  have l_xv := h_xv.len63
  have a_yv := h_yv.any
  have l_yv := h_yv.len63
  have hS := St.start0 w
  refine enterB Tryz.func41 rfl Tryz.ntmps41 Tryz.results41 rfl ?_
  refine W.seq ?_
  refine W.reg ?_
  refine Wx.rd (v := .int .i64 0) (rd_assign rfl) rfl ?_
  refine Wx.nil ?_
  refine W.seq ?_
  refine W.seq ?_
  refine W.reg ?_
  refine Wx.rd (v := xv) (rd_move rfl) rfl ?_
  refine Wx.rd (v := .int .i64 (xs.length : Int)) (rd_lenV rfl (hS.arg a_xv) Tryz.underlying25) rfl ?_
  refine Wx.rd (v := .int .i64 0) (rd_move rfl) rfl ?_
  refine Wx.nil ?_
  refine W.block ?_
  refine W.loop [4, 5, 6, 7, 8, 11, 12, 13, 14, 15, 16, 17, 18, 19, 20, 21, 22, 23, 24, 25, 26, 27, 28, 29, 30] (fun (k : Int) => [(11, .int .i64 k)]) (fun (k : Int) w' => w' = w ∧ 0 ≤ k ∧ k ≤ xs.length ∧ cmpL (xs.drop k.toNat) (ys.drop k.toNat) = cmpL xs ys) (fun (k : Int) => (xs.length - k).toNat) 0 ⟨rfl, trivial⟩ ⟨rfl, (by first | omega | simp), (by first | omega | simp), (by simp)⟩ ?_
  rintro k u_2 w_1 ⟨hw, h0, h1, h2⟩; subst w_1
  refine W.seq ?_
  refine W.reg ?_
  refine Wx.rd (v := .bool (decide (k < (xs.length : Int)))) (rd_lss rfl rfl) rfl ?_
  refine Wx.nil ?_
  refine W.seq ?_
  refine W.condD rfl (fun c0 => ?_) (fun c0 => ?_)
  · -- yes
    refine W.skip ?_
    refine W.seq ?_
    refine W.block ?_
    refine W.seq ?_
    refine W.reg ?_
    refine Wx.rd (v := .int .i64 k) (rd_move rfl) rfl ?_
    refine Wx.ex (rd_index 0 (hS.arg a_xv) rfl rfl Tryz.underlying25 Tryz.sizeOf3 (by first | omega | (simp only [List.length_set, List.length_append, List.length_cons, List.length_nil, List.length_replicate]; omega)) (by first | omega | (simp only [List.length_set, List.length_append, List.length_cons, List.length_nil, List.length_replicate]; omega))) rfl (fun p_3 hp_4 => ?_)
    refine Wx.rd (v := .int .i64 (ix 0 xs k)) (rd_loadI hp_4 rfl Tryz.isAgg3 Tryz.sizeOf3) rfl ?_
    have bd_5 := bd_i64 hp_4.inK
    refine Wx.rd (v := .int .i64 k) (rd_assign rfl) rfl ?_
    refine Wx.rd (v := .int .i64 (ix 0 xs k)) (rd_assign rfl) rfl ?_
    refine Wx.nil ?_
    refine W.seq ?_
    refine W.seq ?_
    refine W.reg ?_
    refine Wx.rd (v := .int .i64 k) (rd_move rfl) rfl ?_
    refine Wx.rd (v := yv) (rd_move rfl) rfl ?_
    refine Wx.rd (v := .int .i64 (ys.length : Int)) (rd_lenV rfl (hS.arg a_yv) Tryz.underlying25) rfl ?_
    refine Wx.rd (v := .bool (decide ((ys.length : Int) ≤ k))) (rd_geq rfl rfl) rfl ?_
    refine Wx.nil ?_
    refine W.condD rfl (fun c1 => ?_) (fun c1 => ?_)
    · -- yes
      refine W.seq ?_
      refine W.reg ?_
      refine Wx.rd (v := .int .i64 1) (rd_assign rfl) rfl ?_
      refine Wx.nil ?_
      have e0_0 : (cmpL xs ys) = (1 : Int) := by exact cmpl_long h0 c0 (by omega) h2
      exact W.ret ⟨.int .i64 1, ResIs.one, (by rw [e0_0]), rfl⟩
    · -- no
      refine W.skip ?_
      refine W.seq ?_
      refine W.reg ?_
      refine Wx.rd (v := yv) (rd_move rfl) rfl ?_
      refine Wx.rd (v := .int .i64 k) (rd_move rfl) rfl ?_
      refine Wx.ex (rd_index 0 (hS.arg a_yv) rfl rfl Tryz.underlying25 Tryz.sizeOf3 (by first | omega | (simp only [List.length_set, List.length_append, List.length_cons, List.length_nil, List.length_replicate]; omega)) (by first | omega | (simp only [List.length_set, List.length_append, List.length_cons, List.length_nil, List.length_replicate]; omega))) rfl (fun p_6 hp_7 => ?_)
      refine Wx.rd (v := .int .i64 (ix 0 ys k)) (rd_loadI hp_7 rfl Tryz.isAgg3 Tryz.sizeOf3) rfl ?_
      have bd_8 := bd_i64 hp_7.inK
      refine Wx.rd (v := .int .i64 (ix 0 ys k)) (rd_assign rfl) rfl ?_
      refine Wx.nil ?_
      refine W.seq ?_
      refine W.reg ?_
      refine Wx.rd (v := .int .i64 (ix 0 xs k)) (rd_move rfl) rfl ?_
      refine Wx.rd (v := .int .i64 (ix 0 ys k)) (rd_move rfl) rfl ?_
      refine Wx.callB (run_callF Tryz.call51 rfl) (X51 (in_i64 (by omega) (by omega)) (in_i64 (by omega) (by omega))) rfl ?_
      rintro r_9 w_10 ⟨rfl, hw⟩; subst w_10
      have hcb : -1 ≤ cmpI (ix 0 xs k) (ix 0 ys k) ∧ cmpI (ix 0 xs k) (ix 0 ys k) ≤ 1 := by rw [cmpI]; (repeat' split) <;> omega
      refine Wx.rd (v := .int .i64 (cmpI (ix 0 xs k) (ix 0 ys k))) (rd_assign rfl) rfl ?_
      refine Wx.nil ?_
      refine W.seq ?_
      refine W.reg ?_
      refine Wx.rd (v := .int .i64 (cmpI (ix 0 xs k) (ix 0 ys k))) (rd_move rfl) rfl ?_
      refine Wx.rd (v := .bool (decide ((cmpI (ix 0 xs k) (ix 0 ys k)) ≠ 0))) (rd_neq rfl rfl) rfl ?_
      refine Wx.nil ?_
      refine W.condD rfl (fun c2 => ?_) (fun c2 => ?_)
      · -- yes
        refine W.seq ?_
        refine W.reg ?_
        refine Wx.rd (v := .int .i64 (cmpI (ix 0 xs k) (ix 0 ys k))) (rd_move rfl) rfl ?_
        refine Wx.rd (v := .int .i64 (cmpI (ix 0 xs k) (ix 0 ys k))) (rd_assign rfl) rfl ?_
        refine Wx.nil ?_
        have e1_0 : (cmpL xs ys) = (cmpI (ix 0 xs k) (ix 0 ys k) : Int) := by exact cmpl_here h0 c0 (by omega) h2 c2
        exact W.ret ⟨.int .i64 (cmpI (ix 0 xs k) (ix 0 ys k)), ResIs.one, (by rw [e1_0]), rfl⟩
      · -- no
        refine W.skip ?_
        refine W.reg ?_
        refine Wx.rd (v := .int .i64 (k + 1)) (rd_add rfl rfl (in_i64 (by omega) (by omega))) rfl ?_
        refine Wx.rd (v := .int .i64 (k + 1)) (rd_move rfl) rfl ?_
        refine Wx.nil ?_
        refine ⟨k + 1, (by show (xs.length - (k + 1)).toNat < (xs.length - k).toNat; omega), ?_, ?_, Out.look rfl Out.self⟩
        · exact ⟨rfl, (by first | omega | assumption), (by first | omega | assumption), (cmpl_next h0 c0 (by omega) h2 (by omega))⟩
        · exact ⟨rfl, trivial⟩
  · -- no
    refine W.exit rfl ?_
    refine W.seq ?_
    refine W.seq ?_
    refine W.reg ?_
    refine Wx.rd (v := xv) (rd_move rfl) rfl ?_
    refine Wx.rd (v := .int .i64 (xs.length : Int)) (rd_lenV rfl (hS.arg a_xv) Tryz.underlying25) rfl ?_
    refine Wx.rd (v := yv) (rd_move rfl) rfl ?_
    refine Wx.rd (v := .int .i64 (ys.length : Int)) (rd_lenV rfl (hS.arg a_yv) Tryz.underlying25) rfl ?_
    refine Wx.rd (v := .bool (decide ((xs.length : Int) < (ys.length : Int)))) (rd_lss rfl rfl) rfl ?_
    refine Wx.nil ?_
    refine W.condD rfl (fun c3 => ?_) (fun c3 => ?_)
    · -- yes
      refine W.seq ?_
      refine W.reg ?_
      refine Wx.rd (v := .int .i64 (-1)) (rd_assign rfl) rfl ?_
      refine Wx.nil ?_
      have e2_0 : (cmpL xs ys) = (-1 : Int) := by exact cmpl_short h0 (by omega) h2 (by omega)
      exact W.ret ⟨.int .i64 (-1), ResIs.one, (by rw [e2_0]), rfl⟩
    · -- no
      refine W.skip ?_
      refine W.seq ?_
      refine W.reg ?_
      refine Wx.rd (v := .int .i64 0) (rd_assign rfl) rfl ?_
      refine Wx.nil ?_
      have e3_0 : (cmpL xs ys) = (0 : Int) := by exact cmpl_same h0 (by omega) h2 (by omega)
      exact W.ret ⟨.int .i64 0, ResIs.one, (by rw [e3_0]), rfl⟩

theorem X40 {x y : (Int × Int) × Int} {w : World} (hx : jnB x) (hy : jnB y) : Calls Tryz.prog 40 #[.agg (encJ x).toArray, .agg (encJ y).toArray] w (Bk fun r w' => r = .int .i64 (cmpJ x y) ∧ ∃ q os', w' = Go.Sort.grow (w.drewN q) os') := by
  obtain ⟨⟨x0, x1⟩, xh⟩ := x
  obtain ⟨⟨y0, y1⟩, yh⟩ := y
  obtain ⟨⟨hx0, hx0'⟩, ⟨hx1, hx1'⟩, hx2, hx2'⟩ := hx
  obtain ⟨⟨hy0, hy0'⟩, ⟨hy1, hy1'⟩, hy2, hy2'⟩ := hy
  simp only at hx0 hx0' hx1 hx1' hx2 hx2' hy0 hy0' hy1 hy1' hy2 hy2'
  have hS := St.start0 w
  refine enterB (vs := [.agg (encJ ((x0, x1), xh)).toArray, .agg (encJ ((y0, y1), yh)).toArray]) Tryz.func40 rfl Tryz.ntmps40 Tryz.results40 rfl ?_
  refine W.seq ?_
  refine W.reg ?_
  refine Wo.boxX (cs := encJ ((x0, x1), xh)) hS rfl rfl rfl (fun hS => ?_)
  refine Wo.boxX (cs := encJ ((y0, y1), yh)) hS rfl rfl rfl (fun hS => ?_)
  rw [Go.Sort.grow_grow] at hS ⊢
  have hg : ∃ os : Array Obj, Go.Sort.grow w (#[.cells (encJ ((x0, x1), xh)).toArray 70] ++ #[.cells (encJ ((y0, y1), yh)).toArray 70]) = Go.Sort.grow w os := ⟨_, rfl⟩
  generalize hw2 : Go.Sort.grow w (#[.cells (encJ ((x0, x1), xh)).toArray 70] ++ #[.cells (encJ ((y0, y1), yh)).toArray 70]) = w2 at hS hg ⊢
  generalize hg2 : (Go.Sort.grow w #[.cells (encJ ((x0, x1), xh)).toArray 70]).heap.size = g2 at hS ⊢
  generalize hg1 : w.heap.size = g1 at hS ⊢
  simp only [encJ] at hS
  obtain ⟨os, hos⟩ := hg
  refine Wx.rd (v := .int .i64 0) (rd_assign rfl) rfl ?_
  refine Wx.nil ?_
  refine W.seq ?_
  refine W.seq ?_
  refine W.reg ?_
  refine Wx.rd (v := .pointer (some ⟨g1, 2, none⟩)) (rd_fieldAddr (o := 0) (j := 2) rfl (by kernel_rfl)) rfl ?_
  refine Wx.rd (v := .int .i64 xh) (rd_loadX hS 1 rfl rfl rfl Tryz.isAgg3) rfl ?_
  refine Wx.rd (v := .pointer (some ⟨g2, 2, none⟩)) (rd_fieldAddr (o := 0) (j := 2) rfl (by kernel_rfl)) rfl ?_
  refine Wx.rd (v := .int .i64 yh) (rd_loadX hS 0 rfl rfl rfl Tryz.isAgg3) rfl ?_
  refine Wx.rd (v := .bool (decide (xh ≠ yh))) (rd_neq rfl rfl) rfl ?_
  refine Wx.nil ?_
  refine W.condD rfl (fun c0 => ?_) (fun c0 => ?_)
  · refine W.seq ?_
    refine W.reg ?_
    refine Wx.rd (v := .pointer (some ⟨g1, 2, none⟩)) (rd_fieldAddr (o := 0) (j := 2) rfl (by kernel_rfl)) rfl ?_
    refine Wx.rd (v := .int .i64 xh) (rd_loadX hS 1 rfl rfl rfl Tryz.isAgg3) rfl ?_
    refine Wx.rd (v := .pointer (some ⟨g2, 2, none⟩)) (rd_fieldAddr (o := 0) (j := 2) rfl (by kernel_rfl)) rfl ?_
    refine Wx.rd (v := .int .i64 yh) (rd_loadX hS 0 rfl rfl rfl Tryz.isAgg3) rfl ?_
    refine Wx.rd (v := .int .i64 (xh - yh)) (rd_sub rfl rfl (in_i64 (by omega) (by omega))) rfl ?_
    refine Wx.rd (v := .int .i64 (xh - yh)) (rd_assign rfl) rfl ?_
    refine Wx.nil ?_
    exact W.ret ⟨.int .i64 (xh - yh), ResIs.one, (by rw [cmpJ, if_pos c0]), 0, os, hos⟩
  · have s1 := hS.sliceBox (o := 0) (k := .i64) (m := 2) (xs := [x0, x1]) (cap := 2) 1 rfl rfl (fun x hx => by simp only [List.mem_cons, List.not_mem_nil, or_false] at hx; rcases hx with rfl | rfl <;> exact in_i64 (by omega) (by omega)) rfl (Nat.le_refl _) (by decide)
    have s2 := hS.sliceBox (o := 0) (k := .i64) (m := 2) (xs := [y0, y1]) (cap := 2) 0 rfl rfl (fun x hx => by simp only [List.mem_cons, List.not_mem_nil, or_false] at hx; rcases hx with rfl | rfl <;> exact in_i64 (by omega) (by omega)) rfl (Nat.le_refl _) (by decide)
    have v1 := s1.v 0 rfl
    have v2 := s2.v 0 rfl
    refine W.skip ?_
    refine W.seq ?_
    refine W.regionC (by kernel_rfl) rfl (by kernel_rfl) Drew.one ?_
    refine Wc.rd (v := .pointer (some ⟨g1, 0, none⟩)) (rd_fieldAddr (o := 0) (j := 0) rfl (by kernel_rfl)) rfl ?_
    refine Wc.rd (v := .slice (some ⟨g1, 0, none⟩) 2 2) (rd_sliceArrB (m := 2) Tryz.underlying23 Tryz.sizeOf3 rfl) rfl ?_
    refine Wc.rd (v := .pointer (some ⟨g2, 0, none⟩)) (rd_fieldAddr (o := 0) (j := 0) rfl (by kernel_rfl)) rfl ?_
    refine Wc.rd (v := .slice (some ⟨g2, 0, none⟩) 2 2) (rd_sliceArrB (m := 2) Tryz.underlying23 Tryz.sizeOf3 rfl) rfl ?_
    refine Wc.call (run_callF Tryz.call41 rfl) (v := .int .i64 (cmpL [x0, x1] [y0, y1])) (fun w' hw' => (X41 (v1.ext hw'.ext) (v2.ext hw'.ext)).mono ?_) rfl ?_
    · rintro e w3 ⟨r, rfl, rfl, rfl⟩; exact ⟨_, rfl, rfl, hw'⟩
    refine Wc.rd (v := .int .i64 (cmpL [x0, x1] [y0, y1])) (rd_assign rfl) rfl ?_
    refine Wc.nil ?_
    rintro w' ⟨q, rfl⟩
    refine W.ret ⟨.int .i64 (cmpL [x0, x1] [y0, y1]), ResIs.one, (by rw [cmpJ, if_neg c0]), q, os, by rw [hos]; rfl⟩


abbrev JB := {x : (Int × Int) × Int // jnB x}
instance : Inhabited JB := ⟨⟨((0, 0), 0), by unfold jnB; decide⟩⟩
abbrev tJ : Ty ((Int × Int) × Int) := tP (tP (tI .i64) (tI .i64)) (tI .i64)
theorem tJ_enc : ∀ (F : List (Option Nat)) (w : World) (x : (Int × Int) × Int) (cs : List Value), tJ.rep F w x cs → cs = encJ x := by
  rintro F w x cs ⟨c, d, rfl, ⟨c1, c2, rfl, ⟨rfl, _⟩, rfl, _⟩, rfl, _⟩; rfl
theorem ltOf_J {x y : JB} : Go.Proofs.ltOf (fun x y : JB => cmpJ x.1 y.1) x y = true ↔ jLt x.1 y.1 := by
  rw [Go.Proofs.ltOf, decide_eq_true_eq, cmpJ_lt]
theorem ltOf_Jf {x y : JB} : Go.Proofs.ltOf (fun x y : JB => cmpJ x.1 y.1) x y = false ↔ ¬ jLt x.1 y.1 := by
  rw [← Bool.not_eq_true, ltOf_J]
theorem swo_J : Go.Sort.SWO (Go.Proofs.ltOf fun x y : JB => cmpJ x.1 y.1) where
  irrefl := fun x => ltOf_Jf.2 (by unfold jLt; omega)
  trans := fun x y z h k => ltOf_J.2 (by have := ltOf_J.1 h; have := ltOf_J.1 k; unfold jLt at *; omega)
  ntrans := fun x y z h k => ltOf_Jf.2 (by have := ltOf_Jf.1 h; have := ltOf_Jf.1 k; unfold jLt at *; omega)
theorem tot_J (x y : JB) (h : Go.Proofs.ltOf (fun x y : JB => cmpJ x.1 y.1) x y = false) (k : Go.Proofs.ltOf (fun x y : JB => cmpJ x.1 y.1) y x = false) : x = y := by
  have h := ltOf_Jf.1 h
  have k := ltOf_Jf.1 k
  obtain ⟨⟨⟨a, b⟩, c⟩, hx⟩ := x
  obtain ⟨⟨⟨a', b'⟩, c'⟩, hy⟩ := y
  unfold jLt at h k
  simp only at h k
  have h1 : a = a' := by omega
  have h2 : b = b' := by omega
  have h3 : c = c' := by omega
  subst h1 h2 h3; rfl
theorem X39 {w0 w : World} {O : List (Option Nat)} {obs : List Ob} {v : Value} {ys : List ((Int × Int) × Int)} (hS : St w0 O w obs) (i : Nat) (hi : obs[i]? = some (.row tJ 70 v ys)) (hne : 0 < ys.length) (hB : ∀ y ∈ ys, jnB y) (hlen : ys.length < 4611686018427387904) :
    Calls Tryz.prog 39 #[v, .func (.func 40) #[] #[]] w (Bk fun r w' => ∃ ys' : List ((Int × Int) × Int), ys'.Perm ys ∧ ys'.Pairwise (fun x y => ¬ jLt y x) ∧ St w0 O w' (obs.set i (.row tJ 70 v ys'))) := by
  obtain ⟨l, hl⟩ : ∃ l : List JB, l.map (·.1) = ys := ⟨ys.pmap Subtype.mk hB, by rw [List.map_pmap]; simp⟩
  obtain ⟨b, cap, hv, hH, hb, hnew⟩ := hS.holdsK (g := fun x : JB => x.1) (enc := encJ) tJ_enc (by decide) (fun _ => rfl) i hi hne hl
  have hls : l.length = ys.length := by rw [← hl]; simp
  subst hv
  refine (Go.Proofs.AnyQ.slices_SortFunc_total Tryz.laysSlF06_f39 3 Tryz.isAgg70 Tryz.sizeOf70 (fun x : JB => encJ x.1) (fun _ => rfl) (fun x v hv => ?_) (fun x y : JB => cmpJ x.1 y.1) swo_J 40 #[] b 0 cap l.toArray w (fun _ _ => ?_) (fun m os dk _ x y => ?_) hH hb (by simpa [hls] using hlen) tot_J).mono ?_
  · simp only [encJ, List.mem_cons, List.not_mem_nil, or_false] at hv
    rcases hv with rfl | rfl | rfl <;> rfl
  · exact Go.Proofs.enters_of Tryz.func40 (by kernel_rfl) rfl _ _
  · exact (X40 x.2 y.2).mono fun e w' ⟨r, he, hr, hw⟩ => ⟨by rw [he, hr], hw⟩
  · rintro e w' ⟨rfl, n, os, rfl⟩
    have hp := List.mergeSort_perm l (fun x y => !(Go.Proofs.ltOf fun x y : JB => cmpJ x.1 y.1) y x)
    refine ⟨_, rfl, _, ?_, ?_, hnew _ n os hp⟩
    · rw [← hl]; exact hp.map _
    · rw [List.pairwise_map]
      refine (List.pairwise_mergeSort (fun x y z h k => ?_) (fun x y => ?_) l).imp fun {x y} h => ?_
      · rw [Bool.not_eq_true'] at h k ⊢; exact swo_J.ntrans _ _ _ k h
      · rw [Bool.or_eq_true, Bool.not_eq_true', Bool.not_eq_true', ltOf_Jf, ltOf_Jf]; unfold jLt; omega
      · rw [Bool.not_eq_true'] at h; exact ltOf_Jf.1 h

end Go.Proofs.YtdpdlplkngggoaaGreatDoor

namespace Go.Proofs.YtdpdlplkngggoaaGreatDoor
open Go.Wk Go.RowKit Go.Lib
set_option linter.unusedVariables false
set_option linter.unusedSimpArgs false
theorem foYf_27_2 : fldOff Tryz.prog 27 2 = some 2 := by kernel_rfl
theorem elYf_66 : ElemI Tryz.prog 66 70 (.agg #[.int .i64 0, .int .i64 0, .int .i64 0]) 3 24 := ElemI.of Tryz.underlying66 (by kernel_rfl) (by first | rfl | kernel_rfl) (by decide)
theorem mixedYf_ : Tryz.prog.follows .mixedOrders = true := by kernel_rfl

set_option maxHeartbeats 4000000 in
theorem F32 {R : Int} {C : Int} {hv : Value} {H : List Int} {O : List (Option Nat)} {w : World} (i_R : InK .i64 R) (i_C : InK .i64 C) (h_hv : V (tSl (tI .i64)) H hv O w) (p_ok : SOK R C H) (hO : ∀ b, some b ∈ O → b < w.heap.size) : Calls Tryz.prog 32 #[.agg #[.int .i64 R, .int .i64 C, hv]] w (Ret w (fun r w' => ∃ rv, r = rv ∧ FreshO (tP (tP (tI .i64) (tI .i64)) (tI .i64)) 70 (jTL C H) rv O w.heap.size w')) := by
  have b_C := bd_i64 i_C
  have b_R := bd_i64 i_R
  obtain ⟨⟨r1, r2⟩, ⟨c1_, c2_⟩, hRC, ⟨n1, n36⟩, hCn, hok⟩ := id p_ok
  have a_hv := h_hv
  have l_hv := h_hv.len63
  have hS := St.start w O hO
  have hS : St w O w (DOb []) := hS
  refine enterMR (O := O) Tryz.func32 rfl Tryz.ntmps32 Tryz.results32 rfl ?_
  refine WD.seq ?_
  refine WD.ofW ?_
  refine W.reg ?_
  refine Wx.box (cs := [.int .i64 R, .int .i64 C, hv]) hS rfl rfl rfl (fun g_1 w_2 hx_4 hb_3 hS => ?_)
  refine Wx.rd (v := (.slice none 0 0)) (rd_assign rfl) rfl ?_
  refine Wx.nil ?_
  refine WD.seq ?_
  refine WD.ofW ?_
  refine W.reg ?_
  refine Wx.alloc (cs := [(.slice none 0 0)]) hS Tryz.zeroValue66 rfl rfl (fun g_5 w_6 hx_8 hb_7 hS => ?_)
  refine Wx.nil ?_
  refine WD.seq ?_
  refine WD.seq ?_
  refine WD.ofW ?_
  refine W.reg ?_
  refine Wx.rd (v := .pointer (some ⟨g_1, 2, none⟩)) (rd_fieldAddr rfl foYf_27_2) rfl ?_
  refine Wx.rd (v := hv) (rd_loadX hS 1 rfl rfl rfl Tryz.isAgg25) rfl ?_
  refine Wx.rd (v := .int .i64 (H.length : Int)) (rd_lenV rfl (hS.arg a_hv) Tryz.underlying25) rfl ?_
  refine Wx.rd (v := .int .i64 0) (rd_move rfl) rfl ?_
  refine Wx.nil ?_
  refine WD.block ?_
  have hS := hS.addNil (tP (tP (tI .i64) (tI .i64)) (tI .i64)) 70
  refine WD.loop [4, 5, 10, 11, 12, 13, 14, 15, 16, 17, 50] (fun x : Int × Value × (List ((Int × Int) × Int)) × (List Nat) => match x with | (k, jv, out, Ds) => [(10, .int .i64 k)]) (fun (x : Int × Value × (List ((Int × Int) × Int)) × (List Nat)) w' => match x with | (k, jv, out, Ds) => St w O w' (.row (tP (tP (tI .i64) (tI .i64)) (tI .i64)) 70 jv out :: .box g_5 66 [jv] :: .box g_1 27 [.int .i64 R, .int .i64 C, hv] :: DOb Ds) ∧ 0 ≤ k ∧ k ≤ H.length ∧ out = (rng 0 k).flatMap (jRowP C H) ∧ (out.length : Int) ≤ 5 * k) (fun x : Int × Value × (List ((Int × Int) × Int)) × (List Nat) => match x with | (k, jv, out, Ds) => (H.length - k).toNat) (fun x : Int × Value × (List ((Int × Int) × Int)) × (List Nat) => match x with | (k, jv, out, Ds) => Ds) (0, (.slice none 0 0), [], []) ⟨rfl, trivial⟩ rfl ⟨hS, (by first | omega | simp), (by first | omega | simp), (rfl), (by decide)⟩ ?_
  rintro ⟨k, jv, out, Ds⟩ u_10 w_9 ⟨hS, h0, h1, h2, h3⟩
  refine WD.seq ?_
  refine WD.ofW ?_
  refine W.reg ?_
  refine Wx.rd (v := .bool (decide (k < (H.length : Int)))) (rd_lss rfl rfl) rfl ?_
  refine Wx.nil ?_
  refine WD.seq ?_
  refine WD.ofW ?_
  refine W.condD rfl (fun c0 => ?_) (fun c0 => ?_)
  · -- yes
    have hak := p_ok.at h0 c0
    refine W.skip ?_
    refine WD.seq ?_
    refine WD.block ?_
    refine WD.seq ?_
    refine WD.ofW ?_
    refine W.reg ?_
    refine Wx.rd (v := .int .i64 k) (rd_move rfl) rfl ?_
    refine Wx.ex (rd_index 0 (hS.arg a_hv) rfl rfl Tryz.underlying25 Tryz.sizeOf3 (by first | omega | (simp only [List.length_set, List.length_append, List.length_cons, List.length_nil, List.length_replicate]; omega)) (by first | omega | (simp only [List.length_set, List.length_append, List.length_cons, List.length_nil, List.length_replicate]; omega))) rfl (fun p_11 hp_12 => ?_)
    refine Wx.rd (v := .int .i64 (ix 0 H k)) (rd_loadI hp_12 rfl Tryz.isAgg3 Tryz.sizeOf3) rfl ?_
    have bd_13 := bd_i64 hp_12.inK
    refine Wx.alloc (cs := [.int .i64 0]) hS Tryz.zeroValue3 rfl rfl (fun g_14 w_15 hx_17 hb_16 hS => ?_)
    refine Wx.alloc (cs := [.int .i64 0]) hS Tryz.zeroValue3 rfl rfl (fun g_18 w_19 hx_21 hb_20 hS => ?_)
    refine Wx.storeX (cs' := [.int .i64 k]) (ds := [.int .i64 k]) hS 1 rfl rfl rfl rfl Tryz.sizeOf3 (Nat.le_of_ble_eq_true rfl) (one_cons rfl one_nil) rfl (fun w_22 hz_23 hS => ?_)
    refine Wx.storeX (cs' := [.int .i64 (ix 0 H k)]) (ds := [.int .i64 (ix 0 H k)]) hS 0 rfl rfl rfl rfl Tryz.sizeOf3 (Nat.le_of_ble_eq_true rfl) (one_cons rfl one_nil) rfl (fun w_24 hz_25 hS => ?_)
    refine Wx.nil ?_
    refine WD.seq ?_
    refine WD.ofW ?_
    refine W.reg ?_
    refine Wx.rd (v := .agg #[.int .i64 R, .int .i64 C, hv]) (rd_loadXs (ds := [.int .i64 R, .int .i64 C, hv]) hS 4 rfl rfl rfl rfl Tryz.isAgg27 Tryz.sizeOf27) rfl ?_
    refine Wx.rd (v := .int .i64 k) (rd_loadX hS 1 rfl rfl rfl Tryz.isAgg3) rfl ?_
    refine Wx.callB (run_callF Tryz.call38 rfl) (F38 hS (hS.arg a_hv)) rfl ?_
    rintro r_26 w_27 ⟨gn_28, gs_29, rfl, hS⟩
    refine Wx.nil ?_
    refine WD.block ?_
    have hS := hS.add (hS.arg a_hv)
    have hS := hS.front 7 rfl
    have hS := hS.front 7 rfl
    have hS := hS.front 7 rfl
    have hS := hS.front 7 rfl
    have hS := hS.front 7 rfl
    have hS := hS.front 5 rfl
    have hS := hS.front 7 rfl
    have hS := hS.front 7 rfl
    have hS : St _ _ w_27 (.box gn_28 3 [.int .i64 k] :: .box gs_29 27 [.int .i64 R, .int .i64 C, hv] :: Ob.v (tSl (tI .i64)) H hv :: .box g_18 3 [.int .i64 (ix 0 H k)] :: .box g_14 3 [.int .i64 k] :: .row (tP (tP (tI .i64) (tI .i64)) (tI .i64)) 70 jv out :: .box g_5 66 [jv] :: .box g_1 27 [.int .i64 R, .int .i64 C, hv] :: DOb Ds) := hS
    refine WD.range (ob := [.box g_18 3 [.int .i64 (ix 0 H k)], .box g_14 3 [.int .i64 k], .row (tP (tP (tI .i64) (tI .i64)) (tI .i64)) 70 jv out, .box g_5 66 [jv], .box g_1 27 [.int .i64 R, .int .i64 C, hv]]) (nbW C H.length k) (fun ls ob => ∃ (jv2 : Value) (out2 : List ((Int × Int) × Int)), (out2 = out ++ (ls).flatMap (jF H k)) ∧ ((out2.length : Int) ≤ out.length + (ls).length) ∧ ob = [.box g_18 3 [.int .i64 (ix 0 H k)], .box g_14 3 [.int .i64 k], .row (tP (tP (tI .i64) (tI .i64)) (tI .i64)) 70 jv2 out2, .box g_5 66 [jv2], .box g_1 27 [.int .i64 R, .int .i64 C, hv]]) (fun _ _ _ => False) [] rfl Tryz.call48 rfl rfl (iter85 p_ok ⟨h0, c0⟩) hS ⟨jv, out, (by simp), (by simp), rfl⟩ ?_ ?_ ?_
    · -- a round
      rintro ls m pre_34 _ w_33 hpx ⟨jv2, out2, m1, m2, rfl⟩ hS
      have hm := mem_nbW.1 (mem_pre hpx)
      have hm0 : 0 ≤ m ∧ m ≤ (H.length : Int) := by rcases hm with ⟨q, _⟩ | q <;> omega
      have hls := pre_len c1_ hpx
      refine W.block ?_
      refine W.block ?_
      refine W.seq ?_
      refine W.reg ?_
      refine Wx.rd (v := .int .i64 m) (rd_move rfl) rfl ?_
      refine Wx.rd (v := .agg #[.int .i64 R, .int .i64 C, hv]) (rd_loadXs (ds := [.int .i64 R, .int .i64 C, hv]) hS 4 rfl rfl rfl rfl Tryz.isAgg27 Tryz.sizeOf27) rfl ?_
      refine Wx.callF (run_callF Tryz.call31 rfl) (F31 i_R i_C (hS.arg a_hv)) rfl ?_
      rintro r_35 w_36 hx_37 rfl
      have hS := hS.ext hx_37
      refine Wx.rd (v := .bool (decide (m = (H.length : Int)))) (rd_eql rfl rfl) rfl ?_
      refine Wx.rd (v := .bool (decide (m = (H.length : Int)))) (rd_assign rfl) rfl ?_
      refine Wx.nil ?_
      refine W.condD rfl (fun c1 => ?_) (fun c1 => ?_)
      · -- yes
        refine W.reg ?_
        refine Wx.rd (v := jv2) (rd_loadX hS 3 rfl rfl rfl Tryz.isAgg66) rfl ?_
        refine Wx.rd (v := .int .i64 k) (rd_loadX hS 1 rfl rfl rfl Tryz.isAgg3) rfl ?_
        refine Wx.rd (v := .int .i64 m) (rd_move rfl) rfl ?_
        refine Wx.rd (v := .agg #[.int .i64 k, .int .i64 m]) (rd_build (vs := [(0, .int .i64 k), (1, .int .i64 m)]) rfl (by kernel_rfl)) rfl ?_
        refine Wx.rd (v := .int .i64 (ix 0 H k)) (rd_loadX hS 0 rfl rfl rfl Tryz.isAgg3) rfl ?_
        refine Wx.rd (v := .agg #[.int .i64 k, .int .i64 m, .int .i64 (ix 0 H k)]) (rd_build (vs := [(0, .agg #[.int .i64 k, .int .i64 m]), (1, .int .i64 (ix 0 H k))]) rfl (by kernel_rfl)) rfl ?_
        refine Wx.lit (t := (tP (tP (tI .i64) (tI .i64)) (tI .i64))) (ys := [((k, m), ix 0 H k)]) (vs := [.agg #[.int .i64 k, .int .i64 m, .int .i64 (ix 0 H k)]]) elYf_66 hS rfl rfl ⟨(V.mk3 (in_i64 (by omega) (by omega)) (in_i64 (by omega) (by omega)) (in_i64 (by omega) (by omega))), trivial⟩ (by decide) rfl (fun v_38 w_39 hx_40 hS => ?_)
        refine Wx.append elYf_66 hS 3 rfl rfl rfl (Src.ofR hS 0 rfl) (by simp only [maxLen]; first | omega | (simp; omega) | simp) (by first | omega | (simp; omega) | simp) rfl (fun v_41 w_42 hz_43 hS => ?_)
        refine Wx.storeX (cs' := [v_41]) (ds := [v_41]) hS 4 rfl rfl rfl (Go.Wk.cells_one (hS.rowOne 3 rfl)) Tryz.sizeOf66 (Nat.le_of_ble_eq_true rfl) (one_cons (hS.rowOne 3 rfl) one_nil) rfl (fun w_44 hz_45 hS => ?_)
        refine Wx.nil ?_
        have hS := hS.drop 0
        have hS := hS.front 4 rfl
        have hS := hS.front 4 rfl
        have hS := hS.front 4 rfl
        have hS := hS.front 4 rfl
        have hS := hS.front 4 rfl
        have hS : St _ _ w_44 (.box g_18 3 [.int .i64 (ix 0 H k)] :: .box g_14 3 [.int .i64 k] :: .row (tP (tP (tI .i64) (tI .i64)) (tI .i64)) 70 v_41 (out2 ++ [((k, m), ix 0 H k)]) :: .box g_5 66 [v_41] :: .box g_1 27 [.int .i64 R, .int .i64 C, hv] :: pre_34) := hS
        exact ⟨_, ⟨v_41, out2 ++ [((k, m), ix 0 H k)], (by rw [m1]; exact jf_add (jf_river c1)), (by simp only [List.length_append, List.length_cons, List.length_nil]; omega), rfl⟩, hS⟩
      · -- no
        refine W.seq ?_
        refine W.reg ?_
        refine Wx.rd (v := .int .i64 k) (rd_loadX hS 1 rfl rfl rfl Tryz.isAgg3) rfl ?_
        refine Wx.rd (v := .int .i64 m) (rd_move rfl) rfl ?_
        refine Wx.rd (v := .bool (decide (k < m))) (rd_lss rfl rfl) rfl ?_
        refine Wx.rd (v := .bool (decide (k < m))) (rd_assign rfl) rfl ?_
        refine Wx.nil ?_
        refine W.condD rfl (fun c2 => ?_) (fun c2 => ?_)
        · -- yes
          have ham := p_ok.at hm0.1 (show m < H.length by omega)
          refine W.cutK [36, 37, 38, 39, 40, 41, 42, 43, 44, 45, 46, 47, 48, 49] (fun x : Value × (List ((Int × Int) × Int)) => match x with | (jv3, out3) => []) (fun (x : Value × (List ((Int × Int) × Int))) w' => match x with | (jv3, out3) => St w O w' (.box g_18 3 [.int .i64 (ix 0 H k)] :: .box g_14 3 [.int .i64 k] :: .row (tP (tP (tI .i64) (tI .i64)) (tI .i64)) 70 jv3 out3 :: .box g_5 66 [jv3] :: .box g_1 27 [.int .i64 R, .int .i64 C, hv] :: pre_34) ∧ out3 = out2 ++ [((k, m), max (ix 0 H k) (ix 0 H m))]) ?_ ?_
          · -- up to the cut
            refine W.regZ (fun _ w' => St w O w' [.box g_18 3 [.int .i64 (ix 0 H k)], .box g_14 3 [.int .i64 k]]) mixedYf_ (fun w_46 hx_47 => ?_)
            have hS := hS.ext hx_47
            refine Wz.rd (v := .int .i64 k) 1 rfl (by kernel_rfl) (St.sub hS (List.Sublist.cons_cons _ (List.Sublist.cons_cons _ (.cons _ (.cons _ (.cons _ (List.nil_sublist _))))))) (fun _ hS => (rd_loadX hS 1 rfl rfl rfl Tryz.isAgg3)) rfl ?_
            refine Wz.rd (v := .int .i64 m) 2 rfl (by kernel_rfl) (St.sub hS (List.Sublist.cons_cons _ (List.Sublist.cons_cons _ (.cons _ (.cons _ (.cons _ (List.nil_sublist _))))))) (fun _ hS => (rd_move rfl)) rfl ?_
            refine Wz.rd (v := .agg #[.int .i64 k, .int .i64 m]) 3 rfl (by kernel_rfl) (St.sub hS (List.Sublist.cons_cons _ (List.Sublist.cons_cons _ (.cons _ (.cons _ (.cons _ (List.nil_sublist _))))))) (fun _ hS => (rd_build (vs := [(0, .int .i64 k), (1, .int .i64 m)]) rfl (by kernel_rfl))) rfl ?_
            refine Wz.rd (v := .int .i64 (ix 0 H k)) 4 rfl (by kernel_rfl) (St.sub hS (List.Sublist.cons_cons _ (List.Sublist.cons_cons _ (.cons _ (.cons _ (.cons _ (List.nil_sublist _))))))) (fun _ hS => (rd_loadX hS 0 rfl rfl rfl Tryz.isAgg3)) rfl ?_
            refine Wz.rd (v := .pointer (some ⟨g_1, 2, none⟩)) 5 rfl (by kernel_rfl) (St.sub hS (List.Sublist.cons_cons _ (List.Sublist.cons_cons _ (.cons _ (.cons _ (.cons _ (List.nil_sublist _))))))) (fun _ hS => (rd_fieldAddr rfl foYf_27_2)) rfl ?_
            refine Wz.rd (v := .int .i64 m) 7 rfl (by kernel_rfl) (St.sub hS (List.Sublist.cons_cons _ (List.Sublist.cons_cons _ (.cons _ (.cons _ (.cons _ (List.nil_sublist _))))))) (fun _ hS => (rd_move rfl)) rfl ?_
            refine Wz.br [0, 6] (by kernel_rfl) (by decide) ⟨⟨_, rfl, ?_⟩, ⟨_, rfl, ?_⟩, trivial⟩
            · -- operation 0
              refine Wx.rd (v := jv2) (rd_loadX hS 3 rfl rfl rfl Tryz.isAgg66) rfl ?_
              refine Wx.nil ⟨(St.sub hS (List.Sublist.cons_cons _ (List.Sublist.cons_cons _ (.cons _ (.cons _ (.cons _ (List.nil_sublist _))))))), ?_⟩
              refine Wz.br [6] (by kernel_rfl) (by decide) ⟨⟨_, rfl, ?_⟩, trivial⟩
              refine Wx.rd (v := hv) (rd_loadX hS 4 rfl rfl rfl Tryz.isAgg25) rfl ?_
              refine Wx.nil ⟨(St.sub hS (List.Sublist.cons_cons _ (List.Sublist.cons_cons _ (.cons _ (.cons _ (.cons _ (List.nil_sublist _))))))), ?_⟩
              refine Wz.br [8] (by kernel_rfl) (by decide) ⟨⟨_, rfl, ?_⟩, trivial⟩
              refine Wx.ex (rd_index 0 (hS.arg a_hv) rfl rfl Tryz.underlying25 Tryz.sizeOf3 (by first | omega | (simp only [List.length_set, List.length_append, List.length_cons, List.length_nil, List.length_replicate]; omega)) (by first | omega | (simp only [List.length_set, List.length_append, List.length_cons, List.length_nil, List.length_replicate]; omega))) rfl (fun p_48 hp_49 => ?_)
              refine Wx.nil ⟨(St.sub hS (List.Sublist.cons_cons _ (List.Sublist.cons_cons _ (.cons _ (.cons _ (.cons _ (List.nil_sublist _))))))), ?_⟩
              refine Wz.br [9] (by kernel_rfl) (by decide) ⟨⟨_, rfl, ?_⟩, trivial⟩
              refine Wx.rd (v := .int .i64 (ix 0 H m)) (rd_loadI hp_49 rfl Tryz.isAgg3 Tryz.sizeOf3) rfl ?_
              have bd_50 := bd_i64 hp_49.inK
              refine Wx.nil ⟨(St.sub hS (List.Sublist.cons_cons _ (List.Sublist.cons_cons _ (.cons _ (.cons _ (.cons _ (List.nil_sublist _))))))), ?_⟩
              refine Wz.rd (v := .int .i64 (max (ix 0 H k) (ix 0 H m))) 10 rfl (by kernel_rfl) (St.sub hS (List.Sublist.cons_cons _ (List.Sublist.cons_cons _ (.cons _ (.cons _ (.cons _ (List.nil_sublist _))))))) (fun _ hS => (rd_max rfl rfl)) rfl ?_
              refine Wz.rd (v := .agg #[.int .i64 k, .int .i64 m, .int .i64 (max (ix 0 H k) (ix 0 H m))]) 11 rfl (by kernel_rfl) (St.sub hS (List.Sublist.cons_cons _ (List.Sublist.cons_cons _ (.cons _ (.cons _ (.cons _ (List.nil_sublist _))))))) (fun _ hS => (rd_build (vs := [(0, .agg #[.int .i64 k, .int .i64 m]), (1, .int .i64 (max (ix 0 H k) (ix 0 H m)))]) rfl (by kernel_rfl))) rfl ?_
              refine Wz.br [12] (by kernel_rfl) (by decide) ⟨⟨_, rfl, ?_⟩, trivial⟩
              refine Wx.lit (t := (tP (tP (tI .i64) (tI .i64)) (tI .i64))) (ys := [((k, m), max (ix 0 H k) (ix 0 H m))]) (vs := [.agg #[.int .i64 k, .int .i64 m, .int .i64 (max (ix 0 H k) (ix 0 H m))]]) elYf_66 hS rfl rfl ⟨(V.mk3 (in_i64 (by omega) (by omega)) (in_i64 (by omega) (by omega)) (in_i64 (by omega) (by omega))), trivial⟩ (by decide) rfl (fun v_51 w_52 hx_53 hS => ?_)
              refine Wx.nil ⟨(St.sub hS (.cons _ (List.Sublist.cons_cons _ (List.Sublist.cons_cons _ (.cons _ (.cons _ (.cons _ (List.nil_sublist _)))))))), ?_⟩
              refine Wz.br [13] (by kernel_rfl) (by decide) ⟨⟨_, rfl, ?_⟩, trivial⟩
              refine Wx.append elYf_66 hS 3 rfl rfl rfl (Src.ofR hS 0 rfl) (by simp only [maxLen]; first | omega | (simp; omega) | simp) (by first | omega | (simp; omega) | simp) rfl (fun v_54 w_55 hz_56 hS => ?_)
              refine Wx.nil ⟨(St.sub hS (.cons _ (List.Sublist.cons_cons _ (List.Sublist.cons_cons _ (.cons _ (.cons _ (.cons _ (List.nil_sublist _)))))))), ?_⟩
              refine Wz.br [14] (by kernel_rfl) (by decide) ⟨⟨_, rfl, ?_⟩, trivial⟩
              refine Wx.storeX (cs' := [v_54]) (ds := [v_54]) hS 4 rfl rfl rfl (Go.Wk.cells_one (hS.rowOne 3 rfl)) Tryz.sizeOf66 (Nat.le_of_ble_eq_true rfl) (one_cons (hS.rowOne 3 rfl) one_nil) rfl (fun w_57 hz_58 hS => ?_)
              refine Wx.nil ⟨(St.sub hS (.cons _ (List.Sublist.cons_cons _ (List.Sublist.cons_cons _ (.cons _ (.cons _ (.cons _ (List.nil_sublist _)))))))), ?_⟩
              refine Wz.done (by kernel_rfl) ?_
              refine ⟨(v_54, out2 ++ [((k, m), max (ix 0 H k) (ix 0 H m))]), ?_, ?_, Out.look rfl Out.refl⟩
              · exact ⟨hS.tl, (rfl)⟩
              · exact trivial
            · -- operation 6
              refine Wx.rd (v := hv) (rd_loadX hS 4 rfl rfl rfl Tryz.isAgg25) rfl ?_
              refine Wx.nil ⟨(St.sub hS (List.Sublist.cons_cons _ (List.Sublist.cons_cons _ (.cons _ (.cons _ (.cons _ (List.nil_sublist _))))))), ?_⟩
              refine Wz.br [0, 8] (by kernel_rfl) (by decide) ⟨⟨_, rfl, ?_⟩, ⟨_, rfl, ?_⟩, trivial⟩
              · -- operation 0
                refine Wx.rd (v := jv2) (rd_loadX hS 3 rfl rfl rfl Tryz.isAgg66) rfl ?_
                refine Wx.nil ⟨(St.sub hS (List.Sublist.cons_cons _ (List.Sublist.cons_cons _ (.cons _ (.cons _ (.cons _ (List.nil_sublist _))))))), ?_⟩
                refine Wz.br [8] (by kernel_rfl) (by decide) ⟨⟨_, rfl, ?_⟩, trivial⟩
                refine Wx.ex (rd_index 0 (hS.arg a_hv) rfl rfl Tryz.underlying25 Tryz.sizeOf3 (by first | omega | (simp only [List.length_set, List.length_append, List.length_cons, List.length_nil, List.length_replicate]; omega)) (by first | omega | (simp only [List.length_set, List.length_append, List.length_cons, List.length_nil, List.length_replicate]; omega))) rfl (fun p_59 hp_60 => ?_)
                refine Wx.nil ⟨(St.sub hS (List.Sublist.cons_cons _ (List.Sublist.cons_cons _ (.cons _ (.cons _ (.cons _ (List.nil_sublist _))))))), ?_⟩
                refine Wz.br [9] (by kernel_rfl) (by decide) ⟨⟨_, rfl, ?_⟩, trivial⟩
                refine Wx.rd (v := .int .i64 (ix 0 H m)) (rd_loadI hp_60 rfl Tryz.isAgg3 Tryz.sizeOf3) rfl ?_
                have bd_61 := bd_i64 hp_60.inK
                refine Wx.nil ⟨(St.sub hS (List.Sublist.cons_cons _ (List.Sublist.cons_cons _ (.cons _ (.cons _ (.cons _ (List.nil_sublist _))))))), ?_⟩
                refine Wz.rd (v := .int .i64 (max (ix 0 H k) (ix 0 H m))) 10 rfl (by kernel_rfl) (St.sub hS (List.Sublist.cons_cons _ (List.Sublist.cons_cons _ (.cons _ (.cons _ (.cons _ (List.nil_sublist _))))))) (fun _ hS => (rd_max rfl rfl)) rfl ?_
                refine Wz.rd (v := .agg #[.int .i64 k, .int .i64 m, .int .i64 (max (ix 0 H k) (ix 0 H m))]) 11 rfl (by kernel_rfl) (St.sub hS (List.Sublist.cons_cons _ (List.Sublist.cons_cons _ (.cons _ (.cons _ (.cons _ (List.nil_sublist _))))))) (fun _ hS => (rd_build (vs := [(0, .agg #[.int .i64 k, .int .i64 m]), (1, .int .i64 (max (ix 0 H k) (ix 0 H m)))]) rfl (by kernel_rfl))) rfl ?_
                refine Wz.br [12] (by kernel_rfl) (by decide) ⟨⟨_, rfl, ?_⟩, trivial⟩
                refine Wx.lit (t := (tP (tP (tI .i64) (tI .i64)) (tI .i64))) (ys := [((k, m), max (ix 0 H k) (ix 0 H m))]) (vs := [.agg #[.int .i64 k, .int .i64 m, .int .i64 (max (ix 0 H k) (ix 0 H m))]]) elYf_66 hS rfl rfl ⟨(V.mk3 (in_i64 (by omega) (by omega)) (in_i64 (by omega) (by omega)) (in_i64 (by omega) (by omega))), trivial⟩ (by decide) rfl (fun v_62 w_63 hx_64 hS => ?_)
                refine Wx.nil ⟨(St.sub hS (.cons _ (List.Sublist.cons_cons _ (List.Sublist.cons_cons _ (.cons _ (.cons _ (.cons _ (List.nil_sublist _)))))))), ?_⟩
                refine Wz.br [13] (by kernel_rfl) (by decide) ⟨⟨_, rfl, ?_⟩, trivial⟩
                refine Wx.append elYf_66 hS 3 rfl rfl rfl (Src.ofR hS 0 rfl) (by simp only [maxLen]; first | omega | (simp; omega) | simp) (by first | omega | (simp; omega) | simp) rfl (fun v_65 w_66 hz_67 hS => ?_)
                refine Wx.nil ⟨(St.sub hS (.cons _ (List.Sublist.cons_cons _ (List.Sublist.cons_cons _ (.cons _ (.cons _ (.cons _ (List.nil_sublist _)))))))), ?_⟩
                refine Wz.br [14] (by kernel_rfl) (by decide) ⟨⟨_, rfl, ?_⟩, trivial⟩
                refine Wx.storeX (cs' := [v_65]) (ds := [v_65]) hS 4 rfl rfl rfl (Go.Wk.cells_one (hS.rowOne 3 rfl)) Tryz.sizeOf66 (Nat.le_of_ble_eq_true rfl) (one_cons (hS.rowOne 3 rfl) one_nil) rfl (fun w_68 hz_69 hS => ?_)
                refine Wx.nil ⟨(St.sub hS (.cons _ (List.Sublist.cons_cons _ (List.Sublist.cons_cons _ (.cons _ (.cons _ (.cons _ (List.nil_sublist _)))))))), ?_⟩
                refine Wz.done (by kernel_rfl) ?_
                refine ⟨(v_65, out2 ++ [((k, m), max (ix 0 H k) (ix 0 H m))]), ?_, ?_, Out.look rfl Out.refl⟩
                · exact ⟨hS.tl, (rfl)⟩
                · exact trivial
              · -- operation 8
                refine Wx.ex (rd_index 0 (hS.arg a_hv) rfl rfl Tryz.underlying25 Tryz.sizeOf3 (by first | omega | (simp only [List.length_set, List.length_append, List.length_cons, List.length_nil, List.length_replicate]; omega)) (by first | omega | (simp only [List.length_set, List.length_append, List.length_cons, List.length_nil, List.length_replicate]; omega))) rfl (fun p_70 hp_71 => ?_)
                refine Wx.nil ⟨(St.sub hS (List.Sublist.cons_cons _ (List.Sublist.cons_cons _ (.cons _ (.cons _ (.cons _ (List.nil_sublist _))))))), ?_⟩
                refine Wz.br [0, 9] (by kernel_rfl) (by decide) ⟨⟨_, rfl, ?_⟩, ⟨_, rfl, ?_⟩, trivial⟩
                · -- operation 0
                  refine Wx.rd (v := jv2) (rd_loadX hS 3 rfl rfl rfl Tryz.isAgg66) rfl ?_
                  refine Wx.nil ⟨(St.sub hS (List.Sublist.cons_cons _ (List.Sublist.cons_cons _ (.cons _ (.cons _ (.cons _ (List.nil_sublist _))))))), ?_⟩
                  refine Wz.br [9] (by kernel_rfl) (by decide) ⟨⟨_, rfl, ?_⟩, trivial⟩
                  refine Wx.rd (v := .int .i64 (ix 0 H m)) (rd_loadI hp_71 rfl Tryz.isAgg3 Tryz.sizeOf3) rfl ?_
                  have bd_72 := bd_i64 hp_71.inK
                  refine Wx.nil ⟨(St.sub hS (List.Sublist.cons_cons _ (List.Sublist.cons_cons _ (.cons _ (.cons _ (.cons _ (List.nil_sublist _))))))), ?_⟩
                  refine Wz.rd (v := .int .i64 (max (ix 0 H k) (ix 0 H m))) 10 rfl (by kernel_rfl) (St.sub hS (List.Sublist.cons_cons _ (List.Sublist.cons_cons _ (.cons _ (.cons _ (.cons _ (List.nil_sublist _))))))) (fun _ hS => (rd_max rfl rfl)) rfl ?_
                  refine Wz.rd (v := .agg #[.int .i64 k, .int .i64 m, .int .i64 (max (ix 0 H k) (ix 0 H m))]) 11 rfl (by kernel_rfl) (St.sub hS (List.Sublist.cons_cons _ (List.Sublist.cons_cons _ (.cons _ (.cons _ (.cons _ (List.nil_sublist _))))))) (fun _ hS => (rd_build (vs := [(0, .agg #[.int .i64 k, .int .i64 m]), (1, .int .i64 (max (ix 0 H k) (ix 0 H m)))]) rfl (by kernel_rfl))) rfl ?_
                  refine Wz.br [12] (by kernel_rfl) (by decide) ⟨⟨_, rfl, ?_⟩, trivial⟩
                  refine Wx.lit (t := (tP (tP (tI .i64) (tI .i64)) (tI .i64))) (ys := [((k, m), max (ix 0 H k) (ix 0 H m))]) (vs := [.agg #[.int .i64 k, .int .i64 m, .int .i64 (max (ix 0 H k) (ix 0 H m))]]) elYf_66 hS rfl rfl ⟨(V.mk3 (in_i64 (by omega) (by omega)) (in_i64 (by omega) (by omega)) (in_i64 (by omega) (by omega))), trivial⟩ (by decide) rfl (fun v_73 w_74 hx_75 hS => ?_)
                  refine Wx.nil ⟨(St.sub hS (.cons _ (List.Sublist.cons_cons _ (List.Sublist.cons_cons _ (.cons _ (.cons _ (.cons _ (List.nil_sublist _)))))))), ?_⟩
                  refine Wz.br [13] (by kernel_rfl) (by decide) ⟨⟨_, rfl, ?_⟩, trivial⟩
                  refine Wx.append elYf_66 hS 3 rfl rfl rfl (Src.ofR hS 0 rfl) (by simp only [maxLen]; first | omega | (simp; omega) | simp) (by first | omega | (simp; omega) | simp) rfl (fun v_76 w_77 hz_78 hS => ?_)
                  refine Wx.nil ⟨(St.sub hS (.cons _ (List.Sublist.cons_cons _ (List.Sublist.cons_cons _ (.cons _ (.cons _ (.cons _ (List.nil_sublist _)))))))), ?_⟩
                  refine Wz.br [14] (by kernel_rfl) (by decide) ⟨⟨_, rfl, ?_⟩, trivial⟩
                  refine Wx.storeX (cs' := [v_76]) (ds := [v_76]) hS 4 rfl rfl rfl (Go.Wk.cells_one (hS.rowOne 3 rfl)) Tryz.sizeOf66 (Nat.le_of_ble_eq_true rfl) (one_cons (hS.rowOne 3 rfl) one_nil) rfl (fun w_79 hz_80 hS => ?_)
                  refine Wx.nil ⟨(St.sub hS (.cons _ (List.Sublist.cons_cons _ (List.Sublist.cons_cons _ (.cons _ (.cons _ (.cons _ (List.nil_sublist _)))))))), ?_⟩
                  refine Wz.done (by kernel_rfl) ?_
                  refine ⟨(v_76, out2 ++ [((k, m), max (ix 0 H k) (ix 0 H m))]), ?_, ?_, Out.look rfl Out.refl⟩
                  · exact ⟨hS.tl, (rfl)⟩
                  · exact trivial
                · -- operation 9
                  refine Wx.rd (v := .int .i64 (ix 0 H m)) (rd_loadI hp_71 rfl Tryz.isAgg3 Tryz.sizeOf3) rfl ?_
                  have bd_81 := bd_i64 hp_71.inK
                  refine Wx.nil ⟨(St.sub hS (List.Sublist.cons_cons _ (List.Sublist.cons_cons _ (.cons _ (.cons _ (.cons _ (List.nil_sublist _))))))), ?_⟩
                  refine Wz.rd (v := .int .i64 (max (ix 0 H k) (ix 0 H m))) 10 rfl (by kernel_rfl) (St.sub hS (List.Sublist.cons_cons _ (List.Sublist.cons_cons _ (.cons _ (.cons _ (.cons _ (List.nil_sublist _))))))) (fun _ hS => (rd_max rfl rfl)) rfl ?_
                  refine Wz.rd (v := .agg #[.int .i64 k, .int .i64 m, .int .i64 (max (ix 0 H k) (ix 0 H m))]) 11 rfl (by kernel_rfl) (St.sub hS (List.Sublist.cons_cons _ (List.Sublist.cons_cons _ (.cons _ (.cons _ (.cons _ (List.nil_sublist _))))))) (fun _ hS => (rd_build (vs := [(0, .agg #[.int .i64 k, .int .i64 m]), (1, .int .i64 (max (ix 0 H k) (ix 0 H m)))]) rfl (by kernel_rfl))) rfl ?_
                  refine Wz.br [0, 12] (by kernel_rfl) (by decide) ⟨⟨_, rfl, ?_⟩, ⟨_, rfl, ?_⟩, trivial⟩
                  · -- operation 0
                    refine Wx.rd (v := jv2) (rd_loadX hS 3 rfl rfl rfl Tryz.isAgg66) rfl ?_
                    refine Wx.nil ⟨(St.sub hS (List.Sublist.cons_cons _ (List.Sublist.cons_cons _ (.cons _ (.cons _ (.cons _ (List.nil_sublist _))))))), ?_⟩
                    refine Wz.br [12] (by kernel_rfl) (by decide) ⟨⟨_, rfl, ?_⟩, trivial⟩
                    refine Wx.lit (t := (tP (tP (tI .i64) (tI .i64)) (tI .i64))) (ys := [((k, m), max (ix 0 H k) (ix 0 H m))]) (vs := [.agg #[.int .i64 k, .int .i64 m, .int .i64 (max (ix 0 H k) (ix 0 H m))]]) elYf_66 hS rfl rfl ⟨(V.mk3 (in_i64 (by omega) (by omega)) (in_i64 (by omega) (by omega)) (in_i64 (by omega) (by omega))), trivial⟩ (by decide) rfl (fun v_82 w_83 hx_84 hS => ?_)
                    refine Wx.nil ⟨(St.sub hS (.cons _ (List.Sublist.cons_cons _ (List.Sublist.cons_cons _ (.cons _ (.cons _ (.cons _ (List.nil_sublist _)))))))), ?_⟩
                    refine Wz.br [13] (by kernel_rfl) (by decide) ⟨⟨_, rfl, ?_⟩, trivial⟩
                    refine Wx.append elYf_66 hS 3 rfl rfl rfl (Src.ofR hS 0 rfl) (by simp only [maxLen]; first | omega | (simp; omega) | simp) (by first | omega | (simp; omega) | simp) rfl (fun v_85 w_86 hz_87 hS => ?_)
                    refine Wx.nil ⟨(St.sub hS (.cons _ (List.Sublist.cons_cons _ (List.Sublist.cons_cons _ (.cons _ (.cons _ (.cons _ (List.nil_sublist _)))))))), ?_⟩
                    refine Wz.br [14] (by kernel_rfl) (by decide) ⟨⟨_, rfl, ?_⟩, trivial⟩
                    refine Wx.storeX (cs' := [v_85]) (ds := [v_85]) hS 4 rfl rfl rfl (Go.Wk.cells_one (hS.rowOne 3 rfl)) Tryz.sizeOf66 (Nat.le_of_ble_eq_true rfl) (one_cons (hS.rowOne 3 rfl) one_nil) rfl (fun w_88 hz_89 hS => ?_)
                    refine Wx.nil ⟨(St.sub hS (.cons _ (List.Sublist.cons_cons _ (List.Sublist.cons_cons _ (.cons _ (.cons _ (.cons _ (List.nil_sublist _)))))))), ?_⟩
                    refine Wz.done (by kernel_rfl) ?_
                    refine ⟨(v_85, out2 ++ [((k, m), max (ix 0 H k) (ix 0 H m))]), ?_, ?_, Out.look rfl Out.refl⟩
                    · exact ⟨hS.tl, (rfl)⟩
                    · exact trivial
                  · -- operation 12
                    refine Wx.lit (t := (tP (tP (tI .i64) (tI .i64)) (tI .i64))) (ys := [((k, m), max (ix 0 H k) (ix 0 H m))]) (vs := [.agg #[.int .i64 k, .int .i64 m, .int .i64 (max (ix 0 H k) (ix 0 H m))]]) elYf_66 hS rfl rfl ⟨(V.mk3 (in_i64 (by omega) (by omega)) (in_i64 (by omega) (by omega)) (in_i64 (by omega) (by omega))), trivial⟩ (by decide) rfl (fun v_90 w_91 hx_92 hS => ?_)
                    refine Wx.nil ⟨(St.sub hS (.cons _ (List.Sublist.cons_cons _ (List.Sublist.cons_cons _ (.cons _ (.cons _ (.cons _ (List.nil_sublist _)))))))), ?_⟩
                    refine Wz.br [0] (by kernel_rfl) (by decide) ⟨⟨_, rfl, ?_⟩, trivial⟩
                    refine Wx.rd (v := jv2) (rd_loadX hS 4 rfl rfl rfl Tryz.isAgg66) rfl ?_
                    refine Wx.nil ⟨(St.sub hS (.cons _ (List.Sublist.cons_cons _ (List.Sublist.cons_cons _ (.cons _ (.cons _ (.cons _ (List.nil_sublist _)))))))), ?_⟩
                    refine Wz.br [13] (by kernel_rfl) (by decide) ⟨⟨_, rfl, ?_⟩, trivial⟩
                    refine Wx.append elYf_66 hS 3 rfl rfl rfl (Src.ofR hS 0 rfl) (by simp only [maxLen]; first | omega | (simp; omega) | simp) (by first | omega | (simp; omega) | simp) rfl (fun v_93 w_94 hz_95 hS => ?_)
                    refine Wx.nil ⟨(St.sub hS (.cons _ (List.Sublist.cons_cons _ (List.Sublist.cons_cons _ (.cons _ (.cons _ (.cons _ (List.nil_sublist _)))))))), ?_⟩
                    refine Wz.br [14] (by kernel_rfl) (by decide) ⟨⟨_, rfl, ?_⟩, trivial⟩
                    refine Wx.storeX (cs' := [v_93]) (ds := [v_93]) hS 4 rfl rfl rfl (Go.Wk.cells_one (hS.rowOne 3 rfl)) Tryz.sizeOf66 (Nat.le_of_ble_eq_true rfl) (one_cons (hS.rowOne 3 rfl) one_nil) rfl (fun w_96 hz_97 hS => ?_)
                    refine Wx.nil ⟨(St.sub hS (.cons _ (List.Sublist.cons_cons _ (List.Sublist.cons_cons _ (.cons _ (.cons _ (.cons _ (List.nil_sublist _)))))))), ?_⟩
                    refine Wz.done (by kernel_rfl) ?_
                    refine ⟨(v_93, out2 ++ [((k, m), max (ix 0 H k) (ix 0 H m))]), ?_, ?_, Out.look rfl Out.refl⟩
                    · exact ⟨hS.tl, (rfl)⟩
                    · exact trivial
          rintro ⟨jv3, out3⟩ u_99 w_98 ⟨hS, e3⟩
          have hS := hS.front 4 rfl
          have hS := hS.front 4 rfl
          have hS := hS.front 4 rfl
          have hS := hS.front 4 rfl
          have hS := hS.front 4 rfl
          have hS : St _ _ w_98 (.box g_18 3 [.int .i64 (ix 0 H k)] :: .box g_14 3 [.int .i64 k] :: .row (tP (tP (tI .i64) (tI .i64)) (tI .i64)) 70 jv3 out3 :: .box g_5 66 [jv3] :: .box g_1 27 [.int .i64 R, .int .i64 C, hv] :: pre_34) := hS
          exact ⟨_, ⟨jv3, out3, (by rw [e3, m1]; exact jf_add (jf_step c1 c2)), (by rw [e3]; simp only [List.length_append, List.length_cons, List.length_nil]; omega), rfl⟩, hS⟩
        · -- no
          refine W.skip ?_
          have hS := hS.front 4 rfl
          have hS := hS.front 4 rfl
          have hS := hS.front 4 rfl
          have hS := hS.front 4 rfl
          have hS := hS.front 4 rfl
          have hS : St _ _ w_36 (.box g_18 3 [.int .i64 (ix 0 H k)] :: .box g_14 3 [.int .i64 k] :: .row (tP (tP (tI .i64) (tI .i64)) (tI .i64)) 70 jv2 out2 :: .box g_5 66 [jv2] :: .box g_1 27 [.int .i64 R, .int .i64 C, hv] :: pre_34) := hS
          exact ⟨_, ⟨jv2, out2, (by rw [m1]; have hj := jf_add (out := out) (ls := ls) (jf_none c1 c2); rw [List.append_nil] at hj; exact hj), (by simp only [List.length_append, List.length_cons, List.length_nil]; omega), rfl⟩, hS⟩
    · -- all have come
      rintro _ D_100 w_101 ⟨jv2, out2, m1, m2, rfl⟩ hS
      have hS : St _ _ w_101 (.box g_18 3 [.int .i64 (ix 0 H k)] :: .box g_14 3 [.int .i64 k] :: .row (tP (tP (tI .i64) (tI .i64)) (tI .i64)) 70 jv2 out2 :: .box g_5 66 [jv2] :: .box g_1 27 [.int .i64 R, .int .i64 C, hv] :: DOb (D_100 :: Ds)) := hS
      have hnl := nbw_len (H := H) (a := k) c1_
      refine WD.ofW ?_
      refine W.reg ?_
      refine Wx.rd (v := .int .i64 (k + 1)) (rd_add rfl rfl (in_i64 (by omega) (by omega))) rfl ?_
      refine Wx.rd (v := .int .i64 (k + 1)) (rd_move rfl) rfl ?_
      refine Wx.nil ?_
      refine ⟨(k + 1, jv2, out2, (D_100 :: Ds)), (by show (H.length - (k + 1)).toNat < (H.length - k).toNat; omega), rfl, ?_, ?_, Out.look rfl Out.self⟩
      · exact ⟨St.tl (hS.tl), (by first | omega | assumption), (by first | omega | assumption), (by rw [m1, h2, flat_snoc h0]; rfl), (by omega)⟩
      · exact ⟨rfl, trivial⟩
    · exact fun _ _ _ _ _ h => h.elim
  · -- no
    have hraw : out = jRawL C H := by rw [h2, show k = (H.length : Int) by omega]; rfl
    refine W.exit rfl ?_
    refine WD.ofW ?_
    refine W.seq ?_
    refine W.reg ?_
    refine Wx.rd (v := jv) (rd_loadX hS 1 rfl rfl rfl Tryz.isAgg66) rfl ?_
    refine Wx.callB (run_callF Tryz.call39 rfl) (X39 hS 0 rfl (by rw [hraw]; exact raw_pos c1_ n1) (by rw [hraw]; exact raw_bd p_ok.o n36) (by omega)) rfl ?_
    rintro r_102 w_103 ⟨ys_104, hsp, hss, hS⟩
    have hse : ys_104 = jTL C H := raw_sort p_ok.o (by rw [← hraw]; exact hsp) hss
    subst hse
    have hS : St _ _ w_103 (.row (tP (tP (tI .i64) (tI .i64)) (tI .i64)) 70 jv (jTL C H) :: .box g_5 66 [jv] :: .box g_1 27 [.int .i64 R, .int .i64 C, hv] :: DOb Ds) := hS
    refine Wx.nil ?_
    refine W.seq ?_
    refine W.reg ?_
    refine Wx.rd (v := jv) (rd_loadX hS 1 rfl rfl rfl Tryz.isAgg66) rfl ?_
    refine Wx.rd (v := jv) (rd_assign rfl) rfl ?_
    refine Wx.nil ?_
    have hS : St _ _ w_103 (.row (tP (tP (tI .i64) (tI .i64)) (tI .i64)) 70 jv (jTL C H) :: .box g_5 66 [jv] :: .box g_1 27 [.int .i64 R, .int .i64 C, hv] :: DOb Ds) := hS
    refine W.ret ⟨[.row (tP (tP (tI .i64) (tI .i64)) (tI .i64)) 70 jv (jTL C H), .box g_5 66 [jv], .box g_1 27 [.int .i64 R, .int .i64 C, hv]], hS, fun w_105 hS => ?_⟩
    exact ⟨jv, ResIs.one, hS.bel, ⟨jv, rfl, (hS.frO 0 rfl)⟩⟩
end Go.Proofs.YtdpdlplkngggoaaGreatDoor

namespace Go.Proofs.YtdpdlplkngggoaaGreatDoor
open Go.Wk Go.RowKit Go.Lib
set_option linter.unusedVariables false
set_option linter.unusedSimpArgs false
theorem foYg_27_2 : fldOff Tryz.prog 27 2 = some 2 := by kernel_rfl
theorem mixedYg_ : Tryz.prog.follows .mixedOrders = true := by kernel_rfl
theorem foYg_70_0 : fldOff Tryz.prog 70 0 = some 0 := by kernel_rfl
theorem elYg_66 : ElemI Tryz.prog 66 70 (.agg #[.int .i64 0, .int .i64 0, .int .i64 0]) 3 24 := ElemI.of Tryz.underlying66 (by kernel_rfl) (by first | rfl | kernel_rfl) (by decide)
theorem foYg_70_1 : fldOff Tryz.prog 70 1 = some 2 := by kernel_rfl

theorem F30 {n : Int} {gl : Nat} {ys : List Int} {mm : Nat} {w : World} (i_n : InK .i64 n) (x_gl : w.heap[gl]? = some (.cells (List.map (Value.int .i64) ys).toArray 78 (0, 0))) (p_u : UF mm ys) (p_m : mm ≤ 1000) (p_n : 0 ≤ n ∧ n < 37) : Calls Tryz.prog 30 #[.int .i64 n, .pointer (some ⟨gl, 0, none⟩)] w (Ret w (fun r _ => r = .int .i64 (topV ys n))) := by
  have b_n := bd_i64 i_n
  have hyl := p_u.len
  obtain ⟨rk, hrk⟩ := p_u.rk
  have hS := St.start0 w
  refine enterR Tryz.func30 rfl Tryz.ntmps30 Tryz.results30 rfl ?_
  refine W.seq ?_
  refine W.reg ?_
  refine Wx.rd (v := .int .i64 0) (rd_assign rfl) rfl ?_
  refine Wx.nil ?_
  refine W.seq ?_
  refine W.block ?_
  refine W.loop [0, 4, 5, 6, 7, 8, 9, 10, 11] (fun (x : Int) => [(0, .int .i64 x)]) (fun (x : Int) w' => St w [] w' [] ∧ (0 ≤ x ∧ x < 37) ∧ topV ys x = topV ys n) (fun (x : Int) => rk x) n ⟨rfl, trivial⟩ ⟨hS, (p_n), (rfl)⟩ ?_
  rintro x u_2 w_1 ⟨hS, h0, h1⟩
  refine W.seq ?_
  refine W.seq ?_
  refine W.reg ?_
  refine Wx.rd (v := .int .i64 x) (rd_move rfl) rfl ?_
  refine Wx.rd (v := .pointer (some ⟨gl, 0 + x.toNat * 1, none⟩)) (rd_indexArr (o := 0) rfl rfl Tryz.underlying78 Tryz.sizeOf3 (by omega) (by omega)) rfl ?_
  refine Wx.rd (v := .int .i64 (ix 0 ys x)) (rd_loadOA x_gl hS.bel rfl (by omega) (by omega) Tryz.isAgg3) rfl ?_
  refine Wx.rd (v := .int .i64 x) (rd_move rfl) rfl ?_
  refine Wx.rd (v := .bool (decide ((ix 0 ys x) ≠ x))) (rd_neq rfl rfl) rfl ?_
  refine Wx.nil ?_
  refine W.condD rfl (fun c0 => ?_) (fun c0 => ?_)
  · -- yes
    refine W.skip ?_
    refine W.block ?_
    refine W.reg ?_
    refine Wx.rd (v := .int .i64 x) (rd_move rfl) rfl ?_
    refine Wx.rd (v := .pointer (some ⟨gl, 0 + x.toNat * 1, none⟩)) (rd_indexArr (o := 0) rfl rfl Tryz.underlying78 Tryz.sizeOf3 (by omega) (by omega)) rfl ?_
    refine Wx.rd (v := .int .i64 (ix 0 ys x)) (rd_loadOA x_gl hS.bel rfl (by omega) (by omega) Tryz.isAgg3) rfl ?_
    refine Wx.rd (v := .int .i64 (ix 0 ys x)) (rd_assign rfl) rfl ?_
    refine Wx.nil ?_
    refine ⟨ix 0 ys x, (by show rk (ix 0 ys x) < rk x; exact (hrk x h0).2.2 c0), ?_, ?_, Out.look rfl Out.self⟩
    · exact ⟨hS, (p_u.rng x h0), (by rw [top_step p_u p_m h0]; exact h1)⟩
    · exact ⟨rfl, trivial⟩
  · -- no
    refine W.exit rfl ?_
    refine W.seq ?_
    refine W.reg ?_
    refine Wx.rd (v := .int .i64 x) (rd_move rfl) rfl ?_
    refine Wx.rd (v := .int .i64 x) (rd_assign rfl) rfl ?_
    refine Wx.nil ?_
    have e0_0 : (topV ys n) = (x : Int) := by rw [← h1]; exact top_self p_u p_m h0 (by omega)
    exact W.ret ⟨.int .i64 x, ResIs.one, hS.bel, (by rw [e0_0])⟩

set_option maxHeartbeats 4000000 in
theorem F22 {R : Int} {C : Int} {hv : Value} {H : List Int} {a : Int} {b : Int} {O : List (Option Nat)} {w : World} (i_R : InK .i64 R) (i_C : InK .i64 C) (h_hv : V (tSl (tI .i64)) H hv O w) (i_a : InK .i64 a) (i_b : InK .i64 b) (p_ok : SOK R C H) (p_a : 0 ≤ a ∧ a ≤ (H.length : Int)) (p_b : 0 ≤ b ∧ b ≤ (H.length : Int)) (hO : ∀ b, some b ∈ O → b < w.heap.size) : Calls Tryz.prog 22 #[.agg #[.int .i64 R, .int .i64 C, hv], .int .i64 a, .int .i64 b] w (Ret w (fun r w' => ∃ rv, r = .tuple #[rv, .int .i64 (betwV C H a b)] ∧ FreshO (tP (tP (tI .i64) (tI .i64)) (tI .i64)) 70 (treeJ C H) rv O w.heap.size w')) := by
  have b_b := bd_i64 i_b
  have b_a := bd_i64 i_a
  have b_C := bd_i64 i_C
  have b_R := bd_i64 i_R
  obtain ⟨⟨r1, r2⟩, ⟨c1_, c2_⟩, hRC, ⟨n1, n36⟩, hCn, hok⟩ := id p_ok
  have hjl := jtl_len p_ok.o c1_ n36
  have hab := high_bd p_ok p_a
  have a_hv := h_hv
  have l_hv := h_hv.len63
  have hS := St.start w O hO
  refine enterR Tryz.func22 rfl Tryz.ntmps22 Tryz.results22 rfl ?_
  refine W.seq ?_
  refine W.reg ?_
  refine Wx.box (cs := [.int .i64 R, .int .i64 C, hv]) hS rfl rfl rfl (fun g_1 w_2 hx_4 hb_3 hS => ?_)
  refine Wx.rd (v := (.slice none 0 0)) (rd_assign rfl) rfl ?_
  refine Wx.rd (v := .int .i64 0) (rd_assign rfl) rfl ?_
  refine Wx.nil ?_
  refine W.seq ?_
  refine W.reg ?_
  refine Wx.alloc (cs := List.map (Value.int .i64) (List.replicate 37 (0 : Int))) hS Tryz.zeroValue78 (by kernel_rfl) rfl (fun g_5 w_6 hx_8 hb_7 hS => ?_)
  have hS : St _ _ w_6 [.box g_5 78 (List.map (Value.int .i64) (List.replicate 37 (0 : Int))), .box g_1 27 [.int .i64 R, .int .i64 C, hv]] := hS
  refine Wx.nil ?_
  refine W.seq ?_
  refine W.seq ?_
  refine W.reg ?_
  refine Wx.rd (v := .int .i64 0) (rd_move rfl) rfl ?_
  refine Wx.nil ?_
  refine W.block ?_
  refine W.loop [9, 16, 17, 18, 19, 20, 21, 22] (fun x : Int × (List Int) => match x with | (k, y1) => [(16, .int .i64 k)]) (fun (x : Int × (List Int)) w' => match x with | (k, y1) => St w O w' [.box g_5 78 (List.map (Value.int .i64) y1), .box g_1 27 [.int .i64 R, .int .i64 C, hv]] ∧ 0 ≤ k ∧ k ≤ 37 ∧ y1.length = 37 ∧ (∀ x, 0 ≤ x → x < k → ix 0 y1 x = x)) (fun x : Int × (List Int) => match x with | (k, y1) => (37 - k).toNat) (0, (List.replicate 37 (0 : Int))) ⟨rfl, trivial⟩ ⟨hS, (by first | omega | simp), (by first | omega | simp), (by simp), (fun x x0 x1 => by omega)⟩ ?_
  rintro ⟨k, y1⟩ u_10 w_9 ⟨hS, h0, h1, h2, h3⟩
  refine W.seq ?_
  refine W.reg ?_
  refine Wx.rd (v := .bool (decide (k < 37))) (rd_lss rfl rfl) rfl ?_
  refine Wx.nil ?_
  refine W.seq ?_
  refine W.condD rfl (fun c0 => ?_) (fun c0 => ?_)
  · -- yes
    refine W.skip ?_
    refine W.seq ?_
    refine W.block ?_
    refine W.seq ?_
    refine W.reg ?_
    refine Wx.rd (v := .int .i64 k) (rd_move rfl) rfl ?_
    refine Wx.rd (v := .int .i64 k) (rd_assign rfl) rfl ?_
    refine Wx.nil ?_
    refine W.reg ?_
    refine Wx.rd (v := .int .i64 k) (rd_move rfl) rfl ?_
    refine Wx.rd (v := .int .i64 k) (rd_move rfl) rfl ?_
    refine Wx.rd (v := .pointer (some ⟨g_5, 0 + k.toNat * 1, none⟩)) (rd_indexArr rfl rfl Tryz.underlying78 Tryz.sizeOf3 (by omega) (by omega)) rfl ?_
    refine Wx.storeXa (j := k) (f := (Value.int .i64)) (u := k) hS 0 rfl rfl (by omega) rfl rfl rfl Tryz.sizeOf3 (by omega) (by omega) (fun w_11 hz_12 hS => ?_)
    refine Wx.nil ?_
    refine W.reg ?_
    refine Wx.rd (v := .int .i64 (k + 1)) (rd_add rfl rfl (in_i64 (by omega) (by omega))) rfl ?_
    refine Wx.rd (v := .int .i64 (k + 1)) (rd_move rfl) rfl ?_
    refine Wx.nil ?_
    refine ⟨(k + 1, List.set y1 k.toNat k), (by show (37 - (k + 1)).toNat < (37 - k).toNat; omega), ?_, ?_, Out.look rfl Out.self⟩
    · exact ⟨hS, (by first | omega | assumption), (by first | omega | assumption), (by simp only [List.length_set]; exact h2), (fun x x0 x1 => by rw [ix_set0 h0 (by omega) x0]; split; omega; exact h3 x x0 (by omega))⟩
    · exact ⟨rfl, trivial⟩
  · -- no
    refine W.exit rfl ?_
    refine W.seq ?_
    refine W.reg ?_
    refine Wx.rd (v := .func (.func 30) #[] #[.pointer (some ⟨g_5, 0, none⟩)]) (rd_makeFunc (vs := []) (us := [.pointer (some ⟨g_5, 0, none⟩)]) rfl rfl) rfl ?_
    refine Wx.rd (v := .func (.func 30) #[] #[.pointer (some ⟨g_5, 0, none⟩)]) (rd_assign rfl) rfl ?_
    refine Wx.nil ?_
    refine W.seq ?_
    refine W.seq ?_
    refine W.reg ?_
    refine Wx.rd (v := .int .i64 a) (rd_move rfl) rfl ?_
    refine Wx.rd (v := .agg #[.int .i64 R, .int .i64 C, hv]) (rd_loadXs (ds := [.int .i64 R, .int .i64 C, hv]) hS 1 rfl rfl rfl rfl Tryz.isAgg27 Tryz.sizeOf27) rfl ?_
    refine Wx.callF (run_callF Tryz.call31 rfl) (F31 i_R i_C (hS.arg a_hv)) rfl ?_
    rintro r_13 w_14 hx_15 rfl
    have hS := hS.ext hx_15
    refine Wx.rd (v := .bool (decide (a < (H.length : Int)))) (rd_lss rfl rfl) rfl ?_
    refine Wx.nil ?_
    refine W.cutK [7, 28, 29, 30, 31, 32] (fun (hg : Int) => [(7, .int .i64 hg)]) (fun (hg : Int) w' => St w O w' [.box g_5 78 (List.map (Value.int .i64) y1), .box g_1 27 [.int .i64 R, .int .i64 C, hv]] ∧ hg = highV H a) ?_ ?_
    · -- up to the cut
      refine W.condD rfl (fun c1 => ?_) (fun c1 => ?_)
      · -- yes
        refine W.reg ?_
        refine Wx.rd (v := .pointer (some ⟨g_1, 2, none⟩)) (rd_fieldAddr rfl foYg_27_2) rfl ?_
        refine Wx.rd (v := hv) (rd_loadX hS 1 rfl rfl rfl Tryz.isAgg25) rfl ?_
        refine Wx.rd (v := .int .i64 a) (rd_move rfl) rfl ?_
        refine Wx.ex (rd_index 0 (hS.arg a_hv) rfl rfl Tryz.underlying25 Tryz.sizeOf3 (by first | omega | (simp only [List.length_set, List.length_append, List.length_cons, List.length_nil, List.length_replicate]; omega)) (by first | omega | (simp only [List.length_set, List.length_append, List.length_cons, List.length_nil, List.length_replicate]; omega))) rfl (fun p_16 hp_17 => ?_)
        refine Wx.rd (v := .int .i64 (ix 0 H a)) (rd_loadI hp_17 rfl Tryz.isAgg3 Tryz.sizeOf3) rfl ?_
        have bd_18 := bd_i64 hp_17.inK
        refine Wx.rd (v := .int .i64 (ix 0 H a)) (rd_assign rfl) rfl ?_
        refine Wx.nil ?_
        refine ⟨ix 0 H a, ?_, ?_, Out.look rfl Out.refl⟩
        · exact ⟨hS, (by rw [highV, if_neg (by omega)])⟩
        · exact ⟨rfl, trivial⟩
      · -- no
        refine W.skip ?_
        refine ⟨0, ?_, ?_, Out.look rfl Out.refl⟩
        · exact ⟨hS, (by rw [highV, if_pos (by omega)])⟩
        · exact ⟨rfl, trivial⟩
    rintro hg u_20 w_19 ⟨hS, hh⟩
    refine W.seq ?_
    refine W.seq ?_
    refine W.reg ?_
    refine Wx.rd (v := .agg #[.int .i64 R, .int .i64 C, hv]) (rd_loadXs (ds := [.int .i64 R, .int .i64 C, hv]) hS 1 rfl rfl rfl rfl Tryz.isAgg27 Tryz.sizeOf27) rfl ?_
    refine Wx.callF (run_callF Tryz.call32 rfl) (F32 i_R i_C (hS.arg a_hv) p_ok hS.fb_lt) rfl ?_
    rintro r_21 w_22 hx_23 ⟨_, rfl, hv_24⟩
    have hS := hS.pushFrO hx_23 hv_24
    refine Wx.rd (v := .int .i64 ((jTL C H).length : Int)) (rd_lenR hS 0 rfl rfl Tryz.underlying66) rfl ?_
    refine Wx.rd (v := .int .i64 0) (rd_move rfl) rfl ?_
    refine Wx.nil ?_
    refine W.block ?_
    have hy1 : y1 = rng 0 37 := id_rng h2 (fun x x0 x1 => h3 x x0 (by omega))
    subst hy1
    have hS := hS.addNil (tP (tP (tI .i64) (tI .i64)) (tI .i64)) 70
    refine W.loop [6, 7, 12, 13, 14, 15, 36, 37, 38, 39, 40, 41, 42, 43, 44, 45, 46, 47, 48, 49, 50, 51, 52, 53, 54, 55, 56, 57, 58, 59, 60, 61, 62, 63, 64, 65, 66, 67, 68, 69, 70] (fun x : Int × Int × Value × (List ((Int × Int) × Int)) × (List Int) => match x with | (high, k, ov, out, ys) => [(7, .int .i64 high), (36, .int .i64 k), (6, ov)]) (fun (x : Int × Int × Value × (List ((Int × Int) × Int)) × (List Int)) w' => match x with | (high, k, ov, out, ys) => St w O w' [.row (tP (tP (tI .i64) (tI .i64)) (tI .i64)) 70 ov out, .row (tP (tP (tI .i64) (tI .i64)) (tI .i64)) 70 r_21 (jTL C H), .box g_5 78 (List.map (Value.int .i64) ys), .box g_1 27 [.int .i64 R, .int .i64 C, hv]] ∧ 0 ≤ k ∧ k ≤ (jTL C H).length ∧ TrI C H a b k ys out high) (fun x : Int × Int × Value × (List ((Int × Int) × Int)) × (List Int) => match x with | (high, k, ov, out, ys) => ((jTL C H).length - k).toNat) (hg, 0, (.slice none 0 0), [], rng 0 37) ⟨rfl, rfl, rfl, trivial⟩ ⟨hS, (by first | omega | simp), (by first | omega | simp), (by rw [hh]; exact tr_start p_ok p_a)⟩ ?_
    rintro ⟨high, k, ov, out, ys⟩ u_27 w_26 ⟨hS, g0, g1, g2⟩
    refine W.seq ?_
    refine W.reg ?_
    refine Wx.rd (v := .bool (decide (k < ((jTL C H).length : Int)))) (rd_lss rfl rfl) rfl ?_
    refine Wx.nil ?_
    refine W.seq ?_
    refine W.condD rfl (fun c2 => ?_) (fun c2 => ?_)
    · -- yes
      obtain ⟨hjp, hjq, hjh⟩ := jtl_jbd p_ok g0 c2
      have hol := tr_len g2 g0
      have hul := g2.uf.len
      have hgb := g2.bd
      have ht0 := top_rng g2.uf (x := (ix ((0, 0), 0) (jTL C H) k).1.1) ⟨by omega, by omega⟩
      have ht1 := top_rng g2.uf (x := (ix ((0, 0), 0) (jTL C H) k).1.2) ⟨by omega, by omega⟩
      have ht2 := top_rng g2.uf (x := a) ⟨by omega, by omega⟩
      have ht3 := top_rng g2.uf (x := b) ⟨by omega, by omega⟩
      refine W.skip ?_
      refine W.seq ?_
      refine W.block ?_
      refine W.seq ?_
      refine W.reg ?_
      refine Wx.indexR hS 1 rfl rfl rfl Tryz.underlying66 Tryz.sizeOf70 (by first | omega | (simp only [List.length_set, List.length_append, List.length_cons, List.length_nil, List.length_replicate]; omega)) (by first | omega | (simp only [List.length_set, List.length_append, List.length_cons, List.length_nil, List.length_replicate]; omega)) rfl (fun g_28 hg_29 => ?_)
      refine Wx.ex (rd_loadR' ((0, 0), 0) hS 1 rfl hg_29 rfl (by first | omega | (simp only [List.length_set, List.length_append, List.length_cons, List.length_nil, List.length_replicate]; omega)) (by first | omega | (simp only [List.length_set, List.length_append, List.length_cons, List.length_nil, List.length_replicate]; omega)) Tryz.isAgg70 Tryz.sizeOf70) rfl (fun v_30 hv_31 => ?_)
      obtain ⟨rfl, bd_32, bd_33, bd_34⟩ := hv_31.i3
      have bd_32 := bd_i64 bd_32
      have bd_33 := bd_i64 bd_33
      have bd_34 := bd_i64 bd_34
      refine Wx.alloc (cs := [.int .i64 0, .int .i64 0, .int .i64 0]) hS Tryz.zeroValue70 rfl rfl (fun g_35 w_36 hx_38 hb_37 hS => ?_)
      refine Wx.storeX (cs' := [.int .i64 ((ix ((0, 0), 0) (jTL C H) k).1.1), .int .i64 ((ix ((0, 0), 0) (jTL C H) k).1.2), .int .i64 ((ix ((0, 0), 0) (jTL C H) k).2)]) (ds := [.int .i64 ((ix ((0, 0), 0) (jTL C H) k).1.1), .int .i64 ((ix ((0, 0), 0) (jTL C H) k).1.2), .int .i64 ((ix ((0, 0), 0) (jTL C H) k).2)]) hS 0 rfl rfl rfl rfl Tryz.sizeOf70 (Nat.le_of_ble_eq_true rfl) (one_cons rfl (one_cons rfl (one_cons rfl one_nil))) rfl (fun w_39 hz_40 hS => ?_)
      refine Wx.nil ?_
      refine W.seq ?_
      refine W.regQ mixedYg_ (by kernel_rfl) ?_
      refine Wx.rd (v := .func (.func 30) #[] #[.pointer (some ⟨g_5, 0, none⟩)]) (rd_move rfl) rfl ?_
      refine Wx.rd (v := .pointer (some ⟨g_35, 0, none⟩)) (rd_fieldAddr rfl foYg_70_0) rfl ?_
      refine Wx.rd (v := .pointer (some ⟨g_35, 0, none⟩)) (rd_indexArr (n := 0) rfl rfl Tryz.underlying23 Tryz.sizeOf3 (by decide) (by decide)) rfl ?_
      refine Wx.rd (v := .int .i64 ((ix ((0, 0), 0) (jTL C H) k).1.1)) (rd_loadX hS 0 rfl rfl rfl Tryz.isAgg3) rfl ?_
      refine Wx.callV (v := .int .i64 (topV ys ((ix ((0, 0), 0) (jTL C H) k).1.1))) (run_callC (fs := []) (cs := [.pointer (some ⟨g_5, 0, none⟩)]) (vs := [.int .i64 ((ix ((0, 0), 0) (jTL C H) k).1.1), .pointer (some ⟨g_5, 0, none⟩)]) Tryz.call30 rfl rfl) (fun w_41 hw_42 => (F30 (mm := out.length) (in_i64 (by omega) (by omega)) (boxAt hS 3 rfl hw_42) g2.uf (by omega) ⟨by omega, by omega⟩)) rfl ?_
      refine Wx.rd (v := .func (.func 30) #[] #[.pointer (some ⟨g_5, 0, none⟩)]) (rd_move rfl) rfl ?_
      refine Wx.rd (v := .pointer (some ⟨g_35, 0, none⟩)) (rd_fieldAddr rfl foYg_70_0) rfl ?_
      refine Wx.rd (v := .pointer (some ⟨g_35, 1, none⟩)) (rd_indexArr (n := 1) rfl rfl Tryz.underlying23 Tryz.sizeOf3 (by decide) (by decide)) rfl ?_
      refine Wx.rd (v := .int .i64 ((ix ((0, 0), 0) (jTL C H) k).1.2)) (rd_loadX hS 0 rfl rfl rfl Tryz.isAgg3) rfl ?_
      refine Wx.callV (v := .int .i64 (topV ys ((ix ((0, 0), 0) (jTL C H) k).1.2))) (run_callC (fs := []) (cs := [.pointer (some ⟨g_5, 0, none⟩)]) (vs := [.int .i64 ((ix ((0, 0), 0) (jTL C H) k).1.2), .pointer (some ⟨g_5, 0, none⟩)]) Tryz.call30 rfl rfl) (fun w_43 hw_44 => (F30 (mm := out.length) (in_i64 (by omega) (by omega)) (boxAt hS 3 rfl hw_44) g2.uf (by omega) ⟨by omega, by omega⟩)) rfl ?_
      refine Wx.rd (v := .int .i64 (topV ys ((ix ((0, 0), 0) (jTL C H) k).1.1))) (rd_assign rfl) rfl ?_
      refine Wx.rd (v := .int .i64 (topV ys ((ix ((0, 0), 0) (jTL C H) k).1.2))) (rd_assign rfl) rfl ?_
      refine Wx.nilQ (fun w_45 hx_46 => ?_)
      have hS := hS.ext hx_46
      refine W.seq ?_
      refine W.seq ?_
      refine W.reg ?_
      refine Wx.rd (v := .int .i64 (topV ys ((ix ((0, 0), 0) (jTL C H) k).1.1))) (rd_move rfl) rfl ?_
      refine Wx.rd (v := .int .i64 (topV ys ((ix ((0, 0), 0) (jTL C H) k).1.2))) (rd_move rfl) rfl ?_
      refine Wx.rd (v := .bool (decide ((topV ys ((ix ((0, 0), 0) (jTL C H) k).1.1)) = (topV ys ((ix ((0, 0), 0) (jTL C H) k).1.2))))) (rd_eql rfl rfl) rfl ?_
      refine Wx.nil ?_
      refine W.condD rfl (fun c3 => ?_) (fun c3 => ?_)
      · -- yes
        refine W.exit rfl ?_
        refine W.reg ?_
        refine Wx.rd (v := .int .i64 (k + 1)) (rd_add rfl rfl (in_i64 (by omega) (by omega))) rfl ?_
        refine Wx.rd (v := .int .i64 (k + 1)) (rd_move rfl) rfl ?_
        refine Wx.nil ?_
        refine ⟨(high, k + 1, ov, out, ys), (by show ((jTL C H).length - (k + 1)).toNat < ((jTL C H).length - k).toNat; omega), ?_, ?_, Out.look rfl Out.self⟩
        · exact ⟨hS.tl, (by first | omega | assumption), (by first | omega | assumption), (tr_skip (p := (ix ((0, 0), 0) (jTL C H) k).1.1) (q := (ix ((0, 0), 0) (jTL C H) k).1.2) (h := (ix ((0, 0), 0) (jTL C H) k).2) g2 g0 c2 rfl ⟨by omega, by omega⟩ hjq c3)⟩
        · exact ⟨rfl, rfl, rfl, trivial⟩
      · -- no
        refine W.skip ?_
        refine W.seq ?_
        refine W.reg ?_
        refine Wx.rd (v := .func (.func 30) #[] #[.pointer (some ⟨g_5, 0, none⟩)]) (rd_move rfl) rfl ?_
        refine Wx.rd (v := .int .i64 a) (rd_move rfl) rfl ?_
        refine Wx.callF (run_callC (fs := []) (cs := [.pointer (some ⟨g_5, 0, none⟩)]) (vs := [.int .i64 a, .pointer (some ⟨g_5, 0, none⟩)]) Tryz.call30 rfl rfl) (F30 (mm := out.length) i_a (boxAt hS 3 rfl (Ext.refl _)) g2.uf (by omega) ⟨by omega, by omega⟩) rfl ?_
        rintro r_47 w_48 hx_49 rfl
        have hS := hS.ext hx_49
        refine Wx.rd (v := .func (.func 30) #[] #[.pointer (some ⟨g_5, 0, none⟩)]) (rd_move rfl) rfl ?_
        refine Wx.rd (v := .int .i64 b) (rd_move rfl) rfl ?_
        refine Wx.callF (run_callC (fs := []) (cs := [.pointer (some ⟨g_5, 0, none⟩)]) (vs := [.int .i64 b, .pointer (some ⟨g_5, 0, none⟩)]) Tryz.call30 rfl rfl) (F30 (mm := out.length) i_b (boxAt hS 3 rfl (Ext.refl _)) g2.uf (by omega) ⟨by omega, by omega⟩) rfl ?_
        rintro r_50 w_51 hx_52 rfl
        have hS := hS.ext hx_52
        refine Wx.rd (v := .bool (decide ((topV ys a) ≠ (topV ys b)))) (rd_neq rfl rfl) rfl ?_
        refine Wx.rd (v := .bool (decide ((topV ys a) ≠ (topV ys b)))) (rd_assign rfl) rfl ?_
        refine Wx.nil ?_
        refine W.seq ?_
        refine W.reg ?_
        refine Wx.rd (v := .int .i64 (topV ys ((ix ((0, 0), 0) (jTL C H) k).1.1))) (rd_move rfl) rfl ?_
        refine Wx.rd (v := .int .i64 (topV ys ((ix ((0, 0), 0) (jTL C H) k).1.2))) (rd_move rfl) rfl ?_
        refine Wx.rd (v := .pointer (some ⟨g_5, 0 + (topV ys ((ix ((0, 0), 0) (jTL C H) k).1.1)).toNat * 1, none⟩)) (rd_indexArr rfl rfl Tryz.underlying78 Tryz.sizeOf3 (by omega) (by omega)) rfl ?_
        refine Wx.storeXa (j := (topV ys ((ix ((0, 0), 0) (jTL C H) k).1.1))) (f := (Value.int .i64)) (u := (topV ys ((ix ((0, 0), 0) (jTL C H) k).1.2))) hS 3 rfl rfl (by omega) rfl rfl rfl Tryz.sizeOf3 (by omega) (by omega) (fun w_53 hz_54 hS => ?_)
        refine Wx.nil ?_
        refine W.seq ?_
        refine W.reg ?_
        refine Wx.rd (v := ov) (rd_move rfl) rfl ?_
        refine Wx.rd (v := .agg #[.int .i64 ((ix ((0, 0), 0) (jTL C H) k).1.1), .int .i64 ((ix ((0, 0), 0) (jTL C H) k).1.2), .int .i64 ((ix ((0, 0), 0) (jTL C H) k).2)]) (rd_loadXs (ds := [.int .i64 ((ix ((0, 0), 0) (jTL C H) k).1.1), .int .i64 ((ix ((0, 0), 0) (jTL C H) k).1.2), .int .i64 ((ix ((0, 0), 0) (jTL C H) k).2)]) hS 0 rfl rfl rfl rfl Tryz.isAgg70 Tryz.sizeOf70) rfl ?_
        refine Wx.lit (t := (tP (tP (tI .i64) (tI .i64)) (tI .i64))) (ys := [(((ix ((0, 0), 0) (jTL C H) k).1.1, (ix ((0, 0), 0) (jTL C H) k).1.2), (ix ((0, 0), 0) (jTL C H) k).2)]) (vs := [.agg #[.int .i64 ((ix ((0, 0), 0) (jTL C H) k).1.1), .int .i64 ((ix ((0, 0), 0) (jTL C H) k).1.2), .int .i64 ((ix ((0, 0), 0) (jTL C H) k).2)]]) elYg_66 hS rfl rfl ⟨(V.mk3 (in_i64 (by omega) (by omega)) (in_i64 (by omega) (by omega)) (in_i64 (by omega) (by omega))), trivial⟩ (by decide) rfl (fun v_55 w_56 hx_57 hS => ?_)
        refine Wx.append elYg_66 hS 2 rfl rfl rfl (Src.ofR hS 0 rfl) (by simp only [maxLen]; first | omega | (simp; omega) | simp) (by first | omega | (simp; omega) | simp) rfl (fun v_58 w_59 hz_60 hS => ?_)
        refine Wx.rd (v := v_58) (rd_assign rfl) rfl ?_
        refine Wx.nil ?_
        refine W.seq ?_
        refine W.reg ?_
        refine Wx.rd (v := .bool (decide ((topV ys a) ≠ (topV ys b)))) (rd_move rfl) rfl ?_
        refine Wx.nil ?_
        refine W.condD rfl (fun c4 => ?_) (fun c4 => ?_)
        · -- yes
          refine W.reg ?_
          refine Wx.rd (v := .pointer (some ⟨g_35, 2, none⟩)) (rd_fieldAddr rfl foYg_70_1) rfl ?_
          refine Wx.rd (v := .int .i64 ((ix ((0, 0), 0) (jTL C H) k).2)) (rd_loadX hS 1 rfl rfl rfl Tryz.isAgg3) rfl ?_
          refine Wx.rd (v := .int .i64 ((ix ((0, 0), 0) (jTL C H) k).2)) (rd_assign rfl) rfl ?_
          refine Wx.nil ?_
          refine W.reg ?_
          refine Wx.rd (v := .int .i64 (k + 1)) (rd_add rfl rfl (in_i64 (by omega) (by omega))) rfl ?_
          refine Wx.rd (v := .int .i64 (k + 1)) (rd_move rfl) rfl ?_
          refine Wx.nil ?_
          refine ⟨((ix ((0, 0), 0) (jTL C H) k).2, k + 1, v_58, out ++ [(((ix ((0, 0), 0) (jTL C H) k).1.1, (ix ((0, 0), 0) (jTL C H) k).1.2), (ix ((0, 0), 0) (jTL C H) k).2)], List.set ys (topV ys ((ix ((0, 0), 0) (jTL C H) k).1.1)).toNat (topV ys ((ix ((0, 0), 0) (jTL C H) k).1.2))), (by show ((jTL C H).length - (k + 1)).toNat < ((jTL C H).length - k).toNat; omega), ?_, ?_, Out.look rfl Out.self⟩
          · exact ⟨St.tl (hS.tl), (by first | omega | assumption), (by first | omega | assumption), (tr_take (p := (ix ((0, 0), 0) (jTL C H) k).1.1) (q := (ix ((0, 0), 0) (jTL C H) k).1.2) (h := (ix ((0, 0), 0) (jTL C H) k).2) p_ok g2 p_a p_b g0 c2 (by omega) rfl ⟨by omega, by omega⟩ hjq hjh c3 (by rw [if_neg c4]))⟩
          · exact ⟨rfl, rfl, rfl, trivial⟩
        · -- no
          refine W.skip ?_
          refine W.reg ?_
          refine Wx.rd (v := .int .i64 (k + 1)) (rd_add rfl rfl (in_i64 (by omega) (by omega))) rfl ?_
          refine Wx.rd (v := .int .i64 (k + 1)) (rd_move rfl) rfl ?_
          refine Wx.nil ?_
          refine ⟨(high, k + 1, v_58, out ++ [(((ix ((0, 0), 0) (jTL C H) k).1.1, (ix ((0, 0), 0) (jTL C H) k).1.2), (ix ((0, 0), 0) (jTL C H) k).2)], List.set ys (topV ys ((ix ((0, 0), 0) (jTL C H) k).1.1)).toNat (topV ys ((ix ((0, 0), 0) (jTL C H) k).1.2))), (by show ((jTL C H).length - (k + 1)).toNat < ((jTL C H).length - k).toNat; omega), ?_, ?_, Out.look rfl Out.self⟩
          · exact ⟨St.tl (hS.tl), (by first | omega | assumption), (by first | omega | assumption), (tr_take (p := (ix ((0, 0), 0) (jTL C H) k).1.1) (q := (ix ((0, 0), 0) (jTL C H) k).1.2) (h := (ix ((0, 0), 0) (jTL C H) k).2) p_ok g2 p_a p_b g0 c2 (by omega) rfl ⟨by omega, by omega⟩ hjq hjh c3 (by rw [if_pos (by omega)]))⟩
          · exact ⟨rfl, rfl, rfl, trivial⟩
    · -- no
      refine W.exit rfl ?_
      refine W.seq ?_
      refine W.reg ?_
      refine Wx.rd (v := ov) (rd_move rfl) rfl ?_
      refine Wx.rd (v := .int .i64 high) (rd_move rfl) rfl ?_
      refine Wx.rd (v := ov) (rd_assign rfl) rfl ?_
      refine Wx.rd (v := .int .i64 high) (rd_assign rfl) rfl ?_
      refine Wx.nil ?_
      have e0_0 : treeJ C H = out := by exact (tr_end p_ok p_a p_b g2 (by omega)).1.symm
      have e0_1 : (betwV C H a b) = (high : Int) := by exact (tr_end p_ok p_a p_b g2 (by omega)).2.symm
      exact W.ret ⟨.tuple #[ov, .int .i64 high], ResIs.two, hS.bel, ⟨ov, (by rw [e0_1]), (by rw [e0_0]; exact (hS.frO 0 rfl))⟩⟩
end Go.Proofs.YtdpdlplkngggoaaGreatDoor

namespace Go.Proofs.YtdpdlplkngggoaaGreatDoor
open Go.Wk Go.RowKit Go.Lib
set_option linter.unusedVariables false
set_option linter.unusedSimpArgs false
theorem foYh_70_0 : fldOff Tryz.prog 70 0 = some 0 := by kernel_rfl
theorem elYh_24 : ElemI Tryz.prog 24 23 (.agg #[.int .i64 0, .int .i64 0]) 2 16 := ElemI.of Tryz.underlying24 (by kernel_rfl) (by first | rfl | kernel_rfl) (by decide)

set_option maxHeartbeats 1000000 in
theorem F9 {R : Int} {C : Int} {hv : Value} {H : List Int} {O : List (Option Nat)} {w : World} (i_R : InK .i64 R) (i_C : InK .i64 C) (h_hv : V (tSl (tI .i64)) H hv O w) (hO : ∀ b, some b ∈ O → b < w.heap.size) : Calls Tryz.prog 9 #[.agg #[.int .i64 R, .int .i64 C, hv]] w (Ret w (fun r w' => ∃ rv, r = .tuple #[rv, .int .i64 (checkS R C H)] ∧ Fresh (tP (tI .i64) (tI .i64)) 23 (treeE R C H) rv w.heap.size w')) := by
  have b_C := bd_i64 i_C
  have b_R := bd_i64 i_R
  have a_hv := h_hv
  have l_hv := h_hv.len63
  have hS := St.start w O hO
  refine enterR Tryz.func9 rfl Tryz.ntmps9 Tryz.results9 rfl ?_
  refine W.seq ?_
  refine W.reg ?_
  refine Wx.box (cs := [.int .i64 R, .int .i64 C, hv]) hS rfl rfl rfl (fun g_1 w_2 hx_4 hb_3 hS => ?_)
  refine Wx.rd (v := (.slice none 0 0)) (rd_assign rfl) rfl ?_
  refine Wx.rd (v := .int .i64 0) (rd_assign rfl) rfl ?_
  refine Wx.nil ?_
  refine W.seq ?_
  refine W.seq ?_
  refine W.reg ?_
  refine Wx.rd (v := .agg #[.int .i64 R, .int .i64 C, hv]) (rd_loadXs (ds := [.int .i64 R, .int .i64 C, hv]) hS 0 rfl rfl rfl rfl Tryz.isAgg27 Tryz.sizeOf27) rfl ?_
  refine Wx.callF (run_callF Tryz.call21 rfl) (F21 i_R i_C (hS.arg a_hv)) rfl ?_
  rintro r_5 w_6 hx_7 rfl
  have hS := hS.ext hx_7
  refine Wx.rd (v := .int .i64 (checkS R C H)) (rd_assign rfl) rfl ?_
  refine Wx.nil ?_
  refine W.seq ?_
  refine W.reg ?_
  refine Wx.rd (v := .int .i64 (checkS R C H)) (rd_move rfl) rfl ?_
  refine Wx.rd (v := .bool (decide ((checkS R C H) ≠ 0))) (rd_neq rfl rfl) rfl ?_
  refine Wx.nil ?_
  refine W.condD rfl (fun c0 => ?_) (fun c0 => ?_)
  · -- yes
    refine W.seq ?_
    refine W.reg ?_
    refine Wx.rd (v := .int .i64 (checkS R C H)) (rd_move rfl) rfl ?_
    refine Wx.rd (v := (.slice none 0 0)) (rd_assign rfl) rfl ?_
    refine Wx.rd (v := .int .i64 (checkS R C H)) (rd_assign rfl) rfl ?_
    refine Wx.nil ?_
    have e0_0 : treeE R C H = [] := by rw [treeE, if_neg c0]
    exact W.ret ⟨.tuple #[(.slice none 0 0), .int .i64 (checkS R C H)], ResIs.two, hS.bel, ⟨(.slice none 0 0), rfl, (by rw [e0_0]; exact ((hS.addNil (tP (tI .i64) (tI .i64)) 23).fr 0 rfl flat_i2))⟩⟩
  · -- no
    have h0c : checkS R C H = 0 := by omega
    have p_ok := SOK.of h0c
    obtain ⟨⟨r1, r2⟩, ⟨c1_, c2_⟩, hRC, ⟨n1, n36⟩, hCn, hok⟩ := id p_ok
    refine W.skip ?_
    refine W.seq ?_
    refine W.reg ?_
    refine Wx.rd (v := (.slice none 0 0)) (rd_assign rfl) rfl ?_
    refine Wx.nil ?_
    refine W.seq ?_
    refine W.reg ?_
    refine Wx.rd (v := .agg #[.int .i64 R, .int .i64 C, hv]) (rd_loadXs (ds := [.int .i64 R, .int .i64 C, hv]) hS 0 rfl rfl rfl rfl Tryz.isAgg27 Tryz.sizeOf27) rfl ?_
    refine Wx.callF (run_callF Tryz.call22 rfl) (F22 i_R i_C (hS.arg a_hv) (in_i64 (by omega) (by omega)) (in_i64 (by omega) (by omega)) p_ok ⟨by omega, by omega⟩ ⟨by omega, by omega⟩ hS.fb_lt) rfl ?_
    rintro r_8 w_9 hx_10 ⟨v_11, rfl, hv_12⟩
    have hS := hS.pushFrO hx_10 hv_12
    have htl := tree_len p_ok
    refine Wx.rd (v := .tuple #[v_11, .int .i64 (betwV C H 0 0)]) (rd_move rfl) rfl ?_
    refine Wx.rd (v := v_11) (rd_extract rfl rfl) rfl ?_
    refine Wx.rd (v := .int .i64 (betwV C H 0 0)) (rd_extract rfl rfl) rfl ?_
    refine Wx.rd (v := v_11) (rd_assign rfl) rfl ?_
    refine Wx.rd (v := .int .i64 (betwV C H 0 0)) (rd_assign rfl) rfl ?_
    refine Wx.nil ?_
    refine W.seq ?_
    refine W.seq ?_
    refine W.reg ?_
    refine Wx.rd (v := v_11) (rd_move rfl) rfl ?_
    refine Wx.rd (v := .int .i64 ((treeJ C H).length : Int)) (rd_lenR hS 0 rfl rfl Tryz.underlying66) rfl ?_
    refine Wx.rd (v := .int .i64 0) (rd_move rfl) rfl ?_
    refine Wx.nil ?_
    refine W.block ?_
    have hS := hS.addNil (tP (tI .i64) (tI .i64)) 23
    refine W.loop [5, 9, 22, 23, 24, 25, 26, 27, 28, 29, 30, 31] (fun x : Int × Value × (List (Int × Int)) => match x with | (k, ov, out) => [(22, .int .i64 k), (5, ov)]) (fun (x : Int × Value × (List (Int × Int))) w' => match x with | (k, ov, out) => St w O w' [.row (tP (tI .i64) (tI .i64)) 23 ov out, .row (tP (tP (tI .i64) (tI .i64)) (tI .i64)) 70 v_11 (treeJ C H), .box g_1 27 [.int .i64 R, .int .i64 C, hv]] ∧ 0 ≤ k ∧ k ≤ (treeJ C H).length ∧ out = ((treeJ C H).take k.toNat).map (·.1) ∧ (out.length : Int) = k) (fun x : Int × Value × (List (Int × Int)) => match x with | (k, ov, out) => ((treeJ C H).length - k).toNat) (0, (.slice none 0 0), []) ⟨rfl, rfl, trivial⟩ ⟨hS, (by first | omega | simp), (by first | omega | simp), (rfl), (rfl)⟩ ?_
    rintro ⟨k, ov, out⟩ u_15 w_14 ⟨hS, h0, h1, h2, h3⟩
    refine W.seq ?_
    refine W.reg ?_
    refine Wx.rd (v := .bool (decide (k < ((treeJ C H).length : Int)))) (rd_lss rfl rfl) rfl ?_
    refine Wx.nil ?_
    refine W.seq ?_
    refine W.condD rfl (fun c1 => ?_) (fun c1 => ?_)
    · -- yes
      refine W.skip ?_
      refine W.seq ?_
      refine W.block ?_
      refine W.seq ?_
      refine W.reg ?_
      refine Wx.indexR hS 1 rfl rfl rfl Tryz.underlying66 Tryz.sizeOf70 (by first | omega | (simp only [List.length_set, List.length_append, List.length_cons, List.length_nil, List.length_replicate]; omega)) (by first | omega | (simp only [List.length_set, List.length_append, List.length_cons, List.length_nil, List.length_replicate]; omega)) rfl (fun g_16 hg_17 => ?_)
      refine Wx.ex (rd_loadR' ((0, 0), 0) hS 1 rfl hg_17 rfl (by first | omega | (simp only [List.length_set, List.length_append, List.length_cons, List.length_nil, List.length_replicate]; omega)) (by first | omega | (simp only [List.length_set, List.length_append, List.length_cons, List.length_nil, List.length_replicate]; omega)) Tryz.isAgg70 Tryz.sizeOf70) rfl (fun v_18 hv_19 => ?_)
      obtain ⟨rfl, bd_20, bd_21, bd_22⟩ := hv_19.i3
      have bd_20 := bd_i64 bd_20
      have bd_21 := bd_i64 bd_21
      have bd_22 := bd_i64 bd_22
      refine Wx.alloc (cs := [.int .i64 0, .int .i64 0, .int .i64 0]) hS Tryz.zeroValue70 rfl rfl (fun g_23 w_24 hx_26 hb_25 hS => ?_)
      refine Wx.storeX (cs' := [.int .i64 ((ix ((0, 0), 0) (treeJ C H) k).1.1), .int .i64 ((ix ((0, 0), 0) (treeJ C H) k).1.2), .int .i64 ((ix ((0, 0), 0) (treeJ C H) k).2)]) (ds := [.int .i64 ((ix ((0, 0), 0) (treeJ C H) k).1.1), .int .i64 ((ix ((0, 0), 0) (treeJ C H) k).1.2), .int .i64 ((ix ((0, 0), 0) (treeJ C H) k).2)]) hS 0 rfl rfl rfl rfl Tryz.sizeOf70 (Nat.le_of_ble_eq_true rfl) (one_cons rfl (one_cons rfl (one_cons rfl one_nil))) rfl (fun w_27 hz_28 hS => ?_)
      refine Wx.nil ?_
      refine W.reg ?_
      refine Wx.rd (v := ov) (rd_move rfl) rfl ?_
      refine Wx.rd (v := .pointer (some ⟨g_23, 0, none⟩)) (rd_fieldAddr rfl foYh_70_0) rfl ?_
      refine Wx.rd (v := .agg #[.int .i64 ((ix ((0, 0), 0) (treeJ C H) k).1.1), .int .i64 ((ix ((0, 0), 0) (treeJ C H) k).1.2)]) (rd_loadXs (ds := [.int .i64 ((ix ((0, 0), 0) (treeJ C H) k).1.1), .int .i64 ((ix ((0, 0), 0) (treeJ C H) k).1.2)]) hS 0 rfl rfl rfl rfl Tryz.isAgg23 Tryz.sizeOf23) rfl ?_
      refine Wx.lit (t := (tP (tI .i64) (tI .i64))) (ys := [((ix ((0, 0), 0) (treeJ C H) k).1.1, (ix ((0, 0), 0) (treeJ C H) k).1.2)]) (vs := [.agg #[.int .i64 ((ix ((0, 0), 0) (treeJ C H) k).1.1), .int .i64 ((ix ((0, 0), 0) (treeJ C H) k).1.2)]]) elYh_24 hS rfl rfl ⟨(V.mk2 (in_i64 (by omega) (by omega)) (in_i64 (by omega) (by omega))), trivial⟩ (by decide) rfl (fun v_29 w_30 hx_31 hS => ?_)
      refine Wx.append elYh_24 hS 2 rfl rfl rfl (Src.ofR hS 0 rfl) (by simp only [maxLen]; first | omega | (simp; omega) | simp) (by first | omega | (simp; omega) | simp) rfl (fun v_32 w_33 hz_34 hS => ?_)
      refine Wx.rd (v := v_32) (rd_assign rfl) rfl ?_
      refine Wx.nil ?_
      refine W.reg ?_
      refine Wx.rd (v := .int .i64 (k + 1)) (rd_add rfl rfl (in_i64 (by omega) (by omega))) rfl ?_
      refine Wx.rd (v := .int .i64 (k + 1)) (rd_move rfl) rfl ?_
      refine Wx.nil ?_
      refine ⟨(k + 1, v_32, out ++ [((ix ((0, 0), 0) (treeJ C H) k).1.1, (ix ((0, 0), 0) (treeJ C H) k).1.2)]), (by show ((treeJ C H).length - (k + 1)).toNat < ((treeJ C H).length - k).toNat; omega), ?_, ?_, Out.look rfl Out.self⟩
      · exact ⟨St.tl (hS.tl), (by first | omega | assumption), (by first | omega | assumption), (tree_snoc h2 h0 c1), (by simp only [List.length_append, List.length_cons, List.length_nil]; omega)⟩
      · exact ⟨rfl, rfl, trivial⟩
    · -- no
      refine W.exit rfl ?_
      refine W.seq ?_
      refine W.reg ?_
      refine Wx.rd (v := ov) (rd_move rfl) rfl ?_
      refine Wx.rd (v := ov) (rd_assign rfl) rfl ?_
      refine Wx.rd (v := .int .i64 0) (rd_assign rfl) rfl ?_
      refine Wx.nil ?_
      have e1_0 : treeE R C H = out := by rw [treeE, if_pos h0c, h2, tree_full (by omega)]
      have e1_1 : (checkS R C H) = (0 : Int) := by exact h0c
      exact W.ret ⟨.tuple #[ov, .int .i64 0], ResIs.two, hS.bel, ⟨ov, (by rw [e1_1]), (by rw [e1_0]; exact (hS.fr 0 rfl flat_i2))⟩⟩
end Go.Proofs.YtdpdlplkngggoaaGreatDoor
