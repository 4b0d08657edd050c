/-
  WHAT IS PROVED HERE, TEXT BY TEXT (several texts of one prover, joined to one file; the conditions stand in each statement):
  * WHAT IS PROVED HERE: what functions of layer 10 hand back, each out of its own code; the conditions stand in each statement.
  * WHAT IS PROVED HERE: arrays of arrays of numbers as they are read at the start. Conditions: the types' closed facts, as hypotheses.
  * WHAT IS PROVED HERE: structs of five parts, integers of one kind all, as they are read at the start. Conditions: the types' closed facts, as hypotheses.
  * WHAT IS PROVED HERE: the given statement of TasteRanked: for every input it returns true, and each argument reads as it did. Conditions: none.
-/
import Derived.Test.YtjbcpggikaeleaaProg
import Derived.Test.YtjbcpggikaeleaaU2
import Derived.Test.YtjbcpggikaeleaaU6
import Derived.Test.YtjbcpggikaeleaaU5
import Derived.Test.YtjbcpggikaeleaaRows
import Derived.WalkKit
import Derived.ProofKit
import Derived.OpenShut
import Derived.Carry
import Derived.Lib.SmallJoins

set_option linter.unusedVariables false
set_option linter.unusedSimpArgs false

namespace Go.Proofs.Ytjbcpggikaeleaa
open Go.Wk Go.RowKit Go.Lib
set_option linter.unusedVariables false
set_option linter.unusedSimpArgs false
theorem mixedMd_ : Try.prog.follows .mixedOrders = true := by kernel_rfl
theorem elMd_39 : ElemI Try.prog 39 3 (.int .i64 0) 1 8 := ElemI.of Try.underlying39 (by kernel_rfl) (by first | rfl | kernel_rfl) (by decide)

set_option maxHeartbeats 4000000 in
set_option maxRecDepth 10000 in
theorem F12 {zs : List Int} {O : List (Option Nat)} {w : World} (n_zs : zs.length = 39) (i_zs : ∀ z ∈ zs, InK .u8 z) (hO : ∀ b, some b ∈ O → b < w.heap.size) : Calls Try.prog 12 #[.agg (List.map (Value.int .u8) zs).toArray] w (Ret w (fun r _ => r = .bool true)) := by
  have hS := St.start w O hO
  refine enterR Try.func12 rfl Try.ntmps12 Try.results12 rfl ?_
  refine W.seq ?_
  refine W.reg ?_
  refine Wx.box (cs := List.map (Value.int .u8) zs) hS rfl rfl rfl (fun g_1 w_2 hx_4 hb_3 hS => ?_)
  refine Wx.rd (v := .bool false) (rd_assign rfl) rfl ?_
  refine Wx.nil ?_
  refine W.seq ?_
  refine W.reg ?_
  refine Wx.rd (v := .agg (List.map (Value.int .u8) zs).toArray) (rd_loadXs (ds := List.map (Value.int .u8) zs) hS 0 rfl rfl (by rw [List.drop_zero, List.take_of_length_le (by simp; omega)]) (by simp; omega) Try.isAgg66 Try.sizeOf66) rfl ?_
  refine Wx.callF (run_callF Try.call46 rfl) (F46 n_zs i_zs (in_i64 (by omega) (by omega)) (by omega) (by omega) hS.fb_lt) rfl ?_
  rintro r_5 w_6 hx_7 ⟨l, x_hc, v_8, rfl, hv_9⟩
  have hS := hS.pushFrO hx_7 hv_9
  obtain ⟨hc, ok_hc, h6_hc⟩ := shop_ok (by decide) (by decide) x_hc
  have hgz := shG_bd zs
  refine Wx.rd (v := .tuple #[.int .i64 (shG zs), v_8]) (rd_move rfl) rfl ?_
  refine Wx.rd (v := .int .i64 (shG zs)) (rd_extract rfl rfl) rfl ?_
  refine Wx.rd (v := v_8) (rd_extract rfl rfl) rfl ?_
  refine Wx.alloc (cs := [(.slice none 0 0)]) hS Try.zeroValue22 rfl rfl (fun g_11 w_12 hx_14 hb_13 hS => ?_)
  refine Wx.rd (v := .int .i64 (shG zs)) (rd_assign rfl) rfl ?_
  have hS := hS.freeze 1 rfl
  refine Wx.storeX (cs' := [v_8]) (ds := [v_8]) hS 1 rfl rfl rfl (Go.Wk.cells_one (V.oneC (hS.v 0 rfl))) Try.sizeOf22 (Nat.le_of_ble_eq_true rfl) (one_cons (V.oneC (hS.v 0 rfl)) one_nil) rfl (fun w_16 hz_17 hS => ?_)
  refine Wx.nil ?_
  refine W.seq ?_
  refine W.reg ?_
  refine Wx.rd (v := .int .i64 (shG zs)) (rd_move rfl) rfl ?_
  refine Wx.rd (v := v_8) (rd_loadX hS 1 rfl rfl rfl Try.isAgg22) rfl ?_
  refine Wx.callF (run_callF Try.call41 rfl) (F41 (in_i64 (by omega) (by omega)) (hS.v 0 rfl) hS.fb_lt) rfl ?_
  rintro r_18 w_19 hx_20 ⟨v_21, rfl, hv_22⟩
  have hS := hS.pushFr hx_20 hv_22
  refine Wx.rd (v := .tuple #[v_21, .int .i64 (ranksX (shG zs) l)]) (rd_move rfl) rfl ?_
  refine Wx.rd (v := v_21) (rd_extract rfl rfl) rfl ?_
  refine Wx.rd (v := .int .i64 (ranksX (shG zs) l)) (rd_extract rfl rfl) rfl ?_
  refine Wx.rd (v := v_21) (rd_assign rfl) rfl ?_
  refine Wx.rd (v := .int .i64 (ranksX (shG zs) l)) (rd_assign rfl) rfl ?_
  refine Wx.nil ?_
  refine W.seq ?_
  refine W.reg ?_
  refine Wx.rd (v := .int .i64 (shG zs)) (rd_move rfl) rfl ?_
  refine Wx.rd (v := v_8) (rd_loadX hS 2 rfl rfl rfl Try.isAgg22) rfl ?_
  refine Wx.callF (run_callF Try.call36 rfl) (F36 (in_i64 (by omega) (by omega)) (hS.v 1 rfl) hS.fb_lt) rfl ?_
  rintro r_24 w_25 hx_26 ⟨v_27, v_28, rfl, hv_29, hv_30⟩
  have ln_32 := hv_29.len63
  have ln_34 := hv_30.len63
  have hS := hS.ext hx_26
  have hS := hS.add hv_29
  have hS := hS.add (hv_30.mv (.less (by simp [fb, Ob.blk])))
  refine Wx.rd (v := .tuple #[v_27, v_28, .int .i64 (numX (shG zs) l)]) (rd_move rfl) rfl ?_
  refine Wx.rd (v := v_27) (rd_extract rfl rfl) rfl ?_
  refine Wx.rd (v := v_28) (rd_extract rfl rfl) rfl ?_
  refine Wx.rd (v := .int .i64 (numX (shG zs) l)) (rd_extract rfl rfl) rfl ?_
  refine Wx.rd (v := v_27) (rd_assign rfl) rfl ?_
  refine Wx.rd (v := v_28) (rd_assign rfl) rfl ?_
  refine Wx.rd (v := .int .i64 (numX (shG zs) l)) (rd_assign rfl) rfl ?_
  refine Wx.nil ?_
  refine W.seq ?_
  refine W.seq ?_
  refine W.reg ?_
  refine Wx.rd (v := v_8) (rd_loadX hS 4 rfl rfl rfl Try.isAgg22) rfl ?_
  refine Wx.callF (run_callF Try.call47 rfl) (F47 (hS.v 3 rfl) ok_hc hS.fb_lt) rfl ?_
  rintro r_35 w_36 hx_37 rfl
  have hS := hS.ext hx_37
  refine Wx.nil ?_
  refine W.cond rfl (fun c0 => ?_) (fun c0 => ?_)
  · -- yes
    try simp only [Bool.and_eq_true, Bool.or_eq_true, Bool.not_eq_true', Bool.and_eq_false_iff, Bool.or_eq_false_iff, Bool.not_eq_false', decide_eq_true_eq, decide_eq_false_iff_not, not_or, Bool.false_eq_true, Bool.true_eq_false, false_or, or_false, not_false_eq_true] at c0
    obtain ⟨rn1, rn2⟩ := ranks_no hc c0
    obtain ⟨an1, _⟩ := af_no hc c0
    refine W.seq ?_
    refine W.reg ?_
    refine Wx.rd (v := .int .i64 (ranksX (shG zs) l)) (rd_move rfl) rfl ?_
    refine Wx.rd (v := .bool true) (Rd.to (v := .bool (decide ((ranksX (shG zs) l) = 13))) (rd_eql rfl rfl) (congrArg (Value.bool) (show (true : Bool) = (decide ((ranksX (shG zs) l) = 13) : Bool) from (decide_eq_true rn1).symm).symm)) rfl ?_
    refine Wx.rd (v := .bool true) (rd_move rfl) rfl ?_
    refine Wx.gyes rfl rfl rfl ?_
    refine Wx.rd (v := .int .i64 (numX (shG zs) l)) (rd_move rfl) rfl ?_
    refine Wx.gyes rfl rfl rfl ?_
    refine Wx.rd (v := .bool true) (Rd.to (v := .bool (decide ((numX (shG zs) l) = 13))) (rd_eql rfl rfl) (congrArg (Value.bool) (show (true : Bool) = (decide ((numX (shG zs) l) = 13) : Bool) from (decide_eq_true an1).symm).symm)) rfl ?_
    refine Wx.rd (v := .bool true) (rd_pickT rfl rfl) rfl ?_
    refine Wx.rd (v := .bool true) (rd_move rfl) rfl ?_
    refine Wx.gyes rfl rfl rfl ?_
    refine Wx.rd (v := v_21) (rd_move rfl) rfl ?_
    refine Wx.gyes rfl rfl rfl ?_
    refine Wx.rd (v := .int .i64 ((ranksL (shG zs) l).length : Int)) (rd_lenR hS 2 rfl rfl Try.underlying39) rfl ?_
    refine Wx.gyes rfl rfl rfl ?_
    refine Wx.rd (v := .bool true) (Rd.to (v := .bool (decide (((ranksL (shG zs) l).length : Int) = 0))) (rd_eql rfl rfl) (congrArg (Value.bool) (show (true : Bool) = (decide (((ranksL (shG zs) l).length : Int) = 0) : Bool) from (decide_eq_true (by rw [rn2]; rfl)).symm).symm)) rfl ?_
    refine Wx.rd (v := .bool true) (rd_pickT rfl rfl) rfl ?_
    refine Wx.rd (v := .bool true) (rd_move rfl) rfl ?_
    refine Wx.gyes rfl rfl rfl ?_
    refine Wx.callF (run_callF Try.call16 rfl) (F16 hS.fb_lt) rfl ?_
    rintro r_38 w_39 hx_40 rfl
    have hS := hS.ext hx_40
    refine Wx.rd (v := .bool true) (rd_pickT rfl rfl) rfl ?_
    refine Wx.rd (v := .bool true) (rd_assign rfl) rfl ?_
    refine Wx.nil ?_
    exact W.ret ⟨.bool true, ResIs.one, hS.bel, rfl⟩
  · -- no
    try simp only [Bool.and_eq_true, Bool.or_eq_true, Bool.not_eq_true', Bool.and_eq_false_iff, Bool.or_eq_false_iff, Bool.not_eq_false', decide_eq_true_eq, decide_eq_false_iff_not, not_or, Bool.false_eq_true, Bool.true_eq_false, false_or, or_false, not_false_eq_true] at c0
    obtain ⟨ry1, ry2⟩ := ranks_yes hc c0
    obtain ⟨ay1, ay2, _⟩ := af_yes hc c0
    have hnb := nbB_nbP ay2
    have hwl := hnb.1.1
    refine W.skip ?_
    refine W.seq ?_
    refine W.seq ?_
    refine W.reg ?_
    refine Wx.rd (v := .int .i64 (ranksX (shG zs) l)) (rd_move rfl) rfl ?_
    refine Wx.rd (v := .bool false) (Rd.to (v := .bool (decide ((ranksX (shG zs) l) ≠ 0))) (rd_neq rfl rfl) (congrArg (Value.bool) (show (false : Bool) = (decide ((ranksX (shG zs) l) ≠ 0) : Bool) from (decide_eq_false (not_not_intro ry1)).symm).symm)) rfl ?_
    refine Wx.rd (v := .bool false) (rd_move rfl) rfl ?_
    refine Wx.gyes rfl rfl rfl ?_
    refine Wx.rd (v := .int .i64 (numX (shG zs) l)) (rd_move rfl) rfl ?_
    refine Wx.gyes rfl rfl rfl ?_
    refine Wx.rd (v := .bool false) (Rd.to (v := .bool (decide ((numX (shG zs) l) ≠ 0))) (rd_neq rfl rfl) (congrArg (Value.bool) (show (false : Bool) = (decide ((numX (shG zs) l) ≠ 0) : Bool) from (decide_eq_false (not_not_intro ay1)).symm).symm)) rfl ?_
    refine Wx.rd (v := .bool false) (rd_pickF rfl rfl) rfl ?_
    refine Wx.rd (v := .bool false) (rd_move rfl) rfl ?_
    refine Wx.gyes rfl rfl rfl ?_
    refine Wx.rd (v := v_8) (rd_loadX hS 4 rfl rfl rfl Try.isAgg22) rfl ?_
    refine Wx.gyes rfl rfl rfl ?_
    refine Wx.rd (v := v_27) (rd_move rfl) rfl ?_
    refine Wx.gyes rfl rfl rfl ?_
    refine Wx.rd (v := v_28) (rd_move rfl) rfl ?_
    refine Wx.gyes rfl rfl rfl ?_
    refine Wx.callF (run_callF Try.call48 rfl) (F48 (hS.v 3 rfl) (hS.v 1 rfl) (hS.v 0 rfl) ok_hc) rfl ?_
    rintro r_41 w_42 hx_43 rfl
    have hS := hS.ext hx_43
    rw [show (nbB l (numW (shG zs) l) (numU (shG zs) l) : Bool) = true from ay2]
    refine Wx.gyes rfl rfl rfl ?_
    refine Wx.rd (v := .bool false) (rd_not (c := true) rfl) rfl ?_
    refine Wx.rd (v := .bool false) (rd_pickF rfl rfl) rfl ?_
    refine Wx.nil ?_
    refine W.condF rfl rfl ?_
    refine W.skip ?_
    refine W.seq ?_
    refine W.reg ?_
    refine Wx.rd (v := v_8) (rd_loadX hS 4 rfl rfl rfl Try.isAgg22) rfl ?_
    refine Wx.rd (v := .int .i64 (l.length : Int)) (rd_lenV rfl (hS.v 3 rfl) Try.underlying22) rfl ?_
    refine Wx.rd (v := .int .i64 (l.length : Int)) (rd_assign rfl) rfl ?_
    refine Wx.nil ?_
    refine W.seq ?_
    refine W.reg ?_
    refine Wx.alloc (cs := List.map Value.bool (List.replicate 36 false)) hS Try.zeroValue82 (by kernel_rfl) rfl (fun g_44 w_45 hx_47 hb_46 hS => ?_)
    have hS : St _ _ w_45 [.box g_44 82 (List.map Value.bool (List.replicate 36 false)), Ob.v (tSl (tI .i64)) (numU (shG zs) l) v_28, Ob.v (tSl (tI .i64)) (numW (shG zs) l) v_27, .row (tI .i64) 3 v_21 (ranksL (shG zs) l), Ob.v (tSl (tP (tSl (tI .i64)) (tSl (tI .i64)))) l v_8, .box g_11 22 [v_8], .box g_1 66 (List.map (Value.int .u8) zs)] := hS
    refine Wx.alloc (cs := List.map Value.bool (List.replicate 36 false)) hS Try.zeroValue82 (by kernel_rfl) rfl (fun g_48 w_49 hx_51 hb_50 hS => ?_)
    have hS : St _ _ w_49 [.box g_48 82 (List.map Value.bool (List.replicate 36 false)), .box g_44 82 (List.map Value.bool (List.replicate 36 false)), Ob.v (tSl (tI .i64)) (numU (shG zs) l) v_28, Ob.v (tSl (tI .i64)) (numW (shG zs) l) v_27, .row (tI .i64) 3 v_21 (ranksL (shG zs) l), Ob.v (tSl (tP (tSl (tI .i64)) (tSl (tI .i64)))) l v_8, .box g_11 22 [v_8], .box g_1 66 (List.map (Value.int .u8) zs)] := hS
    refine Wx.nil ?_
    refine W.seq ?_
    refine W.reg ?_
    refine Wx.rd (v := .int .i64 (l.length : Int)) (rd_move rfl) rfl ?_
    refine Wx.rd (v := .func (.func 56) #[] #[.pointer (some ⟨g_11, 0, none⟩), .pointer (some ⟨g_44, 0, none⟩), .pointer (some ⟨g_48, 0, none⟩)]) (rd_makeFunc (vs := []) (us := [.pointer (some ⟨g_11, 0, none⟩), .pointer (some ⟨g_44, 0, none⟩), .pointer (some ⟨g_48, 0, none⟩)]) rfl rfl) rfl ?_
    refine Wx.callB (run_callF Try.call50 rfl) (F50 (fe := 56) (fs := []) (cs := [.pointer (some ⟨g_11, 0, none⟩), .pointer (some ⟨g_44, 0, none⟩), .pointer (some ⟨g_48, 0, none⟩)]) (ls := []) (n := (l.length : Int)) (Tl := fun ls ob => ∃ TL TB, (((TL.length : Int) = 36 ∧ (TB.length : Int) = 36) ∧ (∀ a b, (0 ≤ a ∧ a < (l.length : Int)) → (0 ≤ b ∧ b < (l.length : Int)) → tbR TL a b = ls.any (isPath l a b)) ∧ (∀ a b, (0 ≤ a ∧ a < (l.length : Int)) → (0 ≤ b ∧ b < (l.length : Int)) → tbR TB a b = ls.any (isBeat l a b))) ∧ ob = Ob.v (tSl (tP (tSl (tI .i64)) (tSl (tI .i64)))) l v_8 :: .box g_11 22 [v_8] :: .box g_44 82 (List.map Value.bool TL) :: .box g_48 82 (List.map Value.bool TB) :: [Ob.v (tSl (tI .i64)) (numU (shG zs) l) v_28, Ob.v (tSl (tI .i64)) (numW (shG zs) l) v_27, .row (tI .i64) 3 v_21 (ranksL (shG zs) l), .box g_1 66 (List.map (Value.int .u8) zs)]) Try.call56 (each56 ok_hc) (by omega) (by omega) ⟨_, _, ⟨⟨rfl, rfl⟩, fun a b _ _ => tb_zero a b, fun a b _ _ => tb_zero a b⟩, rfl⟩ ((((hS.front 0 rfl).front 1 rfl).front 6 rfl).front 6 rfl)) rfl ?_
    rintro r_52 w_53 ⟨rfl, _, ⟨TL, TB, ⟨⟨n_l, n_b⟩, tl1, tb1⟩, rfl⟩, hS⟩
    have hS : St w O w_53 [Ob.v (tSl (tP (tSl (tI .i64)) (tSl (tI .i64)))) l v_8, .box g_11 22 [v_8], .box g_44 82 (List.map Value.bool TL), .box g_48 82 (List.map Value.bool TB), Ob.v (tSl (tI .i64)) (numU (shG zs) l) v_28, Ob.v (tSl (tI .i64)) (numW (shG zs) l) v_27, .row (tI .i64) 3 v_21 (ranksL (shG zs) l), .box g_1 66 (List.map (Value.int .u8) zs)] := hS
    have hL : ∀ a b, (0 ≤ a ∧ a < (l.length : Int)) → (0 ≤ b ∧ b < (l.length : Int)) → tbR TL a b = ledB (gS l) l.length a b := fun a b ha hb => by rw [tl1 a b ha hb, List.nil_append, any_path ha hb]
    have hB : ∀ a b, (0 ≤ a ∧ a < (l.length : Int)) → (0 ≤ b ∧ b < (l.length : Int)) → tbR TB a b = beatsV (gS l) (bS l) l.length a b := fun a b ha hb => by rw [tb1 a b ha hb, List.nil_append, any_beat ha]
    refine Wx.nil ?_
    refine W.seq ?_
    refine W.reg ?_
    refine Wx.rd (v := (.slice none 0 0)) (rd_assign rfl) rfl ?_
    refine Wx.nil ?_
    refine W.seq ?_
    refine W.seq ?_
    refine W.reg ?_
    refine Wx.rd (v := .int .i64 (l.length : Int)) (rd_move rfl) rfl ?_
    refine Wx.rd (v := .int .i64 0) (rd_move rfl) rfl ?_
    refine Wx.nil ?_
    refine W.block ?_
    have hS := hS.addNil (tI .i64) 3
    refine W.loop [2, 13, 14, 15, 16, 70, 71, 72, 73, 74, 75, 76, 77, 78, 79, 80, 81, 82, 83, 84, 85, 86, 87, 88, 89, 90, 91, 92, 93, 94, 95, 96, 97, 98, 99, 100, 101, 102, 103, 104, 105, 106, 107, 108, 109, 110, 111, 112, 113, 114, 115, 116, 117, 118, 119, 120, 121, 122, 123, 124, 125, 126, 127, 128, 129, 130, 131, 132, 133, 134, 135, 136, 137, 138, 139, 140, 141, 142, 143, 144, 145, 146, 147, 148] (fun x : Int × Value × (List Int) => match x with | (i, wv, want) => [(70, .int .i64 i), (13, wv)]) (fun (x : Int × Value × (List Int)) w' => match x with | (i, wv, want) => St w O w' [.row (tI .i64) 3 wv want, Ob.v (tSl (tP (tSl (tI .i64)) (tSl (tI .i64)))) l v_8, .box g_11 22 [v_8], .box g_44 82 (List.map Value.bool TL), .box g_48 82 (List.map Value.bool TB), Ob.v (tSl (tI .i64)) (numU (shG zs) l) v_28, Ob.v (tSl (tI .i64)) (numW (shG zs) l) v_27, .row (tI .i64) 3 v_21 (ranksL (shG zs) l), .box g_1 66 (List.map (Value.int .u8) zs)] ∧ 0 ≤ i ∧ i ≤ l.length ∧ want = (rng 0 i).map (fun a => cntR (beatsV (gS l) (bS l) l.length) a (rng 0 l.length)) ∧ (want.length : Int) = i) (fun x : Int × Value × (List Int) => match x with | (i, wv, want) => (l.length - i).toNat) (0, (.slice none 0 0), []) ⟨rfl, rfl, trivial⟩ ⟨hS, (by first | omega | simp), (by first | omega | simp), (rfl), (rfl)⟩ ?_
    rintro ⟨i, wv, want⟩ u_55 w_54 ⟨hS, h0, h1, h2, h3⟩
    refine W.seq ?_
    refine W.reg ?_
    refine Wx.rd (v := .bool (decide (i < (l.length : Int)))) (rd_lss rfl rfl) rfl ?_
    refine Wx.nil ?_
    refine W.seq ?_
    refine W.condD rfl (fun c2 => ?_) (fun c2 => ?_)
    · -- yes
      refine W.skip ?_
      refine W.seq ?_
      refine W.block ?_
      refine W.seq ?_
      refine W.reg ?_
      refine Wx.rd (v := .int .i64 i) (rd_move rfl) rfl ?_
      refine Wx.rd (v := .int .i64 i) (rd_assign rfl) rfl ?_
      refine Wx.nil ?_
      refine W.seq ?_
      refine W.reg ?_
      refine Wx.rd (v := .int .i64 0) (rd_assign rfl) rfl ?_
      refine Wx.nil ?_
      refine W.seq ?_
      refine W.seq ?_
      refine W.reg ?_
      refine Wx.rd (v := .int .i64 (l.length : Int)) (rd_move rfl) rfl ?_
      refine Wx.rd (v := .int .i64 0) (rd_move rfl) rfl ?_
      refine Wx.nil ?_
      refine W.block ?_
      refine W.loop [2, 15, 16, 74, 75, 76, 77, 78, 79, 80, 81, 82, 83, 84, 85, 86, 87, 88, 89, 90, 91, 92, 93, 94, 95, 96, 97, 98, 99, 100, 101, 102, 103, 104, 105, 106, 107, 108, 109, 110, 111, 112, 113, 114, 115, 116, 117, 118, 119, 120, 121, 122, 123, 124, 125, 126, 127, 128, 129, 130, 131, 132, 133, 134, 135, 136, 137, 138, 139, 140, 141, 142, 143] (fun x : Int × Int => match x with | (many, j) => [(15, .int .i64 many), (74, .int .i64 j)]) (fun (x : Int × Int) w' => match x with | (many, j) => St w O w' [.row (tI .i64) 3 wv want, Ob.v (tSl (tP (tSl (tI .i64)) (tSl (tI .i64)))) l v_8, .box g_11 22 [v_8], .box g_44 82 (List.map Value.bool TL), .box g_48 82 (List.map Value.bool TB), Ob.v (tSl (tI .i64)) (numU (shG zs) l) v_28, Ob.v (tSl (tI .i64)) (numW (shG zs) l) v_27, .row (tI .i64) 3 v_21 (ranksL (shG zs) l), .box g_1 66 (List.map (Value.int .u8) zs)] ∧ 0 ≤ j ∧ j ≤ l.length ∧ many + cntR (beatsV (gS l) (bS l) l.length) i (rng j l.length) = cntR (beatsV (gS l) (bS l) l.length) i (rng 0 l.length) ∧ 0 ≤ many ∧ many ≤ j) (fun x : Int × Int => match x with | (many, j) => (l.length - j).toNat) (0, 0) ⟨rfl, rfl, trivial⟩ ⟨hS, (by first | omega | simp), (by first | omega | simp), (Int.zero_add _), (by first | omega | simp), (by first | omega | simp)⟩ ?_
      rintro ⟨many, j⟩ u_57 w_56 ⟨hS, g0, g1, g2, g3, g4⟩
      refine W.seq ?_
      refine W.reg ?_
      refine Wx.rd (v := .bool (decide (j < (l.length : Int)))) (rd_lss rfl rfl) rfl ?_
      refine Wx.nil ?_
      refine W.seq ?_
      refine W.condD rfl (fun c3 => ?_) (fun c3 => ?_)
      · -- yes
        have hii : 0 ≤ i ∧ i < (l.length : Int) := ⟨h0, c2⟩
        have hjj : 0 ≤ j ∧ j < (l.length : Int) := ⟨g0, c3⟩
        refine W.skip ?_
        refine W.seq ?_
        refine W.block ?_
        refine W.seq ?_
        refine W.reg ?_
        refine Wx.rd (v := .int .i64 j) (rd_move rfl) rfl ?_
        refine Wx.rd (v := .int .i64 j) (rd_assign rfl) rfl ?_
        refine Wx.nil ?_
        refine W.seq ?_
        refine W.seq ?_
        refine W.reg ?_
        refine Wx.rd (v := .int .i64 i) (rd_move rfl) rfl ?_
        refine Wx.rd (v := .int .i64 j) (rd_move rfl) rfl ?_
        refine Wx.rd (v := .pointer (some ⟨g_48, 0 + i.toNat * 6, none⟩)) (rd_indexArr rfl rfl Try.underlying82 Try.sizeOf81 (by omega) (by omega)) rfl ?_
        refine Wx.rd (v := .pointer (some ⟨g_48, 0 + i.toNat * 6 + j.toNat * 1, none⟩)) (rd_indexArr rfl rfl Try.underlying81 Try.sizeOf4 (by omega) (by omega)) rfl ?_
        refine Wx.rd (v := .bool (ix false TB (i * 6 + j))) (rd_loadXa (d := false) (f := Value.bool) (j := i * 6 + j) hS 4 rfl rfl (by omega) (by omega) (by omega) Try.isAgg4) rfl ?_
        refine Wx.nil ?_
        refine W.cond rfl (fun c4 => ?_) (fun c4 => ?_)
        · -- yes
          try simp only [Bool.and_eq_true, Bool.or_eq_true, Bool.not_eq_true', Bool.and_eq_false_iff, Bool.or_eq_false_iff, Bool.not_eq_false', decide_eq_true_eq, decide_eq_false_iff_not, not_or, Bool.false_eq_true, Bool.true_eq_false, false_or, or_false, not_false_eq_true] at c4
          refine W.reg ?_
          refine Wx.rd (v := .int .i64 many) (rd_move rfl) rfl ?_
          refine Wx.rd (v := .int .i64 (many + 1)) (rd_add rfl rfl (in_i64 (by omega) (by omega))) rfl ?_
          refine Wx.rd (v := .int .i64 (many + 1)) (rd_assign rfl) rfl ?_
          refine Wx.nil ?_
          refine W.seq ?_
          refine W.regQ mixedMd_ (by kernel_rfl) ?_
          refine Wx.rd (v := .int .i64 i) (rd_move rfl) rfl ?_
          refine Wx.rd (v := .int .i64 j) (rd_move rfl) rfl ?_
          refine Wx.rd (v := .pointer (some ⟨g_48, 0 + i.toNat * 6, none⟩)) (rd_indexArr rfl rfl Try.underlying82 Try.sizeOf81 (by omega) (by omega)) rfl ?_
          refine Wx.rd (v := .pointer (some ⟨g_48, 0 + i.toNat * 6 + j.toNat * 1, none⟩)) (rd_indexArr rfl rfl Try.underlying81 Try.sizeOf4 (by omega) (by omega)) rfl ?_
          refine Wx.rd (v := .bool (ix false TB (i * 6 + j))) (rd_loadXa (d := false) (f := Value.bool) (j := i * 6 + j) hS 4 rfl rfl (by omega) (by omega) (by omega) Try.isAgg4) rfl ?_
          refine Wx.rd (v := .bool (ix false TB (i * 6 + j))) (rd_move rfl) rfl ?_
          refine Wx.cutQ (X := Unit) 10 [90, 91, 92, 93, 94, 95, 96, 97, 98, 99] (fun _ => [(99, .bool (ix false TB (i * 6 + j) && decide ((ix 0 (numW (shG zs) l) i) ≤ (ix 0 (numW (shG zs) l) j))))]) (fun _ => True) ?_ ?_
          · rcases Bool.eq_false_or_eq_true (ix false TB (i * 6 + j)) with g_58 | g_58
            · -- True
              have gp_59 := g_58
              try simp only [Bool.and_eq_true, Bool.or_eq_true, Bool.not_eq_true', Bool.and_eq_false_iff, Bool.or_eq_false_iff, Bool.not_eq_false', decide_eq_true_eq, decide_eq_false_iff_not, not_or, Bool.false_eq_true, Bool.true_eq_false, false_or, or_false, not_false_eq_true] at gp_59
              refine Wx.gyes rfl rfl (congrArg Value.bool g_58) ?_
              refine Wx.rd (v := v_27) (rd_move rfl) rfl ?_
              refine Wx.gyes rfl rfl (congrArg Value.bool g_58) ?_
              refine Wx.rd (v := .int .i64 i) (rd_move rfl) rfl ?_
              refine Wx.gyes rfl rfl (congrArg Value.bool g_58) ?_
              refine Wx.ex (rd_index 0 (hS.v 6 rfl) rfl rfl Try.underlying39 Try.sizeOf3 (by first | omega | (simp only [List.length_set, List.length_append, List.length_cons, List.length_nil, List.length_replicate]; omega)) (by first | omega | (simp only [List.length_set, List.length_append, List.length_cons, List.length_nil, List.length_replicate]; omega))) rfl (fun p_60 hp_61 => ?_)
              refine Wx.gyes rfl rfl (congrArg Value.bool g_58) ?_
              refine Wx.rd (v := .int .i64 (ix 0 (numW (shG zs) l) i)) (rd_loadI hp_61 rfl Try.isAgg3 Try.sizeOf3) rfl ?_
              have bd_62 := bd_i64 hp_61.inK
              refine Wx.gyes rfl rfl (congrArg Value.bool g_58) ?_
              refine Wx.rd (v := v_27) (rd_move rfl) rfl ?_
              refine Wx.gyes rfl rfl (congrArg Value.bool g_58) ?_
              refine Wx.rd (v := .int .i64 j) (rd_move rfl) rfl ?_
              refine Wx.gyes rfl rfl (congrArg Value.bool g_58) ?_
              refine Wx.ex (rd_index 0 (hS.v 6 rfl) rfl rfl Try.underlying39 Try.sizeOf3 (by first | omega | (simp only [List.length_set, List.length_append, List.length_cons, List.length_nil, List.length_replicate]; omega)) (by first | omega | (simp only [List.length_set, List.length_append, List.length_cons, List.length_nil, List.length_replicate]; omega))) rfl (fun p_63 hp_64 => ?_)
              refine Wx.gyes rfl rfl (congrArg Value.bool g_58) ?_
              refine Wx.rd (v := .int .i64 (ix 0 (numW (shG zs) l) j)) (rd_loadI hp_64 rfl Try.isAgg3 Try.sizeOf3) rfl ?_
              have bd_65 := bd_i64 hp_64.inK
              refine Wx.gyes rfl rfl (congrArg Value.bool g_58) ?_
              refine Wx.rd (v := .bool (decide ((ix 0 (numW (shG zs) l) i) ≤ (ix 0 (numW (shG zs) l) j)))) (rd_leq rfl rfl) rfl ?_
              refine Wx.rd (v := .bool (decide ((ix 0 (numW (shG zs) l) i) ≤ (ix 0 (numW (shG zs) l) j)))) (rd_pickT (congrArg Value.bool g_58) rfl) rfl ?_
              refine Wx.nilQ (fun _ _ => ⟨(), trivial, ⟨?_, trivial⟩, Out.look rfl Out.refl⟩)
              show Value.bool (decide ((ix 0 (numW (shG zs) l) i) ≤ (ix 0 (numW (shG zs) l) j))) = Value.bool (ix false TB (i * 6 + j) && decide ((ix 0 (numW (shG zs) l) i) ≤ (ix 0 (numW (shG zs) l) j)))
              first | rw [g_58, Bool.true_and] | (rw [g_58]; rfl)
            · -- False
              have gp_66 := g_58
              try simp only [Bool.and_eq_true, Bool.or_eq_true, Bool.not_eq_true', Bool.and_eq_false_iff, Bool.or_eq_false_iff, Bool.not_eq_false', decide_eq_true_eq, decide_eq_false_iff_not, not_or, Bool.false_eq_true, Bool.true_eq_false, false_or, or_false, not_false_eq_true] at gp_66
              refine Wx.gnoB rfl rfl (congrArg Value.bool g_58) rfl rfl ?_
              refine Wx.gnoB rfl rfl (congrArg Value.bool g_58) rfl rfl ?_
              refine Wx.gnoB rfl rfl (congrArg Value.bool g_58) rfl rfl ?_
              refine Wx.gnoB rfl rfl (congrArg Value.bool g_58) rfl rfl ?_
              refine Wx.gnoB rfl rfl (congrArg Value.bool g_58) rfl rfl ?_
              refine Wx.gnoB rfl rfl (congrArg Value.bool g_58) rfl rfl ?_
              refine Wx.gnoB rfl rfl (congrArg Value.bool g_58) rfl rfl ?_
              refine Wx.gnoB rfl rfl (congrArg Value.bool g_58) rfl rfl ?_
              refine Wx.gnoB rfl rfl (congrArg Value.bool g_58) rfl rfl ?_
              refine Wx.rd (v := .bool false) (rd_pickF (congrArg Value.bool g_58) rfl) rfl ?_
              refine Wx.nilQ (fun _ _ => ⟨(), trivial, ⟨?_, trivial⟩, Out.look rfl Out.refl⟩)
              show Value.bool false = Value.bool (ix false TB (i * 6 + j) && decide ((ix 0 (numW (shG zs) l) i) ≤ (ix 0 (numW (shG zs) l) j)))
              first | rw [g_58, Bool.false_and] | (rw [g_58]; rfl)
          rintro ⟨⟩ u_68 -
          refine Wx.rd (v := .bool (ix false TB (i * 6 + j) && decide ((ix 0 (numW (shG zs) l) i) ≤ (ix 0 (numW (shG zs) l) j)))) (rd_move rfl) rfl ?_
          refine Wx.cutQ (X := Unit) 17 [101, 102, 103, 104, 105, 106, 107, 108, 109, 110, 111, 112, 113, 114, 115, 116, 117] (fun _ => [(117, .bool ((ix false TB (i * 6 + j) && decide ((ix 0 (numW (shG zs) l) i) ≤ (ix 0 (numW (shG zs) l) j))) || (ix false TL (i * 6 + j) && decide ((ix 0 (numW (shG zs) l) i) < (ix 0 (numW (shG zs) l) j)))))]) (fun _ => True) ?_ ?_
          · rcases Bool.eq_false_or_eq_true (ix false TB (i * 6 + j) && decide ((ix 0 (numW (shG zs) l) i) ≤ (ix 0 (numW (shG zs) l) j))) with g_69 | g_69
            · -- True
              have gp_70 := g_69
              try simp only [Bool.and_eq_true, Bool.or_eq_true, Bool.not_eq_true', Bool.and_eq_false_iff, Bool.or_eq_false_iff, Bool.not_eq_false', decide_eq_true_eq, decide_eq_false_iff_not, not_or, Bool.false_eq_true, Bool.true_eq_false, false_or, or_false, not_false_eq_true] at gp_70
              refine Wx.gnoB rfl rfl (congrArg Value.bool g_69) rfl rfl ?_
              refine Wx.gnoB rfl rfl (congrArg Value.bool g_69) rfl rfl ?_
              refine Wx.gnoB rfl rfl (congrArg Value.bool g_69) rfl rfl ?_
              refine Wx.gnoB rfl rfl (congrArg Value.bool g_69) rfl rfl ?_
              refine Wx.gnoB rfl rfl (congrArg Value.bool g_69) rfl rfl ?_
              refine Wx.gnoB rfl rfl (congrArg Value.bool g_69) rfl rfl ?_
              refine Wx.gno rfl rfl rfl rfl ?_
              refine Wx.gno rfl rfl rfl rfl ?_
              refine Wx.gno rfl rfl rfl rfl ?_
              refine Wx.gno rfl rfl rfl rfl ?_
              refine Wx.gno rfl rfl rfl rfl ?_
              refine Wx.gno rfl rfl rfl rfl ?_
              refine Wx.gno rfl rfl rfl rfl ?_
              refine Wx.gno rfl rfl rfl rfl ?_
              refine Wx.gno rfl rfl rfl rfl ?_
              refine Wx.gnoB rfl rfl (congrArg Value.bool g_69) rfl rfl ?_
              refine Wx.rd (v := .bool true) (rd_pickT (congrArg Value.bool g_69) rfl) rfl ?_
              refine Wx.nilQ (fun _ _ => ⟨(), trivial, ⟨?_, trivial⟩, Out.look rfl Out.refl⟩)
              show Value.bool true = Value.bool ((ix false TB (i * 6 + j) && decide ((ix 0 (numW (shG zs) l) i) ≤ (ix 0 (numW (shG zs) l) j))) || (ix false TL (i * 6 + j) && decide ((ix 0 (numW (shG zs) l) i) < (ix 0 (numW (shG zs) l) j))))
              first | rw [g_69, Bool.true_or] | (rw [g_69]; rfl)
            · -- False
              have gp_71 := g_69
              try simp only [Bool.and_eq_true, Bool.or_eq_true, Bool.not_eq_true', Bool.and_eq_false_iff, Bool.or_eq_false_iff, Bool.not_eq_false', decide_eq_true_eq, decide_eq_false_iff_not, not_or, Bool.false_eq_true, Bool.true_eq_false, false_or, or_false, not_false_eq_true] at gp_71
              refine Wx.gyes rfl rfl (congrArg Value.bool g_69) ?_
              refine Wx.rd (v := .int .i64 i) (rd_move rfl) rfl ?_
              refine Wx.gyes rfl rfl (congrArg Value.bool g_69) ?_
              refine Wx.rd (v := .int .i64 j) (rd_move rfl) rfl ?_
              refine Wx.gyes rfl rfl (congrArg Value.bool g_69) ?_
              refine Wx.rd (v := .pointer (some ⟨g_44, 0 + i.toNat * 6, none⟩)) (rd_indexArr rfl rfl Try.underlying82 Try.sizeOf81 (by omega) (by omega)) rfl ?_
              refine Wx.gyes rfl rfl (congrArg Value.bool g_69) ?_
              refine Wx.rd (v := .pointer (some ⟨g_44, 0 + i.toNat * 6 + j.toNat * 1, none⟩)) (rd_indexArr rfl rfl Try.underlying81 Try.sizeOf4 (by omega) (by omega)) rfl ?_
              refine Wx.gyes rfl rfl (congrArg Value.bool g_69) ?_
              refine Wx.rd (v := .bool (ix false TL (i * 6 + j))) (rd_loadXa (d := false) (f := Value.bool) (j := i * 6 + j) hS 3 rfl rfl (by omega) (by omega) (by omega) Try.isAgg4) rfl ?_
              refine Wx.gyes rfl rfl (congrArg Value.bool g_69) ?_
              refine Wx.rd (v := .bool (ix false TL (i * 6 + j))) (rd_move rfl) rfl ?_
              refine Wx.cutQ (X := Unit) 10 [107, 108, 109, 110, 111, 112, 113, 114, 115, 116] (fun _ => [(116, .bool (ix false TL (i * 6 + j) && decide ((ix 0 (numW (shG zs) l) i) < (ix 0 (numW (shG zs) l) j))))]) (fun _ => True) ?_ ?_
              · rcases Bool.eq_false_or_eq_true (ix false TL (i * 6 + j)) with g_72 | g_72
                · -- True
                  have gp_73 := g_72
                  try simp only [Bool.and_eq_true, Bool.or_eq_true, Bool.not_eq_true', Bool.and_eq_false_iff, Bool.or_eq_false_iff, Bool.not_eq_false', decide_eq_true_eq, decide_eq_false_iff_not, not_or, Bool.false_eq_true, Bool.true_eq_false, false_or, or_false, not_false_eq_true] at gp_73
                  refine Wx.gyes rfl rfl (congrArg Value.bool g_72) ?_
                  refine Wx.rd (v := v_27) (rd_move rfl) rfl ?_
                  refine Wx.gyes rfl rfl (congrArg Value.bool g_72) ?_
                  refine Wx.rd (v := .int .i64 i) (rd_move rfl) rfl ?_
                  refine Wx.gyes rfl rfl (congrArg Value.bool g_72) ?_
                  refine Wx.ex (rd_index 0 (hS.v 6 rfl) rfl rfl Try.underlying39 Try.sizeOf3 (by first | omega | (simp only [List.length_set, List.length_append, List.length_cons, List.length_nil, List.length_replicate]; omega)) (by first | omega | (simp only [List.length_set, List.length_append, List.length_cons, List.length_nil, List.length_replicate]; omega))) rfl (fun p_74 hp_75 => ?_)
                  refine Wx.gyes rfl rfl (congrArg Value.bool g_72) ?_
                  refine Wx.rd (v := .int .i64 (ix 0 (numW (shG zs) l) i)) (rd_loadI hp_75 rfl Try.isAgg3 Try.sizeOf3) rfl ?_
                  have bd_76 := bd_i64 hp_75.inK
                  refine Wx.gyes rfl rfl (congrArg Value.bool g_72) ?_
                  refine Wx.rd (v := v_27) (rd_move rfl) rfl ?_
                  refine Wx.gyes rfl rfl (congrArg Value.bool g_72) ?_
                  refine Wx.rd (v := .int .i64 j) (rd_move rfl) rfl ?_
                  refine Wx.gyes rfl rfl (congrArg Value.bool g_72) ?_
                  refine Wx.ex (rd_index 0 (hS.v 6 rfl) rfl rfl Try.underlying39 Try.sizeOf3 (by first | omega | (simp only [List.length_set, List.length_append, List.length_cons, List.length_nil, List.length_replicate]; omega)) (by first | omega | (simp only [List.length_set, List.length_append, List.length_cons, List.length_nil, List.length_replicate]; omega))) rfl (fun p_77 hp_78 => ?_)
                  refine Wx.gyes rfl rfl (congrArg Value.bool g_72) ?_
                  refine Wx.rd (v := .int .i64 (ix 0 (numW (shG zs) l) j)) (rd_loadI hp_78 rfl Try.isAgg3 Try.sizeOf3) rfl ?_
                  have bd_79 := bd_i64 hp_78.inK
                  refine Wx.gyes rfl rfl (congrArg Value.bool g_72) ?_
                  refine Wx.rd (v := .bool (decide ((ix 0 (numW (shG zs) l) i) < (ix 0 (numW (shG zs) l) j)))) (rd_lss rfl rfl) rfl ?_
                  refine Wx.gyes rfl rfl (congrArg Value.bool g_69) ?_
                  refine Wx.rd (v := .bool (decide ((ix 0 (numW (shG zs) l) i) < (ix 0 (numW (shG zs) l) j)))) (rd_pickT (congrArg Value.bool g_72) rfl) rfl ?_
                  refine Wx.nilQ (fun _ _ => ⟨(), trivial, ⟨?_, trivial⟩, Out.look rfl Out.refl⟩)
                  show Value.bool (decide ((ix 0 (numW (shG zs) l) i) < (ix 0 (numW (shG zs) l) j))) = Value.bool (ix false TL (i * 6 + j) && decide ((ix 0 (numW (shG zs) l) i) < (ix 0 (numW (shG zs) l) j)))
                  first | rw [g_72, Bool.true_and] | (rw [g_72]; rfl)
                · -- False
                  have gp_80 := g_72
                  try simp only [Bool.and_eq_true, Bool.or_eq_true, Bool.not_eq_true', Bool.and_eq_false_iff, Bool.or_eq_false_iff, Bool.not_eq_false', decide_eq_true_eq, decide_eq_false_iff_not, not_or, Bool.false_eq_true, Bool.true_eq_false, false_or, or_false, not_false_eq_true] at gp_80
                  refine Wx.gnoB rfl rfl (congrArg Value.bool g_72) rfl rfl ?_
                  refine Wx.gnoB rfl rfl (congrArg Value.bool g_72) rfl rfl ?_
                  refine Wx.gnoB rfl rfl (congrArg Value.bool g_72) rfl rfl ?_
                  refine Wx.gnoB rfl rfl (congrArg Value.bool g_72) rfl rfl ?_
                  refine Wx.gnoB rfl rfl (congrArg Value.bool g_72) rfl rfl ?_
                  refine Wx.gnoB rfl rfl (congrArg Value.bool g_72) rfl rfl ?_
                  refine Wx.gnoB rfl rfl (congrArg Value.bool g_72) rfl rfl ?_
                  refine Wx.gnoB rfl rfl (congrArg Value.bool g_72) rfl rfl ?_
                  refine Wx.gnoB rfl rfl (congrArg Value.bool g_72) rfl rfl ?_
                  refine Wx.gyes rfl rfl (congrArg Value.bool g_69) ?_
                  refine Wx.rd (v := .bool false) (rd_pickF (congrArg Value.bool g_72) rfl) rfl ?_
                  refine Wx.nilQ (fun _ _ => ⟨(), trivial, ⟨?_, trivial⟩, Out.look rfl Out.refl⟩)
                  show Value.bool false = Value.bool (ix false TL (i * 6 + j) && decide ((ix 0 (numW (shG zs) l) i) < (ix 0 (numW (shG zs) l) j)))
                  first | rw [g_72, Bool.false_and] | (rw [g_72]; rfl)
              rintro ⟨⟩ u_82 -
              refine Wx.rd (v := .bool (ix false TL (i * 6 + j) && decide ((ix 0 (numW (shG zs) l) i) < (ix 0 (numW (shG zs) l) j)))) (rd_pickF (congrArg Value.bool g_69) rfl) rfl ?_
              refine Wx.nilQ (fun _ _ => ⟨(), trivial, ⟨?_, trivial⟩, Out.look rfl (Out.hav rfl (Out.look rfl Out.refl))⟩)
              show Value.bool (ix false TL (i * 6 + j) && decide ((ix 0 (numW (shG zs) l) i) < (ix 0 (numW (shG zs) l) j))) = Value.bool ((ix false TB (i * 6 + j) && decide ((ix 0 (numW (shG zs) l) i) ≤ (ix 0 (numW (shG zs) l) j))) || (ix false TL (i * 6 + j) && decide ((ix 0 (numW (shG zs) l) i) < (ix 0 (numW (shG zs) l) j))))
              first | rw [g_69, Bool.false_or] | (rw [g_69]; rfl)
          rintro ⟨⟩ u_84 -
          refine Wx.rd (v := .bool ((ix false TB (i * 6 + j) && decide ((ix 0 (numW (shG zs) l) i) ≤ (ix 0 (numW (shG zs) l) j))) || (ix false TL (i * 6 + j) && decide ((ix 0 (numW (shG zs) l) i) < (ix 0 (numW (shG zs) l) j))))) (rd_move rfl) rfl ?_
          refine Wx.cutQ (X := Unit) 24 [119, 120, 121, 122, 123, 124, 125, 126, 127, 128, 129, 130, 131, 132, 133, 134, 135, 136, 137, 138, 139, 140, 141, 142] (fun _ => [(142, .bool (((ix false TB (i * 6 + j) && decide ((ix 0 (numW (shG zs) l) i) ≤ (ix 0 (numW (shG zs) l) j))) || (ix false TL (i * 6 + j) && decide ((ix 0 (numW (shG zs) l) i) < (ix 0 (numW (shG zs) l) j)))) || ((ix false TL (i * 6 + j) && ix false TL (j * 6 + i)) && decide ((ix 0 (numW (shG zs) l) i) ≠ (ix 0 (numW (shG zs) l) j)))))]) (fun _ => True) ?_ ?_
          · rcases Bool.eq_false_or_eq_true ((ix false TB (i * 6 + j) && decide ((ix 0 (numW (shG zs) l) i) ≤ (ix 0 (numW (shG zs) l) j))) || (ix false TL (i * 6 + j) && decide ((ix 0 (numW (shG zs) l) i) < (ix 0 (numW (shG zs) l) j)))) with g_85 | g_85
            · -- True
              have gp_86 := g_85
              try simp only [Bool.and_eq_true, Bool.or_eq_true, Bool.not_eq_true', Bool.and_eq_false_iff, Bool.or_eq_false_iff, Bool.not_eq_false', decide_eq_true_eq, decide_eq_false_iff_not, not_or, Bool.false_eq_true, Bool.true_eq_false, false_or, or_false, not_false_eq_true] at gp_86
              refine Wx.gnoB rfl rfl (congrArg Value.bool g_85) rfl rfl ?_
              refine Wx.gnoB rfl rfl (congrArg Value.bool g_85) rfl rfl ?_
              refine Wx.gnoB rfl rfl (congrArg Value.bool g_85) rfl rfl ?_
              refine Wx.gnoB rfl rfl (congrArg Value.bool g_85) rfl rfl ?_
              refine Wx.gnoB rfl rfl (congrArg Value.bool g_85) rfl rfl ?_
              refine Wx.gnoB rfl rfl (congrArg Value.bool g_85) rfl rfl ?_
              refine Wx.gno rfl rfl rfl rfl ?_
              refine Wx.gno rfl rfl rfl rfl ?_
              refine Wx.gno rfl rfl rfl rfl ?_
              refine Wx.gno rfl rfl rfl rfl ?_
              refine Wx.gno rfl rfl rfl rfl ?_
              refine Wx.gnoB rfl rfl (congrArg Value.bool g_85) rfl rfl ?_
              refine Wx.gnoB rfl rfl (congrArg Value.bool g_85) rfl rfl ?_
              refine Wx.gno rfl rfl rfl rfl ?_
              refine Wx.gno rfl rfl rfl rfl ?_
              refine Wx.gno rfl rfl rfl rfl ?_
              refine Wx.gno rfl rfl rfl rfl ?_
              refine Wx.gno rfl rfl rfl rfl ?_
              refine Wx.gno rfl rfl rfl rfl ?_
              refine Wx.gno rfl rfl rfl rfl ?_
              refine Wx.gno rfl rfl rfl rfl ?_
              refine Wx.gno rfl rfl rfl rfl ?_
              refine Wx.gnoB rfl rfl (congrArg Value.bool g_85) rfl rfl ?_
              refine Wx.rd (v := .bool true) (rd_pickT (congrArg Value.bool g_85) rfl) rfl ?_
              refine Wx.nilQ (fun _ _ => ⟨(), trivial, ⟨?_, trivial⟩, Out.look rfl Out.refl⟩)
              show Value.bool true = Value.bool (((ix false TB (i * 6 + j) && decide ((ix 0 (numW (shG zs) l) i) ≤ (ix 0 (numW (shG zs) l) j))) || (ix false TL (i * 6 + j) && decide ((ix 0 (numW (shG zs) l) i) < (ix 0 (numW (shG zs) l) j)))) || ((ix false TL (i * 6 + j) && ix false TL (j * 6 + i)) && decide ((ix 0 (numW (shG zs) l) i) ≠ (ix 0 (numW (shG zs) l) j))))
              first | rw [g_85, Bool.true_or] | (rw [g_85]; rfl)
            · -- False
              have gp_87 := g_85
              try simp only [Bool.and_eq_true, Bool.or_eq_true, Bool.not_eq_true', Bool.and_eq_false_iff, Bool.or_eq_false_iff, Bool.not_eq_false', decide_eq_true_eq, decide_eq_false_iff_not, not_or, Bool.false_eq_true, Bool.true_eq_false, false_or, or_false, not_false_eq_true] at gp_87
              refine Wx.gyes rfl rfl (congrArg Value.bool g_85) ?_
              refine Wx.rd (v := .int .i64 i) (rd_move rfl) rfl ?_
              refine Wx.gyes rfl rfl (congrArg Value.bool g_85) ?_
              refine Wx.rd (v := .int .i64 j) (rd_move rfl) rfl ?_
              refine Wx.gyes rfl rfl (congrArg Value.bool g_85) ?_
              refine Wx.rd (v := .pointer (some ⟨g_44, 0 + i.toNat * 6, none⟩)) (rd_indexArr rfl rfl Try.underlying82 Try.sizeOf81 (by omega) (by omega)) rfl ?_
              refine Wx.gyes rfl rfl (congrArg Value.bool g_85) ?_
              refine Wx.rd (v := .pointer (some ⟨g_44, 0 + i.toNat * 6 + j.toNat * 1, none⟩)) (rd_indexArr rfl rfl Try.underlying81 Try.sizeOf4 (by omega) (by omega)) rfl ?_
              refine Wx.gyes rfl rfl (congrArg Value.bool g_85) ?_
              refine Wx.rd (v := .bool (ix false TL (i * 6 + j))) (rd_loadXa (d := false) (f := Value.bool) (j := i * 6 + j) hS 3 rfl rfl (by omega) (by omega) (by omega) Try.isAgg4) rfl ?_
              refine Wx.gyes rfl rfl (congrArg Value.bool g_85) ?_
              refine Wx.rd (v := .bool (ix false TL (i * 6 + j))) (rd_move rfl) rfl ?_
              refine Wx.cutQ (X := Unit) 6 [125, 126, 127, 128, 129, 130] (fun _ => [(130, .bool (ix false TL (i * 6 + j) && ix false TL (j * 6 + i)))]) (fun _ => True) ?_ ?_
              · rcases Bool.eq_false_or_eq_true (ix false TL (i * 6 + j)) with g_88 | g_88
                · -- True
                  have gp_89 := g_88
                  try simp only [Bool.and_eq_true, Bool.or_eq_true, Bool.not_eq_true', Bool.and_eq_false_iff, Bool.or_eq_false_iff, Bool.not_eq_false', decide_eq_true_eq, decide_eq_false_iff_not, not_or, Bool.false_eq_true, Bool.true_eq_false, false_or, or_false, not_false_eq_true] at gp_89
                  refine Wx.gyes rfl rfl (congrArg Value.bool g_88) ?_
                  refine Wx.rd (v := .int .i64 j) (rd_move rfl) rfl ?_
                  refine Wx.gyes rfl rfl (congrArg Value.bool g_88) ?_
                  refine Wx.rd (v := .int .i64 i) (rd_move rfl) rfl ?_
                  refine Wx.gyes rfl rfl (congrArg Value.bool g_88) ?_
                  refine Wx.rd (v := .pointer (some ⟨g_44, 0 + j.toNat * 6, none⟩)) (rd_indexArr rfl rfl Try.underlying82 Try.sizeOf81 (by omega) (by omega)) rfl ?_
                  refine Wx.gyes rfl rfl (congrArg Value.bool g_88) ?_
                  refine Wx.rd (v := .pointer (some ⟨g_44, 0 + j.toNat * 6 + i.toNat * 1, none⟩)) (rd_indexArr rfl rfl Try.underlying81 Try.sizeOf4 (by omega) (by omega)) rfl ?_
                  refine Wx.gyes rfl rfl (congrArg Value.bool g_88) ?_
                  refine Wx.rd (v := .bool (ix false TL (j * 6 + i))) (rd_loadXa (d := false) (f := Value.bool) (j := j * 6 + i) hS 3 rfl rfl (by omega) (by omega) (by omega) Try.isAgg4) rfl ?_
                  refine Wx.gyes rfl rfl (congrArg Value.bool g_85) ?_
                  refine Wx.rd (v := .bool (ix false TL (j * 6 + i))) (rd_pickT (congrArg Value.bool g_88) rfl) rfl ?_
                  refine Wx.nilQ (fun _ _ => ⟨(), trivial, ⟨?_, trivial⟩, Out.look rfl Out.refl⟩)
                  show Value.bool (ix false TL (j * 6 + i)) = Value.bool (ix false TL (i * 6 + j) && ix false TL (j * 6 + i))
                  first | rw [g_88, Bool.true_and] | (rw [g_88]; rfl)
                · -- False
                  have gp_90 := g_88
                  try simp only [Bool.and_eq_true, Bool.or_eq_true, Bool.not_eq_true', Bool.and_eq_false_iff, Bool.or_eq_false_iff, Bool.not_eq_false', decide_eq_true_eq, decide_eq_false_iff_not, not_or, Bool.false_eq_true, Bool.true_eq_false, false_or, or_false, not_false_eq_true] at gp_90
                  refine Wx.gnoB rfl rfl (congrArg Value.bool g_88) rfl rfl ?_
                  refine Wx.gnoB rfl rfl (congrArg Value.bool g_88) rfl rfl ?_
                  refine Wx.gnoB rfl rfl (congrArg Value.bool g_88) rfl rfl ?_
                  refine Wx.gnoB rfl rfl (congrArg Value.bool g_88) rfl rfl ?_
                  refine Wx.gnoB rfl rfl (congrArg Value.bool g_88) rfl rfl ?_
                  refine Wx.gyes rfl rfl (congrArg Value.bool g_85) ?_
                  refine Wx.rd (v := .bool false) (rd_pickF (congrArg Value.bool g_88) rfl) rfl ?_
                  refine Wx.nilQ (fun _ _ => ⟨(), trivial, ⟨?_, trivial⟩, Out.look rfl Out.refl⟩)
                  show Value.bool false = Value.bool (ix false TL (i * 6 + j) && ix false TL (j * 6 + i))
                  first | rw [g_88, Bool.false_and] | (rw [g_88]; rfl)
              rintro ⟨⟩ u_92 -
              refine Wx.gyes rfl rfl (congrArg Value.bool g_85) ?_
              refine Wx.rd (v := .bool (ix false TL (i * 6 + j) && ix false TL (j * 6 + i))) (rd_move rfl) rfl ?_
              refine Wx.cutQ (X := Unit) 10 [132, 133, 134, 135, 136, 137, 138, 139, 140, 141] (fun _ => [(141, .bool ((ix false TL (i * 6 + j) && ix false TL (j * 6 + i)) && decide ((ix 0 (numW (shG zs) l) i) ≠ (ix 0 (numW (shG zs) l) j))))]) (fun _ => True) ?_ ?_
              · rcases Bool.eq_false_or_eq_true (ix false TL (i * 6 + j) && ix false TL (j * 6 + i)) with g_93 | g_93
                · -- True
                  have gp_94 := g_93
                  try simp only [Bool.and_eq_true, Bool.or_eq_true, Bool.not_eq_true', Bool.and_eq_false_iff, Bool.or_eq_false_iff, Bool.not_eq_false', decide_eq_true_eq, decide_eq_false_iff_not, not_or, Bool.false_eq_true, Bool.true_eq_false, false_or, or_false, not_false_eq_true] at gp_94
                  refine Wx.gyes rfl rfl (congrArg Value.bool g_93) ?_
                  refine Wx.rd (v := v_27) (rd_move rfl) rfl ?_
                  refine Wx.gyes rfl rfl (congrArg Value.bool g_93) ?_
                  refine Wx.rd (v := .int .i64 i) (rd_move rfl) rfl ?_
                  refine Wx.gyes rfl rfl (congrArg Value.bool g_93) ?_
                  refine Wx.ex (rd_index 0 (hS.v 6 rfl) rfl rfl Try.underlying39 Try.sizeOf3 (by first | omega | (simp only [List.length_set, List.length_append, List.length_cons, List.length_nil, List.length_replicate]; omega)) (by first | omega | (simp only [List.length_set, List.length_append, List.length_cons, List.length_nil, List.length_replicate]; omega))) rfl (fun p_95 hp_96 => ?_)
                  refine Wx.gyes rfl rfl (congrArg Value.bool g_93) ?_
                  refine Wx.rd (v := .int .i64 (ix 0 (numW (shG zs) l) i)) (rd_loadI hp_96 rfl Try.isAgg3 Try.sizeOf3) rfl ?_
                  have bd_97 := bd_i64 hp_96.inK
                  refine Wx.gyes rfl rfl (congrArg Value.bool g_93) ?_
                  refine Wx.rd (v := v_27) (rd_move rfl) rfl ?_
                  refine Wx.gyes rfl rfl (congrArg Value.bool g_93) ?_
                  refine Wx.rd (v := .int .i64 j) (rd_move rfl) rfl ?_
                  refine Wx.gyes rfl rfl (congrArg Value.bool g_93) ?_
                  refine Wx.ex (rd_index 0 (hS.v 6 rfl) rfl rfl Try.underlying39 Try.sizeOf3 (by first | omega | (simp only [List.length_set, List.length_append, List.length_cons, List.length_nil, List.length_replicate]; omega)) (by first | omega | (simp only [List.length_set, List.length_append, List.length_cons, List.length_nil, List.length_replicate]; omega))) rfl (fun p_98 hp_99 => ?_)
                  refine Wx.gyes rfl rfl (congrArg Value.bool g_93) ?_
                  refine Wx.rd (v := .int .i64 (ix 0 (numW (shG zs) l) j)) (rd_loadI hp_99 rfl Try.isAgg3 Try.sizeOf3) rfl ?_
                  have bd_100 := bd_i64 hp_99.inK
                  refine Wx.gyes rfl rfl (congrArg Value.bool g_93) ?_
                  refine Wx.rd (v := .bool (decide ((ix 0 (numW (shG zs) l) i) ≠ (ix 0 (numW (shG zs) l) j)))) (rd_neq rfl rfl) rfl ?_
                  refine Wx.gyes rfl rfl (congrArg Value.bool g_85) ?_
                  refine Wx.rd (v := .bool (decide ((ix 0 (numW (shG zs) l) i) ≠ (ix 0 (numW (shG zs) l) j)))) (rd_pickT (congrArg Value.bool g_93) rfl) rfl ?_
                  refine Wx.nilQ (fun _ _ => ⟨(), trivial, ⟨?_, trivial⟩, Out.look rfl Out.refl⟩)
                  show Value.bool (decide ((ix 0 (numW (shG zs) l) i) ≠ (ix 0 (numW (shG zs) l) j))) = Value.bool ((ix false TL (i * 6 + j) && ix false TL (j * 6 + i)) && decide ((ix 0 (numW (shG zs) l) i) ≠ (ix 0 (numW (shG zs) l) j)))
                  first | rw [g_93, Bool.true_and] | (rw [g_93]; rfl)
                · -- False
                  have gp_101 := g_93
                  try simp only [Bool.and_eq_true, Bool.or_eq_true, Bool.not_eq_true', Bool.and_eq_false_iff, Bool.or_eq_false_iff, Bool.not_eq_false', decide_eq_true_eq, decide_eq_false_iff_not, not_or, Bool.false_eq_true, Bool.true_eq_false, false_or, or_false, not_false_eq_true] at gp_101
                  refine Wx.gnoB rfl rfl (congrArg Value.bool g_93) rfl rfl ?_
                  refine Wx.gnoB rfl rfl (congrArg Value.bool g_93) rfl rfl ?_
                  refine Wx.gnoB rfl rfl (congrArg Value.bool g_93) rfl rfl ?_
                  refine Wx.gnoB rfl rfl (congrArg Value.bool g_93) rfl rfl ?_
                  refine Wx.gnoB rfl rfl (congrArg Value.bool g_93) rfl rfl ?_
                  refine Wx.gnoB rfl rfl (congrArg Value.bool g_93) rfl rfl ?_
                  refine Wx.gnoB rfl rfl (congrArg Value.bool g_93) rfl rfl ?_
                  refine Wx.gnoB rfl rfl (congrArg Value.bool g_93) rfl rfl ?_
                  refine Wx.gnoB rfl rfl (congrArg Value.bool g_93) rfl rfl ?_
                  refine Wx.gyes rfl rfl (congrArg Value.bool g_85) ?_
                  refine Wx.rd (v := .bool false) (rd_pickF (congrArg Value.bool g_93) rfl) rfl ?_
                  refine Wx.nilQ (fun _ _ => ⟨(), trivial, ⟨?_, trivial⟩, Out.look rfl Out.refl⟩)
                  show Value.bool false = Value.bool ((ix false TL (i * 6 + j) && ix false TL (j * 6 + i)) && decide ((ix 0 (numW (shG zs) l) i) ≠ (ix 0 (numW (shG zs) l) j)))
                  first | rw [g_93, Bool.false_and] | (rw [g_93]; rfl)
              rintro ⟨⟩ u_103 -
              refine Wx.rd (v := .bool ((ix false TL (i * 6 + j) && ix false TL (j * 6 + i)) && decide ((ix 0 (numW (shG zs) l) i) ≠ (ix 0 (numW (shG zs) l) j)))) (rd_pickF (congrArg Value.bool g_85) rfl) rfl ?_
              refine Wx.nilQ (fun _ _ => ⟨(), trivial, ⟨?_, trivial⟩, Out.look rfl (Out.hav rfl (Out.look rfl (Out.hav rfl (Out.look rfl Out.refl))))⟩)
              show Value.bool ((ix false TL (i * 6 + j) && ix false TL (j * 6 + i)) && decide ((ix 0 (numW (shG zs) l) i) ≠ (ix 0 (numW (shG zs) l) j))) = Value.bool (((ix false TB (i * 6 + j) && decide ((ix 0 (numW (shG zs) l) i) ≤ (ix 0 (numW (shG zs) l) j))) || (ix false TL (i * 6 + j) && decide ((ix 0 (numW (shG zs) l) i) < (ix 0 (numW (shG zs) l) j)))) || ((ix false TL (i * 6 + j) && ix false TL (j * 6 + i)) && decide ((ix 0 (numW (shG zs) l) i) ≠ (ix 0 (numW (shG zs) l) j))))
              first | rw [g_85, Bool.false_or] | (rw [g_85]; rfl)
          rintro ⟨⟩ u_105 -
          refine Wx.nilQ (fun w_106 hx_107 => ?_)
          have hS := hS.ext hx_107
          refine W.condF rfl (rk_false (fun h => nb_beat hnb hii (by rw [← hB i j hii hjj]; exact h)) (fun h => nb_led hnb hii hjj (by rw [← hL i j hii hjj]; exact h)) (fun h => nb_led hnb hjj hii (by rw [← hL j i hjj hii]; exact h))) ?_
          refine W.skip ?_
          refine W.reg ?_
          refine Wx.rd (v := .int .i64 (j + 1)) (rd_add rfl rfl (in_i64 (by omega) (by omega))) rfl ?_
          refine Wx.rd (v := .int .i64 (j + 1)) (rd_move rfl) rfl ?_
          refine Wx.nil ?_
          refine ⟨(many + 1, j + 1), (by show (l.length - (j + 1)).toNat < (l.length - j).toNat; omega), ?_, ?_, Out.look rfl (Out.hav rfl (Out.look rfl (Out.hav rfl (Out.look rfl (Out.hav rfl (Out.look rfl Out.self))))))⟩
          · exact ⟨hS, (by first | omega | assumption), (by first | omega | assumption), (cnt_next hii hjj (hB i j hii hjj) c4 g2), (by first | omega | assumption), (by first | omega | assumption)⟩
          · exact ⟨rfl, rfl, trivial⟩
        · -- no
          try simp only [Bool.and_eq_true, Bool.or_eq_true, Bool.not_eq_true', Bool.and_eq_false_iff, Bool.or_eq_false_iff, Bool.not_eq_false', decide_eq_true_eq, decide_eq_false_iff_not, not_or, Bool.false_eq_true, Bool.true_eq_false, false_or, or_false, not_false_eq_true] at c4
          refine W.skip ?_
          refine W.seq ?_
          refine W.regQ mixedMd_ (by kernel_rfl) ?_
          refine Wx.rd (v := .int .i64 i) (rd_move rfl) rfl ?_
          refine Wx.rd (v := .int .i64 j) (rd_move rfl) rfl ?_
          refine Wx.rd (v := .pointer (some ⟨g_48, 0 + i.toNat * 6, none⟩)) (rd_indexArr rfl rfl Try.underlying82 Try.sizeOf81 (by omega) (by omega)) rfl ?_
          refine Wx.rd (v := .pointer (some ⟨g_48, 0 + i.toNat * 6 + j.toNat * 1, none⟩)) (rd_indexArr rfl rfl Try.underlying81 Try.sizeOf4 (by omega) (by omega)) rfl ?_
          refine Wx.rd (v := .bool (ix false TB (i * 6 + j))) (rd_loadXa (d := false) (f := Value.bool) (j := i * 6 + j) hS 4 rfl rfl (by omega) (by omega) (by omega) Try.isAgg4) rfl ?_
          refine Wx.rd (v := .bool (ix false TB (i * 6 + j))) (rd_move rfl) rfl ?_
          refine Wx.cutQ (X := Unit) 10 [90, 91, 92, 93, 94, 95, 96, 97, 98, 99] (fun _ => [(99, .bool (ix false TB (i * 6 + j) && decide ((ix 0 (numW (shG zs) l) i) ≤ (ix 0 (numW (shG zs) l) j))))]) (fun _ => True) ?_ ?_
          · rcases Bool.eq_false_or_eq_true (ix false TB (i * 6 + j)) with g_108 | g_108
            · -- True
              have gp_109 := g_108
              try simp only [Bool.and_eq_true, Bool.or_eq_true, Bool.not_eq_true', Bool.and_eq_false_iff, Bool.or_eq_false_iff, Bool.not_eq_false', decide_eq_true_eq, decide_eq_false_iff_not, not_or, Bool.false_eq_true, Bool.true_eq_false, false_or, or_false, not_false_eq_true] at gp_109
              refine Wx.gyes rfl rfl (congrArg Value.bool g_108) ?_
              refine Wx.rd (v := v_27) (rd_move rfl) rfl ?_
              refine Wx.gyes rfl rfl (congrArg Value.bool g_108) ?_
              refine Wx.rd (v := .int .i64 i) (rd_move rfl) rfl ?_
              refine Wx.gyes rfl rfl (congrArg Value.bool g_108) ?_
              refine Wx.ex (rd_index 0 (hS.v 6 rfl) rfl rfl Try.underlying39 Try.sizeOf3 (by first | omega | (simp only [List.length_set, List.length_append, List.length_cons, List.length_nil, List.length_replicate]; omega)) (by first | omega | (simp only [List.length_set, List.length_append, List.length_cons, List.length_nil, List.length_replicate]; omega))) rfl (fun p_110 hp_111 => ?_)
              refine Wx.gyes rfl rfl (congrArg Value.bool g_108) ?_
              refine Wx.rd (v := .int .i64 (ix 0 (numW (shG zs) l) i)) (rd_loadI hp_111 rfl Try.isAgg3 Try.sizeOf3) rfl ?_
              have bd_112 := bd_i64 hp_111.inK
              refine Wx.gyes rfl rfl (congrArg Value.bool g_108) ?_
              refine Wx.rd (v := v_27) (rd_move rfl) rfl ?_
              refine Wx.gyes rfl rfl (congrArg Value.bool g_108) ?_
              refine Wx.rd (v := .int .i64 j) (rd_move rfl) rfl ?_
              refine Wx.gyes rfl rfl (congrArg Value.bool g_108) ?_
              refine Wx.ex (rd_index 0 (hS.v 6 rfl) rfl rfl Try.underlying39 Try.sizeOf3 (by first | omega | (simp only [List.length_set, List.length_append, List.length_cons, List.length_nil, List.length_replicate]; omega)) (by first | omega | (simp only [List.length_set, List.length_append, List.length_cons, List.length_nil, List.length_replicate]; omega))) rfl (fun p_113 hp_114 => ?_)
              refine Wx.gyes rfl rfl (congrArg Value.bool g_108) ?_
              refine Wx.rd (v := .int .i64 (ix 0 (numW (shG zs) l) j)) (rd_loadI hp_114 rfl Try.isAgg3 Try.sizeOf3) rfl ?_
              have bd_115 := bd_i64 hp_114.inK
              refine Wx.gyes rfl rfl (congrArg Value.bool g_108) ?_
              refine Wx.rd (v := .bool (decide ((ix 0 (numW (shG zs) l) i) ≤ (ix 0 (numW (shG zs) l) j)))) (rd_leq rfl rfl) rfl ?_
              refine Wx.rd (v := .bool (decide ((ix 0 (numW (shG zs) l) i) ≤ (ix 0 (numW (shG zs) l) j)))) (rd_pickT (congrArg Value.bool g_108) rfl) rfl ?_
              refine Wx.nilQ (fun _ _ => ⟨(), trivial, ⟨?_, trivial⟩, Out.look rfl Out.refl⟩)
              show Value.bool (decide ((ix 0 (numW (shG zs) l) i) ≤ (ix 0 (numW (shG zs) l) j))) = Value.bool (ix false TB (i * 6 + j) && decide ((ix 0 (numW (shG zs) l) i) ≤ (ix 0 (numW (shG zs) l) j)))
              first | rw [g_108, Bool.true_and] | (rw [g_108]; rfl)
            · -- False
              have gp_116 := g_108
              try simp only [Bool.and_eq_true, Bool.or_eq_true, Bool.not_eq_true', Bool.and_eq_false_iff, Bool.or_eq_false_iff, Bool.not_eq_false', decide_eq_true_eq, decide_eq_false_iff_not, not_or, Bool.false_eq_true, Bool.true_eq_false, false_or, or_false, not_false_eq_true] at gp_116
              refine Wx.gnoB rfl rfl (congrArg Value.bool g_108) rfl rfl ?_
              refine Wx.gnoB rfl rfl (congrArg Value.bool g_108) rfl rfl ?_
              refine Wx.gnoB rfl rfl (congrArg Value.bool g_108) rfl rfl ?_
              refine Wx.gnoB rfl rfl (congrArg Value.bool g_108) rfl rfl ?_
              refine Wx.gnoB rfl rfl (congrArg Value.bool g_108) rfl rfl ?_
              refine Wx.gnoB rfl rfl (congrArg Value.bool g_108) rfl rfl ?_
              refine Wx.gnoB rfl rfl (congrArg Value.bool g_108) rfl rfl ?_
              refine Wx.gnoB rfl rfl (congrArg Value.bool g_108) rfl rfl ?_
              refine Wx.gnoB rfl rfl (congrArg Value.bool g_108) rfl rfl ?_
              refine Wx.rd (v := .bool false) (rd_pickF (congrArg Value.bool g_108) rfl) rfl ?_
              refine Wx.nilQ (fun _ _ => ⟨(), trivial, ⟨?_, trivial⟩, Out.look rfl Out.refl⟩)
              show Value.bool false = Value.bool (ix false TB (i * 6 + j) && decide ((ix 0 (numW (shG zs) l) i) ≤ (ix 0 (numW (shG zs) l) j)))
              first | rw [g_108, Bool.false_and] | (rw [g_108]; rfl)
          rintro ⟨⟩ u_118 -
          refine Wx.rd (v := .bool (ix false TB (i * 6 + j) && decide ((ix 0 (numW (shG zs) l) i) ≤ (ix 0 (numW (shG zs) l) j)))) (rd_move rfl) rfl ?_
          refine Wx.cutQ (X := Unit) 17 [101, 102, 103, 104, 105, 106, 107, 108, 109, 110, 111, 112, 113, 114, 115, 116, 117] (fun _ => [(117, .bool ((ix false TB (i * 6 + j) && decide ((ix 0 (numW (shG zs) l) i) ≤ (ix 0 (numW (shG zs) l) j))) || (ix false TL (i * 6 + j) && decide ((ix 0 (numW (shG zs) l) i) < (ix 0 (numW (shG zs) l) j)))))]) (fun _ => True) ?_ ?_
          · rcases Bool.eq_false_or_eq_true (ix false TB (i * 6 + j) && decide ((ix 0 (numW (shG zs) l) i) ≤ (ix 0 (numW (shG zs) l) j))) with g_119 | g_119
            · -- True
              have gp_120 := g_119
              try simp only [Bool.and_eq_true, Bool.or_eq_true, Bool.not_eq_true', Bool.and_eq_false_iff, Bool.or_eq_false_iff, Bool.not_eq_false', decide_eq_true_eq, decide_eq_false_iff_not, not_or, Bool.false_eq_true, Bool.true_eq_false, false_or, or_false, not_false_eq_true] at gp_120
              refine Wx.gnoB rfl rfl (congrArg Value.bool g_119) rfl rfl ?_
              refine Wx.gnoB rfl rfl (congrArg Value.bool g_119) rfl rfl ?_
              refine Wx.gnoB rfl rfl (congrArg Value.bool g_119) rfl rfl ?_
              refine Wx.gnoB rfl rfl (congrArg Value.bool g_119) rfl rfl ?_
              refine Wx.gnoB rfl rfl (congrArg Value.bool g_119) rfl rfl ?_
              refine Wx.gnoB rfl rfl (congrArg Value.bool g_119) rfl rfl ?_
              refine Wx.gno rfl rfl rfl rfl ?_
              refine Wx.gno rfl rfl rfl rfl ?_
              refine Wx.gno rfl rfl rfl rfl ?_
              refine Wx.gno rfl rfl rfl rfl ?_
              refine Wx.gno rfl rfl rfl rfl ?_
              refine Wx.gno rfl rfl rfl rfl ?_
              refine Wx.gno rfl rfl rfl rfl ?_
              refine Wx.gno rfl rfl rfl rfl ?_
              refine Wx.gno rfl rfl rfl rfl ?_
              refine Wx.gnoB rfl rfl (congrArg Value.bool g_119) rfl rfl ?_
              refine Wx.rd (v := .bool true) (rd_pickT (congrArg Value.bool g_119) rfl) rfl ?_
              refine Wx.nilQ (fun _ _ => ⟨(), trivial, ⟨?_, trivial⟩, Out.look rfl Out.refl⟩)
              show Value.bool true = Value.bool ((ix false TB (i * 6 + j) && decide ((ix 0 (numW (shG zs) l) i) ≤ (ix 0 (numW (shG zs) l) j))) || (ix false TL (i * 6 + j) && decide ((ix 0 (numW (shG zs) l) i) < (ix 0 (numW (shG zs) l) j))))
              first | rw [g_119, Bool.true_or] | (rw [g_119]; rfl)
            · -- False
              have gp_121 := g_119
              try simp only [Bool.and_eq_true, Bool.or_eq_true, Bool.not_eq_true', Bool.and_eq_false_iff, Bool.or_eq_false_iff, Bool.not_eq_false', decide_eq_true_eq, decide_eq_false_iff_not, not_or, Bool.false_eq_true, Bool.true_eq_false, false_or, or_false, not_false_eq_true] at gp_121
              refine Wx.gyes rfl rfl (congrArg Value.bool g_119) ?_
              refine Wx.rd (v := .int .i64 i) (rd_move rfl) rfl ?_
              refine Wx.gyes rfl rfl (congrArg Value.bool g_119) ?_
              refine Wx.rd (v := .int .i64 j) (rd_move rfl) rfl ?_
              refine Wx.gyes rfl rfl (congrArg Value.bool g_119) ?_
              refine Wx.rd (v := .pointer (some ⟨g_44, 0 + i.toNat * 6, none⟩)) (rd_indexArr rfl rfl Try.underlying82 Try.sizeOf81 (by omega) (by omega)) rfl ?_
              refine Wx.gyes rfl rfl (congrArg Value.bool g_119) ?_
              refine Wx.rd (v := .pointer (some ⟨g_44, 0 + i.toNat * 6 + j.toNat * 1, none⟩)) (rd_indexArr rfl rfl Try.underlying81 Try.sizeOf4 (by omega) (by omega)) rfl ?_
              refine Wx.gyes rfl rfl (congrArg Value.bool g_119) ?_
              refine Wx.rd (v := .bool (ix false TL (i * 6 + j))) (rd_loadXa (d := false) (f := Value.bool) (j := i * 6 + j) hS 3 rfl rfl (by omega) (by omega) (by omega) Try.isAgg4) rfl ?_
              refine Wx.gyes rfl rfl (congrArg Value.bool g_119) ?_
              refine Wx.rd (v := .bool (ix false TL (i * 6 + j))) (rd_move rfl) rfl ?_
              refine Wx.cutQ (X := Unit) 10 [107, 108, 109, 110, 111, 112, 113, 114, 115, 116] (fun _ => [(116, .bool (ix false TL (i * 6 + j) && decide ((ix 0 (numW (shG zs) l) i) < (ix 0 (numW (shG zs) l) j))))]) (fun _ => True) ?_ ?_
              · rcases Bool.eq_false_or_eq_true (ix false TL (i * 6 + j)) with g_122 | g_122
                · -- True
                  have gp_123 := g_122
                  try simp only [Bool.and_eq_true, Bool.or_eq_true, Bool.not_eq_true', Bool.and_eq_false_iff, Bool.or_eq_false_iff, Bool.not_eq_false', decide_eq_true_eq, decide_eq_false_iff_not, not_or, Bool.false_eq_true, Bool.true_eq_false, false_or, or_false, not_false_eq_true] at gp_123
                  refine Wx.gyes rfl rfl (congrArg Value.bool g_122) ?_
                  refine Wx.rd (v := v_27) (rd_move rfl) rfl ?_
                  refine Wx.gyes rfl rfl (congrArg Value.bool g_122) ?_
                  refine Wx.rd (v := .int .i64 i) (rd_move rfl) rfl ?_
                  refine Wx.gyes rfl rfl (congrArg Value.bool g_122) ?_
                  refine Wx.ex (rd_index 0 (hS.v 6 rfl) rfl rfl Try.underlying39 Try.sizeOf3 (by first | omega | (simp only [List.length_set, List.length_append, List.length_cons, List.length_nil, List.length_replicate]; omega)) (by first | omega | (simp only [List.length_set, List.length_append, List.length_cons, List.length_nil, List.length_replicate]; omega))) rfl (fun p_124 hp_125 => ?_)
                  refine Wx.gyes rfl rfl (congrArg Value.bool g_122) ?_
                  refine Wx.rd (v := .int .i64 (ix 0 (numW (shG zs) l) i)) (rd_loadI hp_125 rfl Try.isAgg3 Try.sizeOf3) rfl ?_
                  have bd_126 := bd_i64 hp_125.inK
                  refine Wx.gyes rfl rfl (congrArg Value.bool g_122) ?_
                  refine Wx.rd (v := v_27) (rd_move rfl) rfl ?_
                  refine Wx.gyes rfl rfl (congrArg Value.bool g_122) ?_
                  refine Wx.rd (v := .int .i64 j) (rd_move rfl) rfl ?_
                  refine Wx.gyes rfl rfl (congrArg Value.bool g_122) ?_
                  refine Wx.ex (rd_index 0 (hS.v 6 rfl) rfl rfl Try.underlying39 Try.sizeOf3 (by first | omega | (simp only [List.length_set, List.length_append, List.length_cons, List.length_nil, List.length_replicate]; omega)) (by first | omega | (simp only [List.length_set, List.length_append, List.length_cons, List.length_nil, List.length_replicate]; omega))) rfl (fun p_127 hp_128 => ?_)
                  refine Wx.gyes rfl rfl (congrArg Value.bool g_122) ?_
                  refine Wx.rd (v := .int .i64 (ix 0 (numW (shG zs) l) j)) (rd_loadI hp_128 rfl Try.isAgg3 Try.sizeOf3) rfl ?_
                  have bd_129 := bd_i64 hp_128.inK
                  refine Wx.gyes rfl rfl (congrArg Value.bool g_122) ?_
                  refine Wx.rd (v := .bool (decide ((ix 0 (numW (shG zs) l) i) < (ix 0 (numW (shG zs) l) j)))) (rd_lss rfl rfl) rfl ?_
                  refine Wx.gyes rfl rfl (congrArg Value.bool g_119) ?_
                  refine Wx.rd (v := .bool (decide ((ix 0 (numW (shG zs) l) i) < (ix 0 (numW (shG zs) l) j)))) (rd_pickT (congrArg Value.bool g_122) rfl) rfl ?_
                  refine Wx.nilQ (fun _ _ => ⟨(), trivial, ⟨?_, trivial⟩, Out.look rfl Out.refl⟩)
                  show Value.bool (decide ((ix 0 (numW (shG zs) l) i) < (ix 0 (numW (shG zs) l) j))) = Value.bool (ix false TL (i * 6 + j) && decide ((ix 0 (numW (shG zs) l) i) < (ix 0 (numW (shG zs) l) j)))
                  first | rw [g_122, Bool.true_and] | (rw [g_122]; rfl)
                · -- False
                  have gp_130 := g_122
                  try simp only [Bool.and_eq_true, Bool.or_eq_true, Bool.not_eq_true', Bool.and_eq_false_iff, Bool.or_eq_false_iff, Bool.not_eq_false', decide_eq_true_eq, decide_eq_false_iff_not, not_or, Bool.false_eq_true, Bool.true_eq_false, false_or, or_false, not_false_eq_true] at gp_130
                  refine Wx.gnoB rfl rfl (congrArg Value.bool g_122) rfl rfl ?_
                  refine Wx.gnoB rfl rfl (congrArg Value.bool g_122) rfl rfl ?_
                  refine Wx.gnoB rfl rfl (congrArg Value.bool g_122) rfl rfl ?_
                  refine Wx.gnoB rfl rfl (congrArg Value.bool g_122) rfl rfl ?_
                  refine Wx.gnoB rfl rfl (congrArg Value.bool g_122) rfl rfl ?_
                  refine Wx.gnoB rfl rfl (congrArg Value.bool g_122) rfl rfl ?_
                  refine Wx.gnoB rfl rfl (congrArg Value.bool g_122) rfl rfl ?_
                  refine Wx.gnoB rfl rfl (congrArg Value.bool g_122) rfl rfl ?_
                  refine Wx.gnoB rfl rfl (congrArg Value.bool g_122) rfl rfl ?_
                  refine Wx.gyes rfl rfl (congrArg Value.bool g_119) ?_
                  refine Wx.rd (v := .bool false) (rd_pickF (congrArg Value.bool g_122) rfl) rfl ?_
                  refine Wx.nilQ (fun _ _ => ⟨(), trivial, ⟨?_, trivial⟩, Out.look rfl Out.refl⟩)
                  show Value.bool false = Value.bool (ix false TL (i * 6 + j) && decide ((ix 0 (numW (shG zs) l) i) < (ix 0 (numW (shG zs) l) j)))
                  first | rw [g_122, Bool.false_and] | (rw [g_122]; rfl)
              rintro ⟨⟩ u_132 -
              refine Wx.rd (v := .bool (ix false TL (i * 6 + j) && decide ((ix 0 (numW (shG zs) l) i) < (ix 0 (numW (shG zs) l) j)))) (rd_pickF (congrArg Value.bool g_119) rfl) rfl ?_
              refine Wx.nilQ (fun _ _ => ⟨(), trivial, ⟨?_, trivial⟩, Out.look rfl (Out.hav rfl (Out.look rfl Out.refl))⟩)
              show Value.bool (ix false TL (i * 6 + j) && decide ((ix 0 (numW (shG zs) l) i) < (ix 0 (numW (shG zs) l) j))) = Value.bool ((ix false TB (i * 6 + j) && decide ((ix 0 (numW (shG zs) l) i) ≤ (ix 0 (numW (shG zs) l) j))) || (ix false TL (i * 6 + j) && decide ((ix 0 (numW (shG zs) l) i) < (ix 0 (numW (shG zs) l) j))))
              first | rw [g_119, Bool.false_or] | (rw [g_119]; rfl)
          rintro ⟨⟩ u_134 -
          refine Wx.rd (v := .bool ((ix false TB (i * 6 + j) && decide ((ix 0 (numW (shG zs) l) i) ≤ (ix 0 (numW (shG zs) l) j))) || (ix false TL (i * 6 + j) && decide ((ix 0 (numW (shG zs) l) i) < (ix 0 (numW (shG zs) l) j))))) (rd_move rfl) rfl ?_
          refine Wx.cutQ (X := Unit) 24 [119, 120, 121, 122, 123, 124, 125, 126, 127, 128, 129, 130, 131, 132, 133, 134, 135, 136, 137, 138, 139, 140, 141, 142] (fun _ => [(142, .bool (((ix false TB (i * 6 + j) && decide ((ix 0 (numW (shG zs) l) i) ≤ (ix 0 (numW (shG zs) l) j))) || (ix false TL (i * 6 + j) && decide ((ix 0 (numW (shG zs) l) i) < (ix 0 (numW (shG zs) l) j)))) || ((ix false TL (i * 6 + j) && ix false TL (j * 6 + i)) && decide ((ix 0 (numW (shG zs) l) i) ≠ (ix 0 (numW (shG zs) l) j)))))]) (fun _ => True) ?_ ?_
          · rcases Bool.eq_false_or_eq_true ((ix false TB (i * 6 + j) && decide ((ix 0 (numW (shG zs) l) i) ≤ (ix 0 (numW (shG zs) l) j))) || (ix false TL (i * 6 + j) && decide ((ix 0 (numW (shG zs) l) i) < (ix 0 (numW (shG zs) l) j)))) with g_135 | g_135
            · -- True
              have gp_136 := g_135
              try simp only [Bool.and_eq_true, Bool.or_eq_true, Bool.not_eq_true', Bool.and_eq_false_iff, Bool.or_eq_false_iff, Bool.not_eq_false', decide_eq_true_eq, decide_eq_false_iff_not, not_or, Bool.false_eq_true, Bool.true_eq_false, false_or, or_false, not_false_eq_true] at gp_136
              refine Wx.gnoB rfl rfl (congrArg Value.bool g_135) rfl rfl ?_
              refine Wx.gnoB rfl rfl (congrArg Value.bool g_135) rfl rfl ?_
              refine Wx.gnoB rfl rfl (congrArg Value.bool g_135) rfl rfl ?_
              refine Wx.gnoB rfl rfl (congrArg Value.bool g_135) rfl rfl ?_
              refine Wx.gnoB rfl rfl (congrArg Value.bool g_135) rfl rfl ?_
              refine Wx.gnoB rfl rfl (congrArg Value.bool g_135) rfl rfl ?_
              refine Wx.gno rfl rfl rfl rfl ?_
              refine Wx.gno rfl rfl rfl rfl ?_
              refine Wx.gno rfl rfl rfl rfl ?_
              refine Wx.gno rfl rfl rfl rfl ?_
              refine Wx.gno rfl rfl rfl rfl ?_
              refine Wx.gnoB rfl rfl (congrArg Value.bool g_135) rfl rfl ?_
              refine Wx.gnoB rfl rfl (congrArg Value.bool g_135) rfl rfl ?_
              refine Wx.gno rfl rfl rfl rfl ?_
              refine Wx.gno rfl rfl rfl rfl ?_
              refine Wx.gno rfl rfl rfl rfl ?_
              refine Wx.gno rfl rfl rfl rfl ?_
              refine Wx.gno rfl rfl rfl rfl ?_
              refine Wx.gno rfl rfl rfl rfl ?_
              refine Wx.gno rfl rfl rfl rfl ?_
              refine Wx.gno rfl rfl rfl rfl ?_
              refine Wx.gno rfl rfl rfl rfl ?_
              refine Wx.gnoB rfl rfl (congrArg Value.bool g_135) rfl rfl ?_
              refine Wx.rd (v := .bool true) (rd_pickT (congrArg Value.bool g_135) rfl) rfl ?_
              refine Wx.nilQ (fun _ _ => ⟨(), trivial, ⟨?_, trivial⟩, Out.look rfl Out.refl⟩)
              show Value.bool true = Value.bool (((ix false TB (i * 6 + j) && decide ((ix 0 (numW (shG zs) l) i) ≤ (ix 0 (numW (shG zs) l) j))) || (ix false TL (i * 6 + j) && decide ((ix 0 (numW (shG zs) l) i) < (ix 0 (numW (shG zs) l) j)))) || ((ix false TL (i * 6 + j) && ix false TL (j * 6 + i)) && decide ((ix 0 (numW (shG zs) l) i) ≠ (ix 0 (numW (shG zs) l) j))))
              first | rw [g_135, Bool.true_or] | (rw [g_135]; rfl)
            · -- False
              have gp_137 := g_135
              try simp only [Bool.and_eq_true, Bool.or_eq_true, Bool.not_eq_true', Bool.and_eq_false_iff, Bool.or_eq_false_iff, Bool.not_eq_false', decide_eq_true_eq, decide_eq_false_iff_not, not_or, Bool.false_eq_true, Bool.true_eq_false, false_or, or_false, not_false_eq_true] at gp_137
              refine Wx.gyes rfl rfl (congrArg Value.bool g_135) ?_
              refine Wx.rd (v := .int .i64 i) (rd_move rfl) rfl ?_
              refine Wx.gyes rfl rfl (congrArg Value.bool g_135) ?_
              refine Wx.rd (v := .int .i64 j) (rd_move rfl) rfl ?_
              refine Wx.gyes rfl rfl (congrArg Value.bool g_135) ?_
              refine Wx.rd (v := .pointer (some ⟨g_44, 0 + i.toNat * 6, none⟩)) (rd_indexArr rfl rfl Try.underlying82 Try.sizeOf81 (by omega) (by omega)) rfl ?_
              refine Wx.gyes rfl rfl (congrArg Value.bool g_135) ?_
              refine Wx.rd (v := .pointer (some ⟨g_44, 0 + i.toNat * 6 + j.toNat * 1, none⟩)) (rd_indexArr rfl rfl Try.underlying81 Try.sizeOf4 (by omega) (by omega)) rfl ?_
              refine Wx.gyes rfl rfl (congrArg Value.bool g_135) ?_
              refine Wx.rd (v := .bool (ix false TL (i * 6 + j))) (rd_loadXa (d := false) (f := Value.bool) (j := i * 6 + j) hS 3 rfl rfl (by omega) (by omega) (by omega) Try.isAgg4) rfl ?_
              refine Wx.gyes rfl rfl (congrArg Value.bool g_135) ?_
              refine Wx.rd (v := .bool (ix false TL (i * 6 + j))) (rd_move rfl) rfl ?_
              refine Wx.cutQ (X := Unit) 6 [125, 126, 127, 128, 129, 130] (fun _ => [(130, .bool (ix false TL (i * 6 + j) && ix false TL (j * 6 + i)))]) (fun _ => True) ?_ ?_
              · rcases Bool.eq_false_or_eq_true (ix false TL (i * 6 + j)) with g_138 | g_138
                · -- True
                  have gp_139 := g_138
                  try simp only [Bool.and_eq_true, Bool.or_eq_true, Bool.not_eq_true', Bool.and_eq_false_iff, Bool.or_eq_false_iff, Bool.not_eq_false', decide_eq_true_eq, decide_eq_false_iff_not, not_or, Bool.false_eq_true, Bool.true_eq_false, false_or, or_false, not_false_eq_true] at gp_139
                  refine Wx.gyes rfl rfl (congrArg Value.bool g_138) ?_
                  refine Wx.rd (v := .int .i64 j) (rd_move rfl) rfl ?_
                  refine Wx.gyes rfl rfl (congrArg Value.bool g_138) ?_
                  refine Wx.rd (v := .int .i64 i) (rd_move rfl) rfl ?_
                  refine Wx.gyes rfl rfl (congrArg Value.bool g_138) ?_
                  refine Wx.rd (v := .pointer (some ⟨g_44, 0 + j.toNat * 6, none⟩)) (rd_indexArr rfl rfl Try.underlying82 Try.sizeOf81 (by omega) (by omega)) rfl ?_
                  refine Wx.gyes rfl rfl (congrArg Value.bool g_138) ?_
                  refine Wx.rd (v := .pointer (some ⟨g_44, 0 + j.toNat * 6 + i.toNat * 1, none⟩)) (rd_indexArr rfl rfl Try.underlying81 Try.sizeOf4 (by omega) (by omega)) rfl ?_
                  refine Wx.gyes rfl rfl (congrArg Value.bool g_138) ?_
                  refine Wx.rd (v := .bool (ix false TL (j * 6 + i))) (rd_loadXa (d := false) (f := Value.bool) (j := j * 6 + i) hS 3 rfl rfl (by omega) (by omega) (by omega) Try.isAgg4) rfl ?_
                  refine Wx.gyes rfl rfl (congrArg Value.bool g_135) ?_
                  refine Wx.rd (v := .bool (ix false TL (j * 6 + i))) (rd_pickT (congrArg Value.bool g_138) rfl) rfl ?_
                  refine Wx.nilQ (fun _ _ => ⟨(), trivial, ⟨?_, trivial⟩, Out.look rfl Out.refl⟩)
                  show Value.bool (ix false TL (j * 6 + i)) = Value.bool (ix false TL (i * 6 + j) && ix false TL (j * 6 + i))
                  first | rw [g_138, Bool.true_and] | (rw [g_138]; rfl)
                · -- False
                  have gp_140 := g_138
                  try simp only [Bool.and_eq_true, Bool.or_eq_true, Bool.not_eq_true', Bool.and_eq_false_iff, Bool.or_eq_false_iff, Bool.not_eq_false', decide_eq_true_eq, decide_eq_false_iff_not, not_or, Bool.false_eq_true, Bool.true_eq_false, false_or, or_false, not_false_eq_true] at gp_140
                  refine Wx.gnoB rfl rfl (congrArg Value.bool g_138) rfl rfl ?_
                  refine Wx.gnoB rfl rfl (congrArg Value.bool g_138) rfl rfl ?_
                  refine Wx.gnoB rfl rfl (congrArg Value.bool g_138) rfl rfl ?_
                  refine Wx.gnoB rfl rfl (congrArg Value.bool g_138) rfl rfl ?_
                  refine Wx.gnoB rfl rfl (congrArg Value.bool g_138) rfl rfl ?_
                  refine Wx.gyes rfl rfl (congrArg Value.bool g_135) ?_
                  refine Wx.rd (v := .bool false) (rd_pickF (congrArg Value.bool g_138) rfl) rfl ?_
                  refine Wx.nilQ (fun _ _ => ⟨(), trivial, ⟨?_, trivial⟩, Out.look rfl Out.refl⟩)
                  show Value.bool false = Value.bool (ix false TL (i * 6 + j) && ix false TL (j * 6 + i))
                  first | rw [g_138, Bool.false_and] | (rw [g_138]; rfl)
              rintro ⟨⟩ u_142 -
              refine Wx.gyes rfl rfl (congrArg Value.bool g_135) ?_
              refine Wx.rd (v := .bool (ix false TL (i * 6 + j) && ix false TL (j * 6 + i))) (rd_move rfl) rfl ?_
              refine Wx.cutQ (X := Unit) 10 [132, 133, 134, 135, 136, 137, 138, 139, 140, 141] (fun _ => [(141, .bool ((ix false TL (i * 6 + j) && ix false TL (j * 6 + i)) && decide ((ix 0 (numW (shG zs) l) i) ≠ (ix 0 (numW (shG zs) l) j))))]) (fun _ => True) ?_ ?_
              · rcases Bool.eq_false_or_eq_true (ix false TL (i * 6 + j) && ix false TL (j * 6 + i)) with g_143 | g_143
                · -- True
                  have gp_144 := g_143
                  try simp only [Bool.and_eq_true, Bool.or_eq_true, Bool.not_eq_true', Bool.and_eq_false_iff, Bool.or_eq_false_iff, Bool.not_eq_false', decide_eq_true_eq, decide_eq_false_iff_not, not_or, Bool.false_eq_true, Bool.true_eq_false, false_or, or_false, not_false_eq_true] at gp_144
                  refine Wx.gyes rfl rfl (congrArg Value.bool g_143) ?_
                  refine Wx.rd (v := v_27) (rd_move rfl) rfl ?_
                  refine Wx.gyes rfl rfl (congrArg Value.bool g_143) ?_
                  refine Wx.rd (v := .int .i64 i) (rd_move rfl) rfl ?_
                  refine Wx.gyes rfl rfl (congrArg Value.bool g_143) ?_
                  refine Wx.ex (rd_index 0 (hS.v 6 rfl) rfl rfl Try.underlying39 Try.sizeOf3 (by first | omega | (simp only [List.length_set, List.length_append, List.length_cons, List.length_nil, List.length_replicate]; omega)) (by first | omega | (simp only [List.length_set, List.length_append, List.length_cons, List.length_nil, List.length_replicate]; omega))) rfl (fun p_145 hp_146 => ?_)
                  refine Wx.gyes rfl rfl (congrArg Value.bool g_143) ?_
                  refine Wx.rd (v := .int .i64 (ix 0 (numW (shG zs) l) i)) (rd_loadI hp_146 rfl Try.isAgg3 Try.sizeOf3) rfl ?_
                  have bd_147 := bd_i64 hp_146.inK
                  refine Wx.gyes rfl rfl (congrArg Value.bool g_143) ?_
                  refine Wx.rd (v := v_27) (rd_move rfl) rfl ?_
                  refine Wx.gyes rfl rfl (congrArg Value.bool g_143) ?_
                  refine Wx.rd (v := .int .i64 j) (rd_move rfl) rfl ?_
                  refine Wx.gyes rfl rfl (congrArg Value.bool g_143) ?_
                  refine Wx.ex (rd_index 0 (hS.v 6 rfl) rfl rfl Try.underlying39 Try.sizeOf3 (by first | omega | (simp only [List.length_set, List.length_append, List.length_cons, List.length_nil, List.length_replicate]; omega)) (by first | omega | (simp only [List.length_set, List.length_append, List.length_cons, List.length_nil, List.length_replicate]; omega))) rfl (fun p_148 hp_149 => ?_)
                  refine Wx.gyes rfl rfl (congrArg Value.bool g_143) ?_
                  refine Wx.rd (v := .int .i64 (ix 0 (numW (shG zs) l) j)) (rd_loadI hp_149 rfl Try.isAgg3 Try.sizeOf3) rfl ?_
                  have bd_150 := bd_i64 hp_149.inK
                  refine Wx.gyes rfl rfl (congrArg Value.bool g_143) ?_
                  refine Wx.rd (v := .bool (decide ((ix 0 (numW (shG zs) l) i) ≠ (ix 0 (numW (shG zs) l) j)))) (rd_neq rfl rfl) rfl ?_
                  refine Wx.gyes rfl rfl (congrArg Value.bool g_135) ?_
                  refine Wx.rd (v := .bool (decide ((ix 0 (numW (shG zs) l) i) ≠ (ix 0 (numW (shG zs) l) j)))) (rd_pickT (congrArg Value.bool g_143) rfl) rfl ?_
                  refine Wx.nilQ (fun _ _ => ⟨(), trivial, ⟨?_, trivial⟩, Out.look rfl Out.refl⟩)
                  show Value.bool (decide ((ix 0 (numW (shG zs) l) i) ≠ (ix 0 (numW (shG zs) l) j))) = Value.bool ((ix false TL (i * 6 + j) && ix false TL (j * 6 + i)) && decide ((ix 0 (numW (shG zs) l) i) ≠ (ix 0 (numW (shG zs) l) j)))
                  first | rw [g_143, Bool.true_and] | (rw [g_143]; rfl)
                · -- False
                  have gp_151 := g_143
                  try simp only [Bool.and_eq_true, Bool.or_eq_true, Bool.not_eq_true', Bool.and_eq_false_iff, Bool.or_eq_false_iff, Bool.not_eq_false', decide_eq_true_eq, decide_eq_false_iff_not, not_or, Bool.false_eq_true, Bool.true_eq_false, false_or, or_false, not_false_eq_true] at gp_151
                  refine Wx.gnoB rfl rfl (congrArg Value.bool g_143) rfl rfl ?_
                  refine Wx.gnoB rfl rfl (congrArg Value.bool g_143) rfl rfl ?_
                  refine Wx.gnoB rfl rfl (congrArg Value.bool g_143) rfl rfl ?_
                  refine Wx.gnoB rfl rfl (congrArg Value.bool g_143) rfl rfl ?_
                  refine Wx.gnoB rfl rfl (congrArg Value.bool g_143) rfl rfl ?_
                  refine Wx.gnoB rfl rfl (congrArg Value.bool g_143) rfl rfl ?_
                  refine Wx.gnoB rfl rfl (congrArg Value.bool g_143) rfl rfl ?_
                  refine Wx.gnoB rfl rfl (congrArg Value.bool g_143) rfl rfl ?_
                  refine Wx.gnoB rfl rfl (congrArg Value.bool g_143) rfl rfl ?_
                  refine Wx.gyes rfl rfl (congrArg Value.bool g_135) ?_
                  refine Wx.rd (v := .bool false) (rd_pickF (congrArg Value.bool g_143) rfl) rfl ?_
                  refine Wx.nilQ (fun _ _ => ⟨(), trivial, ⟨?_, trivial⟩, Out.look rfl Out.refl⟩)
                  show Value.bool false = Value.bool ((ix false TL (i * 6 + j) && ix false TL (j * 6 + i)) && decide ((ix 0 (numW (shG zs) l) i) ≠ (ix 0 (numW (shG zs) l) j)))
                  first | rw [g_143, Bool.false_and] | (rw [g_143]; rfl)
              rintro ⟨⟩ u_153 -
              refine Wx.rd (v := .bool ((ix false TL (i * 6 + j) && ix false TL (j * 6 + i)) && decide ((ix 0 (numW (shG zs) l) i) ≠ (ix 0 (numW (shG zs) l) j)))) (rd_pickF (congrArg Value.bool g_135) rfl) rfl ?_
              refine Wx.nilQ (fun _ _ => ⟨(), trivial, ⟨?_, trivial⟩, Out.look rfl (Out.hav rfl (Out.look rfl (Out.hav rfl (Out.look rfl Out.refl))))⟩)
              show Value.bool ((ix false TL (i * 6 + j) && ix false TL (j * 6 + i)) && decide ((ix 0 (numW (shG zs) l) i) ≠ (ix 0 (numW (shG zs) l) j))) = Value.bool (((ix false TB (i * 6 + j) && decide ((ix 0 (numW (shG zs) l) i) ≤ (ix 0 (numW (shG zs) l) j))) || (ix false TL (i * 6 + j) && decide ((ix 0 (numW (shG zs) l) i) < (ix 0 (numW (shG zs) l) j)))) || ((ix false TL (i * 6 + j) && ix false TL (j * 6 + i)) && decide ((ix 0 (numW (shG zs) l) i) ≠ (ix 0 (numW (shG zs) l) j))))
              first | rw [g_135, Bool.false_or] | (rw [g_135]; rfl)
          rintro ⟨⟩ u_155 -
          refine Wx.nilQ (fun w_156 hx_157 => ?_)
          have hS := hS.ext hx_157
          refine W.condF rfl (rk_false (fun h => nb_beat hnb hii (by rw [← hB i j hii hjj]; exact h)) (fun h => nb_led hnb hii hjj (by rw [← hL i j hii hjj]; exact h)) (fun h => nb_led hnb hjj hii (by rw [← hL j i hjj hii]; exact h))) ?_
          refine W.skip ?_
          refine W.reg ?_
          refine Wx.rd (v := .int .i64 (j + 1)) (rd_add rfl rfl (in_i64 (by omega) (by omega))) rfl ?_
          refine Wx.rd (v := .int .i64 (j + 1)) (rd_move rfl) rfl ?_
          refine Wx.nil ?_
          refine ⟨(many, j + 1), (by show (l.length - (j + 1)).toNat < (l.length - j).toNat; omega), ?_, ?_, Out.look rfl (Out.hav rfl (Out.look rfl (Out.hav rfl (Out.look rfl (Out.hav rfl (Out.look rfl Out.self))))))⟩
          · exact ⟨hS, (by first | omega | assumption), (by first | omega | assumption), (cnt_skip hjj (hB i j hii hjj) c4 g2), (by first | omega | assumption), (by first | omega | assumption)⟩
          · exact ⟨rfl, rfl, trivial⟩
      · -- no
        refine W.exit rfl ?_
        refine W.reg ?_
        refine Wx.rd (v := wv) (rd_move rfl) rfl ?_
        refine Wx.rd (v := .int .i64 many) (rd_move rfl) rfl ?_
        refine Wx.lit (t := (tI .i64)) (ys := [many]) (vs := [.int .i64 many]) elMd_39 hS rfl rfl ⟨(V.mkInt (in_i64 (by omega) (by omega))), trivial⟩ (by decide) rfl (fun v_158 w_159 hx_160 hS => ?_)
        refine Wx.append elMd_39 hS 1 rfl rfl rfl (Src.ofR hS 0 rfl) (by simp only [maxLen]; simp; omega) (by simp; omega) rfl (fun v_161 w_162 hz_163 hS => ?_)
        refine Wx.rd (v := v_161) (rd_assign rfl) rfl ?_
        refine Wx.nil ?_
        refine W.reg ?_
        refine Wx.rd (v := .int .i64 (i + 1)) (rd_add rfl rfl (in_i64 (by omega) (by omega))) rfl ?_
        refine Wx.rd (v := .int .i64 (i + 1)) (rd_move rfl) rfl ?_
        refine Wx.nil ?_
        refine ⟨(i + 1, v_161, want ++ [many]), (by show (l.length - (i + 1)).toNat < (l.length - i).toNat; omega), ?_, ?_, Out.look rfl (Out.hav rfl (Out.look rfl Out.self))⟩
        · exact ⟨hS.tl, (by first | omega | assumption), (by first | omega | assumption), (by rw [rng_snoc h0, List.map_append, ← h2, List.map_singleton, ← g2, cntR_end (by omega), Int.add_zero]), (by simp only [List.length_append, List.length_cons, List.length_nil]; omega)⟩
        · exact ⟨rfl, rfl, trivial⟩
    · -- no
      refine W.exit rfl ?_
      refine W.seq ?_
      refine W.reg ?_
      refine Wx.rd (v := v_21) (rd_move rfl) rfl ?_
      refine Wx.rd (v := wv) (rd_move rfl) rfl ?_
      refine Wx.callF (run_callF Try.call33 rfl) (F33 (hS.lend 7 rfl) (hS.lend 0 rfl)) rfl ?_
      rintro r_164 w_165 hx_166 rfl
      have hS := hS.ext hx_166
      rw [show (decide ((ranksL (shG zs) l) = want) : Bool) = true from (decide_eq_true (by rw [ry2, h2, show i = (l.length : Int) by omega]))]
      refine Wx.rd (v := .bool true) (rd_move rfl) rfl ?_
      refine Wx.gyes rfl rfl rfl ?_
      refine Wx.callF (run_callF Try.call16 rfl) (F16 hS.fb_lt) rfl ?_
      rintro r_167 w_168 hx_169 rfl
      have hS := hS.ext hx_169
      refine Wx.rd (v := .bool true) (rd_pickT rfl rfl) rfl ?_
      refine Wx.rd (v := .bool true) (rd_assign rfl) rfl ?_
      refine Wx.nil ?_
      exact W.ret ⟨.bool true, ResIs.one, hS.bel, rfl⟩
end Go.Proofs.Ytjbcpggikaeleaa

namespace Go.Wk
open Go.RowKit Go.ChangeShapes
section
variable {H : Type} {enc : TypeId × Value → H} {P : Program} {W : World}
theorem RdI.arrayN {k : IntKind} {n m : Nat} {e t : TypeId} (hu : P.underlying t = some (.array n e)) (he : RdI enc P W k m e) (hc : P.cellsOf e = m) (hn : P.cellsOf t = n * m) : RdI enc P W k (n * m) t := by
  intro fuel cs x h
  obtain ⟨xs, f', _, _, hl, hx, hel⟩ := DataW.trod_array hu h
  rw [hc] at hel
  rw [hn] at hl
  have h1 : ∀ j, j ≤ n → ∃ zs : List Int, zs.length = j * m ∧ cs.take (j * m) = zs.map (Value.int k) ∧ ∀ z ∈ zs, InK k z := by
    intro j
    induction j with
    | zero => exact fun _ => ⟨[], by simp, by simp, fun z hz => by cases hz⟩
    | succ j ih =>
      intro hj
      obtain ⟨zs, l1, l2, l3⟩ := ih (by omega)
      have := hel j (by omega)
      cases hxi : xs[j]? with
      | none => rw [List.getElem?_eq_none_iff] at hxi; omega
      | some y =>
        rw [hxi] at this
        obtain ⟨zt, m1, m2, m3⟩ := he _ _ _ this
        refine ⟨zs ++ zt, by rw [List.length_append, l1, m1, Nat.succ_mul], ?_, fun z hz => (List.mem_append.1 hz).elim (l3 z) (m3 z)⟩
        rw [Nat.succ_mul, List.take_add, l2, List.map_append, ← m2]
  obtain ⟨zs, l1, l2, l3⟩ := h1 n (Nat.le_refl n)
  exact ⟨zs, l1, by rw [← l2, List.take_of_length_le (by omega)], l3⟩
end
end Go.Wk

namespace Go.Wk
open Go.RowKit Go.ChangeShapes
section
variable {H : Type} {enc : TypeId × Value → H} {P : Program} {W : World}
theorem drop_split (l : List Value) (a b : Nat) : l.drop a = (l.drop a).take b ++ l.drop (a + b) := by
  have := (List.take_append_drop b (l.drop a)).symm
  rw [List.drop_drop] at this
  exact this
theorem RdI.struct5 {k : IntKind} {t : TypeId} {f0 f1 f2 f3 f4 : Field} {m0 m1 m2 m3 m4 : Nat} (hu : P.underlying t = some (.struct #[f0, f1, f2, f3, f4])) (h0 : RdI enc P W k m0 f0.type) (h1 : RdI enc P W k m1 f1.type) (h2 : RdI enc P W k m2 f2.type) (h3 : RdI enc P W k m3 f3.type) (h4 : RdI enc P W k m4 f4.type)
    (c0 : P.cellsOf f0.type = m0) (c1 : P.cellsOf f1.type = m1) (c2 : P.cellsOf f2.type = m2) (c3 : P.cellsOf f3.type = m3) (c4 : P.cellsOf f4.type = m4) (o0 : f0.offset = 0) (o1 : f1.offset = m0) (o2 : f2.offset = m0 + m1) (o3 : f3.offset = m0 + m1 + m2) (o4 : f4.offset = m0 + m1 + m2 + m3)
    (hC : P.cellsOf t = m0 + m1 + m2 + m3 + m4) : RdI enc P W k (m0 + m1 + m2 + m3 + m4) t := by
  intro fuel cs x h
  obtain ⟨xs, n, _, rfl, hl, hlen, hf⟩ := DataW.trod_struct hu h
  match xs, hlen with
  | [y0, y1, y2, y3, y4], _ =>
    have r0 := hf 0 f0 rfl
    have r1 := hf 1 f1 rfl
    have r2 := hf 2 f2 rfl
    have r3 := hf 3 f3 rfl
    have r4 := hf 4 f4 rfl
    rw [c0, o0] at r0
    rw [c1, o1] at r1
    rw [c2, o2] at r2
    rw [c3, o3] at r3
    rw [c4, o4] at r4
    rw [hC] at hl
    obtain ⟨z0, l0, e0, i0⟩ := h0 _ _ _ (by simpa using r0)
    obtain ⟨z1, l1, e1, i1⟩ := h1 _ _ _ (by simpa using r1)
    obtain ⟨z2, l2, e2, i2⟩ := h2 _ _ _ (by simpa using r2)
    obtain ⟨z3, l3, e3, i3⟩ := h3 _ _ _ (by simpa using r3)
    obtain ⟨z4, l4, e4, i4⟩ := h4 _ _ _ (by simpa using r4)
    refine ⟨z0 ++ (z1 ++ (z2 ++ (z3 ++ z4))), by simp only [List.length_append, l0, l1, l2, l3, l4]; omega, ?_, fun z hz => ?_⟩
    · have e5 : (cs.drop (m0 + m1 + m2 + m3)).take m4 = cs.drop (m0 + m1 + m2 + m3) := List.take_of_length_le (by rw [List.length_drop]; omega)
      rw [List.map_append, List.map_append, List.map_append, List.map_append, ← e0, ← e1, ← e2, ← e3, ← e4, e5, ← drop_split, ← drop_split, ← drop_split, List.take_append_drop]
    · rw [List.mem_append, List.mem_append, List.mem_append, List.mem_append] at hz
      rcases hz with hz | hz | hz | hz | hz
      · exact i0 z hz
      · exact i1 z hz
      · exact i2 z hz
      · exact i3 z hz
      · exact i4 z hz
end
end Go.Wk

namespace Go.Proofs.Ytjbcpggikaeleaa.tasteRanked
open Go.ChangeShapes Go.WideShapes Go.ChangeAt Go.RowKit Go.Joins Go.Wk
set_option linter.unusedVariables false

theorem own : ownKnob Try.prog.godebug = none := by kernel_rfl
theorem laidOut : laidOutB Try.prog = true := by kernel_rfl
theorem cells5 : Try.prog.cellsOf 5 = 1 := by kernel_rfl
theorem cells63 : Try.prog.cellsOf 63 = 3 := by kernel_rfl
theorem cells64 : Try.prog.cellsOf 64 = 18 := by kernel_rfl
theorem cells66 : Try.prog.cellsOf 66 = 39 := by kernel_rfl

set_option maxRecDepth 100000 in
theorem lifted (os : Os) (started : os.Started) (H : Type) (enc : TypeId × Value → H) :
    ReturnsInHanded {} Try.checked os 12 .any (Rows.tasteRankedSpec.pre6 enc Try.prog Try.f12 Rows.tasteRankedRow.domain false) (Rows.tasteRankedSpec.post enc Try.prog Try.f12 false true false false) := by
  refine returnsInHanded_of_change (C := Try.checked) own started (by kernel_rfl) Try.func12
    (ChangeSpec.witness6 (enc := enc) (C := Try.checked) false ⟨#[], #[.agg #[.int .u8 0, .int .u8 0, .int .u8 0, .int .u8 0, .int .u8 0, .int .u8 0, .int .u8 0, .int .u8 0, .int .u8 0, .int .u8 0, .int .u8 0, .int .u8 0, .int .u8 0, .int .u8 0, .int .u8 0, .int .u8 0, .int .u8 0, .int .u8 0, .int .u8 0, .int .u8 0, .int .u8 0, .int .u8 0, .int .u8 0, .int .u8 0, .int .u8 0, .int .u8 0, .int .u8 0, .int .u8 0, .int .u8 0, .int .u8 0, .int .u8 0, .int .u8 0, .int .u8 0, .int .u8 0, .int .u8 0, .int .u8 0, .int .u8 0, .int .u8 0, .int .u8 0]], []⟩ 8 (by kernel_rfl) (by kernel_rfl) (by kernel_rfl) (by kernel_rfl)) ?_
  intro W base args ds gs before hval0 hW hcnd _
  have hval : ∀ (j : Nat) t v, Try.f12.params[j]? = some t → args[j]? = some v → Value.okWide Try.prog W .any base t v := hval0
  have hW' := hW
  obtain ⟨p, q, hA0, hV, rfl, hfz, hnd⟩ := hW
  have hA : DataW.TrodAll enc Try.prog W 0 (fun _ => true) true Try.f12.params.toList args.toList ds p := hA0
  rw [Try.params12] at hA hval
  obtain ⟨v0, vs0, d0, ds0, p0, q0, hargs, rfl, rfl, h0, r0⟩ := trodAll_cons hA
  obtain ⟨rfl, rfl, rfl⟩ := trodAll_nil r0
  obtain rfl : args = #[v0] := by cases args; simp_all
  obtain ⟨rfl, rfl⟩ := trodVars_none hV
  have k0 := h0
  have lt0 : ∀ x ∈ p0, x.block < W.heap.size := by obtain ⟨m, hm⟩ := k0; exact DataW.trod_lt m _ _ _ hm
  obtain ⟨cs0, rfl, hsz0⟩ := okWide_struct Try.underlying66 (hval 0 66 v0 rfl rfl)
  obtain ⟨zs0, hz0, rfl, hin0⟩ := RdI.v (RdI.struct5 Try.underlying66 (RdI.int Try.underlying5) (RdI.int Try.underlying5) (RdI.int Try.underlying5) (RdI.arrayN (n := 6) Try.underlying64 (RdI.array Try.underlying63 Try.underlying5 cells5 cells63) cells63 cells64) (RdI.arrayN (n := 6) Try.underlying64 (RdI.array Try.underlying63 Try.underlying5 cells5 cells63) cells63 cells64) cells5 cells5 cells5 cells64 cells64 rfl rfl rfl rfl rfl cells66) h0
  clear hA0 hval0
  refine (F12 hz0 hin0 (fun b (h : some b ∈ ([] : List (Option Nat))) => nomatch h)).mono fun e W' hE => ?_
  obtain ⟨r, he, bel, hr⟩ := hE
  subst he
  subst hr
  exact ⟨_, rfl, _, _, _, [], _, [], hW', trodAll_mk1 (shut_bool Try.underlying4 _), (trodAll_cons_mk (Below.trod laidOut (by kernel_rfl) (of_decide_eq_true (by kernel_rfl)) k0 bel lt0) trodAll_mk0), rfl, bel.frame _, fun h => by cases h⟩

theorem over : Rows.tasteRankedRow.holds Try.pinned (OpenSpec.ofChange Rows.tasteRankedSpec) :=
  OpenClaim.holds_of_wide 12 Try.f12 rfl rfl rfl rfl rfl rfl rfl ⟨rfl, rfl, rfl, rfl, rfl⟩ rfl rfl rfl rfl rfl (by kernel_rfl) Try.func12 (by kernel_rfl)
    (of_decide_eq_true (by kernel_rfl)) (by unfold Func.isWrapper; first | (rw [if_pos (by decide +kernel)]; kernel_rfl) | (rw [if_neg (by decide +kernel)]; exact ⟨rfl, rfl⟩))
    (fun os started H enc _ => lifted os started H enc)

end Go.Proofs.Ytjbcpggikaeleaa.tasteRanked
namespace Go.Proofs.Ytjbcpggikaeleaa
/-- The statement. -/
theorem tasteRanked_proved : Rows.TasteRankedSaid := tasteRanked.over
#print axioms tasteRanked_proved
end Go.Proofs.Ytjbcpggikaeleaa
