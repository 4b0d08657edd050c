/-
  WHAT IS PROVED HERE, TEXT BY TEXT (several texts of one prover, joined to one file; the conditions stand in each statement):
  * WHAT IS PROVED HERE: what functions of layer 5 hand back, each out of its own code; the conditions stand in each statement.
  * WHAT IS PROVED HERE: what functions of layer 5 hand back, each out of its own code; the conditions stand in each statement.
  * WHAT IS PROVED HERE: what functions of layer 5 hand back, each out of its own code; the conditions stand in each statement.
  * WHAT IS PROVED HERE: what functions of layer 5 hand back, each out of its own code; the conditions stand in each statement.
-/
import Derived.Test.YtokdjjebnomciaaDoorProg
import Derived.Test.YtokdjjebnomciaaDoorU2
import Derived.Test.YtokdjjebnomciaaDoorU3

set_option linter.unusedVariables false
set_option linter.unusedSimpArgs false

namespace Go.Proofs.YtokdjjebnomciaaDoor
open Go.Wk Go.RowKit Go.Lib
set_option linter.unusedVariables false
set_option linter.unusedSimpArgs false
theorem mixedHe_ : Tryd.prog.follows .mixedOrders = true := by kernel_rfl
theorem elHe_22 : ElemI Tryd.prog 22 58 (.agg #[.int .i64 0, .int .i64 0]) 2 16 := ElemI.of Tryd.underlying22 (by kernel_rfl) (by first | rfl | kernel_rfl) (by decide)
theorem elHe_86 : ElemI Tryd.prog 86 22 ((.slice none 0 0)) 1 24 := ElemI.of Tryd.underlying86 (by kernel_rfl) (by first | rfl | kernel_rfl) (by decide)

theorem F92_rec : ∀ (fuel : Nat) {rim : ByteArray} {bv : Value} {begun : List (Int × Int)} {frm : Int} {least : Int} {O : List (Option Nat)} {w : World} (s_rim : rim.size ≤ maxLen) (h_bv : V (tSl (tP (tI .i64) (tI .i64))) begun bv O w) (i_frm : InK .i64 frm) (i_least : InK .i64 least) (p_12 : (rim.size : Int) ≤ 12) (p_l : Lets rim) (p_f : 0 ≤ frm) (p_f2 : frm ≤ rim.size) (p_b : (begun.length : Int) + rim.size - frm ≤ 100) (hO : ∀ b, some b ∈ O → b < w.heap.size) (hfuel : (rim.size - frm).toNat < fuel), Calls Tryd.prog 92 #[.string rim, bv, .int .i64 frm, .int .i64 least] w (Ret w (fun r w' => ∃ rv, r = rv ∧ FreshO (tSl (tP (tI .i64) (tI .i64))) 22 (PR (fitR rim) rim.size least begun frm) rv O w.heap.size w')) := by
  intro fuel
  induction fuel with
  | zero => intros; omega
  | succ fuel IH =>
  intro rim bv begun frm least O w s_rim h_bv i_frm i_least p_12 p_l p_f p_f2 p_b hO hfuel
  have b_least := bd_i64 i_least
  have b_frm := bd_i64 i_frm
  have a_bv := h_bv
  have l_bv := h_bv.len63
  have hS := St.start w O hO
  refine enterR Tryd.func92 rfl Tryd.ntmps92 Tryd.results92 rfl ?_
  refine W.seq ?_
  refine W.reg ?_
  refine Wx.rd (v := (.slice none 0 0)) (rd_assign rfl) rfl ?_
  refine Wx.nil ?_
  refine W.seq ?_
  refine W.reg ?_
  refine Wx.rd (v := (.slice none 0 0)) (rd_assign rfl) rfl ?_
  refine Wx.nil ?_
  refine W.seq ?_
  refine W.seq ?_
  refine W.reg ?_
  refine Wx.rd (v := bv) (rd_move rfl) rfl ?_
  refine Wx.rd (v := .int .i64 (begun.length : Int)) (rd_lenV rfl (hS.arg a_bv) Tryd.underlying22) rfl ?_
  refine Wx.rd (v := .string rim) (rd_move rfl) rfl ?_
  refine Wx.rd (v := .int .i64 (rim.size : Int)) (rd_lenS rfl Tryd.underlying9) rfl ?_
  refine Wx.rd (v := .int .i64 frm) (rd_move rfl) rfl ?_
  refine Wx.rd (v := .int .i64 ((rim.size : Int) - frm)) (rd_sub rfl rfl (in_i64 (by omega) (by omega))) rfl ?_
  refine Wx.rd (v := .int .i64 (((rim.size : Int) - frm) / 2)) (rd_quo rfl rfl (by omega) (by omega) (in_i64 (by omega) (by omega))) rfl ?_
  refine Wx.rd (v := .int .i64 ((begun.length : Int) + (((rim.size : Int) - frm) / 2))) (rd_add rfl rfl (in_i64 (by omega) (by omega))) rfl ?_
  refine Wx.rd (v := .int .i64 least) (rd_move rfl) rfl ?_
  refine Wx.rd (v := .bool (decide (((begun.length : Int) + (((rim.size : Int) - frm) / 2)) < least))) (rd_lss rfl rfl) rfl ?_
  refine Wx.nil ?_
  refine W.condD rfl (fun c0 => ?_) (fun c0 => ?_)
  · -- yes
    refine W.seq ?_
    refine W.reg ?_
    refine Wx.rd (v := (.slice none 0 0)) (rd_assign rfl) rfl ?_
    refine Wx.nil ?_
    have e0_0 : PR (fitR rim) rim.size least begun frm = [] := by exact PR_cut c0
    exact W.ret ⟨(.slice none 0 0), ResIs.one, hS.bel, ⟨(.slice none 0 0), rfl, (by rw [e0_0]; exact ((hS.addNil (tSl (tP (tI .i64) (tI .i64))) 22).frO 0 rfl))⟩⟩
  · -- no
    refine W.skip ?_
    refine W.seq ?_
    refine W.seq ?_
    refine W.reg ?_
    refine Wx.rd (v := .int .i64 frm) (rd_move rfl) rfl ?_
    refine Wx.rd (v := .int .i64 frm) (rd_assign rfl) rfl ?_
    refine Wx.nil ?_
    refine W.block ?_
    have hS := hS.addNil (tSl (tP (tI .i64) (tI .i64))) 22
    refine W.loop [9, 10, 11, 12, 24, 25, 26, 27, 28, 29, 30, 31, 32, 33, 34, 35, 36, 37, 38, 39, 40, 41, 42, 43, 44, 45, 46, 47, 48, 49, 50, 51, 52, 53, 54, 55, 56, 57, 58, 59, 60, 61, 62, 63, 64, 65, 66, 67, 68, 69, 70, 71, 72, 73, 74, 75] (fun x : Int × Value × (List (List (Int × Int))) => match x with | (i, ov, out) => [(10, .int .i64 i), (9, ov)]) (fun (x : Int × Value × (List (List (Int × Int)))) w' => match x with | (i, ov, out) => St w O w' [.row (tSl (tP (tI .i64) (tI .i64))) 22 ov out] ∧ frm ≤ i ∧ i ≤ rim.size ∧ out ++ (outR (fitR rim) rim.size least begun i ++ tailR least begun) = PR (fitR rim) rim.size least begun frm) (fun x : Int × Value × (List (List (Int × Int))) => match x with | (i, ov, out) => (rim.size - i).toNat) (frm, (.slice none 0 0), []) ⟨rfl, rfl, trivial⟩ ⟨hS, (by first | omega | simp), (by first | omega | simp), (by rw [List.nil_append, PR_eq c0])⟩ ?_
    rintro ⟨i, ov, out⟩ u_2 w_1 ⟨hS, h0, h1, h2⟩
    have hol : (out.length : Int) ≤ 479001600 := by have a := PR_bd (F := fitR rim) (n := rim.size) (least := least) (begun := begun) (frm := frm) p_f p_12; rw [← h2] at a; simp only [List.length_append] at a; omega
    refine W.seq ?_
    refine W.seq ?_
    refine W.reg ?_
    refine Wx.rd (v := .int .i64 i) (rd_move rfl) rfl ?_
    refine Wx.rd (v := .string rim) (rd_move rfl) rfl ?_
    refine Wx.rd (v := .int .i64 (rim.size : Int)) (rd_lenS rfl Tryd.underlying9) rfl ?_
    refine Wx.rd (v := .bool (decide (i < (rim.size : Int)))) (rd_lss rfl rfl) rfl ?_
    refine Wx.nil ?_
    refine W.condD rfl (fun c1 => ?_) (fun c1 => ?_)
    · -- yes
      refine W.skip ?_
      refine W.seq ?_
      refine W.block ?_
      refine W.seq ?_
      refine W.reg ?_
      refine Wx.rd (v := .int .i64 i) (rd_move rfl) rfl ?_
      refine Wx.rd (v := .int .i64 (i + 1)) (rd_add rfl rfl (in_i64 (by omega) (by omega))) rfl ?_
      refine Wx.rd (v := .int .i64 (i + 1)) (rd_assign rfl) rfl ?_
      refine Wx.nil ?_
      refine W.block ?_
      refine W.loop [9, 11, 12, 32, 33, 34, 35, 36, 37, 38, 39, 40, 41, 42, 43, 44, 45, 46, 47, 48, 49, 50, 51, 52, 53, 54, 55, 56, 57, 58, 59, 60, 61, 62, 63, 64, 65, 66, 67, 68, 69, 70, 71, 72, 73, 74, 75] (fun x : Int × Value × (List (List (Int × Int))) => match x with | (j, ov2, out2) => [(11, .int .i64 j), (9, ov2)]) (fun (x : Int × Value × (List (List (Int × Int)))) w' => match x with | (j, ov2, out2) => St w O w' [.row (tSl (tP (tI .i64) (tI .i64))) 22 ov2 out2] ∧ i + 1 ≤ j ∧ j ≤ rim.size ∧ out2 ++ ((if usedB begun i = true then [] else inR (fitR rim) rim.size least begun i j) ++ (outR (fitR rim) rim.size least begun (i + 1) ++ tailR least begun)) = PR (fitR rim) rim.size least begun frm) (fun x : Int × Value × (List (List (Int × Int))) => match x with | (j, ov2, out2) => (rim.size - j).toNat) (i + 1, ov, out) ⟨rfl, rfl, trivial⟩ ⟨hS, (by first | omega | simp), (by first | omega | simp), (by rw [← h2, outR_next c1, List.append_assoc])⟩ ?_
      rintro ⟨j, ov2, out2⟩ u_4 w_3 ⟨hS, g0, g1, g2⟩
      have hol : (out2.length : Int) ≤ 479001600 := by have a := PR_bd (F := fitR rim) (n := rim.size) (least := least) (begun := begun) (frm := frm) p_f p_12; rw [← g2] at a; simp only [List.length_append] at a; omega
      refine W.seq ?_
      refine W.seq ?_
      refine W.reg ?_
      refine Wx.rd (v := .int .i64 j) (rd_move rfl) rfl ?_
      refine Wx.rd (v := .string rim) (rd_move rfl) rfl ?_
      refine Wx.rd (v := .int .i64 (rim.size : Int)) (rd_lenS rfl Tryd.underlying9) rfl ?_
      refine Wx.rd (v := .bool (decide (j < (rim.size : Int)))) (rd_lss rfl rfl) rfl ?_
      refine Wx.rd (v := .bool (decide (j < (rim.size : Int)))) (rd_move rfl) rfl ?_
      refine Wx.cut (X := Unit) 5 [37, 38, 39, 40, 41] (fun _ => [(41, .bool (decide (j < (rim.size : Int)) && !(usedB begun i)))]) (fun _ w' => St w O w' [.row (tSl (tP (tI .i64) (tI .i64))) 22 ov2 out2]) ?_ ?_
      · rcases Bool.eq_false_or_eq_true (decide (j < (rim.size : Int))) with g_5 | g_5
        · -- True
          have gp_6 := of_decide_eq_true g_5
          refine Wx.gyes rfl rfl (congrArg Value.bool g_5) ?_
          refine Wx.rd (v := bv) (rd_move rfl) rfl ?_
          refine Wx.gyes rfl rfl (congrArg Value.bool g_5) ?_
          refine Wx.rd (v := .int .i64 i) (rd_move rfl) rfl ?_
          refine Wx.gyes rfl rfl (congrArg Value.bool g_5) ?_
          refine Wx.callF (run_callF Tryd.call63 rfl) (F63 (hS.arg a_bv) (in_i64 (by omega) (by omega))) rfl ?_
          rintro r_7 w_8 hx_9 rfl
          have hS := hS.ext hx_9
          refine Wx.gyes rfl rfl (congrArg Value.bool g_5) ?_
          refine Wx.rd (v := .bool (!(usedB begun i))) (rd_not rfl) rfl ?_
          refine Wx.rd (v := .bool (!(usedB begun i))) (rd_pickT (congrArg Value.bool g_5) rfl) rfl ?_
          refine Wx.nil ⟨(), hS, ⟨?_, trivial⟩, Out.look rfl Out.refl⟩
          show Value.bool (!(usedB begun i)) = Value.bool (decide (j < (rim.size : Int)) && !(usedB begun i))
          rw [g_5]; rfl
        · -- False
          have gp_10 := of_decide_eq_false g_5
          refine Wx.gnoB rfl rfl (congrArg Value.bool g_5) rfl rfl ?_
          refine Wx.gnoB rfl rfl (congrArg Value.bool g_5) rfl rfl ?_
          refine Wx.gnoB rfl rfl (congrArg Value.bool g_5) rfl rfl ?_
          refine Wx.gnoB rfl rfl (congrArg Value.bool g_5) rfl rfl ?_
          refine Wx.rd (v := .bool false) (rd_pickF (congrArg Value.bool g_5) rfl) rfl ?_
          refine Wx.nil ⟨(), hS, ⟨?_, trivial⟩, Out.look rfl Out.refl⟩
          show Value.bool false = Value.bool (decide (j < (rim.size : Int)) && !(usedB begun i))
          rw [g_5]; rfl
      rintro ⟨⟩ u_12 w_11 hS
      refine Wx.nil ?_
      refine W.cond rfl (fun c2 => ?_) (fun c2 => ?_)
      · -- yes
        try simp only [Bool.and_eq_true, Bool.or_eq_true, Bool.not_eq_true', Bool.and_eq_false_iff, Bool.or_eq_false_iff, Bool.not_eq_false', decide_eq_true_eq, decide_eq_false_iff_not, not_or, Bool.false_eq_true, Bool.true_eq_false, false_or, or_false, not_false_eq_true] at c2
        refine W.skip ?_
        refine W.seq ?_
        refine W.block ?_
        refine W.seq ?_
        refine W.reg ?_
        refine Wx.rd (v := .int .i64 i) (rd_move rfl) rfl ?_
        refine Wx.rd (v := .int .i64 j) (rd_move rfl) rfl ?_
        refine Wx.rd (v := .agg #[.int .i64 i, .int .i64 j]) (rd_build (vs := [(0, .int .i64 i), (1, .int .i64 j)]) rfl (by kernel_rfl)) rfl ?_
        refine Wx.alloc (cs := [.int .i64 0, .int .i64 0]) hS Tryd.zeroValue58 rfl rfl (fun g_13 w_14 hx_16 hb_15 hS => ?_)
        refine Wx.storeX (cs' := [.int .i64 i, .int .i64 j]) (ds := [.int .i64 i, .int .i64 j]) hS 0 rfl rfl rfl rfl Tryd.sizeOf58 (Nat.le_of_ble_eq_true rfl) (one_cons rfl (one_cons rfl one_nil)) rfl (fun w_17 hz_18 hS => ?_)
        refine Wx.nil ?_
        refine W.seq ?_
        refine W.reg ?_
        refine Wx.rd (v := .string rim) (rd_move rfl) rfl ?_
        refine Wx.rd (v := .int .i64 i) (rd_move rfl) rfl ?_
        refine Wx.rd (v := .int .i64 j) (rd_move rfl) rfl ?_
        refine Wx.callF (run_callF Tryd.call64 rfl) (F64 (by first | assumption | (simp only [maxLen]; omega) | (simp only [ByteArray.size_extract, ByteArray.size_append, maxLen] at *; omega) | decide) (in_i64 (by omega) (by omega)) (in_i64 (by omega) (by omega)) (by omega) (by omega) (by omega) (by omega) (by omega)) rfl ?_
        rintro r_19 w_20 hx_21 rfl
        have hS := hS.ext hx_21
        refine Wx.rd (v := .bool (fitR rim i j)) (rd_move rfl) rfl ?_
        refine Wx.cut (X := Unit) 5 [52, 53, 54, 55, 56] (fun _ => [(56, .bool (fitR rim i j && !(usedB begun j)))]) (fun _ w' => St w O w' [.box g_13 58 [.int .i64 i, .int .i64 j], .row (tSl (tP (tI .i64) (tI .i64))) 22 ov2 out2]) ?_ ?_
        · rcases Bool.eq_false_or_eq_true (fitR rim i j) with g_22 | g_22
          · -- True
            have gp_23 := g_22
            try simp only [Bool.and_eq_true, Bool.or_eq_true, Bool.not_eq_true', Bool.and_eq_false_iff, Bool.or_eq_false_iff, Bool.not_eq_false', decide_eq_true_eq, decide_eq_false_iff_not, not_or, Bool.false_eq_true, Bool.true_eq_false, false_or, or_false, not_false_eq_true] at gp_23
            refine Wx.gyes rfl rfl (congrArg Value.bool g_22) ?_
            refine Wx.rd (v := bv) (rd_move rfl) rfl ?_
            refine Wx.gyes rfl rfl (congrArg Value.bool g_22) ?_
            refine Wx.rd (v := .int .i64 j) (rd_move rfl) rfl ?_
            refine Wx.gyes rfl rfl (congrArg Value.bool g_22) ?_
            refine Wx.callF (run_callF Tryd.call63 rfl) (F63 (hS.arg a_bv) (in_i64 (by omega) (by omega))) rfl ?_
            rintro r_24 w_25 hx_26 rfl
            have hS := hS.ext hx_26
            refine Wx.gyes rfl rfl (congrArg Value.bool g_22) ?_
            refine Wx.rd (v := .bool (!(usedB begun j))) (rd_not rfl) rfl ?_
            refine Wx.rd (v := .bool (!(usedB begun j))) (rd_pickT (congrArg Value.bool g_22) rfl) rfl ?_
            refine Wx.nil ⟨(), hS, ⟨?_, trivial⟩, Out.look rfl Out.refl⟩
            show Value.bool (!(usedB begun j)) = Value.bool (fitR rim i j && !(usedB begun j))
            rw [g_22]; rfl
          · -- False
            have gp_27 := g_22
            try simp only [Bool.and_eq_true, Bool.or_eq_true, Bool.not_eq_true', Bool.and_eq_false_iff, Bool.or_eq_false_iff, Bool.not_eq_false', decide_eq_true_eq, decide_eq_false_iff_not, not_or, Bool.false_eq_true, Bool.true_eq_false, false_or, or_false, not_false_eq_true] at gp_27
            refine Wx.gnoB rfl rfl (congrArg Value.bool g_22) rfl rfl ?_
            refine Wx.gnoB rfl rfl (congrArg Value.bool g_22) rfl rfl ?_
            refine Wx.gnoB rfl rfl (congrArg Value.bool g_22) rfl rfl ?_
            refine Wx.gnoB rfl rfl (congrArg Value.bool g_22) rfl rfl ?_
            refine Wx.rd (v := .bool false) (rd_pickF (congrArg Value.bool g_22) rfl) rfl ?_
            refine Wx.nil ⟨(), hS, ⟨?_, trivial⟩, Out.look rfl Out.refl⟩
            show Value.bool false = Value.bool (fitR rim i j && !(usedB begun j))
            rw [g_22]; rfl
        rintro ⟨⟩ u_29 w_28 hS
        refine Wx.rd (v := .bool (fitR rim i j && !(usedB begun j))) (rd_move rfl) rfl ?_
        refine Wx.cut (X := Unit) 5 [58, 59, 60, 61, 62] (fun _ => [(62, .bool ((fitR rim i j && !(usedB begun j)) && !(crossesB begun (i, j))))]) (fun _ w' => St w O w' [.box g_13 58 [.int .i64 i, .int .i64 j], .row (tSl (tP (tI .i64) (tI .i64))) 22 ov2 out2]) ?_ ?_
        · rcases Bool.eq_false_or_eq_true (fitR rim i j && !(usedB begun j)) with g_30 | g_30
          · -- True
            have gp_31 := g_30
            try simp only [Bool.and_eq_true, Bool.or_eq_true, Bool.not_eq_true', Bool.and_eq_false_iff, Bool.or_eq_false_iff, Bool.not_eq_false', decide_eq_true_eq, decide_eq_false_iff_not, not_or, Bool.false_eq_true, Bool.true_eq_false, false_or, or_false, not_false_eq_true] at gp_31
            refine Wx.gyes rfl rfl (congrArg Value.bool g_30) ?_
            refine Wx.rd (v := bv) (rd_move rfl) rfl ?_
            refine Wx.gyes rfl rfl (congrArg Value.bool g_30) ?_
            refine Wx.rd (v := .agg #[.int .i64 i, .int .i64 j]) (rd_loadXs (ds := [.int .i64 i, .int .i64 j]) hS 0 rfl rfl rfl rfl Tryd.isAgg58 Tryd.sizeOf58) rfl ?_
            refine Wx.gyes rfl rfl (congrArg Value.bool g_30) ?_
            refine Wx.callF (run_callF Tryd.call65 rfl) (F65 (hS.arg a_bv) (in_i64 (by omega) (by omega)) (in_i64 (by omega) (by omega))) rfl ?_
            rintro r_32 w_33 hx_34 rfl
            have hS := hS.ext hx_34
            refine Wx.gyes rfl rfl (congrArg Value.bool g_30) ?_
            refine Wx.rd (v := .bool (!(crossesB begun (i, j)))) (rd_not rfl) rfl ?_
            refine Wx.rd (v := .bool (!(crossesB begun (i, j)))) (rd_pickT (congrArg Value.bool g_30) rfl) rfl ?_
            refine Wx.nil ⟨(), hS, ⟨?_, trivial⟩, Out.look rfl Out.refl⟩
            show Value.bool (!(crossesB begun (i, j))) = Value.bool ((fitR rim i j && !(usedB begun j)) && !(crossesB begun (i, j)))
            rw [g_30]; rfl
          · -- False
            have gp_35 := g_30
            try simp only [Bool.and_eq_true, Bool.or_eq_true, Bool.not_eq_true', Bool.and_eq_false_iff, Bool.or_eq_false_iff, Bool.not_eq_false', decide_eq_true_eq, decide_eq_false_iff_not, not_or, Bool.false_eq_true, Bool.true_eq_false, false_or, or_false, not_false_eq_true] at gp_35
            refine Wx.gnoB rfl rfl (congrArg Value.bool g_30) rfl rfl ?_
            refine Wx.gnoB rfl rfl (congrArg Value.bool g_30) rfl rfl ?_
            refine Wx.gnoB rfl rfl (congrArg Value.bool g_30) rfl rfl ?_
            refine Wx.gnoB rfl rfl (congrArg Value.bool g_30) rfl rfl ?_
            refine Wx.rd (v := .bool false) (rd_pickF (congrArg Value.bool g_30) rfl) rfl ?_
            refine Wx.nil ⟨(), hS, ⟨?_, trivial⟩, Out.look rfl Out.refl⟩
            show Value.bool false = Value.bool ((fitR rim i j && !(usedB begun j)) && !(crossesB begun (i, j)))
            rw [g_30]; rfl
        rintro ⟨⟩ u_37 w_36 hS
        refine Wx.nil ?_
        refine W.cond rfl (fun c3 => ?_) (fun c3 => ?_)
        · -- yes
          try simp only [Bool.and_eq_true, Bool.or_eq_true, Bool.not_eq_true', Bool.and_eq_false_iff, Bool.or_eq_false_iff, Bool.not_eq_false', decide_eq_true_eq, decide_eq_false_iff_not, not_or, Bool.false_eq_true, Bool.true_eq_false, false_or, or_false, not_false_eq_true] at c3
          refine W.regP mixedHe_ (fun w_38 hx_39 => ?_)
          have hS := hS.ext hx_39
          refine Wp.rd (v := ov2) 0 rfl (by kernel_rfl) (fun _ => (rd_move rfl)) rfl ?_
          refine Wp.rd (v := .string rim) 1 rfl (by kernel_rfl) (fun _ => (rd_move rfl)) rfl ?_
          refine Wp.rd (v := bv) 3 rfl (by kernel_rfl) (fun _ => (rd_move rfl)) rfl ?_
          refine Wp.rd (v := .int .i64 i) 8 rfl (by kernel_rfl) (fun _ => (rd_move rfl)) rfl ?_
          refine Wp.rd (v := .int .i64 (i + 1)) 9 rfl (by kernel_rfl) (fun _ => (rd_add rfl rfl (in_i64 (by omega) (by omega)))) rfl ?_
          refine Wp.rd (v := .int .i64 least) 10 rfl (by kernel_rfl) (fun _ => (rd_move rfl)) rfl ?_
          refine Wp.br [2, 5] (by kernel_rfl) (by decide) ⟨⟨_, rfl, ?_⟩, ⟨_, rfl, ?_⟩, trivial⟩
          · -- operation 2
            refine Wx.lit (t := (tP (tI .i64) (tI .i64))) (ys := []) (vs := []) elHe_22 hS rfl rfl trivial (by decide) rfl (fun v_40 w_41 hx_42 hS => ?_)
            refine Wx.nil ?_
            refine Wp.br [4, 5] (by kernel_rfl) (by decide) ⟨⟨_, rfl, ?_⟩, ⟨_, rfl, ?_⟩, trivial⟩
            · -- operation 4
              refine Wx.append elHe_22 hS 0 rfl rfl rfl (Src.ofV (hS.arg a_bv)) (by simp only [maxLen]; simp; omega) (by simp; omega) rfl (fun v_43 w_44 hz_45 hS => ?_)
              refine Wx.nil ?_
              refine Wp.br [5] (by kernel_rfl) (by decide) ⟨⟨_, rfl, ?_⟩, trivial⟩
              refine Wx.rd (v := .agg #[.int .i64 i, .int .i64 j]) (rd_loadXs (ds := [.int .i64 i, .int .i64 j]) hS 1 rfl rfl rfl rfl Tryd.isAgg58 Tryd.sizeOf58) rfl ?_
              refine Wx.nil ?_
              refine Wp.br [6] (by kernel_rfl) (by decide) ⟨⟨_, rfl, ?_⟩, trivial⟩
              refine Wx.lit (t := (tP (tI .i64) (tI .i64))) (ys := [(i, j)]) (vs := [.agg #[.int .i64 i, .int .i64 j]]) elHe_22 hS rfl rfl ⟨(V.mk2 (in_i64 (by omega) (by omega)) (in_i64 (by omega) (by omega))), trivial⟩ (by decide) rfl (fun v_46 w_47 hx_48 hS => ?_)
              refine Wx.nil ?_
              refine Wp.br [7] (by kernel_rfl) (by decide) ⟨⟨_, rfl, ?_⟩, trivial⟩
              refine Wx.append elHe_22 hS 1 rfl rfl rfl (Src.ofR hS 0 rfl) (by simp only [maxLen]; simp; omega) (by simp; omega) rfl (fun v_49 w_50 hz_51 hS => ?_)
              refine Wx.nil ?_
              refine Wp.br [11] (by kernel_rfl) (by decide) ⟨⟨_, rfl, ?_⟩, trivial⟩
              have hS := hS.freeze 1 rfl
              refine Wx.callF (run_callF Tryd.call92 rfl) (IH (by first | assumption | (simp only [maxLen]; omega) | (simp only [ByteArray.size_extract, ByteArray.size_append, maxLen] at *; omega) | decide) (hS.v 0 rfl) (in_i64 (by omega) (by omega)) (in_i64 (by omega) (by omega)) (by omega) (by omega) (by omega) (by omega) (by simp only [List.length_append, List.length_cons, List.length_nil]; omega) hS.fb_lt (by omega)) rfl ?_
              rintro r_53 w_54 hx_55 ⟨_, rfl, hv_56⟩
              have hS := hS.pushFrO hx_55 hv_56
              refine Wx.nil ?_
              refine Wp.br [12] (by kernel_rfl) (by decide) ⟨⟨_, rfl, ?_⟩, trivial⟩
              have hpb := PR_bd (F := fitR rim) (n := rim.size) (least := least) (begun := begun ++ [(i, j)]) (frm := i + 1) (by omega) p_12
              refine Wx.append elHe_86 hS 4 rfl rfl rfl (Src.ofR hS 0 rfl) (by simp only [maxLen]; simp; omega) (by simp; omega) rfl (fun v_58 w_59 hz_60 hS => ?_)
              refine Wx.nil ?_
              refine Wp.rd (v := v_58) 13 rfl (by kernel_rfl) (fun _ => (rd_assign rfl)) rfl ?_
              refine Wp.done (by kernel_rfl) ?_
              refine W.reg ?_
              refine Wx.rd (v := .int .i64 j) (rd_move rfl) rfl ?_
              refine Wx.rd (v := .int .i64 (j + 1)) (rd_add rfl rfl (in_i64 (by omega) (by omega))) rfl ?_
              refine Wx.rd (v := .int .i64 (j + 1)) (rd_assign rfl) rfl ?_
              refine Wx.nil ?_
              refine ⟨(j + 1, v_58, out2 ++ (PR (fitR rim) rim.size least ([] ++ begun ++ [(i, j)]) (i + 1))), (by show (rim.size - (j + 1)).toNat < (rim.size - j).toNat; omega), ?_, ?_, Out.look rfl (Out.hav rfl (Out.look rfl (Out.hav rfl (Out.look rfl (Out.hav rfl (Out.look rfl Out.self))))))⟩
              · exact ⟨St.tl (St.tl (St.tl (hS.tl))), (by first | omega | assumption), (by first | omega | assumption), (by first | (rw [← g2, if_neg (by rw [c2.2]; decide), if_neg (by rw [c2.2]; decide), inR_next c2.1, if_pos (goes_yes c3)]; simp) | (rw [← g2, if_neg (by rw [c2.2]; decide), if_neg (by rw [c2.2]; decide), inR_next c2.1, if_neg (goes_no c3)]; simp))⟩
              · exact ⟨rfl, rfl, trivial⟩
            · -- operation 5
              refine Wx.rd (v := .agg #[.int .i64 i, .int .i64 j]) (rd_loadXs (ds := [.int .i64 i, .int .i64 j]) hS 1 rfl rfl rfl rfl Tryd.isAgg58 Tryd.sizeOf58) rfl ?_
              refine Wx.nil ?_
              refine Wp.br [4, 6] (by kernel_rfl) (by decide) ⟨⟨_, rfl, ?_⟩, ⟨_, rfl, ?_⟩, trivial⟩
              · -- operation 4
                refine Wx.append elHe_22 hS 0 rfl rfl rfl (Src.ofV (hS.arg a_bv)) (by simp only [maxLen]; simp; omega) (by simp; omega) rfl (fun v_61 w_62 hz_63 hS => ?_)
                refine Wx.nil ?_
                refine Wp.br [6] (by kernel_rfl) (by decide) ⟨⟨_, rfl, ?_⟩, trivial⟩
                refine Wx.lit (t := (tP (tI .i64) (tI .i64))) (ys := [(i, j)]) (vs := [.agg #[.int .i64 i, .int .i64 j]]) elHe_22 hS rfl rfl ⟨(V.mk2 (in_i64 (by omega) (by omega)) (in_i64 (by omega) (by omega))), trivial⟩ (by decide) rfl (fun v_64 w_65 hx_66 hS => ?_)
                refine Wx.nil ?_
                refine Wp.br [7] (by kernel_rfl) (by decide) ⟨⟨_, rfl, ?_⟩, trivial⟩
                refine Wx.append elHe_22 hS 1 rfl rfl rfl (Src.ofR hS 0 rfl) (by simp only [maxLen]; simp; omega) (by simp; omega) rfl (fun v_67 w_68 hz_69 hS => ?_)
                refine Wx.nil ?_
                refine Wp.br [11] (by kernel_rfl) (by decide) ⟨⟨_, rfl, ?_⟩, trivial⟩
                have hS := hS.freeze 1 rfl
                refine Wx.callF (run_callF Tryd.call92 rfl) (IH (by first | assumption | (simp only [maxLen]; omega) | (simp only [ByteArray.size_extract, ByteArray.size_append, maxLen] at *; omega) | decide) (hS.v 0 rfl) (in_i64 (by omega) (by omega)) (in_i64 (by omega) (by omega)) (by omega) (by omega) (by omega) (by omega) (by simp only [List.length_append, List.length_cons, List.length_nil]; omega) hS.fb_lt (by omega)) rfl ?_
                rintro r_71 w_72 hx_73 ⟨_, rfl, hv_74⟩
                have hS := hS.pushFrO hx_73 hv_74
                refine Wx.nil ?_
                refine Wp.br [12] (by kernel_rfl) (by decide) ⟨⟨_, rfl, ?_⟩, trivial⟩
                have hpb := PR_bd (F := fitR rim) (n := rim.size) (least := least) (begun := begun ++ [(i, j)]) (frm := i + 1) (by omega) p_12
                refine Wx.append elHe_86 hS 4 rfl rfl rfl (Src.ofR hS 0 rfl) (by simp only [maxLen]; simp; omega) (by simp; omega) rfl (fun v_76 w_77 hz_78 hS => ?_)
                refine Wx.nil ?_
                refine Wp.rd (v := v_76) 13 rfl (by kernel_rfl) (fun _ => (rd_assign rfl)) rfl ?_
                refine Wp.done (by kernel_rfl) ?_
                refine W.reg ?_
                refine Wx.rd (v := .int .i64 j) (rd_move rfl) rfl ?_
                refine Wx.rd (v := .int .i64 (j + 1)) (rd_add rfl rfl (in_i64 (by omega) (by omega))) rfl ?_
                refine Wx.rd (v := .int .i64 (j + 1)) (rd_assign rfl) rfl ?_
                refine Wx.nil ?_
                refine ⟨(j + 1, v_76, out2 ++ (PR (fitR rim) rim.size least ([] ++ begun ++ [(i, j)]) (i + 1))), (by show (rim.size - (j + 1)).toNat < (rim.size - j).toNat; omega), ?_, ?_, Out.look rfl (Out.hav rfl (Out.look rfl (Out.hav rfl (Out.look rfl (Out.hav rfl (Out.look rfl Out.self))))))⟩
                · exact ⟨St.tl (St.tl (St.tl (hS.tl))), (by first | omega | assumption), (by first | omega | assumption), (by first | (rw [← g2, if_neg (by rw [c2.2]; decide), if_neg (by rw [c2.2]; decide), inR_next c2.1, if_pos (goes_yes c3)]; simp) | (rw [← g2, if_neg (by rw [c2.2]; decide), if_neg (by rw [c2.2]; decide), inR_next c2.1, if_neg (goes_no c3)]; simp))⟩
                · exact ⟨rfl, rfl, trivial⟩
              · -- operation 6
                refine Wx.lit (t := (tP (tI .i64) (tI .i64))) (ys := [(i, j)]) (vs := [.agg #[.int .i64 i, .int .i64 j]]) elHe_22 hS rfl rfl ⟨(V.mk2 (in_i64 (by omega) (by omega)) (in_i64 (by omega) (by omega))), trivial⟩ (by decide) rfl (fun v_79 w_80 hx_81 hS => ?_)
                refine Wx.nil ?_
                refine Wp.br [4] (by kernel_rfl) (by decide) ⟨⟨_, rfl, ?_⟩, trivial⟩
                refine Wx.append elHe_22 hS 1 rfl rfl rfl (Src.ofV (hS.arg a_bv)) (by simp only [maxLen]; simp; omega) (by simp; omega) rfl (fun v_82 w_83 hz_84 hS => ?_)
                refine Wx.nil ?_
                refine Wp.br [7] (by kernel_rfl) (by decide) ⟨⟨_, rfl, ?_⟩, trivial⟩
                refine Wx.append elHe_22 hS 1 rfl rfl rfl (Src.ofR hS 0 rfl) (by simp only [maxLen]; simp; omega) (by simp; omega) rfl (fun v_85 w_86 hz_87 hS => ?_)
                refine Wx.nil ?_
                refine Wp.br [11] (by kernel_rfl) (by decide) ⟨⟨_, rfl, ?_⟩, trivial⟩
                have hS := hS.freeze 1 rfl
                refine Wx.callF (run_callF Tryd.call92 rfl) (IH (by first | assumption | (simp only [maxLen]; omega) | (simp only [ByteArray.size_extract, ByteArray.size_append, maxLen] at *; omega) | decide) (hS.v 0 rfl) (in_i64 (by omega) (by omega)) (in_i64 (by omega) (by omega)) (by omega) (by omega) (by omega) (by omega) (by simp only [List.length_append, List.length_cons, List.length_nil]; omega) hS.fb_lt (by omega)) rfl ?_
                rintro r_89 w_90 hx_91 ⟨_, rfl, hv_92⟩
                have hS := hS.pushFrO hx_91 hv_92
                refine Wx.nil ?_
                refine Wp.br [12] (by kernel_rfl) (by decide) ⟨⟨_, rfl, ?_⟩, trivial⟩
                have hpb := PR_bd (F := fitR rim) (n := rim.size) (least := least) (begun := begun ++ [(i, j)]) (frm := i + 1) (by omega) p_12
                refine Wx.append elHe_86 hS 4 rfl rfl rfl (Src.ofR hS 0 rfl) (by simp only [maxLen]; simp; omega) (by simp; omega) rfl (fun v_94 w_95 hz_96 hS => ?_)
                refine Wx.nil ?_
                refine Wp.rd (v := v_94) 13 rfl (by kernel_rfl) (fun _ => (rd_assign rfl)) rfl ?_
                refine Wp.done (by kernel_rfl) ?_
                refine W.reg ?_
                refine Wx.rd (v := .int .i64 j) (rd_move rfl) rfl ?_
                refine Wx.rd (v := .int .i64 (j + 1)) (rd_add rfl rfl (in_i64 (by omega) (by omega))) rfl ?_
                refine Wx.rd (v := .int .i64 (j + 1)) (rd_assign rfl) rfl ?_
                refine Wx.nil ?_
                refine ⟨(j + 1, v_94, out2 ++ (PR (fitR rim) rim.size least ([] ++ begun ++ [(i, j)]) (i + 1))), (by show (rim.size - (j + 1)).toNat < (rim.size - j).toNat; omega), ?_, ?_, Out.look rfl (Out.hav rfl (Out.look rfl (Out.hav rfl (Out.look rfl (Out.hav rfl (Out.look rfl Out.self))))))⟩
                · exact ⟨St.tl (St.tl (St.tl (hS.tl))), (by first | omega | assumption), (by first | omega | assumption), (by first | (rw [← g2, if_neg (by rw [c2.2]; decide), if_neg (by rw [c2.2]; decide), inR_next c2.1, if_pos (goes_yes c3)]; simp) | (rw [← g2, if_neg (by rw [c2.2]; decide), if_neg (by rw [c2.2]; decide), inR_next c2.1, if_neg (goes_no c3)]; simp))⟩
                · exact ⟨rfl, rfl, trivial⟩
          · -- operation 5
            refine Wx.rd (v := .agg #[.int .i64 i, .int .i64 j]) (rd_loadXs (ds := [.int .i64 i, .int .i64 j]) hS 0 rfl rfl rfl rfl Tryd.isAgg58 Tryd.sizeOf58) rfl ?_
            refine Wx.nil ?_
            refine Wp.br [2, 6] (by kernel_rfl) (by decide) ⟨⟨_, rfl, ?_⟩, ⟨_, rfl, ?_⟩, trivial⟩
            · -- operation 2
              refine Wx.lit (t := (tP (tI .i64) (tI .i64))) (ys := []) (vs := []) elHe_22 hS rfl rfl trivial (by decide) rfl (fun v_97 w_98 hx_99 hS => ?_)
              refine Wx.nil ?_
              refine Wp.br [4, 6] (by kernel_rfl) (by decide) ⟨⟨_, rfl, ?_⟩, ⟨_, rfl, ?_⟩, trivial⟩
              · -- operation 4
                refine Wx.append elHe_22 hS 0 rfl rfl rfl (Src.ofV (hS.arg a_bv)) (by simp only [maxLen]; simp; omega) (by simp; omega) rfl (fun v_100 w_101 hz_102 hS => ?_)
                refine Wx.nil ?_
                refine Wp.br [6] (by kernel_rfl) (by decide) ⟨⟨_, rfl, ?_⟩, trivial⟩
                refine Wx.lit (t := (tP (tI .i64) (tI .i64))) (ys := [(i, j)]) (vs := [.agg #[.int .i64 i, .int .i64 j]]) elHe_22 hS rfl rfl ⟨(V.mk2 (in_i64 (by omega) (by omega)) (in_i64 (by omega) (by omega))), trivial⟩ (by decide) rfl (fun v_103 w_104 hx_105 hS => ?_)
                refine Wx.nil ?_
                refine Wp.br [7] (by kernel_rfl) (by decide) ⟨⟨_, rfl, ?_⟩, trivial⟩
                refine Wx.append elHe_22 hS 1 rfl rfl rfl (Src.ofR hS 0 rfl) (by simp only [maxLen]; simp; omega) (by simp; omega) rfl (fun v_106 w_107 hz_108 hS => ?_)
                refine Wx.nil ?_
                refine Wp.br [11] (by kernel_rfl) (by decide) ⟨⟨_, rfl, ?_⟩, trivial⟩
                have hS := hS.freeze 1 rfl
                refine Wx.callF (run_callF Tryd.call92 rfl) (IH (by first | assumption | (simp only [maxLen]; omega) | (simp only [ByteArray.size_extract, ByteArray.size_append, maxLen] at *; omega) | decide) (hS.v 0 rfl) (in_i64 (by omega) (by omega)) (in_i64 (by omega) (by omega)) (by omega) (by omega) (by omega) (by omega) (by simp only [List.length_append, List.length_cons, List.length_nil]; omega) hS.fb_lt (by omega)) rfl ?_
                rintro r_110 w_111 hx_112 ⟨_, rfl, hv_113⟩
                have hS := hS.pushFrO hx_112 hv_113
                refine Wx.nil ?_
                refine Wp.br [12] (by kernel_rfl) (by decide) ⟨⟨_, rfl, ?_⟩, trivial⟩
                have hpb := PR_bd (F := fitR rim) (n := rim.size) (least := least) (begun := begun ++ [(i, j)]) (frm := i + 1) (by omega) p_12
                refine Wx.append elHe_86 hS 4 rfl rfl rfl (Src.ofR hS 0 rfl) (by simp only [maxLen]; simp; omega) (by simp; omega) rfl (fun v_115 w_116 hz_117 hS => ?_)
                refine Wx.nil ?_
                refine Wp.rd (v := v_115) 13 rfl (by kernel_rfl) (fun _ => (rd_assign rfl)) rfl ?_
                refine Wp.done (by kernel_rfl) ?_
                refine W.reg ?_
                refine Wx.rd (v := .int .i64 j) (rd_move rfl) rfl ?_
                refine Wx.rd (v := .int .i64 (j + 1)) (rd_add rfl rfl (in_i64 (by omega) (by omega))) rfl ?_
                refine Wx.rd (v := .int .i64 (j + 1)) (rd_assign rfl) rfl ?_
                refine Wx.nil ?_
                refine ⟨(j + 1, v_115, out2 ++ (PR (fitR rim) rim.size least ([] ++ begun ++ [(i, j)]) (i + 1))), (by show (rim.size - (j + 1)).toNat < (rim.size - j).toNat; omega), ?_, ?_, Out.look rfl (Out.hav rfl (Out.look rfl (Out.hav rfl (Out.look rfl (Out.hav rfl (Out.look rfl Out.self))))))⟩
                · exact ⟨St.tl (St.tl (St.tl (hS.tl))), (by first | omega | assumption), (by first | omega | assumption), (by first | (rw [← g2, if_neg (by rw [c2.2]; decide), if_neg (by rw [c2.2]; decide), inR_next c2.1, if_pos (goes_yes c3)]; simp) | (rw [← g2, if_neg (by rw [c2.2]; decide), if_neg (by rw [c2.2]; decide), inR_next c2.1, if_neg (goes_no c3)]; simp))⟩
                · exact ⟨rfl, rfl, trivial⟩
              · -- operation 6
                refine Wx.lit (t := (tP (tI .i64) (tI .i64))) (ys := [(i, j)]) (vs := [.agg #[.int .i64 i, .int .i64 j]]) elHe_22 hS rfl rfl ⟨(V.mk2 (in_i64 (by omega) (by omega)) (in_i64 (by omega) (by omega))), trivial⟩ (by decide) rfl (fun v_118 w_119 hx_120 hS => ?_)
                refine Wx.nil ?_
                refine Wp.br [4] (by kernel_rfl) (by decide) ⟨⟨_, rfl, ?_⟩, trivial⟩
                refine Wx.append elHe_22 hS 1 rfl rfl rfl (Src.ofV (hS.arg a_bv)) (by simp only [maxLen]; simp; omega) (by simp; omega) rfl (fun v_121 w_122 hz_123 hS => ?_)
                refine Wx.nil ?_
                refine Wp.br [7] (by kernel_rfl) (by decide) ⟨⟨_, rfl, ?_⟩, trivial⟩
                refine Wx.append elHe_22 hS 1 rfl rfl rfl (Src.ofR hS 0 rfl) (by simp only [maxLen]; simp; omega) (by simp; omega) rfl (fun v_124 w_125 hz_126 hS => ?_)
                refine Wx.nil ?_
                refine Wp.br [11] (by kernel_rfl) (by decide) ⟨⟨_, rfl, ?_⟩, trivial⟩
                have hS := hS.freeze 1 rfl
                refine Wx.callF (run_callF Tryd.call92 rfl) (IH (by first | assumption | (simp only [maxLen]; omega) | (simp only [ByteArray.size_extract, ByteArray.size_append, maxLen] at *; omega) | decide) (hS.v 0 rfl) (in_i64 (by omega) (by omega)) (in_i64 (by omega) (by omega)) (by omega) (by omega) (by omega) (by omega) (by simp only [List.length_append, List.length_cons, List.length_nil]; omega) hS.fb_lt (by omega)) rfl ?_
                rintro r_128 w_129 hx_130 ⟨_, rfl, hv_131⟩
                have hS := hS.pushFrO hx_130 hv_131
                refine Wx.nil ?_
                refine Wp.br [12] (by kernel_rfl) (by decide) ⟨⟨_, rfl, ?_⟩, trivial⟩
                have hpb := PR_bd (F := fitR rim) (n := rim.size) (least := least) (begun := begun ++ [(i, j)]) (frm := i + 1) (by omega) p_12
                refine Wx.append elHe_86 hS 4 rfl rfl rfl (Src.ofR hS 0 rfl) (by simp only [maxLen]; simp; omega) (by simp; omega) rfl (fun v_133 w_134 hz_135 hS => ?_)
                refine Wx.nil ?_
                refine Wp.rd (v := v_133) 13 rfl (by kernel_rfl) (fun _ => (rd_assign rfl)) rfl ?_
                refine Wp.done (by kernel_rfl) ?_
                refine W.reg ?_
                refine Wx.rd (v := .int .i64 j) (rd_move rfl) rfl ?_
                refine Wx.rd (v := .int .i64 (j + 1)) (rd_add rfl rfl (in_i64 (by omega) (by omega))) rfl ?_
                refine Wx.rd (v := .int .i64 (j + 1)) (rd_assign rfl) rfl ?_
                refine Wx.nil ?_
                refine ⟨(j + 1, v_133, out2 ++ (PR (fitR rim) rim.size least ([] ++ begun ++ [(i, j)]) (i + 1))), (by show (rim.size - (j + 1)).toNat < (rim.size - j).toNat; omega), ?_, ?_, Out.look rfl (Out.hav rfl (Out.look rfl (Out.hav rfl (Out.look rfl (Out.hav rfl (Out.look rfl Out.self))))))⟩
                · exact ⟨St.tl (St.tl (St.tl (hS.tl))), (by first | omega | assumption), (by first | omega | assumption), (by first | (rw [← g2, if_neg (by rw [c2.2]; decide), if_neg (by rw [c2.2]; decide), inR_next c2.1, if_pos (goes_yes c3)]; simp) | (rw [← g2, if_neg (by rw [c2.2]; decide), if_neg (by rw [c2.2]; decide), inR_next c2.1, if_neg (goes_no c3)]; simp))⟩
                · exact ⟨rfl, rfl, trivial⟩
            · -- operation 6
              refine Wx.lit (t := (tP (tI .i64) (tI .i64))) (ys := [(i, j)]) (vs := [.agg #[.int .i64 i, .int .i64 j]]) elHe_22 hS rfl rfl ⟨(V.mk2 (in_i64 (by omega) (by omega)) (in_i64 (by omega) (by omega))), trivial⟩ (by decide) rfl (fun v_136 w_137 hx_138 hS => ?_)
              refine Wx.nil ?_
              refine Wp.br [2] (by kernel_rfl) (by decide) ⟨⟨_, rfl, ?_⟩, trivial⟩
              refine Wx.lit (t := (tP (tI .i64) (tI .i64))) (ys := []) (vs := []) elHe_22 hS rfl rfl trivial (by decide) rfl (fun v_139 w_140 hx_141 hS => ?_)
              refine Wx.nil ?_
              refine Wp.br [4] (by kernel_rfl) (by decide) ⟨⟨_, rfl, ?_⟩, trivial⟩
              refine Wx.append elHe_22 hS 0 rfl rfl rfl (Src.ofV (hS.arg a_bv)) (by simp only [maxLen]; simp; omega) (by simp; omega) rfl (fun v_142 w_143 hz_144 hS => ?_)
              refine Wx.nil ?_
              refine Wp.br [7] (by kernel_rfl) (by decide) ⟨⟨_, rfl, ?_⟩, trivial⟩
              refine Wx.append elHe_22 hS 0 rfl rfl rfl (Src.ofR hS 1 rfl) (by simp only [maxLen]; simp; omega) (by simp; omega) rfl (fun v_145 w_146 hz_147 hS => ?_)
              refine Wx.nil ?_
              refine Wp.br [11] (by kernel_rfl) (by decide) ⟨⟨_, rfl, ?_⟩, trivial⟩
              have hS := hS.freeze 0 rfl
              refine Wx.callF (run_callF Tryd.call92 rfl) (IH (by first | assumption | (simp only [maxLen]; omega) | (simp only [ByteArray.size_extract, ByteArray.size_append, maxLen] at *; omega) | decide) (hS.v 0 rfl) (in_i64 (by omega) (by omega)) (in_i64 (by omega) (by omega)) (by omega) (by omega) (by omega) (by omega) (by simp only [List.length_append, List.length_cons, List.length_nil]; omega) hS.fb_lt (by omega)) rfl ?_
              rintro r_149 w_150 hx_151 ⟨_, rfl, hv_152⟩
              have hS := hS.pushFrO hx_151 hv_152
              refine Wx.nil ?_
              refine Wp.br [12] (by kernel_rfl) (by decide) ⟨⟨_, rfl, ?_⟩, trivial⟩
              have hpb := PR_bd (F := fitR rim) (n := rim.size) (least := least) (begun := begun ++ [(i, j)]) (frm := i + 1) (by omega) p_12
              refine Wx.append elHe_86 hS 4 rfl rfl rfl (Src.ofR hS 0 rfl) (by simp only [maxLen]; simp; omega) (by simp; omega) rfl (fun v_154 w_155 hz_156 hS => ?_)
              refine Wx.nil ?_
              refine Wp.rd (v := v_154) 13 rfl (by kernel_rfl) (fun _ => (rd_assign rfl)) rfl ?_
              refine Wp.done (by kernel_rfl) ?_
              refine W.reg ?_
              refine Wx.rd (v := .int .i64 j) (rd_move rfl) rfl ?_
              refine Wx.rd (v := .int .i64 (j + 1)) (rd_add rfl rfl (in_i64 (by omega) (by omega))) rfl ?_
              refine Wx.rd (v := .int .i64 (j + 1)) (rd_assign rfl) rfl ?_
              refine Wx.nil ?_
              refine ⟨(j + 1, v_154, out2 ++ (PR (fitR rim) rim.size least ([] ++ begun ++ [(i, j)]) (i + 1))), (by show (rim.size - (j + 1)).toNat < (rim.size - j).toNat; omega), ?_, ?_, Out.look rfl (Out.hav rfl (Out.look rfl (Out.hav rfl (Out.look rfl (Out.hav rfl (Out.look rfl Out.self))))))⟩
              · exact ⟨St.tl (St.tl (St.tl (hS.tl))), (by first | omega | assumption), (by first | omega | assumption), (by first | (rw [← g2, if_neg (by rw [c2.2]; decide), if_neg (by rw [c2.2]; decide), inR_next c2.1, if_pos (goes_yes c3)]; simp) | (rw [← g2, if_neg (by rw [c2.2]; decide), if_neg (by rw [c2.2]; decide), inR_next c2.1, if_neg (goes_no c3)]; simp))⟩
              · exact ⟨rfl, rfl, trivial⟩
        · -- no
          try simp only [Bool.and_eq_true, Bool.or_eq_true, Bool.not_eq_true', Bool.and_eq_false_iff, Bool.or_eq_false_iff, Bool.not_eq_false', decide_eq_true_eq, decide_eq_false_iff_not, not_or, Bool.false_eq_true, Bool.true_eq_false, false_or, or_false, not_false_eq_true] at c3
          refine W.skip ?_
          refine W.reg ?_
          refine Wx.rd (v := .int .i64 j) (rd_move rfl) rfl ?_
          refine Wx.rd (v := .int .i64 (j + 1)) (rd_add rfl rfl (in_i64 (by omega) (by omega))) rfl ?_
          refine Wx.rd (v := .int .i64 (j + 1)) (rd_assign rfl) rfl ?_
          refine Wx.nil ?_
          refine ⟨(j + 1, ov2, out2), (by show (rim.size - (j + 1)).toNat < (rim.size - j).toNat; omega), ?_, ?_, Out.look rfl (Out.hav rfl (Out.look rfl (Out.hav rfl (Out.look rfl (Out.hav rfl (Out.look rfl Out.self))))))⟩
          · exact ⟨hS.tl, (by first | omega | assumption), (by first | omega | assumption), (by first | (rw [← g2, if_neg (by rw [c2.2]; decide), if_neg (by rw [c2.2]; decide), inR_next c2.1, if_pos (goes_yes c3)]; simp) | (rw [← g2, if_neg (by rw [c2.2]; decide), if_neg (by rw [c2.2]; decide), inR_next c2.1, if_neg (goes_no c3)]; simp))⟩
          · exact ⟨rfl, rfl, trivial⟩
      · -- no
        try simp only [Bool.and_eq_true, Bool.or_eq_true, Bool.not_eq_true', Bool.and_eq_false_iff, Bool.or_eq_false_iff, Bool.not_eq_false', decide_eq_true_eq, decide_eq_false_iff_not, not_or, Bool.false_eq_true, Bool.true_eq_false, false_or, or_false, not_false_eq_true] at c2
        refine W.exit rfl ?_
        refine W.reg ?_
        refine Wx.rd (v := .int .i64 i) (rd_move rfl) rfl ?_
        refine Wx.rd (v := .int .i64 (i + 1)) (rd_add rfl rfl (in_i64 (by omega) (by omega))) rfl ?_
        refine Wx.rd (v := .int .i64 (i + 1)) (rd_assign rfl) rfl ?_
        refine Wx.nil ?_
        refine ⟨(i + 1, ov2, out2), (by show (rim.size - (i + 1)).toNat < (rim.size - i).toNat; omega), ?_, ?_, Out.look rfl (Out.hav rfl (Out.look rfl (Out.hav rfl (Out.look rfl Out.self))))⟩
        · exact ⟨hS, (by first | omega | assumption), (by first | omega | assumption), (by rw [← g2, inner_done c2, List.nil_append])⟩
        · exact ⟨rfl, rfl, trivial⟩
    · -- no
      refine W.exit rfl ?_
      refine W.seq ?_
      refine W.seq ?_
      refine W.reg ?_
      refine Wx.rd (v := bv) (rd_move rfl) rfl ?_
      refine Wx.rd (v := .int .i64 (begun.length : Int)) (rd_lenV rfl (hS.arg a_bv) Tryd.underlying22) rfl ?_
      refine Wx.rd (v := .int .i64 least) (rd_move rfl) rfl ?_
      refine Wx.rd (v := .bool (decide (least ≤ (begun.length : Int)))) (rd_geq rfl rfl) rfl ?_
      refine Wx.nil ?_
      refine W.condD rfl (fun c4 => ?_) (fun c4 => ?_)
      · -- yes
        refine W.reg ?_
        refine Wx.rd (v := ov) (rd_move rfl) rfl ?_
        refine Wx.rd (v := bv) (rd_move rfl) rfl ?_
        refine Wx.lit (t := (tSl (tP (tI .i64) (tI .i64)))) (ys := [begun]) (vs := [bv]) elHe_86 hS rfl rfl ⟨(hS.arg a_bv), trivial⟩ (by decide) rfl (fun v_157 w_158 hx_159 hS => ?_)
        refine Wx.append elHe_86 hS 1 rfl rfl rfl (Src.ofR hS 0 rfl) (by simp only [maxLen]; simp; omega) (by simp; omega) rfl (fun v_160 w_161 hz_162 hS => ?_)
        refine Wx.rd (v := v_160) (rd_assign rfl) rfl ?_
        refine Wx.nil ?_
        refine W.seq ?_
        refine W.reg ?_
        refine Wx.rd (v := v_160) (rd_move rfl) rfl ?_
        refine Wx.rd (v := v_160) (rd_assign rfl) rfl ?_
        refine Wx.nil ?_
        have e1_0 : PR (fitR rim) rim.size least begun frm = out ++ [begun] := by rw [← h2, outR_end (by omega), tailR, if_pos c4]; rfl
        exact W.ret ⟨v_160, ResIs.one, hS.bel, ⟨v_160, rfl, (by rw [e1_0]; exact (hS.frO 1 rfl))⟩⟩
      · -- no
        refine W.skip ?_
        refine W.seq ?_
        refine W.reg ?_
        refine Wx.rd (v := ov) (rd_move rfl) rfl ?_
        refine Wx.rd (v := ov) (rd_assign rfl) rfl ?_
        refine Wx.nil ?_
        have e2_0 : PR (fitR rim) rim.size least begun frm = out := by rw [← h2, outR_end (by omega), tailR, if_neg c4]; simp
        exact W.ret ⟨ov, ResIs.one, hS.bel, ⟨ov, rfl, (by rw [e2_0]; exact (hS.frO 0 rfl))⟩⟩
theorem F92 {rim : ByteArray} {bv : Value} {begun : List (Int × Int)} {frm : Int} {least : Int} {O : List (Option Nat)} {w : World} (s_rim : rim.size ≤ maxLen) (h_bv : V (tSl (tP (tI .i64) (tI .i64))) begun bv O w) (i_frm : InK .i64 frm) (i_least : InK .i64 least) (p_12 : (rim.size : Int) ≤ 12) (p_l : Lets rim) (p_f : 0 ≤ frm) (p_f2 : frm ≤ rim.size) (p_b : (begun.length : Int) + rim.size - frm ≤ 100) (hO : ∀ b, some b ∈ O → b < w.heap.size) : Calls Tryd.prog 92 #[.string rim, bv, .int .i64 frm, .int .i64 least] w (Ret w (fun r w' => ∃ rv, r = rv ∧ FreshO (tSl (tP (tI .i64) (tI .i64))) 22 (PR (fitR rim) rim.size least begun frm) rv O w.heap.size w')) := F92_rec _ s_rim h_bv i_frm i_least p_12 p_l p_f p_f2 p_b hO (Nat.lt_succ_self _)

theorem F68 {rim : ByteArray} {O : List (Option Nat)} {w : World} (s_rim : rim.size ≤ maxLen) (p_12 : (rim.size : Int) ≤ 12) (p_l : Lets rim) (hO : ∀ b, some b ∈ O → b < w.heap.size) : Calls Tryd.prog 68 #[.string rim] w (Ret w (fun r w' => ∃ gv, r = .tuple #[gv, .int .i64 ((allV rim).1)] ∧ V (tSl (tSl (tP (tI .i64) (tI .i64)))) (greatV rim) gv O w')) := by
  have hmh := most_half rim
  have hS := St.start w O hO
  refine enterR Tryd.func68 rfl Tryd.ntmps68 Tryd.results68 rfl ?_
  refine W.seq ?_
  refine W.reg ?_
  refine Wx.rd (v := (.slice none 0 0)) (rd_assign rfl) rfl ?_
  refine Wx.rd (v := .int .i64 0) (rd_assign rfl) rfl ?_
  refine Wx.nil ?_
  refine W.seq ?_
  refine W.reg ?_
  refine Wx.rd (v := .string rim) (rd_move rfl) rfl ?_
  refine Wx.rd (v := .int .i64 (rim.size : Int)) (rd_lenS rfl Tryd.underlying9) rfl ?_
  refine Wx.rd (v := .int .i64 ((rim.size : Int) / 2)) (rd_quo rfl rfl (by omega) (by omega) (in_i64 (by omega) (by omega))) rfl ?_
  refine Wx.rd (v := .int .i64 ((rim.size : Int) / 2)) (rd_assign rfl) rfl ?_
  refine Wx.nil ?_
  refine W.seq ?_
  refine W.reg ?_
  refine Wx.rd (v := .string rim) (rd_move rfl) rfl ?_
  refine Wx.rd (v := .int .i64 ((rim.size : Int) / 2)) (rd_move rfl) rfl ?_
  refine Wx.callF (run_callF Tryd.call92 rfl) (F92 (by first | assumption | (simp only [maxLen]; omega) | (simp only [ByteArray.size_extract, ByteArray.size_append, maxLen] at *; omega) | decide) (V.nil (t := (tP (tI .i64) (tI .i64)))) (in_i64 (by omega) (by omega)) (in_i64 (by omega) (by omega)) (by omega) (by omega) (by omega) (by omega) (by show (0 : Int) + _ - 0 ≤ 100; omega) hS.fb_lt) rfl ?_
  rintro r_1 w_2 hx_3 ⟨_, rfl, hv_4⟩
  have hS := hS.pushFrO hx_3 hv_4
  refine Wx.rd (v := r_1) (rd_assign rfl) rfl ?_
  refine Wx.nil ?_
  refine W.seq ?_
  refine W.block ?_
  have hS := hS.freeze 0 rfl
  have hv_8 : V (tSl (tSl (tP (tI .i64) (tI .i64)))) (PR (fitR rim) rim.size ((rim.size : Int) / 2) ([] : List (Int × Int)) 0) r_1 _ _ := (hS.v 0 rfl)
  have hS := hS.add (hv_8)
  refine W.loop [4, 5, 12, 13, 14, 15, 16, 17, 18, 19] (fun x : Int × Value × (List (List (Int × Int))) => match x with | (m, lv, l) => [(4, .int .i64 m), (5, lv)]) (fun (x : Int × Value × (List (List (Int × Int)))) w' => match x with | (m, lv, l) => St w O w' [Ob.v (tSl (tSl (tP (tI .i64) (tI .i64)))) l lv, Ob.v (tSl (tSl (tP (tI .i64) (tI .i64)))) (PR (fitR rim) rim.size ((rim.size : Int) / 2) ([] : List (Int × Int)) 0) r_1] ∧ (allV rim).1 ≤ m ∧ m ≤ 6 ∧ l = PR (fitR rim) rim.size m [] 0) (fun x : Int × Value × (List (List (Int × Int))) => match x with | (m, lv, l) => (m + 1).toNat) ((rim.size : Int) / 2, r_1, PR (fitR rim) rim.size ((rim.size : Int) / 2) ([] : List (Int × Int)) 0) ⟨rfl, rfl, trivial⟩ ⟨hS, (by first | omega | simp), (by first | omega | simp), (rfl)⟩ ?_
  rintro ⟨m, lv, l⟩ u_10 w_9 ⟨hS, h0, h1, h2⟩
  refine W.seq ?_
  refine W.seq ?_
  refine W.reg ?_
  refine Wx.rd (v := lv) (rd_move rfl) rfl ?_
  refine Wx.rd (v := .int .i64 (l.length : Int)) (rd_lenV rfl (hS.v 0 rfl) Tryd.underlying86) rfl ?_
  refine Wx.rd (v := .bool (decide ((l.length : Int) = 0))) (rd_eql rfl rfl) rfl ?_
  refine Wx.nil ?_
  refine W.condD rfl (fun c0 => ?_) (fun c0 => ?_)
  · -- yes
    refine W.skip ?_
    refine W.block ?_
    refine W.seq ?_
    refine W.reg ?_
    refine Wx.rd (v := .int .i64 m) (rd_move rfl) rfl ?_
    refine Wx.rd (v := .int .i64 (m - 1)) (rd_sub rfl rfl (in_i64 (by omega) (by omega))) rfl ?_
    refine Wx.rd (v := .int .i64 (m - 1)) (rd_assign rfl) rfl ?_
    refine Wx.nil ?_
    refine W.reg ?_
    refine Wx.rd (v := .string rim) (rd_move rfl) rfl ?_
    refine Wx.rd (v := .int .i64 (m - 1)) (rd_move rfl) rfl ?_
    refine Wx.callF (run_callF Tryd.call92 rfl) (F92 (by first | assumption | (simp only [maxLen]; omega) | (simp only [ByteArray.size_extract, ByteArray.size_append, maxLen] at *; omega) | decide) (V.nil (t := (tP (tI .i64) (tI .i64)))) (in_i64 (by omega) (by omega)) (in_i64 (by omega) (by omega)) (by omega) (by omega) (by omega) (by omega) (by show (0 : Int) + _ - 0 ≤ 100; omega) hS.fb_lt) rfl ?_
    rintro r_11 w_12 hx_13 ⟨_, rfl, hv_14⟩
    have hS := hS.pushFrO hx_13 hv_14
    refine Wx.rd (v := r_11) (rd_assign rfl) rfl ?_
    refine Wx.nil ?_
    have hS := hS.freeze 0 rfl
    have hge := great_empty h0 (by rw [← h2]; exact List.eq_nil_of_length_eq_zero (by omega))
    have hv_17 : V (tSl (tSl (tP (tI .i64) (tI .i64)))) (PR (fitR rim) rim.size (m - 1) ([] : List (Int × Int)) 0) r_11 _ _ := (hS.v 0 rfl)
    refine ⟨(m - 1, r_11, PR (fitR rim) rim.size (m - 1) ([] : List (Int × Int)) 0), (by show ((m - 1) + 1).toNat < (m + 1).toNat; omega), ?_, ?_, Out.look rfl Out.self⟩
    · exact ⟨(St.add (St.tl (St.tl (hS))) (V.tlF (V.tlF (hv_17)))), (by first | omega | assumption), (by first | omega | assumption), (rfl)⟩
    · exact ⟨rfl, rfl, trivial⟩
  · -- no
    refine W.exit rfl ?_
    refine W.seq ?_
    refine W.reg ?_
    refine Wx.rd (v := lv) (rd_move rfl) rfl ?_
    refine Wx.rd (v := .int .i64 m) (rd_move rfl) rfl ?_
    refine Wx.rd (v := lv) (rd_assign rfl) rfl ?_
    refine Wx.rd (v := .int .i64 m) (rd_assign rfl) rfl ?_
    refine Wx.nil ?_
    have e0_0 : greatV rim = l := by rw [h2, great_found h0 (by rw [← h2]; intro e; rw [e] at c0; exact c0 rfl), PR_all (by omega)]; rfl
    have e0_1 : ((allV rim).1) = (m : Int) := by exact (great_found h0 (by rw [← h2]; intro e; rw [e] at c0; exact c0 rfl)).symm
    exact W.ret ⟨.tuple #[lv, .int .i64 m], ResIs.two, hS.bel, ⟨lv, (by rw [e0_1]), (by rw [e0_0]; exact (V.mv (hS.v 0 rfl) (.less (fun _ h => List.mem_append.2 (.inr h)))))⟩⟩

theorem F22 {rim : ByteArray} {O : List (Option Nat)} {w : World} (s_rim : rim.size ≤ maxLen) (hO : ∀ b, some b ∈ O → b < w.heap.size) : Calls Tryd.prog 22 #[.string rim] w (Ret w (fun r _ => r = .tuple #[.int .i64 (mostV rim), .int .i64 (rimE rim)])) := by
  have hS := St.start w O hO
  refine enterR Tryd.func22 rfl Tryd.ntmps22 Tryd.results22 rfl ?_
  refine W.seq ?_
  refine W.reg ?_
  refine Wx.rd (v := .int .i64 0) (rd_assign rfl) rfl ?_
  refine Wx.rd (v := .int .i64 0) (rd_assign rfl) rfl ?_
  refine Wx.nil ?_
  refine W.seq ?_
  refine W.reg ?_
  refine Wx.rd (v := .string rim) (rd_move rfl) rfl ?_
  refine Wx.callF (run_callF Tryd.call18 rfl) (F18 (by first | assumption | (simp only [maxLen]; omega) | (simp only [ByteArray.size_extract, ByteArray.size_append, maxLen] at *; omega) | decide)) rfl ?_
  rintro r_1 w_2 hx_3 rfl
  have hS := hS.ext hx_3
  refine Wx.rd (v := .int .i64 (rimE rim)) (rd_assign rfl) rfl ?_
  refine Wx.nil ?_
  refine W.seq ?_
  refine W.seq ?_
  refine W.reg ?_
  refine Wx.rd (v := .int .i64 (rimE rim)) (rd_move rfl) rfl ?_
  refine Wx.rd (v := .bool (decide ((rimE rim) ≠ 0))) (rd_neq rfl rfl) rfl ?_
  refine Wx.nil ?_
  refine W.condD rfl (fun c0 => ?_) (fun c0 => ?_)
  · -- yes
    refine W.seq ?_
    refine W.reg ?_
    refine Wx.rd (v := .int .i64 (rimE rim)) (rd_move rfl) rfl ?_
    refine Wx.rd (v := .int .i64 0) (rd_assign rfl) rfl ?_
    refine Wx.rd (v := .int .i64 (rimE rim)) (rd_assign rfl) rfl ?_
    refine Wx.nil ?_
    have e0_0 : (mostV rim) = (0 : Int) := by rw [mostV, if_neg c0]
    exact W.ret ⟨.tuple #[.int .i64 0, .int .i64 (rimE rim)], ResIs.two, hS.bel, (by rw [e0_0])⟩
  · -- no
    have hr0 : rimE rim = 0 := by omega
    obtain ⟨hr1, hr2⟩ := rimE_ok hr0
    refine W.skip ?_
    refine W.seq ?_
    refine W.reg ?_
    refine Wx.rd (v := .string rim) (rd_move rfl) rfl ?_
    refine Wx.callF (run_callF Tryd.call68 rfl) (F68 (by first | assumption | (simp only [maxLen]; omega) | (simp only [ByteArray.size_extract, ByteArray.size_append, maxLen] at *; omega) | decide) (by omega) hr2 hS.fb_lt) rfl ?_
    rintro r_4 w_5 hx_6 ⟨v_7, rfl, hv_8⟩
    have ln_10 := hv_8.len63
    have hS := hS.ext hx_6
    have hS := hS.add hv_8
    refine Wx.rd (v := .tuple #[v_7, .int .i64 ((allV rim).1)]) (rd_move rfl) rfl ?_
    refine Wx.rd (v := v_7) (rd_extract rfl rfl) rfl ?_
    refine Wx.rd (v := .int .i64 ((allV rim).1)) (rd_extract rfl rfl) rfl ?_
    refine Wx.rd (v := v_7) (rd_assign rfl) rfl ?_
    refine Wx.rd (v := .int .i64 ((allV rim).1)) (rd_assign rfl) rfl ?_
    refine Wx.nil ?_
    refine W.seq ?_
    refine W.reg ?_
    refine Wx.rd (v := .int .i64 ((allV rim).1)) (rd_move rfl) rfl ?_
    refine Wx.rd (v := .int .i64 ((allV rim).1)) (rd_assign rfl) rfl ?_
    refine Wx.rd (v := .int .i64 0) (rd_assign rfl) rfl ?_
    refine Wx.nil ?_
    have e1_0 : (mostV rim) = ((allV rim).1 : Int) := by rw [mostV, if_pos hr0]
    have e1_1 : (rimE rim) = (0 : Int) := by exact hr0
    exact W.ret ⟨.tuple #[.int .i64 ((allV rim).1), .int .i64 0], ResIs.two, hS.bel, (by rw [e1_0, e1_1])⟩

theorem F24 {rim : ByteArray} {O : List (Option Nat)} {w : World} (s_rim : rim.size ≤ maxLen) (hO : ∀ b, some b ∈ O → b < w.heap.size) : Calls Tryd.prog 24 #[.string rim] w (Ret w (fun r _ => r = .tuple #[.int .i64 (countV rim), .int .i64 (rimE rim)])) := by
  have hS := St.start w O hO
  refine enterR Tryd.func24 rfl Tryd.ntmps24 Tryd.results24 rfl ?_
  refine W.seq ?_
  refine W.reg ?_
  refine Wx.rd (v := .int .i64 0) (rd_assign rfl) rfl ?_
  refine Wx.rd (v := .int .i64 0) (rd_assign rfl) rfl ?_
  refine Wx.nil ?_
  refine W.seq ?_
  refine W.reg ?_
  refine Wx.rd (v := .string rim) (rd_move rfl) rfl ?_
  refine Wx.callF (run_callF Tryd.call18 rfl) (F18 (by first | assumption | (simp only [maxLen]; omega) | (simp only [ByteArray.size_extract, ByteArray.size_append, maxLen] at *; omega) | decide)) rfl ?_
  rintro r_1 w_2 hx_3 rfl
  have hS := hS.ext hx_3
  refine Wx.rd (v := .int .i64 (rimE rim)) (rd_assign rfl) rfl ?_
  refine Wx.nil ?_
  refine W.seq ?_
  refine W.seq ?_
  refine W.reg ?_
  refine Wx.rd (v := .int .i64 (rimE rim)) (rd_move rfl) rfl ?_
  refine Wx.rd (v := .bool (decide ((rimE rim) ≠ 0))) (rd_neq rfl rfl) rfl ?_
  refine Wx.nil ?_
  refine W.condD rfl (fun c0 => ?_) (fun c0 => ?_)
  · -- yes
    refine W.seq ?_
    refine W.reg ?_
    refine Wx.rd (v := .int .i64 (rimE rim)) (rd_move rfl) rfl ?_
    refine Wx.rd (v := .int .i64 0) (rd_assign rfl) rfl ?_
    refine Wx.rd (v := .int .i64 (rimE rim)) (rd_assign rfl) rfl ?_
    refine Wx.nil ?_
    have e0_0 : (countV rim) = (0 : Int) := by rw [countV, if_neg c0]
    exact W.ret ⟨.tuple #[.int .i64 0, .int .i64 (rimE rim)], ResIs.two, hS.bel, (by rw [e0_0])⟩
  · -- no
    have hr0 : rimE rim = 0 := by omega
    obtain ⟨hr1, hr2⟩ := rimE_ok hr0
    refine W.skip ?_
    refine W.seq ?_
    refine W.reg ?_
    refine Wx.rd (v := .string rim) (rd_move rfl) rfl ?_
    refine Wx.callF (run_callF Tryd.call68 rfl) (F68 (by first | assumption | (simp only [maxLen]; omega) | (simp only [ByteArray.size_extract, ByteArray.size_append, maxLen] at *; omega) | decide) (by omega) hr2 hS.fb_lt) rfl ?_
    rintro r_4 w_5 hx_6 ⟨v_7, rfl, hv_8⟩
    have ln_10 := hv_8.len63
    have hS := hS.ext hx_6
    have hS := hS.add hv_8
    refine Wx.rd (v := .tuple #[v_7, .int .i64 ((allV rim).1)]) (rd_move rfl) rfl ?_
    refine Wx.rd (v := v_7) (rd_extract rfl rfl) rfl ?_
    refine Wx.rd (v := .int .i64 ((allV rim).1)) (rd_extract rfl rfl) rfl ?_
    refine Wx.rd (v := v_7) (rd_assign rfl) rfl ?_
    refine Wx.rd (v := .int .i64 ((allV rim).1)) (rd_assign rfl) rfl ?_
    refine Wx.nil ?_
    refine W.seq ?_
    refine W.reg ?_
    refine Wx.rd (v := v_7) (rd_move rfl) rfl ?_
    refine Wx.rd (v := .int .i64 ((greatV rim).length : Int)) (rd_lenV rfl (hS.v 0 rfl) Tryd.underlying86) rfl ?_
    refine Wx.rd (v := .int .i64 ((greatV rim).length : Int)) (rd_assign rfl) rfl ?_
    refine Wx.rd (v := .int .i64 0) (rd_assign rfl) rfl ?_
    refine Wx.nil ?_
    have e1_0 : (countV rim) = (((greatV rim).length : Int) : Int) := by rw [countV, if_pos hr0, great_len]
    have e1_1 : (rimE rim) = (0 : Int) := by exact hr0
    exact W.ret ⟨.tuple #[.int .i64 ((greatV rim).length : Int), .int .i64 0], ResIs.two, hS.bel, (by rw [e1_0, e1_1])⟩

theorem F26 {rim : ByteArray} {O : List (Option Nat)} {w : World} (s_rim : rim.size ≤ maxLen) (hO : ∀ b, some b ∈ O → b < w.heap.size) : Calls Tryd.prog 26 #[.string rim] w (Ret w (fun r w' => ∃ rv, r = .tuple #[rv, .int .i64 (rimE rim)] ∧ V (tSl (tP (tI .i64) (tI .i64))) (firstV rim) rv O w')) := by
  have hS := St.start w O hO
  refine enterR Tryd.func26 rfl Tryd.ntmps26 Tryd.results26 rfl ?_
  refine W.seq ?_
  refine W.reg ?_
  refine Wx.rd (v := (.slice none 0 0)) (rd_assign rfl) rfl ?_
  refine Wx.rd (v := .int .i64 0) (rd_assign rfl) rfl ?_
  refine Wx.nil ?_
  refine W.seq ?_
  refine W.reg ?_
  refine Wx.rd (v := .string rim) (rd_move rfl) rfl ?_
  refine Wx.callF (run_callF Tryd.call18 rfl) (F18 (by first | assumption | (simp only [maxLen]; omega) | (simp only [ByteArray.size_extract, ByteArray.size_append, maxLen] at *; omega) | decide)) rfl ?_
  rintro r_1 w_2 hx_3 rfl
  have hS := hS.ext hx_3
  refine Wx.rd (v := .int .i64 (rimE rim)) (rd_assign rfl) rfl ?_
  refine Wx.nil ?_
  refine W.seq ?_
  refine W.seq ?_
  refine W.reg ?_
  refine Wx.rd (v := .int .i64 (rimE rim)) (rd_move rfl) rfl ?_
  refine Wx.rd (v := .bool (decide ((rimE rim) ≠ 0))) (rd_neq rfl rfl) rfl ?_
  refine Wx.nil ?_
  refine W.condD rfl (fun c0 => ?_) (fun c0 => ?_)
  · -- yes
    refine W.seq ?_
    refine W.reg ?_
    refine Wx.rd (v := .int .i64 (rimE rim)) (rd_move rfl) rfl ?_
    refine Wx.rd (v := (.slice none 0 0)) (rd_assign rfl) rfl ?_
    refine Wx.rd (v := .int .i64 (rimE rim)) (rd_assign rfl) rfl ?_
    refine Wx.nil ?_
    have e0_0 : firstV rim = [] := by rw [firstV, if_neg c0]
    exact W.ret ⟨.tuple #[(.slice none 0 0), .int .i64 (rimE rim)], ResIs.two, hS.bel, ⟨(.slice none 0 0), rfl, (by rw [e0_0]; exact (V.nil (t := (tP (tI .i64) (tI .i64)))))⟩⟩
  · -- no
    have hr0 : rimE rim = 0 := by omega
    obtain ⟨hr1, hr2⟩ := rimE_ok hr0
    refine W.skip ?_
    refine W.seq ?_
    refine W.reg ?_
    refine Wx.rd (v := .string rim) (rd_move rfl) rfl ?_
    refine Wx.callF (run_callF Tryd.call68 rfl) (F68 (by first | assumption | (simp only [maxLen]; omega) | (simp only [ByteArray.size_extract, ByteArray.size_append, maxLen] at *; omega) | decide) (by omega) hr2 hS.fb_lt) rfl ?_
    rintro r_4 w_5 hx_6 ⟨v_7, rfl, hv_8⟩
    have ln_10 := hv_8.len63
    have hS := hS.ext hx_6
    have hS := hS.add hv_8
    refine Wx.rd (v := .tuple #[v_7, .int .i64 ((allV rim).1)]) (rd_move rfl) rfl ?_
    refine Wx.rd (v := v_7) (rd_extract rfl rfl) rfl ?_
    refine Wx.rd (v := .int .i64 ((allV rim).1)) (rd_extract rfl rfl) rfl ?_
    refine Wx.rd (v := v_7) (rd_assign rfl) rfl ?_
    refine Wx.rd (v := .int .i64 ((allV rim).1)) (rd_assign rfl) rfl ?_
    refine Wx.nil ?_
    refine W.seq ?_
    refine W.reg ?_
    have hgh := great_head rim
    have hg0 : 0 < (greatV rim).length := by cases hg : greatV rim with | nil => rw [hg] at hgh; cases hgh | cons a b => exact Nat.succ_pos _
    refine Wx.rd (v := v_7) (rd_move rfl) rfl ?_
    refine Wx.ex (rd_index [] (hS.v 0 rfl) rfl rfl Tryd.underlying86 Tryd.sizeOf22 (by first | omega | (simp only [List.length_set, List.length_append, List.length_cons, List.length_nil, List.length_replicate]; omega)) (by first | omega | (simp only [List.length_set, List.length_append, List.length_cons, List.length_nil, List.length_replicate]; omega))) rfl (fun p_11 hp_12 => ?_)
    refine Wx.ex (rd_load hp_12 rfl Tryd.isAgg22 Tryd.sizeOf22) rfl (fun v_13 hv_14 => ?_)
    have ln_15 := hv_14.len63
    have hS := hS.add hv_14
    refine Wx.rd (v := v_13) (rd_assign rfl) rfl ?_
    refine Wx.rd (v := .int .i64 0) (rd_assign rfl) rfl ?_
    refine Wx.nil ?_
    have e1_0 : firstV rim = ix [] (greatV rim) 0 := by rw [firstV, if_pos hr0]; exact (great_first rim).symm
    have e1_1 : (rimE rim) = (0 : Int) := by exact hr0
    exact W.ret ⟨.tuple #[v_13, .int .i64 0], ResIs.two, hS.bel, ⟨v_13, (by rw [e1_1]), (by rw [e1_0]; exact (V.mv (hS.v 0 rfl) (.less (fun _ h => List.mem_append.2 (.inr h)))))⟩⟩

theorem F72 {lv : Value} {l : List (Int × Int)} {Fr_lv : List (Option Nat)} {a : Int} {b : Int} {w : World} (h_lv : V (tSl (tP (tI .i64) (tI .i64))) l lv Fr_lv w) (i_a : InK .i64 a) (i_b : InK .i64 b) : Calls Tryd.prog 72 #[lv, .agg #[.int .i64 a, .int .i64 b]] w (Ret w (fun r _ => r = .bool (hasB l (a, b)))) := by
  have b_b := bd_i64 i_b
  have b_a := bd_i64 i_a
  have a_lv := h_lv.any
  have l_lv := h_lv.len63
  have hS := St.start0 w
  refine enterR Tryd.func72 rfl Tryd.ntmps72 Tryd.results72 rfl ?_
  refine W.seq ?_
  refine W.reg ?_
  refine Wx.box (cs := [.int .i64 a, .int .i64 b]) hS rfl rfl rfl (fun g_1 w_2 hx_4 hb_3 hS => ?_)
  refine Wx.rd (v := .bool false) (rd_assign rfl) rfl ?_
  refine Wx.nil ?_
  refine W.seq ?_
  refine W.seq ?_
  refine W.reg ?_
  refine Wx.rd (v := .int .i64 0) (rd_assign rfl) rfl ?_
  refine Wx.nil ?_
  refine W.block ?_
  refine W.loop [4, 5, 6, 7, 8, 9, 10, 11, 12, 13, 14, 15, 16, 17] (fun (k : Int) => [(5, .int .i64 k)]) (fun (k : Int) w' => St w [] w' [.box g_1 58 [.int .i64 a, .int .i64 b]] ∧ 0 ≤ k ∧ k ≤ l.length ∧ hasB (l.drop k.toNat) (a, b) = hasB l (a, b)) (fun (k : Int) => (l.length - k).toNat) 0 ⟨rfl, trivial⟩ ⟨hS, (by first | omega | simp), (by first | omega | simp), (by simp)⟩ ?_
  rintro k u_6 w_5 ⟨hS, h0, h1, h2⟩
  refine W.seq ?_
  refine W.seq ?_
  refine W.reg ?_
  refine Wx.rd (v := .int .i64 k) (rd_move rfl) rfl ?_
  refine Wx.rd (v := lv) (rd_move rfl) rfl ?_
  refine Wx.rd (v := .int .i64 (l.length : Int)) (rd_lenV rfl (hS.arg a_lv) Tryd.underlying22) rfl ?_
  refine Wx.rd (v := .bool (decide (k < (l.length : Int)))) (rd_lss rfl rfl) rfl ?_
  refine Wx.nil ?_
  refine W.condD rfl (fun c0 => ?_) (fun c0 => ?_)
  · -- yes
    refine W.skip ?_
    refine W.seq ?_
    refine W.block ?_
    refine W.seq ?_
    refine W.regQ mixedHe_ (by kernel_rfl) ?_
    refine Wx.rd (v := lv) (rd_move rfl) rfl ?_
    refine Wx.rd (v := .int .i64 k) (rd_move rfl) rfl ?_
    refine Wx.ex (rd_index (0, 0) (hS.arg a_lv) rfl rfl Tryd.underlying22 Tryd.sizeOf58 (by first | omega | (simp only [List.length_set, List.length_append, List.length_cons, List.length_nil, List.length_replicate]; omega)) (by first | omega | (simp only [List.length_set, List.length_append, List.length_cons, List.length_nil, List.length_replicate]; omega))) rfl (fun p_7 hp_8 => ?_)
    refine Wx.ex (rd_load hp_8 rfl Tryd.isAgg58 Tryd.sizeOf58) rfl (fun v_9 hv_10 => ?_)
    obtain ⟨rfl, bd_11, bd_12⟩ := hv_10.i2
    have bd_11 := bd_i64 bd_11
    have bd_12 := bd_i64 bd_12
    refine Wx.rd (v := .agg #[.int .i64 a, .int .i64 b]) (rd_loadXs (ds := [.int .i64 a, .int .i64 b]) hS 0 rfl rfl rfl rfl Tryd.isAgg58 Tryd.sizeOf58) rfl ?_
    refine Wx.rd (v := .bool (decide ((ix (0, 0) l k).1 = a) && decide ((ix (0, 0) l k).2 = b))) (rd_eqlA2 rfl rfl Tryd.underlying58 Tryd.underlying3 Tryd.sizeOf3 Tryd.eqGuardType58) rfl ?_
    refine Wx.nilQ (fun w_13 hx_14 => ?_)
    have hS := hS.ext hx_14
    refine W.cond rfl (fun c1 => ?_) (fun c1 => ?_)
    · -- yes
      try simp only [Bool.and_eq_true, Bool.or_eq_true, Bool.not_eq_true', Bool.and_eq_false_iff, Bool.or_eq_false_iff, Bool.not_eq_false', decide_eq_true_eq, decide_eq_false_iff_not, not_or, Bool.false_eq_true, Bool.true_eq_false, false_or, or_false, not_false_eq_true] at c1
      refine W.seq ?_
      refine W.reg ?_
      refine Wx.rd (v := .bool true) (rd_assign rfl) rfl ?_
      refine Wx.nil ?_
      have e0_0 : (hasB l (a, b)) = true := by exact hasB_yes h0 c0 h2 c1
      exact W.ret ⟨.bool true, ResIs.one, hS.bel, (by rw [e0_0])⟩
    · -- no
      try simp only [Bool.and_eq_true, Bool.or_eq_true, Bool.not_eq_true', Bool.and_eq_false_iff, Bool.or_eq_false_iff, Bool.not_eq_false', decide_eq_true_eq, decide_eq_false_iff_not, not_or, Bool.false_eq_true, Bool.true_eq_false, false_or, or_false, not_false_eq_true] at c1
      refine W.skip ?_
      refine W.reg ?_
      refine Wx.rd (v := .int .i64 k) (rd_move rfl) rfl ?_
      refine Wx.rd (v := .int .i64 (k + 1)) (rd_add rfl rfl (in_i64 (by omega) (by omega))) rfl ?_
      refine Wx.rd (v := .int .i64 (k + 1)) (rd_assign rfl) rfl ?_
      refine Wx.nil ?_
      refine ⟨k + 1, (by show (l.length - (k + 1)).toNat < (l.length - k).toNat; omega), ?_, ?_, Out.look rfl Out.self⟩
      · exact ⟨hS, (by first | omega | assumption), (by first | omega | assumption), (hasB_no h0 c0 h2 c1)⟩
      · exact ⟨rfl, trivial⟩
  · -- no
    refine W.exit rfl ?_
    refine W.seq ?_
    refine W.reg ?_
    refine Wx.rd (v := .bool false) (rd_assign rfl) rfl ?_
    refine Wx.nil ?_
    have e1_0 : (hasB l (a, b)) = false := by exact hasB_end (by omega) h2
    exact W.ret ⟨.bool false, ResIs.one, hS.bel, (by rw [e1_0])⟩

theorem F28 {rim : ByteArray} {O : List (Option Nat)} {w : World} (s_rim : rim.size ≤ maxLen) (hO : ∀ b, some b ∈ O → b < w.heap.size) : Calls Tryd.prog 28 #[.string rim] w (Ret w (fun r w' => ∃ rv, r = .tuple #[rv, .int .i64 (rimE rim)] ∧ Fresh (tP (tI .i64) (tI .i64)) 58 (forcedV rim) rv w.heap.size w')) := by
  have hS := St.start w O hO
  refine enterR Tryd.func28 rfl Tryd.ntmps28 Tryd.results28 rfl ?_
  refine W.seq ?_
  refine W.reg ?_
  refine Wx.rd (v := (.slice none 0 0)) (rd_assign rfl) rfl ?_
  refine Wx.rd (v := .int .i64 0) (rd_assign rfl) rfl ?_
  refine Wx.nil ?_
  refine W.seq ?_
  refine W.reg ?_
  refine Wx.rd (v := .string rim) (rd_move rfl) rfl ?_
  refine Wx.callF (run_callF Tryd.call18 rfl) (F18 (by first | assumption | (simp only [maxLen]; omega) | (simp only [ByteArray.size_extract, ByteArray.size_append, maxLen] at *; omega) | decide)) rfl ?_
  rintro r_1 w_2 hx_3 rfl
  have hS := hS.ext hx_3
  refine Wx.rd (v := .int .i64 (rimE rim)) (rd_assign rfl) rfl ?_
  refine Wx.nil ?_
  refine W.seq ?_
  refine W.seq ?_
  refine W.reg ?_
  refine Wx.rd (v := .int .i64 (rimE rim)) (rd_move rfl) rfl ?_
  refine Wx.rd (v := .bool (decide ((rimE rim) ≠ 0))) (rd_neq rfl rfl) rfl ?_
  refine Wx.nil ?_
  refine W.condD rfl (fun c0 => ?_) (fun c0 => ?_)
  · -- yes
    refine W.seq ?_
    refine W.reg ?_
    refine Wx.rd (v := .int .i64 (rimE rim)) (rd_move rfl) rfl ?_
    refine Wx.rd (v := (.slice none 0 0)) (rd_assign rfl) rfl ?_
    refine Wx.rd (v := .int .i64 (rimE rim)) (rd_assign rfl) rfl ?_
    refine Wx.nil ?_
    have e0_0 : forcedV rim = [] := by rw [forcedV, if_neg c0]
    exact W.ret ⟨.tuple #[(.slice none 0 0), .int .i64 (rimE rim)], ResIs.two, hS.bel, ⟨(.slice none 0 0), rfl, (by rw [e0_0]; exact ((hS.addNil (tP (tI .i64) (tI .i64)) 58).fr 0 rfl flat_i2))⟩⟩
  · -- no
    have hr0 : rimE rim = 0 := by omega
    obtain ⟨hr1, hr2⟩ := rimE_ok hr0
    have hgh := great_head rim
    have hg0 : 0 < (greatV rim).length := by cases hg : greatV rim with | nil => rw [hg] at hgh; cases hgh | cons a b => exact Nat.succ_pos _
    have hgf := great_first rim
    have hgl := firstP_len (F := fitR rim) (i := 0) (n := rim.size) (by omega)
    rw [← hgf] at hgl
    refine W.skip ?_
    refine W.seq ?_
    refine W.reg ?_
    refine Wx.rd (v := .string rim) (rd_move rfl) rfl ?_
    refine Wx.callF (run_callF Tryd.call68 rfl) (F68 (by first | assumption | (simp only [maxLen]; omega) | (simp only [ByteArray.size_extract, ByteArray.size_append, maxLen] at *; omega) | decide) (by omega) hr2 hS.fb_lt) rfl ?_
    rintro r_4 w_5 hx_6 ⟨v_7, rfl, hv_8⟩
    have ln_10 := hv_8.len63
    have hS := hS.ext hx_6
    have hS := hS.add hv_8
    refine Wx.rd (v := .tuple #[v_7, .int .i64 ((allV rim).1)]) (rd_move rfl) rfl ?_
    refine Wx.rd (v := v_7) (rd_extract rfl rfl) rfl ?_
    refine Wx.rd (v := .int .i64 ((allV rim).1)) (rd_extract rfl rfl) rfl ?_
    refine Wx.rd (v := v_7) (rd_assign rfl) rfl ?_
    refine Wx.rd (v := .int .i64 ((allV rim).1)) (rd_assign rfl) rfl ?_
    refine Wx.nil ?_
    refine W.seq ?_
    refine W.reg ?_
    refine Wx.rd (v := (.slice none 0 0)) (rd_assign rfl) rfl ?_
    refine Wx.nil ?_
    refine W.seq ?_
    refine W.seq ?_
    refine W.reg ?_
    refine Wx.rd (v := .int .i64 0) (rd_assign rfl) rfl ?_
    refine Wx.nil ?_
    refine W.block ?_
    have hS := hS.addNil (tP (tI .i64) (tI .i64)) 58
    refine W.loop [7, 8, 9, 10, 21, 22, 23, 24, 25, 26, 27, 28, 29, 30, 31, 32, 33, 34, 35, 36, 37, 38, 39, 40, 41, 42, 43, 44, 45, 46, 47, 48, 49, 50, 51, 52, 53, 54, 55, 56, 57, 58] (fun x : Int × Value × (List (Int × Int)) => match x with | (k, ov, out) => [(8, .int .i64 k), (7, ov)]) (fun (x : Int × Value × (List (Int × Int))) w' => match x with | (k, ov, out) => St w O w' [.row (tP (tI .i64) (tI .i64)) 58 ov out, Ob.v (tSl (tSl (tP (tI .i64) (tI .i64)))) (greatV rim) v_7] ∧ 0 ≤ k ∧ k ≤ (ix [] (greatV rim) 0).length ∧ out ++ ((ix [] (greatV rim) 0).drop k.toNat).filter (fun x => (greatV rim).all fun p => hasB p x) = (ix [] (greatV rim) 0).filter (fun x => (greatV rim).all fun p => hasB p x) ∧ (out.length : Int) ≤ k) (fun x : Int × Value × (List (Int × Int)) => match x with | (k, ov, out) => ((ix [] (greatV rim) 0).length - k).toNat) (0, (.slice none 0 0), []) ⟨rfl, rfl, trivial⟩ ⟨hS, (by first | omega | simp), (by first | omega | simp), (by simp), (Int.le_refl 0)⟩ ?_
    rintro ⟨k, ov, out⟩ u_12 w_11 ⟨hS, h0, h1, h2, h3⟩
    refine W.seq ?_
    refine W.seq ?_
    refine W.reg ?_
    refine Wx.rd (v := .int .i64 k) (rd_move rfl) rfl ?_
    refine Wx.rd (v := v_7) (rd_move rfl) rfl ?_
    refine Wx.ex (rd_index [] (hS.v 1 rfl) rfl rfl Tryd.underlying86 Tryd.sizeOf22 (by first | omega | (simp only [List.length_set, List.length_append, List.length_cons, List.length_nil, List.length_replicate]; omega)) (by first | omega | (simp only [List.length_set, List.length_append, List.length_cons, List.length_nil, List.length_replicate]; omega))) rfl (fun p_13 hp_14 => ?_)
    refine Wx.ex (rd_load hp_14 rfl Tryd.isAgg22 Tryd.sizeOf22) rfl (fun v_15 hv_16 => ?_)
    have ln_17 := hv_16.len63
    have hS := hS.add hv_16
    refine Wx.rd (v := .int .i64 ((ix [] (greatV rim) 0).length : Int)) (rd_lenV rfl (hS.v 0 rfl) Tryd.underlying22) rfl ?_
    refine Wx.rd (v := .bool (decide (k < ((ix [] (greatV rim) 0).length : Int)))) (rd_lss rfl rfl) rfl ?_
    refine Wx.nil ?_
    refine W.condD rfl (fun c1 => ?_) (fun c1 => ?_)
    · -- yes
      refine W.skip ?_
      refine W.seq ?_
      refine W.block ?_
      refine W.seq ?_
      refine W.reg ?_
      refine Wx.rd (v := .bool true) (rd_assign rfl) rfl ?_
      refine Wx.nil ?_
      refine W.seq ?_
      refine W.seq ?_
      refine W.reg ?_
      refine Wx.rd (v := .int .i64 0) (rd_assign rfl) rfl ?_
      refine Wx.nil ?_
      refine W.block ?_
      refine W.loop [9, 10, 29, 30, 31, 32, 33, 34, 35, 36, 37, 38, 39, 40, 41, 42, 43, 44, 45, 46, 47, 48] (fun x : Bool × Int => match x with | (al, i) => [(9, .bool al), (10, .int .i64 i)]) (fun (x : Bool × Int) w' => match x with | (al, i) => St w O w' [Ob.v (tSl (tP (tI .i64) (tI .i64))) (ix [] (greatV rim) 0) v_15, .row (tP (tI .i64) (tI .i64)) 58 ov out, Ob.v (tSl (tSl (tP (tI .i64) (tI .i64)))) (greatV rim) v_7] ∧ 0 ≤ i ∧ i ≤ (greatV rim).length ∧ (al && ((greatV rim).drop i.toNat).all (fun p => hasB p (ix (0, 0) (ix [] (greatV rim) 0) k))) = (greatV rim).all (fun p => hasB p (ix (0, 0) (ix [] (greatV rim) 0) k))) (fun x : Bool × Int => match x with | (al, i) => ((greatV rim).length - i).toNat) (true, 0) ⟨rfl, rfl, trivial⟩ ⟨hS, (by first | omega | simp), (by first | omega | simp), (rfl)⟩ ?_
      rintro ⟨al, i⟩ u_20 w_19 ⟨hS, g0, g1, g2⟩
      refine W.seq ?_
      refine W.seq ?_
      refine W.reg ?_
      refine Wx.rd (v := .int .i64 i) (rd_move rfl) rfl ?_
      refine Wx.rd (v := v_7) (rd_move rfl) rfl ?_
      refine Wx.rd (v := .int .i64 ((greatV rim).length : Int)) (rd_lenV rfl (hS.v 2 rfl) Tryd.underlying86) rfl ?_
      refine Wx.rd (v := .bool (decide (i < ((greatV rim).length : Int)))) (rd_lss rfl rfl) rfl ?_
      refine Wx.nil ?_
      refine W.condD rfl (fun c2 => ?_) (fun c2 => ?_)
      · -- yes
        refine W.skip ?_
        refine W.seq ?_
        refine W.block ?_
        refine W.regQ mixedHe_ (by kernel_rfl) ?_
        refine Wx.rd (v := .bool al) (rd_move rfl) rfl ?_
        refine Wx.rd (v := .bool al) (rd_move rfl) rfl ?_
        refine Wx.cutQ (X := Unit) 12 [37, 38, 39, 40, 41, 42, 43, 44, 45, 46, 47, 48] (fun _ => [(48, .bool (al && hasB (ix [] (greatV rim) i) (((ix (0, 0) (ix [] (greatV rim) 0) k).1), ((ix (0, 0) (ix [] (greatV rim) 0) k).2))))]) (fun _ => True) ?_ ?_
        · rcases Bool.eq_false_or_eq_true al with g_21 | g_21
          · -- True
            have gp_22 := g_21
            try simp only [Bool.and_eq_true, Bool.or_eq_true, Bool.not_eq_true', Bool.and_eq_false_iff, Bool.or_eq_false_iff, Bool.not_eq_false', decide_eq_true_eq, decide_eq_false_iff_not, not_or, Bool.false_eq_true, Bool.true_eq_false, false_or, or_false, not_false_eq_true] at gp_22
            refine Wx.gyes rfl rfl (congrArg Value.bool g_21) ?_
            refine Wx.rd (v := v_7) (rd_move rfl) rfl ?_
            refine Wx.gyes rfl rfl (congrArg Value.bool g_21) ?_
            refine Wx.rd (v := .int .i64 i) (rd_move rfl) rfl ?_
            refine Wx.gyes rfl rfl (congrArg Value.bool g_21) ?_
            refine Wx.ex (rd_index [] (hS.v 2 rfl) rfl rfl Tryd.underlying86 Tryd.sizeOf22 (by first | omega | (simp only [List.length_set, List.length_append, List.length_cons, List.length_nil, List.length_replicate]; omega)) (by first | omega | (simp only [List.length_set, List.length_append, List.length_cons, List.length_nil, List.length_replicate]; omega))) rfl (fun p_23 hp_24 => ?_)
            refine Wx.gyes rfl rfl (congrArg Value.bool g_21) ?_
            refine Wx.ex (rd_load hp_24 rfl Tryd.isAgg22 Tryd.sizeOf22) rfl (fun v_25 hv_26 => ?_)
            have ln_27 := hv_26.len63
            have hS := hS.add hv_26
            refine Wx.gyes rfl rfl (congrArg Value.bool g_21) ?_
            refine Wx.rd (v := v_7) (rd_move rfl) rfl ?_
            refine Wx.gyes rfl rfl (congrArg Value.bool g_21) ?_
            refine Wx.ex (rd_index [] (hS.v 3 rfl) rfl rfl Tryd.underlying86 Tryd.sizeOf22 (by first | omega | (simp only [List.length_set, List.length_append, List.length_cons, List.length_nil, List.length_replicate]; omega)) (by first | omega | (simp only [List.length_set, List.length_append, List.length_cons, List.length_nil, List.length_replicate]; omega))) rfl (fun p_29 hp_30 => ?_)
            refine Wx.gyes rfl rfl (congrArg Value.bool g_21) ?_
            refine Wx.ex (rd_load hp_30 rfl Tryd.isAgg22 Tryd.sizeOf22) rfl (fun v_31 hv_32 => ?_)
            have ln_33 := hv_32.len63
            have hS := hS.add hv_32
            refine Wx.gyes rfl rfl (congrArg Value.bool g_21) ?_
            refine Wx.rd (v := .int .i64 k) (rd_move rfl) rfl ?_
            refine Wx.gyes rfl rfl (congrArg Value.bool g_21) ?_
            refine Wx.ex (rd_index (0, 0) (hS.v 0 rfl) rfl rfl Tryd.underlying22 Tryd.sizeOf58 (by first | omega | (simp only [List.length_set, List.length_append, List.length_cons, List.length_nil, List.length_replicate]; omega)) (by first | omega | (simp only [List.length_set, List.length_append, List.length_cons, List.length_nil, List.length_replicate]; omega))) rfl (fun p_35 hp_36 => ?_)
            refine Wx.gyes rfl rfl (congrArg Value.bool g_21) ?_
            refine Wx.ex (rd_load hp_36 rfl Tryd.isAgg58 Tryd.sizeOf58) rfl (fun v_37 hv_38 => ?_)
            obtain ⟨rfl, bd_39, bd_40⟩ := hv_38.i2
            have bd_39 := bd_i64 bd_39
            have bd_40 := bd_i64 bd_40
            refine Wx.gyes rfl rfl (congrArg Value.bool g_21) ?_
            refine Wx.callV (v := .bool (hasB (ix [] (greatV rim) i) (((ix (0, 0) (ix [] (greatV rim) 0) k).1), ((ix (0, 0) (ix [] (greatV rim) 0) k).2)))) (run_callF Tryd.call72 rfl) (fun w_41 hw_42 => (F72 ((hS.v 1 rfl).ext hw_42) (in_i64 (by omega) (by omega)) (in_i64 (by omega) (by omega)))) rfl ?_
            refine Wx.rd (v := .bool (hasB (ix [] (greatV rim) i) (((ix (0, 0) (ix [] (greatV rim) 0) k).1), ((ix (0, 0) (ix [] (greatV rim) 0) k).2)))) (rd_pickT (congrArg Value.bool g_21) rfl) rfl ?_
            refine Wx.nilQ (fun _ _ => ⟨(), trivial, ⟨?_, trivial⟩, Out.look rfl Out.refl⟩)
            show Value.bool (hasB (ix [] (greatV rim) i) (((ix (0, 0) (ix [] (greatV rim) 0) k).1), ((ix (0, 0) (ix [] (greatV rim) 0) k).2))) = Value.bool (al && hasB (ix [] (greatV rim) i) (((ix (0, 0) (ix [] (greatV rim) 0) k).1), ((ix (0, 0) (ix [] (greatV rim) 0) k).2)))
            rw [g_21]; rfl
          · -- False
            have gp_43 := g_21
            try simp only [Bool.and_eq_true, Bool.or_eq_true, Bool.not_eq_true', Bool.and_eq_false_iff, Bool.or_eq_false_iff, Bool.not_eq_false', decide_eq_true_eq, decide_eq_false_iff_not, not_or, Bool.false_eq_true, Bool.true_eq_false, false_or, or_false, not_false_eq_true] at gp_43
            refine Wx.gnoB rfl rfl (congrArg Value.bool g_21) rfl rfl ?_
            refine Wx.gnoB rfl rfl (congrArg Value.bool g_21) rfl rfl ?_
            refine Wx.gnoB rfl rfl (congrArg Value.bool g_21) rfl rfl ?_
            refine Wx.gnoB rfl rfl (congrArg Value.bool g_21) rfl rfl ?_
            refine Wx.gnoB rfl rfl (congrArg Value.bool g_21) rfl rfl ?_
            refine Wx.gnoB rfl rfl (congrArg Value.bool g_21) rfl rfl ?_
            refine Wx.gnoB rfl rfl (congrArg Value.bool g_21) rfl rfl ?_
            refine Wx.gnoB rfl rfl (congrArg Value.bool g_21) rfl rfl ?_
            refine Wx.gnoB rfl rfl (congrArg Value.bool g_21) rfl rfl ?_
            refine Wx.gnoB rfl rfl (congrArg Value.bool g_21) rfl rfl ?_
            refine Wx.gnoB rfl rfl (congrArg Value.bool g_21) rfl rfl ?_
            refine Wx.rd (v := .bool false) (rd_pickF (congrArg Value.bool g_21) rfl) rfl ?_
            refine Wx.nilQ (fun _ _ => ⟨(), trivial, ⟨?_, trivial⟩, Out.look rfl Out.refl⟩)
            show Value.bool false = Value.bool (al && hasB (ix [] (greatV rim) i) (((ix (0, 0) (ix [] (greatV rim) 0) k).1), ((ix (0, 0) (ix [] (greatV rim) 0) k).2)))
            rw [g_21]; rfl
        rintro ⟨⟩ u_45 -
        refine Wx.rd (v := .bool (al && hasB (ix [] (greatV rim) i) (((ix (0, 0) (ix [] (greatV rim) 0) k).1), ((ix (0, 0) (ix [] (greatV rim) 0) k).2)))) (rd_assign rfl) rfl ?_
        refine Wx.nilQ (fun w_46 hx_47 => ?_)
        have hS := hS.ext hx_47
        refine W.reg ?_
        refine Wx.rd (v := .int .i64 i) (rd_move rfl) rfl ?_
        refine Wx.rd (v := .int .i64 (i + 1)) (rd_add rfl rfl (in_i64 (by omega) (by omega))) rfl ?_
        refine Wx.rd (v := .int .i64 (i + 1)) (rd_assign rfl) rfl ?_
        refine Wx.nil ?_
        refine ⟨((al && hasB (ix [] (greatV rim) i) (((ix (0, 0) (ix [] (greatV rim) 0) k).1), ((ix (0, 0) (ix [] (greatV rim) 0) k).2))), i + 1), (by show ((greatV rim).length - (i + 1)).toNat < ((greatV rim).length - i).toNat; omega), ?_, ?_, Out.look rfl (Out.hav rfl (Out.look rfl Out.self))⟩
        · exact ⟨hS, (by first | omega | assumption), (by first | omega | assumption), (all_step (d := []) g0 c2 g2)⟩
        · exact ⟨rfl, rfl, trivial⟩
      · -- no
        refine W.exit rfl ?_
        refine W.seq ?_
        refine W.reg ?_
        refine Wx.rd (v := .bool al) (rd_move rfl) rfl ?_
        refine Wx.nil ?_
        refine W.cond rfl (fun c3 => ?_) (fun c3 => ?_)
        · -- yes
          try simp only [Bool.and_eq_true, Bool.or_eq_true, Bool.not_eq_true', Bool.and_eq_false_iff, Bool.or_eq_false_iff, Bool.not_eq_false', decide_eq_true_eq, decide_eq_false_iff_not, not_or, Bool.false_eq_true, Bool.true_eq_false, false_or, or_false, not_false_eq_true] at c3
          refine W.reg ?_
          refine Wx.rd (v := ov) (rd_move rfl) rfl ?_
          refine Wx.rd (v := v_7) (rd_move rfl) rfl ?_
          refine Wx.ex (rd_index [] (hS.v 2 rfl) rfl rfl Tryd.underlying86 Tryd.sizeOf22 (by first | omega | (simp only [List.length_set, List.length_append, List.length_cons, List.length_nil, List.length_replicate]; omega)) (by first | omega | (simp only [List.length_set, List.length_append, List.length_cons, List.length_nil, List.length_replicate]; omega))) rfl (fun p_48 hp_49 => ?_)
          refine Wx.ex (rd_load hp_49 rfl Tryd.isAgg22 Tryd.sizeOf22) rfl (fun v_50 hv_51 => ?_)
          have ln_52 := hv_51.len63
          have hS := hS.add hv_51
          refine Wx.rd (v := .int .i64 k) (rd_move rfl) rfl ?_
          refine Wx.ex (rd_index (0, 0) (hS.v 0 rfl) rfl rfl Tryd.underlying22 Tryd.sizeOf58 (by first | omega | (simp only [List.length_set, List.length_append, List.length_cons, List.length_nil, List.length_replicate]; omega)) (by first | omega | (simp only [List.length_set, List.length_append, List.length_cons, List.length_nil, List.length_replicate]; omega))) rfl (fun p_54 hp_55 => ?_)
          refine Wx.ex (rd_load hp_55 rfl Tryd.isAgg58 Tryd.sizeOf58) rfl (fun v_56 hv_57 => ?_)
          obtain ⟨rfl, bd_58, bd_59⟩ := hv_57.i2
          have bd_58 := bd_i64 bd_58
          have bd_59 := bd_i64 bd_59
          refine Wx.lit (t := (tP (tI .i64) (tI .i64))) (ys := [((ix (0, 0) (ix [] (greatV rim) 0) k).1, (ix (0, 0) (ix [] (greatV rim) 0) k).2)]) (vs := [.agg #[.int .i64 ((ix (0, 0) (ix [] (greatV rim) 0) k).1), .int .i64 ((ix (0, 0) (ix [] (greatV rim) 0) k).2)]]) elHe_22 hS rfl rfl ⟨(V.mk2 (in_i64 (by omega) (by omega)) (in_i64 (by omega) (by omega))), trivial⟩ (by decide) rfl (fun v_60 w_61 hx_62 hS => ?_)
          refine Wx.append elHe_22 hS 3 rfl rfl rfl (Src.ofR hS 0 rfl) (by simp only [maxLen]; simp; omega) (by simp; omega) rfl (fun v_63 w_64 hz_65 hS => ?_)
          refine Wx.rd (v := v_63) (rd_assign rfl) rfl ?_
          refine Wx.nil ?_
          refine W.reg ?_
          refine Wx.rd (v := .int .i64 k) (rd_move rfl) rfl ?_
          refine Wx.rd (v := .int .i64 (k + 1)) (rd_add rfl rfl (in_i64 (by omega) (by omega))) rfl ?_
          refine Wx.rd (v := .int .i64 (k + 1)) (rd_assign rfl) rfl ?_
          refine Wx.nil ?_
          have hal := all_end (by omega) g2
          refine ⟨(k + 1, v_63, out ++ [((ix (0, 0) (ix [] (greatV rim) 0) k).1, (ix (0, 0) (ix [] (greatV rim) 0) k).2)]), (by show ((ix [] (greatV rim) 0).length - (k + 1)).toNat < ((ix [] (greatV rim) 0).length - k).toNat; omega), ?_, ?_, Out.look rfl (Out.hav rfl (Out.look rfl Out.self))⟩
          · exact ⟨St.tl (St.tl (hS.tl)), (by first | omega | assumption), (by first | omega | assumption), (by first | exact filt_yes (f := (fun x => (greatV rim).all fun p => hasB p x)) (d := (0, 0)) h0 c1 h2 (hal.trans c3) | exact filt_no (f := (fun x => (greatV rim).all fun p => hasB p x)) (d := (0, 0)) h0 c1 h2 (by show ¬ ((greatV rim).all _) = true; rw [hal, c3]; decide)), (by first | omega | (simp only [List.length_append, List.length_cons, List.length_nil]; omega))⟩
          · exact ⟨rfl, rfl, trivial⟩
        · -- no
          try simp only [Bool.and_eq_true, Bool.or_eq_true, Bool.not_eq_true', Bool.and_eq_false_iff, Bool.or_eq_false_iff, Bool.not_eq_false', decide_eq_true_eq, decide_eq_false_iff_not, not_or, Bool.false_eq_true, Bool.true_eq_false, false_or, or_false, not_false_eq_true] at c3
          refine W.skip ?_
          refine W.reg ?_
          refine Wx.rd (v := .int .i64 k) (rd_move rfl) rfl ?_
          refine Wx.rd (v := .int .i64 (k + 1)) (rd_add rfl rfl (in_i64 (by omega) (by omega))) rfl ?_
          refine Wx.rd (v := .int .i64 (k + 1)) (rd_assign rfl) rfl ?_
          refine Wx.nil ?_
          have hal := all_end (by omega) g2
          refine ⟨(k + 1, ov, out), (by show ((ix [] (greatV rim) 0).length - (k + 1)).toNat < ((ix [] (greatV rim) 0).length - k).toNat; omega), ?_, ?_, Out.look rfl (Out.hav rfl (Out.look rfl Out.self))⟩
          · exact ⟨hS.tl, (by first | omega | assumption), (by first | omega | assumption), (by first | exact filt_yes (f := (fun x => (greatV rim).all fun p => hasB p x)) (d := (0, 0)) h0 c1 h2 (hal.trans c3) | exact filt_no (f := (fun x => (greatV rim).all fun p => hasB p x)) (d := (0, 0)) h0 c1 h2 (by show ¬ ((greatV rim).all _) = true; rw [hal, c3]; decide)), (by first | omega | (simp only [List.length_append, List.length_cons, List.length_nil]; omega))⟩
          · exact ⟨rfl, rfl, trivial⟩
    · -- no
      refine W.exit rfl ?_
      refine W.seq ?_
      refine W.reg ?_
      refine Wx.rd (v := ov) (rd_move rfl) rfl ?_
      refine Wx.rd (v := ov) (rd_assign rfl) rfl ?_
      refine Wx.rd (v := .int .i64 0) (rd_assign rfl) rfl ?_
      refine Wx.nil ?_
      have e1_0 : forcedV rim = out := by rw [forcedV, if_pos hr0, forcedR, ← hgf]; exact filt_end (by omega) h2
      have e1_1 : (rimE rim) = (0 : Int) := by exact hr0
      exact W.ret ⟨.tuple #[ov, .int .i64 0], ResIs.two, hS.bel, ⟨ov, (by rw [e1_1]), (by rw [e1_0]; exact (hS.fr 1 rfl flat_i2))⟩⟩
end Go.Proofs.YtokdjjebnomciaaDoor

namespace Go.Proofs.YtokdjjebnomciaaDoor
open Go.Wk Go.RowKit Go.Lib
set_option linter.unusedVariables false
set_option linter.unusedSimpArgs false
theorem elHf_22 : ElemI Tryd.prog 22 58 (.agg #[.int .i64 0, .int .i64 0]) 2 16 := ElemI.of Tryd.underlying22 (by kernel_rfl) (by first | rfl | kernel_rfl) (by decide)
theorem elHf_60 : ElemI Tryd.prog 60 3 (.int .i64 0) 1 8 := ElemI.of Tryd.underlying60 (by kernel_rfl) (by first | rfl | kernel_rfl) (by decide)
theorem mixedHf_ : Tryd.prog.follows .mixedOrders = true := by kernel_rfl

theorem F73b {rim : ByteArray} {O : List (Option Nat)} {w : World} (s_rim : rim.size ≤ maxLen) (p_12 : (rim.size : Int) ≤ 12) (p_l : Lets rim) (hO : ∀ b, some b ∈ O → b < w.heap.size) (hG : Laid w) : Calls Tryd.prog 73 #[.string rim] w (Ret w (fun r w' => ∃ sv lv, r = .tuple #[sv, lv] ∧ V (tSl (tP (tI .i64) (tI .i64))) ((takS rim).1) sv O w' ∧ Fresh (tI .i64) 3 ((takS rim).2) lv w.heap.size w')) := by
  have hS := St.start w O hO
  refine enterR Tryd.func73 rfl Tryd.ntmps73 Tryd.results73 rfl ?_
  refine W.seq ?_
  refine W.reg ?_
  refine Wx.rd (v := (.slice none 0 0)) (rd_assign rfl) rfl ?_
  refine Wx.rd (v := (.slice none 0 0)) (rd_assign rfl) rfl ?_
  refine Wx.nil ?_
  refine W.seq ?_
  refine W.seq ?_
  refine W.reg ?_
  refine Wx.rd (v := .string rim) (rd_move rfl) rfl ?_
  refine Wx.rangeS (s := rim) hS rfl Tryd.underlying9 rfl (fun g_1 w_2 hx_3 hS => ?_)
  refine Wx.nil ?_
  refine W.block ?_
  have hS := hS.addNil (tP (tI .i64) (tI .i64)) 58
  have hS := hS.addNil (tI .i64) 3
  refine W.loop [2, 3, 4, 5, 8, 9, 10, 11, 12, 13, 14, 15, 16, 17, 18, 19, 20, 21, 22, 23, 24, 25, 26, 27, 28, 29, 30, 31, 32, 33, 34, 35, 36, 37, 38, 39, 40, 41, 42] (fun x : Value × (List (Int × Int)) × Value × (List Int) × Nat => match x with | (tv, st, lw, lf, p) => [(2, tv), (3, lw)]) (fun (x : Value × (List (Int × Int)) × Value × (List Int) × Nat) w' => match x with | (tv, st, lw, lf, p) => St w O w' [.row (tI .i64) 3 lw lf, .row (tP (tI .i64) (tI .i64)) 58 tv st, .raw g_1 (.stringIter rim p)] ∧ p ≤ rim.size ∧ runS rim (st, lf) (rng p rim.size) = takS rim ∧ (∀ x ∈ lf, 0 ≤ x ∧ x < p) ∧ 2 * (st.length : Int) + lf.length = p) (fun x : Value × (List (Int × Int)) × Value × (List Int) × Nat => match x with | (tv, st, lw, lf, p) => rim.size - p) ((.slice none 0 0), [], (.slice none 0 0), [], 0) ⟨rfl, rfl, trivial⟩ ⟨hS, (Nat.zero_le _), (rfl), (by simp), (rfl)⟩ ?_
  rintro ⟨tv, st, lw, lf, p⟩ u_5 w_4 ⟨hS, h1, h2, h3, h4⟩
  refine W.seq ?_
  refine W.reg ?_
  refine Wx.nextS hS 2 rfl rfl rfl (fun hn w_6 hz_7 hS => ?_) (fun hn => ?_)
  · -- a rune
    have hS : St _ _ w_6 [.row (tI .i64) 3 lw lf, .row (tP (tI .i64) (tI .i64)) 58 tv st, .raw g_1 (.stringIter rim (p + (runeW rim (p : Int)).toNat))] := hS
    have hra := (runeAt_ascii (s := rim) (p := (p : Int)) (by omega) (by have := isLet_bd (p_l p (by omega) (by omega)); omega)).2
    refine Wx.rd (v := .bool true) (rd_extract rfl rfl) rfl ?_
    refine Wx.nil ?_
    refine W.seq ?_
    refine W.condT rfl rfl ?_
    refine W.skip ?_
    refine W.block ?_
    refine W.seq ?_
    refine W.reg ?_
    refine Wx.rd (v := .int .i64 (p : Int)) (rd_extract rfl rfl) rfl ?_
    refine Wx.rd (v := .int .i64 (p : Int)) (rd_assign rfl) rfl ?_
    refine Wx.nil ?_
    refine W.seq ?_
    refine W.reg ?_
    refine Wx.rd (v := lw) (rd_move rfl) rfl ?_
    refine Wx.rd (v := .int .i64 (lf.length : Int)) (rd_lenR hS 0 rfl rfl Tryd.underlying60) rfl ?_
    refine Wx.rd (v := .int .i64 (lf.length : Int)) (rd_assign rfl) rfl ?_
    refine Wx.nil ?_
    refine W.seq ?_
    refine W.seq ?_
    refine W.reg ?_
    refine Wx.rd (v := .int .i64 (lf.length : Int)) (rd_move rfl) rfl ?_
    refine Wx.rd (v := .bool (decide (0 < (lf.length : Int)))) (rd_gtr rfl rfl) rfl ?_
    refine Wx.rd (v := .bool (decide (0 < (lf.length : Int)))) (rd_move rfl) rfl ?_
    refine Wx.cut (X := Unit) 9 [16, 17, 18, 19, 20, 21, 22, 23, 24] (fun _ => [(24, .bool (decide (0 < (lf.length : Int)) && fitR rim (ix 0 lf ((lf.length : Int) - 1)) (p : Int)))]) (fun _ w' => St w O w' [.row (tI .i64) 3 lw lf, .row (tP (tI .i64) (tI .i64)) 58 tv st, .raw g_1 (.stringIter rim (p + (runeW rim (p : Int)).toNat))]) ?_ ?_
    · rcases Bool.eq_false_or_eq_true (decide (0 < (lf.length : Int))) with g_9 | g_9
      · -- True
        have gp_10 := of_decide_eq_true g_9
        refine Wx.gyes rfl rfl (congrArg Value.bool g_9) ?_
        refine Wx.rd (v := .string rim) (rd_move rfl) rfl ?_
        refine Wx.gyes rfl rfl (congrArg Value.bool g_9) ?_
        refine Wx.rd (v := lw) (rd_move rfl) rfl ?_
        refine Wx.gyes rfl rfl (congrArg Value.bool g_9) ?_
        refine Wx.rd (v := .int .i64 (lf.length : Int)) (rd_move rfl) rfl ?_
        refine Wx.gyes rfl rfl (congrArg Value.bool g_9) ?_
        refine Wx.rd (v := .int .i64 ((lf.length : Int) - 1)) (rd_sub rfl rfl (in_i64 (by omega) (by omega))) rfl ?_
        refine Wx.gyes rfl rfl (congrArg Value.bool g_9) ?_
        refine Wx.indexR hS 0 rfl rfl rfl Tryd.underlying60 Tryd.sizeOf3 (by first | omega | (simp only [List.length_set, List.length_append, List.length_cons, List.length_nil, List.length_replicate]; omega)) (by first | omega | (simp only [List.length_set, List.length_append, List.length_cons, List.length_nil, List.length_replicate]; omega)) rfl (fun g_11 hg_12 => ?_)
        refine Wx.gyes rfl rfl (congrArg Value.bool g_9) ?_
        refine Wx.rd (v := .int .i64 (ix 0 lf ((lf.length : Int) - 1))) (rd_loadRI' hS 0 rfl hg_12 rfl (by first | omega | (simp only [List.length_set, List.length_append, List.length_cons, List.length_nil, List.length_replicate]; omega)) (by first | omega | (simp only [List.length_set, List.length_append, List.length_cons, List.length_nil, List.length_replicate]; omega)) Tryd.isAgg3 Tryd.sizeOf3) rfl ?_
        have bd_13 := bd_i64 (hS.rowInK' 0 rfl (by first | omega | (simp only [List.length_set, List.length_append, List.length_cons, List.length_nil, List.length_replicate]; omega)) (by first | omega | (simp only [List.length_set, List.length_append, List.length_cons, List.length_nil, List.length_replicate]; omega)) : InK .i64 (ix 0 lf ((lf.length : Int) - 1)))
        refine Wx.gyes rfl rfl (congrArg Value.bool g_9) ?_
        refine Wx.rd (v := .int .i64 (p : Int)) (rd_move rfl) rfl ?_
        refine Wx.gyes rfl rfl (congrArg Value.bool g_9) ?_
        have hlm := h3 (ix 0 lf ((lf.length : Int) - 1)) (ix_mem (by omega) (by omega))
        refine Wx.callF (run_callF Tryd.call61 rfl) (F61 (by first | assumption | (simp only [maxLen]; omega) | (simp only [ByteArray.size_extract, ByteArray.size_append, maxLen] at *; omega) | decide) (in_i64 (by omega) (by omega)) (in_i64 (by omega) (by omega)) (by omega) (by omega) (by omega) (by omega) (by omega) (hG.ext hS.bel)) rfl ?_
        rintro r_14 w_15 hx_16 rfl
        have hS := hS.ext hx_16
        refine Wx.rd (v := .bool (fitR rim (ix 0 lf ((lf.length : Int) - 1)) (p : Int))) (rd_pickT (congrArg Value.bool g_9) rfl) rfl ?_
        refine Wx.nil ⟨(), hS, ⟨?_, trivial⟩, Out.look rfl Out.refl⟩
        show Value.bool (fitR rim (ix 0 lf ((lf.length : Int) - 1)) (p : Int)) = Value.bool (decide (0 < (lf.length : Int)) && fitR rim (ix 0 lf ((lf.length : Int) - 1)) (p : Int))
        rw [g_9]; rfl
      · -- False
        have gp_17 := of_decide_eq_false g_9
        refine Wx.gnoB rfl rfl (congrArg Value.bool g_9) rfl rfl ?_
        refine Wx.gnoB rfl rfl (congrArg Value.bool g_9) rfl rfl ?_
        refine Wx.gnoB rfl rfl (congrArg Value.bool g_9) rfl rfl ?_
        refine Wx.gnoB rfl rfl (congrArg Value.bool g_9) rfl rfl ?_
        refine Wx.gnoB rfl rfl (congrArg Value.bool g_9) rfl rfl ?_
        refine Wx.gnoB rfl rfl (congrArg Value.bool g_9) rfl rfl ?_
        refine Wx.gnoB rfl rfl (congrArg Value.bool g_9) rfl rfl ?_
        refine Wx.gnoB rfl rfl (congrArg Value.bool g_9) rfl rfl ?_
        refine Wx.rd (v := .bool false) (rd_pickF (congrArg Value.bool g_9) rfl) rfl ?_
        refine Wx.nil ⟨(), hS, ⟨?_, trivial⟩, Out.look rfl Out.refl⟩
        show Value.bool false = Value.bool (decide (0 < (lf.length : Int)) && fitR rim (ix 0 lf ((lf.length : Int) - 1)) (p : Int))
        rw [g_9]; rfl
    rintro ⟨⟩ u_19 w_18 hS
    refine Wx.nil ?_
    refine W.cond rfl (fun c1 => ?_) (fun c1 => ?_)
    · -- yes
      try simp only [Bool.and_eq_true, Bool.or_eq_true, Bool.not_eq_true', Bool.and_eq_false_iff, Bool.or_eq_false_iff, Bool.not_eq_false', decide_eq_true_eq, decide_eq_false_iff_not, not_or, Bool.false_eq_true, Bool.true_eq_false, false_or, or_false, not_false_eq_true] at c1
      refine W.seq ?_
      refine W.reg ?_
      refine Wx.rd (v := tv) (rd_move rfl) rfl ?_
      refine Wx.rd (v := lw) (rd_move rfl) rfl ?_
      refine Wx.rd (v := .int .i64 (lf.length : Int)) (rd_move rfl) rfl ?_
      refine Wx.rd (v := .int .i64 ((lf.length : Int) - 1)) (rd_sub rfl rfl (in_i64 (by omega) (by omega))) rfl ?_
      refine Wx.indexR hS 0 rfl rfl rfl Tryd.underlying60 Tryd.sizeOf3 (by first | omega | (simp only [List.length_set, List.length_append, List.length_cons, List.length_nil, List.length_replicate]; omega)) (by first | omega | (simp only [List.length_set, List.length_append, List.length_cons, List.length_nil, List.length_replicate]; omega)) rfl (fun g_20 hg_21 => ?_)
      refine Wx.rd (v := .int .i64 (ix 0 lf ((lf.length : Int) - 1))) (rd_loadRI' hS 0 rfl hg_21 rfl (by first | omega | (simp only [List.length_set, List.length_append, List.length_cons, List.length_nil, List.length_replicate]; omega)) (by first | omega | (simp only [List.length_set, List.length_append, List.length_cons, List.length_nil, List.length_replicate]; omega)) Tryd.isAgg3 Tryd.sizeOf3) rfl ?_
      have bd_22 := bd_i64 (hS.rowInK' 0 rfl (by first | omega | (simp only [List.length_set, List.length_append, List.length_cons, List.length_nil, List.length_replicate]; omega)) (by first | omega | (simp only [List.length_set, List.length_append, List.length_cons, List.length_nil, List.length_replicate]; omega)) : InK .i64 (ix 0 lf ((lf.length : Int) - 1)))
      refine Wx.rd (v := .int .i64 (p : Int)) (rd_move rfl) rfl ?_
      refine Wx.rd (v := .agg #[.int .i64 (ix 0 lf ((lf.length : Int) - 1)), .int .i64 (p : Int)]) (rd_build (vs := [(0, .int .i64 (ix 0 lf ((lf.length : Int) - 1))), (1, .int .i64 (p : Int))]) rfl (by kernel_rfl)) rfl ?_
      refine Wx.lit (t := (tP (tI .i64) (tI .i64))) (ys := [(ix 0 lf ((lf.length : Int) - 1), (p : Int))]) (vs := [.agg #[.int .i64 (ix 0 lf ((lf.length : Int) - 1)), .int .i64 (p : Int)]]) elHf_22 hS rfl rfl ⟨(V.mk2 (in_i64 (by omega) (by omega)) (in_i64 (by omega) (by omega))), trivial⟩ (by decide) rfl (fun v_23 w_24 hx_25 hS => ?_)
      refine Wx.append elHf_22 hS 2 rfl rfl rfl (Src.ofR hS 0 rfl) (by simp only [maxLen]; simp; omega) (by simp; omega) rfl (fun v_26 w_27 hz_28 hS => ?_)
      refine Wx.rd (v := v_26) (rd_assign rfl) rfl ?_
      refine Wx.nil ?_
      refine W.seq ?_
      refine W.reg ?_
      refine Wx.rd (v := lw) (rd_move rfl) rfl ?_
      refine Wx.rd (v := .int .i64 (lf.length : Int)) (rd_move rfl) rfl ?_
      refine Wx.rd (v := .int .i64 ((lf.length : Int) - 1)) (rd_sub rfl rfl (in_i64 (by omega) (by omega))) rfl ?_
      obtain ⟨g_29, c_30, rfl, hc_31⟩ := hS.rowForm 1 rfl (by omega)
      refine Wx.rd (v := (.slice (some ⟨g_29, 0, none⟩) ((lf.length : Int) - 1).toNat c_30)) (rd_headO Tryd.underlying60 Tryd.sizeOf3 rfl rfl (by omega) (by omega)) rfl ?_
      have hS : St _ _ _ [.row (tP (tI .i64) (tI .i64)) 58 v_23 [(ix 0 lf ((lf.length : Int) - 1), (p : Int))], .row (tI .i64) 3 (.slice (some ⟨g_29, 0, none⟩) ((lf.length : Int) - 1).toNat c_30) (List.take ((lf.length : Int) - 1).toNat lf), .row (tP (tI .i64) (tI .i64)) 58 v_26 (st ++ [(ix 0 lf ((lf.length : Int) - 1), (p : Int))]), .raw g_1 (.stringIter rim (p + (runeW rim (p : Int)).toNat))] := hS.shrink (m := ((lf.length : Int) - 1).toNat) 1 rfl (by omega)
      refine Wx.rd (v := (.slice (some ⟨g_29, 0, none⟩) ((lf.length : Int) - 1).toNat c_30)) (rd_assign rfl) rfl ?_
      refine Wx.nil ?_
      refine W.exit rfl ?_
      refine ⟨(v_26, st ++ [(ix 0 lf ((lf.length : Int) - 1), (p : Int))], (.slice (some ⟨g_29, 0, none⟩) ((lf.length : Int) - 1).toNat c_30), List.take ((lf.length : Int) - 1).toNat lf, p + (runeW rim (p : Int)).toNat), (by show rim.size - (p + (runeW rim (p : Int)).toNat) < rim.size - p; omega), ?_, ?_, Out.look rfl (Out.hav rfl (Out.look rfl Out.self))⟩
      · exact ⟨hS.tl, (by omega), (by rw [← h2, rng_cons (i := (p : Int)) (by omega), runS_cons, show ((p + (runeW rim (p : Int)).toNat : Nat) : Int) = (p : Int) + 1 by omega]; first | rw [stepS_yes c1.1 c1.2] | rw [stepS_no c1]), (fun x hx => by first | (have := h3 x (List.mem_of_mem_take hx); omega) | (rcases List.mem_append.1 hx with hx | hx; (have := h3 x hx; omega); (rw [List.mem_singleton] at hx; omega))), (by simp only [List.length_append, List.length_take, List.length_cons, List.length_nil]; omega)⟩
      · exact ⟨rfl, rfl, trivial⟩
    · -- no
      try simp only [Bool.and_eq_true, Bool.or_eq_true, Bool.not_eq_true', Bool.and_eq_false_iff, Bool.or_eq_false_iff, Bool.not_eq_false', decide_eq_true_eq, decide_eq_false_iff_not, not_or, Bool.false_eq_true, Bool.true_eq_false, false_or, or_false, not_false_eq_true] at c1
      refine W.skip ?_
      refine W.reg ?_
      refine Wx.rd (v := lw) (rd_move rfl) rfl ?_
      refine Wx.rd (v := .int .i64 (p : Int)) (rd_move rfl) rfl ?_
      refine Wx.lit (t := (tI .i64)) (ys := [(p : Int)]) (vs := [.int .i64 (p : Int)]) elHf_60 hS rfl rfl ⟨(V.mkInt (in_i64 (by omega) (by omega))), trivial⟩ (by decide) rfl (fun v_32 w_33 hx_34 hS => ?_)
      refine Wx.append elHf_60 hS 1 rfl rfl rfl (Src.ofR hS 0 rfl) (by simp only [maxLen]; simp; omega) (by simp; omega) rfl (fun v_35 w_36 hz_37 hS => ?_)
      refine Wx.rd (v := v_35) (rd_assign rfl) rfl ?_
      refine Wx.nil ?_
      refine ⟨(tv, st, v_35, lf ++ [(p : Int)], p + (runeW rim (p : Int)).toNat), (by show rim.size - (p + (runeW rim (p : Int)).toNat) < rim.size - p; omega), ?_, ?_, Out.look rfl (Out.hav rfl (Out.look rfl Out.self))⟩
      · exact ⟨hS.tl, (by omega), (by rw [← h2, rng_cons (i := (p : Int)) (by omega), runS_cons, show ((p + (runeW rim (p : Int)).toNat : Nat) : Int) = (p : Int) + 1 by omega]; first | rw [stepS_yes c1.1 c1.2] | rw [stepS_no c1]), (fun x hx => by first | (have := h3 x (List.mem_of_mem_take hx); omega) | (rcases List.mem_append.1 hx with hx | hx; (have := h3 x hx; omega); (rw [List.mem_singleton] at hx; omega))), (by simp only [List.length_append, List.length_take, List.length_cons, List.length_nil]; omega)⟩
      · exact ⟨rfl, rfl, trivial⟩
  · -- the end
    refine Wx.rd (v := .bool false) (rd_extract rfl rfl) rfl ?_
    refine Wx.nil ?_
    refine W.seq ?_
    refine W.condF rfl rfl ?_
    refine W.exit rfl ?_
    refine W.seq ?_
    refine W.reg ?_
    refine Wx.rd (v := tv) (rd_move rfl) rfl ?_
    refine Wx.rd (v := lw) (rd_move rfl) rfl ?_
    refine Wx.rd (v := tv) (rd_assign rfl) rfl ?_
    refine Wx.rd (v := lw) (rd_assign rfl) rfl ?_
    refine Wx.nil ?_
    have e0_0 : (takS rim).1 = st := by rw [← h2, rng_nil (by omega)]; rfl
    have e0_1 : (takS rim).2 = lf := by rw [← h2, rng_nil (by omega)]; rfl
    exact W.ret ⟨.tuple #[tv, lw], ResIs.two, hS.bel, ⟨tv, lw, rfl, (by rw [e0_0]; exact ((hS.lend 1 rfl).mv (.less (fun _ h => List.mem_append.2 (.inr h))))), (by rw [e0_1]; exact (hS.fr 0 rfl flat_int))⟩⟩

theorem F73 {rim : ByteArray} {O : List (Option Nat)} {w : World} (s_rim : rim.size ≤ maxLen) (p_12 : (rim.size : Int) ≤ 12) (p_l : Lets rim) (hO : ∀ b, some b ∈ O → b < w.heap.size) (hG : Laid w) : Calls Tryd.prog 73 #[.string rim] w (Ret w (fun r w' => ∃ sv lv, r = .tuple #[sv, lv] ∧ V (tSl (tP (tI .i64) (tI .i64))) ((takS rim).1) sv O w' ∧ V (tSl (tI .i64)) ((takS rim).2) lv O w')) := by
  have hS := St.start w O hO
  refine enterR Tryd.func73 rfl Tryd.ntmps73 Tryd.results73 rfl ?_
  refine W.seq ?_
  refine W.reg ?_
  refine Wx.rd (v := (.slice none 0 0)) (rd_assign rfl) rfl ?_
  refine Wx.rd (v := (.slice none 0 0)) (rd_assign rfl) rfl ?_
  refine Wx.nil ?_
  refine W.seq ?_
  refine W.seq ?_
  refine W.reg ?_
  refine Wx.rd (v := .string rim) (rd_move rfl) rfl ?_
  refine Wx.rangeS (s := rim) hS rfl Tryd.underlying9 rfl (fun g_1 w_2 hx_3 hS => ?_)
  refine Wx.nil ?_
  refine W.block ?_
  have hS := hS.addNil (tP (tI .i64) (tI .i64)) 58
  have hS := hS.addNil (tI .i64) 3
  refine W.loop [2, 3, 4, 5, 8, 9, 10, 11, 12, 13, 14, 15, 16, 17, 18, 19, 20, 21, 22, 23, 24, 25, 26, 27, 28, 29, 30, 31, 32, 33, 34, 35, 36, 37, 38, 39, 40, 41, 42] (fun x : Value × (List (Int × Int)) × Value × (List Int) × Nat => match x with | (tv, st, lw, lf, p) => [(2, tv), (3, lw)]) (fun (x : Value × (List (Int × Int)) × Value × (List Int) × Nat) w' => match x with | (tv, st, lw, lf, p) => St w O w' [.row (tI .i64) 3 lw lf, .row (tP (tI .i64) (tI .i64)) 58 tv st, .raw g_1 (.stringIter rim p)] ∧ p ≤ rim.size ∧ runS rim (st, lf) (rng p rim.size) = takS rim ∧ (∀ x ∈ lf, 0 ≤ x ∧ x < p) ∧ 2 * (st.length : Int) + lf.length = p) (fun x : Value × (List (Int × Int)) × Value × (List Int) × Nat => match x with | (tv, st, lw, lf, p) => rim.size - p) ((.slice none 0 0), [], (.slice none 0 0), [], 0) ⟨rfl, rfl, trivial⟩ ⟨hS, (Nat.zero_le _), (rfl), (by simp), (rfl)⟩ ?_
  rintro ⟨tv, st, lw, lf, p⟩ u_5 w_4 ⟨hS, h1, h2, h3, h4⟩
  refine W.seq ?_
  refine W.reg ?_
  refine Wx.nextS hS 2 rfl rfl rfl (fun hn w_6 hz_7 hS => ?_) (fun hn => ?_)
  · -- a rune
    have hS : St _ _ w_6 [.row (tI .i64) 3 lw lf, .row (tP (tI .i64) (tI .i64)) 58 tv st, .raw g_1 (.stringIter rim (p + (runeW rim (p : Int)).toNat))] := hS
    have hra := (runeAt_ascii (s := rim) (p := (p : Int)) (by omega) (by have := isLet_bd (p_l p (by omega) (by omega)); omega)).2
    refine Wx.rd (v := .bool true) (rd_extract rfl rfl) rfl ?_
    refine Wx.nil ?_
    refine W.seq ?_
    refine W.condT rfl rfl ?_
    refine W.skip ?_
    refine W.block ?_
    refine W.seq ?_
    refine W.reg ?_
    refine Wx.rd (v := .int .i64 (p : Int)) (rd_extract rfl rfl) rfl ?_
    refine Wx.rd (v := .int .i64 (p : Int)) (rd_assign rfl) rfl ?_
    refine Wx.nil ?_
    refine W.seq ?_
    refine W.reg ?_
    refine Wx.rd (v := lw) (rd_move rfl) rfl ?_
    refine Wx.rd (v := .int .i64 (lf.length : Int)) (rd_lenR hS 0 rfl rfl Tryd.underlying60) rfl ?_
    refine Wx.rd (v := .int .i64 (lf.length : Int)) (rd_assign rfl) rfl ?_
    refine Wx.nil ?_
    refine W.seq ?_
    refine W.seq ?_
    refine W.reg ?_
    refine Wx.rd (v := .int .i64 (lf.length : Int)) (rd_move rfl) rfl ?_
    refine Wx.rd (v := .bool (decide (0 < (lf.length : Int)))) (rd_gtr rfl rfl) rfl ?_
    refine Wx.rd (v := .bool (decide (0 < (lf.length : Int)))) (rd_move rfl) rfl ?_
    refine Wx.cut (X := Unit) 9 [16, 17, 18, 19, 20, 21, 22, 23, 24] (fun _ => [(24, .bool (decide (0 < (lf.length : Int)) && fitR rim (ix 0 lf ((lf.length : Int) - 1)) (p : Int)))]) (fun _ w' => St w O w' [.row (tI .i64) 3 lw lf, .row (tP (tI .i64) (tI .i64)) 58 tv st, .raw g_1 (.stringIter rim (p + (runeW rim (p : Int)).toNat))]) ?_ ?_
    · rcases Bool.eq_false_or_eq_true (decide (0 < (lf.length : Int))) with g_9 | g_9
      · -- True
        have gp_10 := of_decide_eq_true g_9
        refine Wx.gyes rfl rfl (congrArg Value.bool g_9) ?_
        refine Wx.rd (v := .string rim) (rd_move rfl) rfl ?_
        refine Wx.gyes rfl rfl (congrArg Value.bool g_9) ?_
        refine Wx.rd (v := lw) (rd_move rfl) rfl ?_
        refine Wx.gyes rfl rfl (congrArg Value.bool g_9) ?_
        refine Wx.rd (v := .int .i64 (lf.length : Int)) (rd_move rfl) rfl ?_
        refine Wx.gyes rfl rfl (congrArg Value.bool g_9) ?_
        refine Wx.rd (v := .int .i64 ((lf.length : Int) - 1)) (rd_sub rfl rfl (in_i64 (by omega) (by omega))) rfl ?_
        refine Wx.gyes rfl rfl (congrArg Value.bool g_9) ?_
        refine Wx.indexR hS 0 rfl rfl rfl Tryd.underlying60 Tryd.sizeOf3 (by first | omega | (simp only [List.length_set, List.length_append, List.length_cons, List.length_nil, List.length_replicate]; omega)) (by first | omega | (simp only [List.length_set, List.length_append, List.length_cons, List.length_nil, List.length_replicate]; omega)) rfl (fun g_11 hg_12 => ?_)
        refine Wx.gyes rfl rfl (congrArg Value.bool g_9) ?_
        refine Wx.rd (v := .int .i64 (ix 0 lf ((lf.length : Int) - 1))) (rd_loadRI' hS 0 rfl hg_12 rfl (by first | omega | (simp only [List.length_set, List.length_append, List.length_cons, List.length_nil, List.length_replicate]; omega)) (by first | omega | (simp only [List.length_set, List.length_append, List.length_cons, List.length_nil, List.length_replicate]; omega)) Tryd.isAgg3 Tryd.sizeOf3) rfl ?_
        have bd_13 := bd_i64 (hS.rowInK' 0 rfl (by first | omega | (simp only [List.length_set, List.length_append, List.length_cons, List.length_nil, List.length_replicate]; omega)) (by first | omega | (simp only [List.length_set, List.length_append, List.length_cons, List.length_nil, List.length_replicate]; omega)) : InK .i64 (ix 0 lf ((lf.length : Int) - 1)))
        refine Wx.gyes rfl rfl (congrArg Value.bool g_9) ?_
        refine Wx.rd (v := .int .i64 (p : Int)) (rd_move rfl) rfl ?_
        refine Wx.gyes rfl rfl (congrArg Value.bool g_9) ?_
        have hlm := h3 (ix 0 lf ((lf.length : Int) - 1)) (ix_mem (by omega) (by omega))
        refine Wx.callF (run_callF Tryd.call61 rfl) (F61 (by first | assumption | (simp only [maxLen]; omega) | (simp only [ByteArray.size_extract, ByteArray.size_append, maxLen] at *; omega) | decide) (in_i64 (by omega) (by omega)) (in_i64 (by omega) (by omega)) (by omega) (by omega) (by omega) (by omega) (by omega) (hG.ext hS.bel)) rfl ?_
        rintro r_14 w_15 hx_16 rfl
        have hS := hS.ext hx_16
        refine Wx.rd (v := .bool (fitR rim (ix 0 lf ((lf.length : Int) - 1)) (p : Int))) (rd_pickT (congrArg Value.bool g_9) rfl) rfl ?_
        refine Wx.nil ⟨(), hS, ⟨?_, trivial⟩, Out.look rfl Out.refl⟩
        show Value.bool (fitR rim (ix 0 lf ((lf.length : Int) - 1)) (p : Int)) = Value.bool (decide (0 < (lf.length : Int)) && fitR rim (ix 0 lf ((lf.length : Int) - 1)) (p : Int))
        rw [g_9]; rfl
      · -- False
        have gp_17 := of_decide_eq_false g_9
        refine Wx.gnoB rfl rfl (congrArg Value.bool g_9) rfl rfl ?_
        refine Wx.gnoB rfl rfl (congrArg Value.bool g_9) rfl rfl ?_
        refine Wx.gnoB rfl rfl (congrArg Value.bool g_9) rfl rfl ?_
        refine Wx.gnoB rfl rfl (congrArg Value.bool g_9) rfl rfl ?_
        refine Wx.gnoB rfl rfl (congrArg Value.bool g_9) rfl rfl ?_
        refine Wx.gnoB rfl rfl (congrArg Value.bool g_9) rfl rfl ?_
        refine Wx.gnoB rfl rfl (congrArg Value.bool g_9) rfl rfl ?_
        refine Wx.gnoB rfl rfl (congrArg Value.bool g_9) rfl rfl ?_
        refine Wx.rd (v := .bool false) (rd_pickF (congrArg Value.bool g_9) rfl) rfl ?_
        refine Wx.nil ⟨(), hS, ⟨?_, trivial⟩, Out.look rfl Out.refl⟩
        show Value.bool false = Value.bool (decide (0 < (lf.length : Int)) && fitR rim (ix 0 lf ((lf.length : Int) - 1)) (p : Int))
        rw [g_9]; rfl
    rintro ⟨⟩ u_19 w_18 hS
    refine Wx.nil ?_
    refine W.cond rfl (fun c1 => ?_) (fun c1 => ?_)
    · -- yes
      try simp only [Bool.and_eq_true, Bool.or_eq_true, Bool.not_eq_true', Bool.and_eq_false_iff, Bool.or_eq_false_iff, Bool.not_eq_false', decide_eq_true_eq, decide_eq_false_iff_not, not_or, Bool.false_eq_true, Bool.true_eq_false, false_or, or_false, not_false_eq_true] at c1
      refine W.seq ?_
      refine W.reg ?_
      refine Wx.rd (v := tv) (rd_move rfl) rfl ?_
      refine Wx.rd (v := lw) (rd_move rfl) rfl ?_
      refine Wx.rd (v := .int .i64 (lf.length : Int)) (rd_move rfl) rfl ?_
      refine Wx.rd (v := .int .i64 ((lf.length : Int) - 1)) (rd_sub rfl rfl (in_i64 (by omega) (by omega))) rfl ?_
      refine Wx.indexR hS 0 rfl rfl rfl Tryd.underlying60 Tryd.sizeOf3 (by first | omega | (simp only [List.length_set, List.length_append, List.length_cons, List.length_nil, List.length_replicate]; omega)) (by first | omega | (simp only [List.length_set, List.length_append, List.length_cons, List.length_nil, List.length_replicate]; omega)) rfl (fun g_20 hg_21 => ?_)
      refine Wx.rd (v := .int .i64 (ix 0 lf ((lf.length : Int) - 1))) (rd_loadRI' hS 0 rfl hg_21 rfl (by first | omega | (simp only [List.length_set, List.length_append, List.length_cons, List.length_nil, List.length_replicate]; omega)) (by first | omega | (simp only [List.length_set, List.length_append, List.length_cons, List.length_nil, List.length_replicate]; omega)) Tryd.isAgg3 Tryd.sizeOf3) rfl ?_
      have bd_22 := bd_i64 (hS.rowInK' 0 rfl (by first | omega | (simp only [List.length_set, List.length_append, List.length_cons, List.length_nil, List.length_replicate]; omega)) (by first | omega | (simp only [List.length_set, List.length_append, List.length_cons, List.length_nil, List.length_replicate]; omega)) : InK .i64 (ix 0 lf ((lf.length : Int) - 1)))
      refine Wx.rd (v := .int .i64 (p : Int)) (rd_move rfl) rfl ?_
      refine Wx.rd (v := .agg #[.int .i64 (ix 0 lf ((lf.length : Int) - 1)), .int .i64 (p : Int)]) (rd_build (vs := [(0, .int .i64 (ix 0 lf ((lf.length : Int) - 1))), (1, .int .i64 (p : Int))]) rfl (by kernel_rfl)) rfl ?_
      refine Wx.lit (t := (tP (tI .i64) (tI .i64))) (ys := [(ix 0 lf ((lf.length : Int) - 1), (p : Int))]) (vs := [.agg #[.int .i64 (ix 0 lf ((lf.length : Int) - 1)), .int .i64 (p : Int)]]) elHf_22 hS rfl rfl ⟨(V.mk2 (in_i64 (by omega) (by omega)) (in_i64 (by omega) (by omega))), trivial⟩ (by decide) rfl (fun v_23 w_24 hx_25 hS => ?_)
      refine Wx.append elHf_22 hS 2 rfl rfl rfl (Src.ofR hS 0 rfl) (by simp only [maxLen]; simp; omega) (by simp; omega) rfl (fun v_26 w_27 hz_28 hS => ?_)
      refine Wx.rd (v := v_26) (rd_assign rfl) rfl ?_
      refine Wx.nil ?_
      refine W.seq ?_
      refine W.reg ?_
      refine Wx.rd (v := lw) (rd_move rfl) rfl ?_
      refine Wx.rd (v := .int .i64 (lf.length : Int)) (rd_move rfl) rfl ?_
      refine Wx.rd (v := .int .i64 ((lf.length : Int) - 1)) (rd_sub rfl rfl (in_i64 (by omega) (by omega))) rfl ?_
      obtain ⟨g_29, c_30, rfl, hc_31⟩ := hS.rowForm 1 rfl (by omega)
      refine Wx.rd (v := (.slice (some ⟨g_29, 0, none⟩) ((lf.length : Int) - 1).toNat c_30)) (rd_headO Tryd.underlying60 Tryd.sizeOf3 rfl rfl (by omega) (by omega)) rfl ?_
      have hS : St _ _ _ [.row (tP (tI .i64) (tI .i64)) 58 v_23 [(ix 0 lf ((lf.length : Int) - 1), (p : Int))], .row (tI .i64) 3 (.slice (some ⟨g_29, 0, none⟩) ((lf.length : Int) - 1).toNat c_30) (List.take ((lf.length : Int) - 1).toNat lf), .row (tP (tI .i64) (tI .i64)) 58 v_26 (st ++ [(ix 0 lf ((lf.length : Int) - 1), (p : Int))]), .raw g_1 (.stringIter rim (p + (runeW rim (p : Int)).toNat))] := hS.shrink (m := ((lf.length : Int) - 1).toNat) 1 rfl (by omega)
      refine Wx.rd (v := (.slice (some ⟨g_29, 0, none⟩) ((lf.length : Int) - 1).toNat c_30)) (rd_assign rfl) rfl ?_
      refine Wx.nil ?_
      refine W.exit rfl ?_
      refine ⟨(v_26, st ++ [(ix 0 lf ((lf.length : Int) - 1), (p : Int))], (.slice (some ⟨g_29, 0, none⟩) ((lf.length : Int) - 1).toNat c_30), List.take ((lf.length : Int) - 1).toNat lf, p + (runeW rim (p : Int)).toNat), (by show rim.size - (p + (runeW rim (p : Int)).toNat) < rim.size - p; omega), ?_, ?_, Out.look rfl (Out.hav rfl (Out.look rfl Out.self))⟩
      · exact ⟨hS.tl, (by omega), (by rw [← h2, rng_cons (i := (p : Int)) (by omega), runS_cons, show ((p + (runeW rim (p : Int)).toNat : Nat) : Int) = (p : Int) + 1 by omega]; first | rw [stepS_yes c1.1 c1.2] | rw [stepS_no c1]), (fun x hx => by first | (have := h3 x (List.mem_of_mem_take hx); omega) | (rcases List.mem_append.1 hx with hx | hx; (have := h3 x hx; omega); (rw [List.mem_singleton] at hx; omega))), (by simp only [List.length_append, List.length_take, List.length_cons, List.length_nil]; omega)⟩
      · exact ⟨rfl, rfl, trivial⟩
    · -- no
      try simp only [Bool.and_eq_true, Bool.or_eq_true, Bool.not_eq_true', Bool.and_eq_false_iff, Bool.or_eq_false_iff, Bool.not_eq_false', decide_eq_true_eq, decide_eq_false_iff_not, not_or, Bool.false_eq_true, Bool.true_eq_false, false_or, or_false, not_false_eq_true] at c1
      refine W.skip ?_
      refine W.reg ?_
      refine Wx.rd (v := lw) (rd_move rfl) rfl ?_
      refine Wx.rd (v := .int .i64 (p : Int)) (rd_move rfl) rfl ?_
      refine Wx.lit (t := (tI .i64)) (ys := [(p : Int)]) (vs := [.int .i64 (p : Int)]) elHf_60 hS rfl rfl ⟨(V.mkInt (in_i64 (by omega) (by omega))), trivial⟩ (by decide) rfl (fun v_32 w_33 hx_34 hS => ?_)
      refine Wx.append elHf_60 hS 1 rfl rfl rfl (Src.ofR hS 0 rfl) (by simp only [maxLen]; simp; omega) (by simp; omega) rfl (fun v_35 w_36 hz_37 hS => ?_)
      refine Wx.rd (v := v_35) (rd_assign rfl) rfl ?_
      refine Wx.nil ?_
      refine ⟨(tv, st, v_35, lf ++ [(p : Int)], p + (runeW rim (p : Int)).toNat), (by show rim.size - (p + (runeW rim (p : Int)).toNat) < rim.size - p; omega), ?_, ?_, Out.look rfl (Out.hav rfl (Out.look rfl Out.self))⟩
      · exact ⟨hS.tl, (by omega), (by rw [← h2, rng_cons (i := (p : Int)) (by omega), runS_cons, show ((p + (runeW rim (p : Int)).toNat : Nat) : Int) = (p : Int) + 1 by omega]; first | rw [stepS_yes c1.1 c1.2] | rw [stepS_no c1]), (fun x hx => by first | (have := h3 x (List.mem_of_mem_take hx); omega) | (rcases List.mem_append.1 hx with hx | hx; (have := h3 x hx; omega); (rw [List.mem_singleton] at hx; omega))), (by simp only [List.length_append, List.length_take, List.length_cons, List.length_nil]; omega)⟩
      · exact ⟨rfl, rfl, trivial⟩
  · -- the end
    refine Wx.rd (v := .bool false) (rd_extract rfl rfl) rfl ?_
    refine Wx.nil ?_
    refine W.seq ?_
    refine W.condF rfl rfl ?_
    refine W.exit rfl ?_
    refine W.seq ?_
    refine W.reg ?_
    refine Wx.rd (v := tv) (rd_move rfl) rfl ?_
    refine Wx.rd (v := lw) (rd_move rfl) rfl ?_
    refine Wx.rd (v := tv) (rd_assign rfl) rfl ?_
    refine Wx.rd (v := lw) (rd_assign rfl) rfl ?_
    refine Wx.nil ?_
    have e0_0 : (takS rim).1 = st := by rw [← h2, rng_nil (by omega)]; rfl
    have e0_1 : (takS rim).2 = lf := by rw [← h2, rng_nil (by omega)]; rfl
    exact W.ret ⟨.tuple #[tv, lw], ResIs.two, hS.bel, ⟨tv, lw, rfl, (by rw [e0_0]; exact ((hS.lend 1 rfl).mv (.less (fun _ h => List.mem_append.2 (.inr h))))), (by rw [e0_1]; exact ((hS.lend 0 rfl).mv (.less (fun _ h => List.mem_append.2 (.inr h)))))⟩⟩

set_option maxHeartbeats 4000000 in
theorem F74 {rim : ByteArray} {O : List (Option Nat)} {w : World} (s_rim : rim.size ≤ maxLen) (p_12 : (rim.size : Int) ≤ 12) (p_l : Lets rim) (hO : ∀ b, some b ∈ O → b < w.heap.size) : Calls Tryd.prog 74 #[.string rim] w (Ret w (fun r w' => ∃ sv lv, r = .tuple #[sv, lv] ∧ V (tSl (tP (tI .i64) (tI .i64))) ((takS rim).1) sv O w' ∧ V (tSl (tI .i64)) ((takS rim).2) lv O w')) := by
  have hS := St.start w O hO
  refine enterR Tryd.func74 rfl Tryd.ntmps74 Tryd.results74 rfl ?_
  refine W.seq ?_
  refine W.reg ?_
  refine Wx.rd (v := (.slice none 0 0)) (rd_assign rfl) rfl ?_
  refine Wx.rd (v := (.slice none 0 0)) (rd_assign rfl) rfl ?_
  refine Wx.nil ?_
  refine W.seq ?_
  refine W.reg ?_
  refine Wx.rd (v := (.slice none 0 0)) (rd_assign rfl) rfl ?_
  refine Wx.nil ?_
  refine W.seq ?_
  refine W.seq ?_
  refine W.reg ?_
  refine Wx.rd (v := .int .i64 0) (rd_assign rfl) rfl ?_
  refine Wx.nil ?_
  refine W.block ?_
  have hS := hS.addNil (tI .i64) 3
  refine W.loop [4, 5, 8, 9, 10, 11, 12, 13, 14, 15, 16, 17] (fun x : Int × Value × (List Int) => match x with | (i, v0, l0) => [(5, .int .i64 i), (4, v0)]) (fun (x : Int × Value × (List Int)) w' => match x with | (i, v0, l0) => St w O w' [.row (tI .i64) 3 v0 l0] ∧ 0 ≤ i ∧ i ≤ rim.size ∧ l0 = rng 0 i ∧ (l0.length : Int) = i) (fun x : Int × Value × (List Int) => match x with | (i, v0, l0) => (rim.size - i).toNat) (0, (.slice none 0 0), []) ⟨rfl, rfl, trivial⟩ ⟨hS, (by first | omega | simp), (by first | omega | simp), (rfl), (rfl)⟩ ?_
  rintro ⟨i, v0, l0⟩ u_2 w_1 ⟨hS, h0, h1, h2, h3⟩
  refine W.seq ?_
  refine W.seq ?_
  refine W.reg ?_
  refine Wx.rd (v := .int .i64 i) (rd_move rfl) rfl ?_
  refine Wx.rd (v := .string rim) (rd_move rfl) rfl ?_
  refine Wx.rd (v := .int .i64 (rim.size : Int)) (rd_lenS rfl Tryd.underlying9) rfl ?_
  refine Wx.rd (v := .bool (decide (i < (rim.size : Int)))) (rd_lss rfl rfl) rfl ?_
  refine Wx.nil ?_
  refine W.condD rfl (fun c0 => ?_) (fun c0 => ?_)
  · -- yes
    refine W.skip ?_
    refine W.seq ?_
    refine W.block ?_
    refine W.reg ?_
    refine Wx.rd (v := v0) (rd_move rfl) rfl ?_
    refine Wx.rd (v := .int .i64 i) (rd_move rfl) rfl ?_
    refine Wx.lit (t := (tI .i64)) (ys := [i]) (vs := [.int .i64 i]) elHf_60 hS rfl rfl ⟨(V.mkInt (in_i64 (by omega) (by omega))), trivial⟩ (by decide) rfl (fun v_3 w_4 hx_5 hS => ?_)
    refine Wx.append elHf_60 hS 1 rfl rfl rfl (Src.ofR hS 0 rfl) (by simp only [maxLen]; simp; omega) (by simp; omega) rfl (fun v_6 w_7 hz_8 hS => ?_)
    refine Wx.rd (v := v_6) (rd_assign rfl) rfl ?_
    refine Wx.nil ?_
    refine W.reg ?_
    refine Wx.rd (v := .int .i64 i) (rd_move rfl) rfl ?_
    refine Wx.rd (v := .int .i64 (i + 1)) (rd_add rfl rfl (in_i64 (by omega) (by omega))) rfl ?_
    refine Wx.rd (v := .int .i64 (i + 1)) (rd_assign rfl) rfl ?_
    refine Wx.nil ?_
    refine ⟨(i + 1, v_6, l0 ++ [i]), (by show (rim.size - (i + 1)).toNat < (rim.size - i).toNat; omega), ?_, ?_, Out.look rfl Out.self⟩
    · exact ⟨hS.tl, (by first | omega | assumption), (by first | omega | assumption), (by rw [h2, rng_snoc h0]), (by simp only [List.length_append, List.length_cons, List.length_nil]; omega)⟩
    · exact ⟨rfl, rfl, trivial⟩
  · -- no
    refine W.exit rfl ?_
    refine W.seq ?_
    refine W.reg ?_
    refine Wx.rd (v := (.slice none 0 0)) (rd_assign rfl) rfl ?_
    refine Wx.nil ?_
    refine W.seq ?_
    refine W.seq ?_
    refine W.reg ?_
    refine Wx.rd (v := .int .i64 0) (rd_assign rfl) rfl ?_
    refine Wx.nil ?_
    refine W.block ?_
    have hi : i = rim.size := by omega
    have hS := hS.addNil (tP (tI .i64) (tI .i64)) 58
    have hS := hS.freeze 1 rfl
    have hv_11 : V (tSl (tI .i64)) l0 v0 _ _ := (hS.v 0 rfl)
    have hS := hS.add (hv_11)
    refine W.loop [4, 6, 7, 18, 19, 20, 21, 22, 23, 24, 25, 26, 27, 28, 29, 30, 31, 32, 33, 34, 35, 36, 37, 38, 39, 40, 41, 42, 43, 44, 45, 46, 47, 48, 49, 50, 51, 52, 53, 54, 55, 56, 57, 58, 59] (fun x : Value × (List Int) × Int × Value × (List (Int × Int)) => match x with | (lw, left, k, tv, st) => [(4, lw), (7, .int .i64 k), (6, tv)]) (fun (x : Value × (List Int) × Int × Value × (List (Int × Int))) w' => match x with | (lw, left, k, tv, st) => St w O w' [Ob.v (tSl (tI .i64)) left lw, Ob.v (tSl (tI .i64)) l0 v0, .row (tP (tI .i64) (tI .i64)) 58 tv st] ∧ 0 ≤ k ∧ (k + 1 ≤ left.length ∨ (k = 0 ∧ left.length = 0)) ∧ (∀ q, 0 ≤ q → q < k → fitR rim (ix 0 left q) (ix 0 left (q + 1)) = false) ∧ runS rim (st, left.take (k + 1).toNat) (left.drop (k + 1).toNat) = takS rim ∧ (∀ x ∈ left, 0 ≤ x ∧ x < rim.size) ∧ 2 * (st.length : Int) + left.length = rim.size) (fun x : Value × (List Int) × Int × Value × (List (Int × Int)) => match x with | (lw, left, k, tv, st) => mK left.length k) (v0, l0, 0, (.slice none 0 0), []) ⟨rfl, rfl, rfl, trivial⟩ ⟨hS, (by first | omega | simp), (by omega), (fun q q0 q1 => by omega), (by rw [h2, hi]; exact runS_start), (fun x hx => by rw [h2, rng_mem] at hx; omega), (by rw [h3, hi]; show 2 * (0 : Int) + _ = _; omega)⟩ ?_
    rintro ⟨lw, left, k, tv, st⟩ u_13 w_12 ⟨hS, k0, k1, hI, hR, hB, h4⟩
    refine W.seq ?_
    refine W.seq ?_
    refine W.reg ?_
    refine Wx.rd (v := .int .i64 k) (rd_move rfl) rfl ?_
    refine Wx.rd (v := .int .i64 (k + 1)) (rd_add rfl rfl (in_i64 (by omega) (by omega))) rfl ?_
    refine Wx.rd (v := lw) (rd_move rfl) rfl ?_
    refine Wx.rd (v := .int .i64 (left.length : Int)) (rd_lenV rfl (hS.v 0 rfl) Tryd.underlying60) rfl ?_
    refine Wx.rd (v := .bool (decide ((k + 1) < (left.length : Int)))) (rd_lss rfl rfl) rfl ?_
    refine Wx.nil ?_
    refine W.condD rfl (fun c1 => ?_) (fun c1 => ?_)
    · -- yes
      have hk1 := hB (ix 0 left k) (ix_mem (d := 0) (by omega) (by omega))
      have hk2 := hB (ix 0 left (k + 1)) (ix_mem (d := 0) (by omega) (by omega))
      refine W.skip ?_
      refine W.block ?_
      refine W.seq ?_
      refine W.seq ?_
      refine W.regQ mixedHf_ (by kernel_rfl) ?_
      refine Wx.rd (v := .string rim) (rd_move rfl) rfl ?_
      refine Wx.rd (v := lw) (rd_move rfl) rfl ?_
      refine Wx.rd (v := .int .i64 k) (rd_move rfl) rfl ?_
      refine Wx.ex (rd_index 0 (hS.v 0 rfl) rfl rfl Tryd.underlying60 Tryd.sizeOf3 (by first | omega | (simp only [List.length_set, List.length_append, List.length_cons, List.length_nil, List.length_replicate]; omega)) (by first | omega | (simp only [List.length_set, List.length_append, List.length_cons, List.length_nil, List.length_replicate]; omega))) rfl (fun p_14 hp_15 => ?_)
      refine Wx.rd (v := .int .i64 (ix 0 left k)) (rd_loadI hp_15 rfl Tryd.isAgg3 Tryd.sizeOf3) rfl ?_
      have bd_16 := bd_i64 hp_15.inK
      refine Wx.rd (v := lw) (rd_move rfl) rfl ?_
      refine Wx.rd (v := .int .i64 k) (rd_move rfl) rfl ?_
      refine Wx.rd (v := .int .i64 (k + 1)) (rd_add rfl rfl (in_i64 (by omega) (by omega))) rfl ?_
      refine Wx.ex (rd_index 0 (hS.v 0 rfl) rfl rfl Tryd.underlying60 Tryd.sizeOf3 (by first | omega | (simp only [List.length_set, List.length_append, List.length_cons, List.length_nil, List.length_replicate]; omega)) (by first | omega | (simp only [List.length_set, List.length_append, List.length_cons, List.length_nil, List.length_replicate]; omega))) rfl (fun p_17 hp_18 => ?_)
      refine Wx.rd (v := .int .i64 (ix 0 left (k + 1))) (rd_loadI hp_18 rfl Tryd.isAgg3 Tryd.sizeOf3) rfl ?_
      have bd_19 := bd_i64 hp_18.inK
      refine Wx.callV (v := .bool (fitR rim (ix 0 left k) (ix 0 left (k + 1)))) (run_callF Tryd.call64 rfl) (fun w_20 hw_21 => (F64 (by first | assumption | (simp only [maxLen]; omega) | (simp only [ByteArray.size_extract, ByteArray.size_append, maxLen] at *; omega) | decide) (in_i64 (by omega) (by omega)) (in_i64 (by omega) (by omega)) (by omega) (by omega) (by omega) (by omega) (by omega))) rfl ?_
      refine Wx.rd (v := .bool (!(fitR rim (ix 0 left k) (ix 0 left (k + 1))))) (rd_not rfl) rfl ?_
      refine Wx.nilQ (fun w_22 hx_23 => ?_)
      have hS := hS.ext hx_23
      refine W.cond rfl (fun c2 => ?_) (fun c2 => ?_)
      · -- yes
        try simp only [Bool.and_eq_true, Bool.or_eq_true, Bool.not_eq_true', Bool.and_eq_false_iff, Bool.or_eq_false_iff, Bool.not_eq_false', decide_eq_true_eq, decide_eq_false_iff_not, not_or, Bool.false_eq_true, Bool.true_eq_false, false_or, or_false, not_false_eq_true] at c2
        refine W.seq ?_
        refine W.reg ?_
        refine Wx.rd (v := .int .i64 k) (rd_move rfl) rfl ?_
        refine Wx.rd (v := .int .i64 (k + 1)) (rd_add rfl rfl (in_i64 (by omega) (by omega))) rfl ?_
        refine Wx.rd (v := .int .i64 (k + 1)) (rd_assign rfl) rfl ?_
        refine Wx.nil ?_
        refine W.exit rfl ?_
        have hv_24 : V (tSl (tI .i64)) left lw _ _ := (hS.v 0 rfl)
        refine ⟨(lw, left, k + 1, tv, st), (by exact mK_one k0 (by omega)), ?_, ?_, Out.look rfl Out.self⟩
        · exact ⟨(St.add (St.tl (hS)) (V.tlF (hv_24))), (by first | omega | assumption), (by first | omega | assumption), (fun q q0 q1 => by by_cases hq : q = k; (subst hq; exact c2); exact hI q q0 (by omega)), ((runS_not k0 c1 c2).trans hR), (by first | omega | assumption), (by first | omega | assumption)⟩
        · exact ⟨rfl, rfl, rfl, trivial⟩
      · -- no
        try simp only [Bool.and_eq_true, Bool.or_eq_true, Bool.not_eq_true', Bool.and_eq_false_iff, Bool.or_eq_false_iff, Bool.not_eq_false', decide_eq_true_eq, decide_eq_false_iff_not, not_or, Bool.false_eq_true, Bool.true_eq_false, false_or, or_false, not_false_eq_true] at c2
        refine W.skip ?_
        refine W.seq ?_
        refine W.regP mixedHf_ (fun w_25 hx_26 => ?_)
        have hS := hS.ext hx_26
        refine Wp.rd (v := tv) 0 rfl (by kernel_rfl) (fun _ => (rd_move rfl)) rfl ?_
        refine Wp.rd (v := lw) 1 rfl (by kernel_rfl) (fun _ => (rd_move rfl)) rfl ?_
        refine Wp.rd (v := .int .i64 k) 2 rfl (by kernel_rfl) (fun _ => (rd_move rfl)) rfl ?_
        refine Wp.rd (v := lw) 5 rfl (by kernel_rfl) (fun _ => (rd_move rfl)) rfl ?_
        refine Wp.rd (v := .int .i64 k) 6 rfl (by kernel_rfl) (fun _ => (rd_move rfl)) rfl ?_
        refine Wp.rd (v := .int .i64 (k + 1)) 7 rfl (by kernel_rfl) (fun _ => (rd_add rfl rfl (in_i64 (by omega) (by omega)))) rfl ?_
        refine Wp.br [3, 8] (by kernel_rfl) (by decide) ⟨⟨_, rfl, ?_⟩, ⟨_, rfl, ?_⟩, trivial⟩
        · -- operation 3
          refine Wx.ex (rd_index 0 (hS.v 0 rfl) rfl rfl Tryd.underlying60 Tryd.sizeOf3 (by first | omega | (simp only [List.length_set, List.length_append, List.length_cons, List.length_nil, List.length_replicate]; omega)) (by first | omega | (simp only [List.length_set, List.length_append, List.length_cons, List.length_nil, List.length_replicate]; omega))) rfl (fun p_27 hp_28 => ?_)
          refine Wx.nil ?_
          refine Wp.br [4, 8] (by kernel_rfl) (by decide) ⟨⟨_, rfl, ?_⟩, ⟨_, rfl, ?_⟩, trivial⟩
          · -- operation 4
            refine Wx.rd (v := .int .i64 (ix 0 left k)) (rd_loadI hp_28 rfl Tryd.isAgg3 Tryd.sizeOf3) rfl ?_
            have bd_29 := bd_i64 hp_28.inK
            refine Wx.nil ?_
            refine Wp.br [8] (by kernel_rfl) (by decide) ⟨⟨_, rfl, ?_⟩, trivial⟩
            refine Wx.ex (rd_index 0 (hS.v 0 rfl) rfl rfl Tryd.underlying60 Tryd.sizeOf3 (by first | omega | (simp only [List.length_set, List.length_append, List.length_cons, List.length_nil, List.length_replicate]; omega)) (by first | omega | (simp only [List.length_set, List.length_append, List.length_cons, List.length_nil, List.length_replicate]; omega))) rfl (fun p_30 hp_31 => ?_)
            refine Wx.nil ?_
            refine Wp.br [9] (by kernel_rfl) (by decide) ⟨⟨_, rfl, ?_⟩, trivial⟩
            refine Wx.rd (v := .int .i64 (ix 0 left (k + 1))) (rd_loadI hp_31 rfl Tryd.isAgg3 Tryd.sizeOf3) rfl ?_
            have bd_32 := bd_i64 hp_31.inK
            refine Wx.nil ?_
            refine Wp.rd (v := .agg #[.int .i64 (ix 0 left k), .int .i64 (ix 0 left (k + 1))]) 10 rfl (by kernel_rfl) (fun _ => (rd_build (vs := [(0, .int .i64 (ix 0 left k)), (1, .int .i64 (ix 0 left (k + 1)))]) rfl (by kernel_rfl))) rfl ?_
            refine Wp.br [11] (by kernel_rfl) (by decide) ⟨⟨_, rfl, ?_⟩, trivial⟩
            refine Wx.lit (t := (tP (tI .i64) (tI .i64))) (ys := [(ix 0 left k, ix 0 left (k + 1))]) (vs := [.agg #[.int .i64 (ix 0 left k), .int .i64 (ix 0 left (k + 1))]]) elHf_22 hS rfl rfl ⟨(V.mk2 (in_i64 (by omega) (by omega)) (in_i64 (by omega) (by omega))), trivial⟩ (by decide) rfl (fun v_33 w_34 hx_35 hS => ?_)
            refine Wx.nil ?_
            refine Wp.br [12] (by kernel_rfl) (by decide) ⟨⟨_, rfl, ?_⟩, trivial⟩
            refine Wx.append elHf_22 hS 3 rfl rfl rfl (Src.ofR hS 0 rfl) (by simp only [maxLen]; simp; omega) (by simp; omega) rfl (fun v_36 w_37 hz_38 hS => ?_)
            refine Wx.nil ?_
            refine Wp.rd (v := v_36) 13 rfl (by kernel_rfl) (fun _ => (rd_assign rfl)) rfl ?_
            refine Wp.done (by kernel_rfl) ?_
            refine W.seq ?_
            refine W.regH mixedHf_ (fun w_39 hx_40 => ?_)
            have h0 := hS
            have hS := (St.start _ _ h0.fb_lt).ext hx_40
            refine Wh.rd (v := lw) 1 rfl (by kernel_rfl) hS.bel (rd_move rfl) rfl ?_
            refine Wh.rd (v := .int .i64 k) 2 rfl (by kernel_rfl) hS.bel (rd_move rfl) rfl ?_
            refine Wh.ex 3 rfl (by kernel_rfl) hS.bel (rd_sliceH (h0.v 1 rfl) Tryd.underlying60 Tryd.sizeOf3 rfl rfl (by omega) (by omega)) rfl (fun u_41 hu_42 => ?_)
            have ln_43 := hu_42.len63
            refine Wh.rd (v := lw) 5 rfl (by kernel_rfl) hS.bel (rd_move rfl) rfl ?_
            refine Wh.rd (v := .int .i64 k) 6 rfl (by kernel_rfl) hS.bel (rd_move rfl) rfl ?_
            refine Wh.rd (v := .int .i64 (k + 2)) 7 rfl (by kernel_rfl) hS.bel (rd_add rfl rfl (in_i64 (by omega) (by omega))) rfl ?_
            refine Wh.ex 8 rfl (by kernel_rfl) hS.bel (rd_sliceL (h0.v 1 rfl) Tryd.underlying60 Tryd.sizeOf3 rfl rfl (by omega) (by omega)) rfl (fun u_44 hu_45 => ?_)
            have ln_46 := hu_45.len63
            refine Wh.br [0] (by kernel_rfl) (by decide) ⟨⟨_, rfl, ?_⟩, trivial⟩
            refine Wx.lit (t := (tI .i64)) (ys := []) (vs := []) elHf_60 hS rfl rfl trivial (by decide) rfl (fun v_47 w_48 hx_49 hS => ?_)
            refine Wx.nil ⟨hS.bel, ?_⟩
            refine Wh.br [4] (by kernel_rfl) (by decide) ⟨⟨_, rfl, ?_⟩, trivial⟩
            refine Wx.append elHf_60 hS 0 rfl rfl rfl (Src.ofV (hS.arg hu_42)) (by simp only [maxLen]; simp; omega) (by simp; omega) rfl (fun v_50 w_51 hz_52 hS => ?_)
            refine Wx.nil ⟨hS.bel, ?_⟩
            refine Wh.br [9] (by kernel_rfl) (by decide) ⟨⟨_, rfl, ?_⟩, trivial⟩
            refine Wx.append elHf_60 hS 0 rfl rfl rfl (Src.ofV (hS.arg hu_45)) (by simp only [maxLen]; simp; omega) (by simp; omega) rfl (fun v_53 w_54 hz_55 hS => ?_)
            refine Wx.nil ⟨hS.bel, ?_⟩
            refine Wh.rd (v := v_53) 10 rfl (by kernel_rfl) hS.bel (rd_assign rfl) rfl ?_
            refine Wh.done (by kernel_rfl) ?_
            have hS := h0.merge hS
            refine W.reg ?_
            refine Wx.rd (v := .int .i64 0) (rd_assign rfl) rfl ?_
            refine Wx.nil ?_
            have hS := hS.freeze 0 rfl
            have hll : (([] ++ List.take k.toNat left ++ List.drop (k + 2).toNat left).length : Int) = left.length - 2 := by simp only [List.length_append, List.length_take, List.length_drop, List.length_nil]; omega
            have hv_57 : V (tSl (tI .i64)) ([] ++ (left.take k.toNat) ++ (left.drop (k + 2).toNat)) v_53 _ _ := (hS.v 0 rfl)
            refine ⟨(v_53, [] ++ (left.take k.toNat) ++ (left.drop (k + 2).toNat), 0, v_36, st ++ [(ix 0 left k, ix 0 left (k + 1))]), (by exact mK_two (by omega) k0 (by omega)), ?_, ?_, Out.look rfl Out.self⟩
            · exact ⟨(St.add (St.tl (St.tl (St.tl (hS)))) (V.tlF (V.tlF (V.tlF (hv_57))))), (by first | omega | assumption), (by omega), (fun q q0 q1 => by omega), (by rw [List.nil_append]; exact (runS_fit k0 c1 hI c2).trans hR), (fun x hx => by rw [List.nil_append] at hx; rcases List.mem_append.1 hx with hx | hx; exact hB x (List.mem_of_mem_take hx); exact hB x (List.mem_of_mem_drop hx)), (by simp only [List.length_append, List.length_cons, List.length_nil] at hll ⊢; omega)⟩
            · exact ⟨rfl, rfl, rfl, trivial⟩
          · -- operation 8
            refine Wx.ex (rd_index 0 (hS.v 0 rfl) rfl rfl Tryd.underlying60 Tryd.sizeOf3 (by first | omega | (simp only [List.length_set, List.length_append, List.length_cons, List.length_nil, List.length_replicate]; omega)) (by first | omega | (simp only [List.length_set, List.length_append, List.length_cons, List.length_nil, List.length_replicate]; omega))) rfl (fun p_58 hp_59 => ?_)
            refine Wx.nil ?_
            refine Wp.br [4, 9] (by kernel_rfl) (by decide) ⟨⟨_, rfl, ?_⟩, ⟨_, rfl, ?_⟩, trivial⟩
            · -- operation 4
              refine Wx.rd (v := .int .i64 (ix 0 left k)) (rd_loadI hp_28 rfl Tryd.isAgg3 Tryd.sizeOf3) rfl ?_
              have bd_60 := bd_i64 hp_28.inK
              refine Wx.nil ?_
              refine Wp.br [9] (by kernel_rfl) (by decide) ⟨⟨_, rfl, ?_⟩, trivial⟩
              refine Wx.rd (v := .int .i64 (ix 0 left (k + 1))) (rd_loadI hp_59 rfl Tryd.isAgg3 Tryd.sizeOf3) rfl ?_
              have bd_61 := bd_i64 hp_59.inK
              refine Wx.nil ?_
              refine Wp.rd (v := .agg #[.int .i64 (ix 0 left k), .int .i64 (ix 0 left (k + 1))]) 10 rfl (by kernel_rfl) (fun _ => (rd_build (vs := [(0, .int .i64 (ix 0 left k)), (1, .int .i64 (ix 0 left (k + 1)))]) rfl (by kernel_rfl))) rfl ?_
              refine Wp.br [11] (by kernel_rfl) (by decide) ⟨⟨_, rfl, ?_⟩, trivial⟩
              refine Wx.lit (t := (tP (tI .i64) (tI .i64))) (ys := [(ix 0 left k, ix 0 left (k + 1))]) (vs := [.agg #[.int .i64 (ix 0 left k), .int .i64 (ix 0 left (k + 1))]]) elHf_22 hS rfl rfl ⟨(V.mk2 (in_i64 (by omega) (by omega)) (in_i64 (by omega) (by omega))), trivial⟩ (by decide) rfl (fun v_62 w_63 hx_64 hS => ?_)
              refine Wx.nil ?_
              refine Wp.br [12] (by kernel_rfl) (by decide) ⟨⟨_, rfl, ?_⟩, trivial⟩
              refine Wx.append elHf_22 hS 3 rfl rfl rfl (Src.ofR hS 0 rfl) (by simp only [maxLen]; simp; omega) (by simp; omega) rfl (fun v_65 w_66 hz_67 hS => ?_)
              refine Wx.nil ?_
              refine Wp.rd (v := v_65) 13 rfl (by kernel_rfl) (fun _ => (rd_assign rfl)) rfl ?_
              refine Wp.done (by kernel_rfl) ?_
              refine W.seq ?_
              refine W.regH mixedHf_ (fun w_68 hx_69 => ?_)
              have h0 := hS
              have hS := (St.start _ _ h0.fb_lt).ext hx_69
              refine Wh.rd (v := lw) 1 rfl (by kernel_rfl) hS.bel (rd_move rfl) rfl ?_
              refine Wh.rd (v := .int .i64 k) 2 rfl (by kernel_rfl) hS.bel (rd_move rfl) rfl ?_
              refine Wh.ex 3 rfl (by kernel_rfl) hS.bel (rd_sliceH (h0.v 1 rfl) Tryd.underlying60 Tryd.sizeOf3 rfl rfl (by omega) (by omega)) rfl (fun u_70 hu_71 => ?_)
              have ln_72 := hu_71.len63
              refine Wh.rd (v := lw) 5 rfl (by kernel_rfl) hS.bel (rd_move rfl) rfl ?_
              refine Wh.rd (v := .int .i64 k) 6 rfl (by kernel_rfl) hS.bel (rd_move rfl) rfl ?_
              refine Wh.rd (v := .int .i64 (k + 2)) 7 rfl (by kernel_rfl) hS.bel (rd_add rfl rfl (in_i64 (by omega) (by omega))) rfl ?_
              refine Wh.ex 8 rfl (by kernel_rfl) hS.bel (rd_sliceL (h0.v 1 rfl) Tryd.underlying60 Tryd.sizeOf3 rfl rfl (by omega) (by omega)) rfl (fun u_73 hu_74 => ?_)
              have ln_75 := hu_74.len63
              refine Wh.br [0] (by kernel_rfl) (by decide) ⟨⟨_, rfl, ?_⟩, trivial⟩
              refine Wx.lit (t := (tI .i64)) (ys := []) (vs := []) elHf_60 hS rfl rfl trivial (by decide) rfl (fun v_76 w_77 hx_78 hS => ?_)
              refine Wx.nil ⟨hS.bel, ?_⟩
              refine Wh.br [4] (by kernel_rfl) (by decide) ⟨⟨_, rfl, ?_⟩, trivial⟩
              refine Wx.append elHf_60 hS 0 rfl rfl rfl (Src.ofV (hS.arg hu_71)) (by simp only [maxLen]; simp; omega) (by simp; omega) rfl (fun v_79 w_80 hz_81 hS => ?_)
              refine Wx.nil ⟨hS.bel, ?_⟩
              refine Wh.br [9] (by kernel_rfl) (by decide) ⟨⟨_, rfl, ?_⟩, trivial⟩
              refine Wx.append elHf_60 hS 0 rfl rfl rfl (Src.ofV (hS.arg hu_74)) (by simp only [maxLen]; simp; omega) (by simp; omega) rfl (fun v_82 w_83 hz_84 hS => ?_)
              refine Wx.nil ⟨hS.bel, ?_⟩
              refine Wh.rd (v := v_82) 10 rfl (by kernel_rfl) hS.bel (rd_assign rfl) rfl ?_
              refine Wh.done (by kernel_rfl) ?_
              have hS := h0.merge hS
              refine W.reg ?_
              refine Wx.rd (v := .int .i64 0) (rd_assign rfl) rfl ?_
              refine Wx.nil ?_
              have hS := hS.freeze 0 rfl
              have hll : (([] ++ List.take k.toNat left ++ List.drop (k + 2).toNat left).length : Int) = left.length - 2 := by simp only [List.length_append, List.length_take, List.length_drop, List.length_nil]; omega
              have hv_86 : V (tSl (tI .i64)) ([] ++ (left.take k.toNat) ++ (left.drop (k + 2).toNat)) v_82 _ _ := (hS.v 0 rfl)
              refine ⟨(v_82, [] ++ (left.take k.toNat) ++ (left.drop (k + 2).toNat), 0, v_65, st ++ [(ix 0 left k, ix 0 left (k + 1))]), (by exact mK_two (by omega) k0 (by omega)), ?_, ?_, Out.look rfl Out.self⟩
              · exact ⟨(St.add (St.tl (St.tl (St.tl (hS)))) (V.tlF (V.tlF (V.tlF (hv_86))))), (by first | omega | assumption), (by omega), (fun q q0 q1 => by omega), (by rw [List.nil_append]; exact (runS_fit k0 c1 hI c2).trans hR), (fun x hx => by rw [List.nil_append] at hx; rcases List.mem_append.1 hx with hx | hx; exact hB x (List.mem_of_mem_take hx); exact hB x (List.mem_of_mem_drop hx)), (by simp only [List.length_append, List.length_cons, List.length_nil] at hll ⊢; omega)⟩
              · exact ⟨rfl, rfl, rfl, trivial⟩
            · -- operation 9
              refine Wx.rd (v := .int .i64 (ix 0 left (k + 1))) (rd_loadI hp_59 rfl Tryd.isAgg3 Tryd.sizeOf3) rfl ?_
              have bd_87 := bd_i64 hp_59.inK
              refine Wx.nil ?_
              refine Wp.br [4] (by kernel_rfl) (by decide) ⟨⟨_, rfl, ?_⟩, trivial⟩
              refine Wx.rd (v := .int .i64 (ix 0 left k)) (rd_loadI hp_28 rfl Tryd.isAgg3 Tryd.sizeOf3) rfl ?_
              have bd_88 := bd_i64 hp_28.inK
              refine Wx.nil ?_
              refine Wp.rd (v := .agg #[.int .i64 (ix 0 left k), .int .i64 (ix 0 left (k + 1))]) 10 rfl (by kernel_rfl) (fun _ => (rd_build (vs := [(0, .int .i64 (ix 0 left k)), (1, .int .i64 (ix 0 left (k + 1)))]) rfl (by kernel_rfl))) rfl ?_
              refine Wp.br [11] (by kernel_rfl) (by decide) ⟨⟨_, rfl, ?_⟩, trivial⟩
              refine Wx.lit (t := (tP (tI .i64) (tI .i64))) (ys := [(ix 0 left k, ix 0 left (k + 1))]) (vs := [.agg #[.int .i64 (ix 0 left k), .int .i64 (ix 0 left (k + 1))]]) elHf_22 hS rfl rfl ⟨(V.mk2 (in_i64 (by omega) (by omega)) (in_i64 (by omega) (by omega))), trivial⟩ (by decide) rfl (fun v_89 w_90 hx_91 hS => ?_)
              refine Wx.nil ?_
              refine Wp.br [12] (by kernel_rfl) (by decide) ⟨⟨_, rfl, ?_⟩, trivial⟩
              refine Wx.append elHf_22 hS 3 rfl rfl rfl (Src.ofR hS 0 rfl) (by simp only [maxLen]; simp; omega) (by simp; omega) rfl (fun v_92 w_93 hz_94 hS => ?_)
              refine Wx.nil ?_
              refine Wp.rd (v := v_92) 13 rfl (by kernel_rfl) (fun _ => (rd_assign rfl)) rfl ?_
              refine Wp.done (by kernel_rfl) ?_
              refine W.seq ?_
              refine W.regH mixedHf_ (fun w_95 hx_96 => ?_)
              have h0 := hS
              have hS := (St.start _ _ h0.fb_lt).ext hx_96
              refine Wh.rd (v := lw) 1 rfl (by kernel_rfl) hS.bel (rd_move rfl) rfl ?_
              refine Wh.rd (v := .int .i64 k) 2 rfl (by kernel_rfl) hS.bel (rd_move rfl) rfl ?_
              refine Wh.ex 3 rfl (by kernel_rfl) hS.bel (rd_sliceH (h0.v 1 rfl) Tryd.underlying60 Tryd.sizeOf3 rfl rfl (by omega) (by omega)) rfl (fun u_97 hu_98 => ?_)
              have ln_99 := hu_98.len63
              refine Wh.rd (v := lw) 5 rfl (by kernel_rfl) hS.bel (rd_move rfl) rfl ?_
              refine Wh.rd (v := .int .i64 k) 6 rfl (by kernel_rfl) hS.bel (rd_move rfl) rfl ?_
              refine Wh.rd (v := .int .i64 (k + 2)) 7 rfl (by kernel_rfl) hS.bel (rd_add rfl rfl (in_i64 (by omega) (by omega))) rfl ?_
              refine Wh.ex 8 rfl (by kernel_rfl) hS.bel (rd_sliceL (h0.v 1 rfl) Tryd.underlying60 Tryd.sizeOf3 rfl rfl (by omega) (by omega)) rfl (fun u_100 hu_101 => ?_)
              have ln_102 := hu_101.len63
              refine Wh.br [0] (by kernel_rfl) (by decide) ⟨⟨_, rfl, ?_⟩, trivial⟩
              refine Wx.lit (t := (tI .i64)) (ys := []) (vs := []) elHf_60 hS rfl rfl trivial (by decide) rfl (fun v_103 w_104 hx_105 hS => ?_)
              refine Wx.nil ⟨hS.bel, ?_⟩
              refine Wh.br [4] (by kernel_rfl) (by decide) ⟨⟨_, rfl, ?_⟩, trivial⟩
              refine Wx.append elHf_60 hS 0 rfl rfl rfl (Src.ofV (hS.arg hu_98)) (by simp only [maxLen]; simp; omega) (by simp; omega) rfl (fun v_106 w_107 hz_108 hS => ?_)
              refine Wx.nil ⟨hS.bel, ?_⟩
              refine Wh.br [9] (by kernel_rfl) (by decide) ⟨⟨_, rfl, ?_⟩, trivial⟩
              refine Wx.append elHf_60 hS 0 rfl rfl rfl (Src.ofV (hS.arg hu_101)) (by simp only [maxLen]; simp; omega) (by simp; omega) rfl (fun v_109 w_110 hz_111 hS => ?_)
              refine Wx.nil ⟨hS.bel, ?_⟩
              refine Wh.rd (v := v_109) 10 rfl (by kernel_rfl) hS.bel (rd_assign rfl) rfl ?_
              refine Wh.done (by kernel_rfl) ?_
              have hS := h0.merge hS
              refine W.reg ?_
              refine Wx.rd (v := .int .i64 0) (rd_assign rfl) rfl ?_
              refine Wx.nil ?_
              have hS := hS.freeze 0 rfl
              have hll : (([] ++ List.take k.toNat left ++ List.drop (k + 2).toNat left).length : Int) = left.length - 2 := by simp only [List.length_append, List.length_take, List.length_drop, List.length_nil]; omega
              have hv_113 : V (tSl (tI .i64)) ([] ++ (left.take k.toNat) ++ (left.drop (k + 2).toNat)) v_109 _ _ := (hS.v 0 rfl)
              refine ⟨(v_109, [] ++ (left.take k.toNat) ++ (left.drop (k + 2).toNat), 0, v_92, st ++ [(ix 0 left k, ix 0 left (k + 1))]), (by exact mK_two (by omega) k0 (by omega)), ?_, ?_, Out.look rfl Out.self⟩
              · exact ⟨(St.add (St.tl (St.tl (St.tl (hS)))) (V.tlF (V.tlF (V.tlF (hv_113))))), (by first | omega | assumption), (by omega), (fun q q0 q1 => by omega), (by rw [List.nil_append]; exact (runS_fit k0 c1 hI c2).trans hR), (fun x hx => by rw [List.nil_append] at hx; rcases List.mem_append.1 hx with hx | hx; exact hB x (List.mem_of_mem_take hx); exact hB x (List.mem_of_mem_drop hx)), (by simp only [List.length_append, List.length_cons, List.length_nil] at hll ⊢; omega)⟩
              · exact ⟨rfl, rfl, rfl, trivial⟩
        · -- operation 8
          refine Wx.ex (rd_index 0 (hS.v 0 rfl) rfl rfl Tryd.underlying60 Tryd.sizeOf3 (by first | omega | (simp only [List.length_set, List.length_append, List.length_cons, List.length_nil, List.length_replicate]; omega)) (by first | omega | (simp only [List.length_set, List.length_append, List.length_cons, List.length_nil, List.length_replicate]; omega))) rfl (fun p_114 hp_115 => ?_)
          refine Wx.nil ?_
          refine Wp.br [3, 9] (by kernel_rfl) (by decide) ⟨⟨_, rfl, ?_⟩, ⟨_, rfl, ?_⟩, trivial⟩
          · -- operation 3
            refine Wx.ex (rd_index 0 (hS.v 0 rfl) rfl rfl Tryd.underlying60 Tryd.sizeOf3 (by first | omega | (simp only [List.length_set, List.length_append, List.length_cons, List.length_nil, List.length_replicate]; omega)) (by first | omega | (simp only [List.length_set, List.length_append, List.length_cons, List.length_nil, List.length_replicate]; omega))) rfl (fun p_116 hp_117 => ?_)
            refine Wx.nil ?_
            refine Wp.br [4, 9] (by kernel_rfl) (by decide) ⟨⟨_, rfl, ?_⟩, ⟨_, rfl, ?_⟩, trivial⟩
            · -- operation 4
              refine Wx.rd (v := .int .i64 (ix 0 left k)) (rd_loadI hp_117 rfl Tryd.isAgg3 Tryd.sizeOf3) rfl ?_
              have bd_118 := bd_i64 hp_117.inK
              refine Wx.nil ?_
              refine Wp.br [9] (by kernel_rfl) (by decide) ⟨⟨_, rfl, ?_⟩, trivial⟩
              refine Wx.rd (v := .int .i64 (ix 0 left (k + 1))) (rd_loadI hp_115 rfl Tryd.isAgg3 Tryd.sizeOf3) rfl ?_
              have bd_119 := bd_i64 hp_115.inK
              refine Wx.nil ?_
              refine Wp.rd (v := .agg #[.int .i64 (ix 0 left k), .int .i64 (ix 0 left (k + 1))]) 10 rfl (by kernel_rfl) (fun _ => (rd_build (vs := [(0, .int .i64 (ix 0 left k)), (1, .int .i64 (ix 0 left (k + 1)))]) rfl (by kernel_rfl))) rfl ?_
              refine Wp.br [11] (by kernel_rfl) (by decide) ⟨⟨_, rfl, ?_⟩, trivial⟩
              refine Wx.lit (t := (tP (tI .i64) (tI .i64))) (ys := [(ix 0 left k, ix 0 left (k + 1))]) (vs := [.agg #[.int .i64 (ix 0 left k), .int .i64 (ix 0 left (k + 1))]]) elHf_22 hS rfl rfl ⟨(V.mk2 (in_i64 (by omega) (by omega)) (in_i64 (by omega) (by omega))), trivial⟩ (by decide) rfl (fun v_120 w_121 hx_122 hS => ?_)
              refine Wx.nil ?_
              refine Wp.br [12] (by kernel_rfl) (by decide) ⟨⟨_, rfl, ?_⟩, trivial⟩
              refine Wx.append elHf_22 hS 3 rfl rfl rfl (Src.ofR hS 0 rfl) (by simp only [maxLen]; simp; omega) (by simp; omega) rfl (fun v_123 w_124 hz_125 hS => ?_)
              refine Wx.nil ?_
              refine Wp.rd (v := v_123) 13 rfl (by kernel_rfl) (fun _ => (rd_assign rfl)) rfl ?_
              refine Wp.done (by kernel_rfl) ?_
              refine W.seq ?_
              refine W.regH mixedHf_ (fun w_126 hx_127 => ?_)
              have h0 := hS
              have hS := (St.start _ _ h0.fb_lt).ext hx_127
              refine Wh.rd (v := lw) 1 rfl (by kernel_rfl) hS.bel (rd_move rfl) rfl ?_
              refine Wh.rd (v := .int .i64 k) 2 rfl (by kernel_rfl) hS.bel (rd_move rfl) rfl ?_
              refine Wh.ex 3 rfl (by kernel_rfl) hS.bel (rd_sliceH (h0.v 1 rfl) Tryd.underlying60 Tryd.sizeOf3 rfl rfl (by omega) (by omega)) rfl (fun u_128 hu_129 => ?_)
              have ln_130 := hu_129.len63
              refine Wh.rd (v := lw) 5 rfl (by kernel_rfl) hS.bel (rd_move rfl) rfl ?_
              refine Wh.rd (v := .int .i64 k) 6 rfl (by kernel_rfl) hS.bel (rd_move rfl) rfl ?_
              refine Wh.rd (v := .int .i64 (k + 2)) 7 rfl (by kernel_rfl) hS.bel (rd_add rfl rfl (in_i64 (by omega) (by omega))) rfl ?_
              refine Wh.ex 8 rfl (by kernel_rfl) hS.bel (rd_sliceL (h0.v 1 rfl) Tryd.underlying60 Tryd.sizeOf3 rfl rfl (by omega) (by omega)) rfl (fun u_131 hu_132 => ?_)
              have ln_133 := hu_132.len63
              refine Wh.br [0] (by kernel_rfl) (by decide) ⟨⟨_, rfl, ?_⟩, trivial⟩
              refine Wx.lit (t := (tI .i64)) (ys := []) (vs := []) elHf_60 hS rfl rfl trivial (by decide) rfl (fun v_134 w_135 hx_136 hS => ?_)
              refine Wx.nil ⟨hS.bel, ?_⟩
              refine Wh.br [4] (by kernel_rfl) (by decide) ⟨⟨_, rfl, ?_⟩, trivial⟩
              refine Wx.append elHf_60 hS 0 rfl rfl rfl (Src.ofV (hS.arg hu_129)) (by simp only [maxLen]; simp; omega) (by simp; omega) rfl (fun v_137 w_138 hz_139 hS => ?_)
              refine Wx.nil ⟨hS.bel, ?_⟩
              refine Wh.br [9] (by kernel_rfl) (by decide) ⟨⟨_, rfl, ?_⟩, trivial⟩
              refine Wx.append elHf_60 hS 0 rfl rfl rfl (Src.ofV (hS.arg hu_132)) (by simp only [maxLen]; simp; omega) (by simp; omega) rfl (fun v_140 w_141 hz_142 hS => ?_)
              refine Wx.nil ⟨hS.bel, ?_⟩
              refine Wh.rd (v := v_140) 10 rfl (by kernel_rfl) hS.bel (rd_assign rfl) rfl ?_
              refine Wh.done (by kernel_rfl) ?_
              have hS := h0.merge hS
              refine W.reg ?_
              refine Wx.rd (v := .int .i64 0) (rd_assign rfl) rfl ?_
              refine Wx.nil ?_
              have hS := hS.freeze 0 rfl
              have hll : (([] ++ List.take k.toNat left ++ List.drop (k + 2).toNat left).length : Int) = left.length - 2 := by simp only [List.length_append, List.length_take, List.length_drop, List.length_nil]; omega
              have hv_144 : V (tSl (tI .i64)) ([] ++ (left.take k.toNat) ++ (left.drop (k + 2).toNat)) v_140 _ _ := (hS.v 0 rfl)
              refine ⟨(v_140, [] ++ (left.take k.toNat) ++ (left.drop (k + 2).toNat), 0, v_123, st ++ [(ix 0 left k, ix 0 left (k + 1))]), (by exact mK_two (by omega) k0 (by omega)), ?_, ?_, Out.look rfl Out.self⟩
              · exact ⟨(St.add (St.tl (St.tl (St.tl (hS)))) (V.tlF (V.tlF (V.tlF (hv_144))))), (by first | omega | assumption), (by omega), (fun q q0 q1 => by omega), (by rw [List.nil_append]; exact (runS_fit k0 c1 hI c2).trans hR), (fun x hx => by rw [List.nil_append] at hx; rcases List.mem_append.1 hx with hx | hx; exact hB x (List.mem_of_mem_take hx); exact hB x (List.mem_of_mem_drop hx)), (by simp only [List.length_append, List.length_cons, List.length_nil] at hll ⊢; omega)⟩
              · exact ⟨rfl, rfl, rfl, trivial⟩
            · -- operation 9
              refine Wx.rd (v := .int .i64 (ix 0 left (k + 1))) (rd_loadI hp_115 rfl Tryd.isAgg3 Tryd.sizeOf3) rfl ?_
              have bd_145 := bd_i64 hp_115.inK
              refine Wx.nil ?_
              refine Wp.br [4] (by kernel_rfl) (by decide) ⟨⟨_, rfl, ?_⟩, trivial⟩
              refine Wx.rd (v := .int .i64 (ix 0 left k)) (rd_loadI hp_117 rfl Tryd.isAgg3 Tryd.sizeOf3) rfl ?_
              have bd_146 := bd_i64 hp_117.inK
              refine Wx.nil ?_
              refine Wp.rd (v := .agg #[.int .i64 (ix 0 left k), .int .i64 (ix 0 left (k + 1))]) 10 rfl (by kernel_rfl) (fun _ => (rd_build (vs := [(0, .int .i64 (ix 0 left k)), (1, .int .i64 (ix 0 left (k + 1)))]) rfl (by kernel_rfl))) rfl ?_
              refine Wp.br [11] (by kernel_rfl) (by decide) ⟨⟨_, rfl, ?_⟩, trivial⟩
              refine Wx.lit (t := (tP (tI .i64) (tI .i64))) (ys := [(ix 0 left k, ix 0 left (k + 1))]) (vs := [.agg #[.int .i64 (ix 0 left k), .int .i64 (ix 0 left (k + 1))]]) elHf_22 hS rfl rfl ⟨(V.mk2 (in_i64 (by omega) (by omega)) (in_i64 (by omega) (by omega))), trivial⟩ (by decide) rfl (fun v_147 w_148 hx_149 hS => ?_)
              refine Wx.nil ?_
              refine Wp.br [12] (by kernel_rfl) (by decide) ⟨⟨_, rfl, ?_⟩, trivial⟩
              refine Wx.append elHf_22 hS 3 rfl rfl rfl (Src.ofR hS 0 rfl) (by simp only [maxLen]; simp; omega) (by simp; omega) rfl (fun v_150 w_151 hz_152 hS => ?_)
              refine Wx.nil ?_
              refine Wp.rd (v := v_150) 13 rfl (by kernel_rfl) (fun _ => (rd_assign rfl)) rfl ?_
              refine Wp.done (by kernel_rfl) ?_
              refine W.seq ?_
              refine W.regH mixedHf_ (fun w_153 hx_154 => ?_)
              have h0 := hS
              have hS := (St.start _ _ h0.fb_lt).ext hx_154
              refine Wh.rd (v := lw) 1 rfl (by kernel_rfl) hS.bel (rd_move rfl) rfl ?_
              refine Wh.rd (v := .int .i64 k) 2 rfl (by kernel_rfl) hS.bel (rd_move rfl) rfl ?_
              refine Wh.ex 3 rfl (by kernel_rfl) hS.bel (rd_sliceH (h0.v 1 rfl) Tryd.underlying60 Tryd.sizeOf3 rfl rfl (by omega) (by omega)) rfl (fun u_155 hu_156 => ?_)
              have ln_157 := hu_156.len63
              refine Wh.rd (v := lw) 5 rfl (by kernel_rfl) hS.bel (rd_move rfl) rfl ?_
              refine Wh.rd (v := .int .i64 k) 6 rfl (by kernel_rfl) hS.bel (rd_move rfl) rfl ?_
              refine Wh.rd (v := .int .i64 (k + 2)) 7 rfl (by kernel_rfl) hS.bel (rd_add rfl rfl (in_i64 (by omega) (by omega))) rfl ?_
              refine Wh.ex 8 rfl (by kernel_rfl) hS.bel (rd_sliceL (h0.v 1 rfl) Tryd.underlying60 Tryd.sizeOf3 rfl rfl (by omega) (by omega)) rfl (fun u_158 hu_159 => ?_)
              have ln_160 := hu_159.len63
              refine Wh.br [0] (by kernel_rfl) (by decide) ⟨⟨_, rfl, ?_⟩, trivial⟩
              refine Wx.lit (t := (tI .i64)) (ys := []) (vs := []) elHf_60 hS rfl rfl trivial (by decide) rfl (fun v_161 w_162 hx_163 hS => ?_)
              refine Wx.nil ⟨hS.bel, ?_⟩
              refine Wh.br [4] (by kernel_rfl) (by decide) ⟨⟨_, rfl, ?_⟩, trivial⟩
              refine Wx.append elHf_60 hS 0 rfl rfl rfl (Src.ofV (hS.arg hu_156)) (by simp only [maxLen]; simp; omega) (by simp; omega) rfl (fun v_164 w_165 hz_166 hS => ?_)
              refine Wx.nil ⟨hS.bel, ?_⟩
              refine Wh.br [9] (by kernel_rfl) (by decide) ⟨⟨_, rfl, ?_⟩, trivial⟩
              refine Wx.append elHf_60 hS 0 rfl rfl rfl (Src.ofV (hS.arg hu_159)) (by simp only [maxLen]; simp; omega) (by simp; omega) rfl (fun v_167 w_168 hz_169 hS => ?_)
              refine Wx.nil ⟨hS.bel, ?_⟩
              refine Wh.rd (v := v_167) 10 rfl (by kernel_rfl) hS.bel (rd_assign rfl) rfl ?_
              refine Wh.done (by kernel_rfl) ?_
              have hS := h0.merge hS
              refine W.reg ?_
              refine Wx.rd (v := .int .i64 0) (rd_assign rfl) rfl ?_
              refine Wx.nil ?_
              have hS := hS.freeze 0 rfl
              have hll : (([] ++ List.take k.toNat left ++ List.drop (k + 2).toNat left).length : Int) = left.length - 2 := by simp only [List.length_append, List.length_take, List.length_drop, List.length_nil]; omega
              have hv_171 : V (tSl (tI .i64)) ([] ++ (left.take k.toNat) ++ (left.drop (k + 2).toNat)) v_167 _ _ := (hS.v 0 rfl)
              refine ⟨(v_167, [] ++ (left.take k.toNat) ++ (left.drop (k + 2).toNat), 0, v_150, st ++ [(ix 0 left k, ix 0 left (k + 1))]), (by exact mK_two (by omega) k0 (by omega)), ?_, ?_, Out.look rfl Out.self⟩
              · exact ⟨(St.add (St.tl (St.tl (St.tl (hS)))) (V.tlF (V.tlF (V.tlF (hv_171))))), (by first | omega | assumption), (by omega), (fun q q0 q1 => by omega), (by rw [List.nil_append]; exact (runS_fit k0 c1 hI c2).trans hR), (fun x hx => by rw [List.nil_append] at hx; rcases List.mem_append.1 hx with hx | hx; exact hB x (List.mem_of_mem_take hx); exact hB x (List.mem_of_mem_drop hx)), (by simp only [List.length_append, List.length_cons, List.length_nil] at hll ⊢; omega)⟩
              · exact ⟨rfl, rfl, rfl, trivial⟩
          · -- operation 9
            refine Wx.rd (v := .int .i64 (ix 0 left (k + 1))) (rd_loadI hp_115 rfl Tryd.isAgg3 Tryd.sizeOf3) rfl ?_
            have bd_172 := bd_i64 hp_115.inK
            refine Wx.nil ?_
            refine Wp.br [3] (by kernel_rfl) (by decide) ⟨⟨_, rfl, ?_⟩, trivial⟩
            refine Wx.ex (rd_index 0 (hS.v 0 rfl) rfl rfl Tryd.underlying60 Tryd.sizeOf3 (by first | omega | (simp only [List.length_set, List.length_append, List.length_cons, List.length_nil, List.length_replicate]; omega)) (by first | omega | (simp only [List.length_set, List.length_append, List.length_cons, List.length_nil, List.length_replicate]; omega))) rfl (fun p_173 hp_174 => ?_)
            refine Wx.nil ?_
            refine Wp.br [4] (by kernel_rfl) (by decide) ⟨⟨_, rfl, ?_⟩, trivial⟩
            refine Wx.rd (v := .int .i64 (ix 0 left k)) (rd_loadI hp_174 rfl Tryd.isAgg3 Tryd.sizeOf3) rfl ?_
            have bd_175 := bd_i64 hp_174.inK
            refine Wx.nil ?_
            refine Wp.rd (v := .agg #[.int .i64 (ix 0 left k), .int .i64 (ix 0 left (k + 1))]) 10 rfl (by kernel_rfl) (fun _ => (rd_build (vs := [(0, .int .i64 (ix 0 left k)), (1, .int .i64 (ix 0 left (k + 1)))]) rfl (by kernel_rfl))) rfl ?_
            refine Wp.br [11] (by kernel_rfl) (by decide) ⟨⟨_, rfl, ?_⟩, trivial⟩
            refine Wx.lit (t := (tP (tI .i64) (tI .i64))) (ys := [(ix 0 left k, ix 0 left (k + 1))]) (vs := [.agg #[.int .i64 (ix 0 left k), .int .i64 (ix 0 left (k + 1))]]) elHf_22 hS rfl rfl ⟨(V.mk2 (in_i64 (by omega) (by omega)) (in_i64 (by omega) (by omega))), trivial⟩ (by decide) rfl (fun v_176 w_177 hx_178 hS => ?_)
            refine Wx.nil ?_
            refine Wp.br [12] (by kernel_rfl) (by decide) ⟨⟨_, rfl, ?_⟩, trivial⟩
            refine Wx.append elHf_22 hS 3 rfl rfl rfl (Src.ofR hS 0 rfl) (by simp only [maxLen]; simp; omega) (by simp; omega) rfl (fun v_179 w_180 hz_181 hS => ?_)
            refine Wx.nil ?_
            refine Wp.rd (v := v_179) 13 rfl (by kernel_rfl) (fun _ => (rd_assign rfl)) rfl ?_
            refine Wp.done (by kernel_rfl) ?_
            refine W.seq ?_
            refine W.regH mixedHf_ (fun w_182 hx_183 => ?_)
            have h0 := hS
            have hS := (St.start _ _ h0.fb_lt).ext hx_183
            refine Wh.rd (v := lw) 1 rfl (by kernel_rfl) hS.bel (rd_move rfl) rfl ?_
            refine Wh.rd (v := .int .i64 k) 2 rfl (by kernel_rfl) hS.bel (rd_move rfl) rfl ?_
            refine Wh.ex 3 rfl (by kernel_rfl) hS.bel (rd_sliceH (h0.v 1 rfl) Tryd.underlying60 Tryd.sizeOf3 rfl rfl (by omega) (by omega)) rfl (fun u_184 hu_185 => ?_)
            have ln_186 := hu_185.len63
            refine Wh.rd (v := lw) 5 rfl (by kernel_rfl) hS.bel (rd_move rfl) rfl ?_
            refine Wh.rd (v := .int .i64 k) 6 rfl (by kernel_rfl) hS.bel (rd_move rfl) rfl ?_
            refine Wh.rd (v := .int .i64 (k + 2)) 7 rfl (by kernel_rfl) hS.bel (rd_add rfl rfl (in_i64 (by omega) (by omega))) rfl ?_
            refine Wh.ex 8 rfl (by kernel_rfl) hS.bel (rd_sliceL (h0.v 1 rfl) Tryd.underlying60 Tryd.sizeOf3 rfl rfl (by omega) (by omega)) rfl (fun u_187 hu_188 => ?_)
            have ln_189 := hu_188.len63
            refine Wh.br [0] (by kernel_rfl) (by decide) ⟨⟨_, rfl, ?_⟩, trivial⟩
            refine Wx.lit (t := (tI .i64)) (ys := []) (vs := []) elHf_60 hS rfl rfl trivial (by decide) rfl (fun v_190 w_191 hx_192 hS => ?_)
            refine Wx.nil ⟨hS.bel, ?_⟩
            refine Wh.br [4] (by kernel_rfl) (by decide) ⟨⟨_, rfl, ?_⟩, trivial⟩
            refine Wx.append elHf_60 hS 0 rfl rfl rfl (Src.ofV (hS.arg hu_185)) (by simp only [maxLen]; simp; omega) (by simp; omega) rfl (fun v_193 w_194 hz_195 hS => ?_)
            refine Wx.nil ⟨hS.bel, ?_⟩
            refine Wh.br [9] (by kernel_rfl) (by decide) ⟨⟨_, rfl, ?_⟩, trivial⟩
            refine Wx.append elHf_60 hS 0 rfl rfl rfl (Src.ofV (hS.arg hu_188)) (by simp only [maxLen]; simp; omega) (by simp; omega) rfl (fun v_196 w_197 hz_198 hS => ?_)
            refine Wx.nil ⟨hS.bel, ?_⟩
            refine Wh.rd (v := v_196) 10 rfl (by kernel_rfl) hS.bel (rd_assign rfl) rfl ?_
            refine Wh.done (by kernel_rfl) ?_
            have hS := h0.merge hS
            refine W.reg ?_
            refine Wx.rd (v := .int .i64 0) (rd_assign rfl) rfl ?_
            refine Wx.nil ?_
            have hS := hS.freeze 0 rfl
            have hll : (([] ++ List.take k.toNat left ++ List.drop (k + 2).toNat left).length : Int) = left.length - 2 := by simp only [List.length_append, List.length_take, List.length_drop, List.length_nil]; omega
            have hv_200 : V (tSl (tI .i64)) ([] ++ (left.take k.toNat) ++ (left.drop (k + 2).toNat)) v_196 _ _ := (hS.v 0 rfl)
            refine ⟨(v_196, [] ++ (left.take k.toNat) ++ (left.drop (k + 2).toNat), 0, v_179, st ++ [(ix 0 left k, ix 0 left (k + 1))]), (by exact mK_two (by omega) k0 (by omega)), ?_, ?_, Out.look rfl Out.self⟩
            · exact ⟨(St.add (St.tl (St.tl (St.tl (hS)))) (V.tlF (V.tlF (V.tlF (hv_200))))), (by first | omega | assumption), (by omega), (fun q q0 q1 => by omega), (by rw [List.nil_append]; exact (runS_fit k0 c1 hI c2).trans hR), (fun x hx => by rw [List.nil_append] at hx; rcases List.mem_append.1 hx with hx | hx; exact hB x (List.mem_of_mem_take hx); exact hB x (List.mem_of_mem_drop hx)), (by simp only [List.length_append, List.length_cons, List.length_nil] at hll ⊢; omega)⟩
            · exact ⟨rfl, rfl, rfl, trivial⟩
    · -- no
      refine W.exit rfl ?_
      refine W.seq ?_
      refine W.reg ?_
      refine Wx.rd (v := tv) (rd_move rfl) rfl ?_
      refine Wx.rd (v := lw) (rd_move rfl) rfl ?_
      refine Wx.rd (v := tv) (rd_assign rfl) rfl ?_
      refine Wx.rd (v := lw) (rd_assign rfl) rfl ?_
      refine Wx.nil ?_
      have e0_0 : (takS rim).1 = st := by rw [← hR, runS_end (by omega)]
      have e0_1 : (takS rim).2 = left := by rw [← hR, runS_end (by omega)]
      exact W.ret ⟨.tuple #[tv, lw], ResIs.two, hS.bel, ⟨tv, lw, rfl, (by rw [e0_0]; exact ((hS.lend 2 rfl).mv (.less (fun _ h => List.mem_append.2 (.inr h))))), (by rw [e0_1]; exact (V.mv (hS.v 0 rfl) (.less (fun _ h => List.mem_append.2 (.inr h)))))⟩⟩
end Go.Proofs.YtokdjjebnomciaaDoor

namespace Go.Proofs.YtokdjjebnomciaaDoor
open Go.Wk Go.RowKit Go.Lib
set_option linter.unusedVariables false
set_option linter.unusedSimpArgs false
theorem mixedHg_ : Tryd.prog.follows .mixedOrders = true := by kernel_rfl

theorem F75 {rim : ByteArray} {w : World} (s_rim : rim.size ≤ maxLen) (p_12 : (rim.size : Int) ≤ 12) (p_l : Lets rim) (hG : Laid w) : Calls Tryd.prog 75 #[.string rim] w (Ret w (fun r _ => r = .string (restV rim))) := by
  have hlb := takS_bd (s := rim)
  have hS := St.start0 w
  refine enterR Tryd.func75 rfl Tryd.ntmps75 Tryd.results75 rfl ?_
  refine W.seq ?_
  refine W.reg ?_
  refine Wx.rd (v := .string ({ data := #[] } : ByteArray)) (rd_assign rfl) rfl ?_
  refine Wx.nil ?_
  refine W.seq ?_
  refine W.reg ?_
  refine Wx.alloc (cs := [(.pointer none), (.slice none 0 0)]) hS Tryd.zeroValue116 rfl rfl (fun g_1 w_2 hx_4 hb_3 hS => ?_)
  refine Wx.nil ?_
  refine W.seq ?_
  refine W.reg ?_
  refine Wx.rd (v := .string rim) (rd_move rfl) rfl ?_
  refine Wx.callF (run_callF Tryd.call73 rfl) (F73b (by first | assumption | (simp only [maxLen]; omega) | (simp only [ByteArray.size_extract, ByteArray.size_append, maxLen] at *; omega) | decide) (by omega) (by omega) hS.fb_lt (hG.ext hS.bel)) rfl ?_
  rintro r_5 w_6 hx_7 ⟨v_8, v_9, rfl, hv_10, hv_11⟩
  have hS := hS.pushFr hx_7 hv_11
  refine Wx.rd (v := .tuple #[v_8, v_9]) (rd_move rfl) rfl ?_
  refine Wx.rd (v := v_8) (rd_extract rfl rfl) rfl ?_
  refine Wx.rd (v := v_9) (rd_extract rfl rfl) rfl ?_
  refine Wx.rd (v := v_8) (rd_assign rfl) rfl ?_
  refine Wx.rd (v := v_9) (rd_assign rfl) rfl ?_
  refine Wx.nil ?_
  refine W.seq ?_
  refine W.seq ?_
  refine W.reg ?_
  refine Wx.rd (v := v_9) (rd_move rfl) rfl ?_
  refine Wx.rd (v := .int .i64 (((takS rim).2).length : Int)) (rd_lenR hS 0 rfl rfl Tryd.underlying60) rfl ?_
  refine Wx.rd (v := .int .i64 0) (rd_move rfl) rfl ?_
  refine Wx.nil ?_
  refine W.block ?_
  have hbd := bld_start hS 1 rfl
  have hS := (hS.front 1 rfl).tl
  refine W.loop [7, 15, 16, 17, 18, 19, 20, 21, 22, 23] (fun (k : Int) => [(15, .int .i64 k)]) (fun (k : Int) w' => St w [] w' [.row (tI .i64) 3 v_9 ((takS rim).2)] ∧ 0 ≤ k ∧ k ≤ (takS rim).2.length ∧ Lib.IsBuilderF 116 5 w.heap.size g_1 (Lib.byteCells (((takS rim).2.take k.toNat).map (byteAt rim))) w') (fun (k : Int) => ((takS rim).2.length - k).toNat) 0 ⟨rfl, trivial⟩ ⟨hS, (by first | omega | simp), (by first | omega | simp), (hbd)⟩ ?_
  rintro k u_15 w_14 ⟨hS, h0, h1, hbd⟩
  refine W.seq ?_
  refine W.reg ?_
  refine Wx.rd (v := .bool (decide (k < (((takS rim).2).length : Int)))) (rd_lss rfl rfl) rfl ?_
  refine Wx.nil ?_
  refine W.seq ?_
  refine W.condD rfl (fun c0 => ?_) (fun c0 => ?_)
  · -- yes
    have hkb := hlb.1 (ix 0 (takS rim).2 k) (ix_mem h0 c0)
    refine W.skip ?_
    refine W.seq ?_
    refine W.block ?_
    refine W.seq ?_
    refine W.reg ?_
    refine Wx.indexR hS 0 rfl rfl rfl Tryd.underlying60 Tryd.sizeOf3 (by first | omega | (simp only [List.length_set, List.length_append, List.length_cons, List.length_nil, List.length_replicate]; omega)) (by first | omega | (simp only [List.length_set, List.length_append, List.length_cons, List.length_nil, List.length_replicate]; omega)) rfl (fun g_16 hg_17 => ?_)
    refine Wx.rd (v := .int .i64 (ix 0 ((takS rim).2) k)) (rd_loadRI' hS 0 rfl hg_17 rfl (by first | omega | (simp only [List.length_set, List.length_append, List.length_cons, List.length_nil, List.length_replicate]; omega)) (by first | omega | (simp only [List.length_set, List.length_append, List.length_cons, List.length_nil, List.length_replicate]; omega)) Tryd.isAgg3 Tryd.sizeOf3) rfl ?_
    have bd_18 := bd_i64 (hS.rowInK' 0 rfl (by first | omega | (simp only [List.length_set, List.length_append, List.length_cons, List.length_nil, List.length_replicate]; omega)) (by first | omega | (simp only [List.length_set, List.length_append, List.length_cons, List.length_nil, List.length_replicate]; omega)) : InK .i64 (ix 0 ((takS rim).2) k))
    refine Wx.rd (v := .int .i64 (ix 0 ((takS rim).2) k)) (rd_assign rfl) rfl ?_
    refine Wx.nil ?_
    refine W.reg ?_
    refine Wx.rd (v := .string rim) (rd_move rfl) rfl ?_
    refine Wx.rd (v := .int .i64 (ix 0 ((takS rim).2) k)) (rd_move rfl) rfl ?_
    refine Wx.rd (v := .int .u8 (tabAt rim (ix 0 ((takS rim).2) k))) (rd_indexS' (by kernel_rfl) rfl Tryd.underlying9 (by omega) (by omega)) rfl ?_
    have bd_19 := tabAt_bd rim (ix 0 ((takS rim).2) k)
    refine Wx.callB (run_callF Tryd.call94 rfl) (F94 hbd rfl (by rw [List.length_map, List.length_take]; omega) hS.bel.size) rfl ?_
    rintro r_20 w_21 ⟨rfl, hbd2, hBe, hBk⟩
    have hS := bld_keep hS hbd hBe hBk
    have hbd := hbd2
    refine Wx.nil ?_
    refine W.reg ?_
    refine Wx.rd (v := .int .i64 (k + 1)) (rd_add rfl rfl (in_i64 (by omega) (by omega))) rfl ?_
    refine Wx.rd (v := .int .i64 (k + 1)) (rd_move rfl) rfl ?_
    refine Wx.nil ?_
    refine ⟨k + 1, (by show ((takS rim).2.length - (k + 1)).toNat < ((takS rim).2.length - k).toNat; omega), ?_, ?_, Out.look rfl Out.self⟩
    · exact ⟨hS, (by first | omega | assumption), (by first | omega | assumption), (by rw [take_ix (d := 0) h0 c0, List.map_append]; exact hbd)⟩
    · exact ⟨rfl, trivial⟩
  · -- no
    refine W.exit rfl ?_
    refine W.seq ?_
    refine W.reg ?_
    refine Wx.callB (run_callF Tryd.call95 rfl) (F95 hbd hS.bel.size) rfl ?_
    rintro r_22 w_23 ⟨rfl, hBe⟩
    have hS := (St.start0 w).ext (Below.trans hS.bel hBe)
    refine Wx.rd (v := .string (mkB (((takS rim).2.take k.toNat).map (byteAt rim)))) (rd_assign rfl) rfl ?_
    refine Wx.nil ?_
    have e0_0 : (restV rim) = (mkB (((takS rim).2.take k.toNat).map (byteAt rim))) := by rw [restV, List.take_of_length_le (by omega)]
    exact W.ret ⟨.string (mkB (((takS rim).2.take k.toNat).map (byteAt rim))), ResIs.one, hS.bel, (by rw [e0_0])⟩

theorem F76 {rim : ByteArray} {O : List (Option Nat)} {w : World} (s_rim : rim.size ≤ maxLen) (p_12 : (rim.size : Int) ≤ 12) (p_l : Lets rim) (hO : ∀ b, some b ∈ O → b < w.heap.size) : Calls Tryd.prog 76 #[.string rim] w (Ret w (fun r _ => r = .string (restV rim))) := by
  have hlb := takS_bd (s := rim)
  have hS := St.start w O hO
  refine enterR Tryd.func76 rfl Tryd.ntmps76 Tryd.results76 rfl ?_
  refine W.seq ?_
  refine W.reg ?_
  refine Wx.rd (v := .string ({ data := #[] } : ByteArray)) (rd_assign rfl) rfl ?_
  refine Wx.nil ?_
  refine W.seq ?_
  refine W.reg ?_
  refine Wx.rd (v := .string rim) (rd_move rfl) rfl ?_
  refine Wx.callF (run_callF Tryd.call74 rfl) (F74 (by first | assumption | (simp only [maxLen]; omega) | (simp only [ByteArray.size_extract, ByteArray.size_append, maxLen] at *; omega) | decide) (by omega) (by omega) hS.fb_lt) rfl ?_
  rintro r_1 w_2 hx_3 ⟨v_4, v_5, rfl, hv_6, hv_7⟩
  have ln_9 := hv_6.len63
  have ln_11 := hv_7.len63
  have hS := hS.ext hx_3
  have hS := hS.add hv_6
  have hS := hS.add (hv_7.mv (.less (by simp [fb, Ob.blk])))
  refine Wx.rd (v := .tuple #[v_4, v_5]) (rd_move rfl) rfl ?_
  refine Wx.rd (v := v_4) (rd_extract rfl rfl) rfl ?_
  refine Wx.rd (v := v_5) (rd_extract rfl rfl) rfl ?_
  refine Wx.rd (v := v_4) (rd_assign rfl) rfl ?_
  refine Wx.rd (v := v_5) (rd_assign rfl) rfl ?_
  refine Wx.nil ?_
  refine W.seq ?_
  refine W.reg ?_
  refine Wx.rd (v := .string ({ data := #[] } : ByteArray)) (rd_assign rfl) rfl ?_
  refine Wx.nil ?_
  refine W.seq ?_
  refine W.seq ?_
  refine W.reg ?_
  refine Wx.rd (v := .int .i64 0) (rd_assign rfl) rfl ?_
  refine Wx.nil ?_
  refine W.block ?_
  refine W.loop [5, 6, 12, 13, 14, 15, 16, 17, 18, 19, 20, 21, 22, 23, 24, 25, 26, 27, 28, 29, 30] (fun x : ByteArray × Int => match x with | (out, k) => [(5, .string out), (6, .int .i64 k)]) (fun (x : ByteArray × Int) w' => match x with | (out, k) => St w O w' [Ob.v (tSl (tI .i64)) ((takS rim).2) v_5, Ob.v (tSl (tP (tI .i64) (tI .i64))) ((takS rim).1) v_4] ∧ 0 ≤ k ∧ k ≤ (takS rim).2.length ∧ out = mkB (((takS rim).2.take k.toNat).map (byteAt rim))) (fun x : ByteArray × Int => match x with | (out, k) => ((takS rim).2.length - k).toNat) (({ data := #[] } : ByteArray), 0) ⟨rfl, rfl, trivial⟩ ⟨hS, (by first | omega | simp), (by first | omega | simp), (rfl)⟩ ?_
  rintro ⟨out, k⟩ u_13 w_12 ⟨hS, h0, h1, h2⟩
  refine W.seq ?_
  refine W.seq ?_
  refine W.reg ?_
  refine Wx.rd (v := .int .i64 k) (rd_move rfl) rfl ?_
  refine Wx.rd (v := v_5) (rd_move rfl) rfl ?_
  refine Wx.rd (v := .int .i64 (((takS rim).2).length : Int)) (rd_lenV rfl (hS.v 0 rfl) Tryd.underlying60) rfl ?_
  refine Wx.rd (v := .bool (decide (k < (((takS rim).2).length : Int)))) (rd_lss rfl rfl) rfl ?_
  refine Wx.nil ?_
  refine W.condD rfl (fun c0 => ?_) (fun c0 => ?_)
  · -- yes
    have hkb := hlb.1 (ix 0 (takS rim).2 k) (ix_mem h0 c0)
    have hos : (out.size : Int) = k := by rw [h2, mkB_size, List.length_map, List.length_take]; omega
    have hes : ((rim.extract (ix 0 (takS rim).2 k).toNat (ix 0 (takS rim).2 k + 1).toNat).size : Int) = 1 := by rw [ByteArray.size_extract]; omega
    refine W.skip ?_
    refine W.seq ?_
    refine W.block ?_
    refine W.regQ mixedHg_ (by kernel_rfl) ?_
    refine Wx.rd (v := .string out) (rd_move rfl) rfl ?_
    refine Wx.rd (v := .string rim) (rd_move rfl) rfl ?_
    refine Wx.rd (v := v_5) (rd_move rfl) rfl ?_
    refine Wx.rd (v := .int .i64 k) (rd_move rfl) rfl ?_
    refine Wx.ex (rd_index 0 (hS.v 0 rfl) rfl rfl Tryd.underlying60 Tryd.sizeOf3 (by first | omega | (simp only [List.length_set, List.length_append, List.length_cons, List.length_nil, List.length_replicate]; omega)) (by first | omega | (simp only [List.length_set, List.length_append, List.length_cons, List.length_nil, List.length_replicate]; omega))) rfl (fun p_14 hp_15 => ?_)
    refine Wx.rd (v := .int .i64 (ix 0 ((takS rim).2) k)) (rd_loadI hp_15 rfl Tryd.isAgg3 Tryd.sizeOf3) rfl ?_
    have bd_16 := bd_i64 hp_15.inK
    refine Wx.rd (v := v_5) (rd_move rfl) rfl ?_
    refine Wx.rd (v := .int .i64 k) (rd_move rfl) rfl ?_
    refine Wx.ex (rd_index 0 (hS.v 0 rfl) rfl rfl Tryd.underlying60 Tryd.sizeOf3 (by first | omega | (simp only [List.length_set, List.length_append, List.length_cons, List.length_nil, List.length_replicate]; omega)) (by first | omega | (simp only [List.length_set, List.length_append, List.length_cons, List.length_nil, List.length_replicate]; omega))) rfl (fun p_17 hp_18 => ?_)
    refine Wx.rd (v := .int .i64 (ix 0 ((takS rim).2) k)) (rd_loadI hp_18 rfl Tryd.isAgg3 Tryd.sizeOf3) rfl ?_
    have bd_19 := bd_i64 hp_18.inK
    refine Wx.rd (v := .int .i64 ((ix 0 ((takS rim).2) k) + 1)) (rd_add rfl rfl (in_i64 (by omega) (by omega))) rfl ?_
    refine Wx.rd (v := .string ((rim).extract (ix 0 ((takS rim).2) k).toNat ((ix 0 ((takS rim).2) k) + 1).toNat)) (rd_sliceS_LH Tryd.underlying9 rfl rfl rfl (by omega) (by omega) (by omega)) rfl ?_
    refine Wx.rd (v := .string (out ++ ((rim).extract (ix 0 ((takS rim).2) k).toNat ((ix 0 ((takS rim).2) k) + 1).toNat))) (rd_addS rfl rfl (by omega)) rfl ?_
    refine Wx.rd (v := .string (out ++ ((rim).extract (ix 0 ((takS rim).2) k).toNat ((ix 0 ((takS rim).2) k) + 1).toNat))) (rd_assign rfl) rfl ?_
    refine Wx.nilQ (fun w_20 hx_21 => ?_)
    have hS := hS.ext hx_21
    refine W.reg ?_
    refine Wx.rd (v := .int .i64 k) (rd_move rfl) rfl ?_
    refine Wx.rd (v := .int .i64 (k + 1)) (rd_add rfl rfl (in_i64 (by omega) (by omega))) rfl ?_
    refine Wx.rd (v := .int .i64 (k + 1)) (rd_assign rfl) rfl ?_
    refine Wx.nil ?_
    refine ⟨(out ++ ((rim).extract (ix 0 ((takS rim).2) k).toNat ((ix 0 ((takS rim).2) k) + 1).toNat), k + 1), (by show ((takS rim).2.length - (k + 1)).toNat < ((takS rim).2.length - k).toNat; omega), ?_, ?_, Out.look rfl Out.self⟩
    · exact ⟨hS, (by first | omega | assumption), (by first | omega | assumption), (by rw [take_ix (d := 0) h0 c0, List.map_append, ← mkB_app, ← h2, mkB_one hkb.1 hkb.2]; rfl)⟩
    · exact ⟨rfl, rfl, trivial⟩
  · -- no
    refine W.exit rfl ?_
    refine W.seq ?_
    refine W.reg ?_
    refine Wx.rd (v := .string out) (rd_move rfl) rfl ?_
    refine Wx.rd (v := .string out) (rd_assign rfl) rfl ?_
    refine Wx.nil ?_
    have e0_0 : (restV rim) = out := by rw [h2, restV, List.take_of_length_le (by omega)]
    exact W.ret ⟨.string out, ResIs.one, hS.bel, (by rw [e0_0])⟩
end Go.Proofs.YtokdjjebnomciaaDoor

namespace Go.Proofs.YtokdjjebnomciaaDoor
open Go.Wk Go.RowKit Go.Lib
set_option linter.unusedVariables false
set_option linter.unusedSimpArgs false


theorem F30 {rim : ByteArray} {O : List (Option Nat)} {w : World} (s_rim : rim.size ≤ maxLen) (hO : ∀ b, some b ∈ O → b < w.heap.size) (hG : Laid w) : Calls Tryd.prog 30 #[.string rim] w (Ret w (fun r w' => ∃ rv, r = .tuple #[rv, .int .i64 (rimE rim)] ∧ V (tSl (tP (tI .i64) (tI .i64))) (stepsV rim) rv O w')) := by
  have hS := St.start w O hO
  refine enterR Tryd.func30 rfl Tryd.ntmps30 Tryd.results30 rfl ?_
  refine W.seq ?_
  refine W.reg ?_
  refine Wx.rd (v := (.slice none 0 0)) (rd_assign rfl) rfl ?_
  refine Wx.rd (v := .int .i64 0) (rd_assign rfl) rfl ?_
  refine Wx.nil ?_
  refine W.seq ?_
  refine W.seq ?_
  refine W.reg ?_
  refine Wx.rd (v := .string rim) (rd_move rfl) rfl ?_
  refine Wx.callF (run_callF Tryd.call17 rfl) (F17 (by first | assumption | (simp only [maxLen]; omega) | (simp only [ByteArray.size_extract, ByteArray.size_append, maxLen] at *; omega) | decide)) rfl ?_
  rintro r_1 w_2 hx_3 rfl
  have hS := hS.ext hx_3
  refine Wx.rd (v := .int .i64 (rimE rim)) (rd_assign rfl) rfl ?_
  refine Wx.nil ?_
  refine W.seq ?_
  refine W.reg ?_
  refine Wx.rd (v := .int .i64 (rimE rim)) (rd_move rfl) rfl ?_
  refine Wx.rd (v := .bool (decide ((rimE rim) ≠ 0))) (rd_neq rfl rfl) rfl ?_
  refine Wx.nil ?_
  refine W.condD rfl (fun c0 => ?_) (fun c0 => ?_)
  · -- yes
    refine W.seq ?_
    refine W.reg ?_
    refine Wx.rd (v := .int .i64 (rimE rim)) (rd_move rfl) rfl ?_
    refine Wx.rd (v := (.slice none 0 0)) (rd_assign rfl) rfl ?_
    refine Wx.rd (v := .int .i64 (rimE rim)) (rd_assign rfl) rfl ?_
    refine Wx.nil ?_
    have e0_0 : stepsV rim = [] := by rw [stepsV, if_neg c0]
    exact W.ret ⟨.tuple #[(.slice none 0 0), .int .i64 (rimE rim)], ResIs.two, hS.bel, ⟨(.slice none 0 0), rfl, (by rw [e0_0]; exact (V.nil (t := (tP (tI .i64) (tI .i64)))))⟩⟩
  · -- no
    have hr0 : rimE rim = 0 := by omega
    obtain ⟨hr1, hr2⟩ := rimE_ok hr0
    refine W.skip ?_
    refine W.seq ?_
    refine W.reg ?_
    refine Wx.rd (v := .string rim) (rd_move rfl) rfl ?_
    refine Wx.callF (run_callF Tryd.call73 rfl) (F73 (by first | assumption | (simp only [maxLen]; omega) | (simp only [ByteArray.size_extract, ByteArray.size_append, maxLen] at *; omega) | decide) (by omega) hr2 hS.fb_lt (hG.ext hS.bel)) rfl ?_
    rintro r_4 w_5 hx_6 ⟨v_7, v_8, rfl, hv_9, hv_10⟩
    have ln_12 := hv_9.len63
    have ln_14 := hv_10.len63
    have hS := hS.ext hx_6
    have hS := hS.add hv_9
    have hS := hS.add (hv_10.mv (.less (by simp [fb, Ob.blk])))
    refine Wx.rd (v := .tuple #[v_7, v_8]) (rd_move rfl) rfl ?_
    refine Wx.rd (v := v_7) (rd_extract rfl rfl) rfl ?_
    refine Wx.rd (v := v_8) (rd_extract rfl rfl) rfl ?_
    refine Wx.rd (v := v_7) (rd_assign rfl) rfl ?_
    refine Wx.rd (v := v_8) (rd_assign rfl) rfl ?_
    refine Wx.nil ?_
    refine W.seq ?_
    refine W.reg ?_
    refine Wx.rd (v := v_7) (rd_move rfl) rfl ?_
    refine Wx.rd (v := v_7) (rd_assign rfl) rfl ?_
    refine Wx.rd (v := .int .i64 0) (rd_assign rfl) rfl ?_
    refine Wx.nil ?_
    have e1_0 : stepsV rim = (takS rim).1 := by rw [stepsV, if_pos hr0]
    have e1_1 : (rimE rim) = (0 : Int) := by exact hr0
    exact W.ret ⟨.tuple #[v_7, .int .i64 0], ResIs.two, hS.bel, ⟨v_7, (by rw [e1_1]), (by rw [e1_0]; exact (V.mv (hS.v 1 rfl) (.less (fun _ h => List.mem_append.2 (.inr h)))))⟩⟩

theorem F31 {rim : ByteArray} {O : List (Option Nat)} {w : World} (s_rim : rim.size ≤ maxLen) (hO : ∀ b, some b ∈ O → b < w.heap.size) : Calls Tryd.prog 31 #[.string rim] w (Ret w (fun r w' => ∃ rv, r = .tuple #[rv, .int .i64 (rimE rim)] ∧ V (tSl (tP (tI .i64) (tI .i64))) (stepsV rim) rv O w')) := by
  have hS := St.start w O hO
  refine enterR Tryd.func31 rfl Tryd.ntmps31 Tryd.results31 rfl ?_
  refine W.seq ?_
  refine W.reg ?_
  refine Wx.rd (v := (.slice none 0 0)) (rd_assign rfl) rfl ?_
  refine Wx.rd (v := .int .i64 0) (rd_assign rfl) rfl ?_
  refine Wx.nil ?_
  refine W.seq ?_
  refine W.reg ?_
  refine Wx.rd (v := .string rim) (rd_move rfl) rfl ?_
  refine Wx.callF (run_callF Tryd.call18 rfl) (F18 (by first | assumption | (simp only [maxLen]; omega) | (simp only [ByteArray.size_extract, ByteArray.size_append, maxLen] at *; omega) | decide)) rfl ?_
  rintro r_1 w_2 hx_3 rfl
  have hS := hS.ext hx_3
  refine Wx.rd (v := .int .i64 (rimE rim)) (rd_assign rfl) rfl ?_
  refine Wx.nil ?_
  refine W.seq ?_
  refine W.seq ?_
  refine W.reg ?_
  refine Wx.rd (v := .int .i64 (rimE rim)) (rd_move rfl) rfl ?_
  refine Wx.rd (v := .bool (decide ((rimE rim) ≠ 0))) (rd_neq rfl rfl) rfl ?_
  refine Wx.nil ?_
  refine W.condD rfl (fun c0 => ?_) (fun c0 => ?_)
  · -- yes
    refine W.seq ?_
    refine W.reg ?_
    refine Wx.rd (v := .int .i64 (rimE rim)) (rd_move rfl) rfl ?_
    refine Wx.rd (v := (.slice none 0 0)) (rd_assign rfl) rfl ?_
    refine Wx.rd (v := .int .i64 (rimE rim)) (rd_assign rfl) rfl ?_
    refine Wx.nil ?_
    have e0_0 : stepsV rim = [] := by rw [stepsV, if_neg c0]
    exact W.ret ⟨.tuple #[(.slice none 0 0), .int .i64 (rimE rim)], ResIs.two, hS.bel, ⟨(.slice none 0 0), rfl, (by rw [e0_0]; exact (V.nil (t := (tP (tI .i64) (tI .i64)))))⟩⟩
  · -- no
    have hr0 : rimE rim = 0 := by omega
    obtain ⟨hr1, hr2⟩ := rimE_ok hr0
    refine W.skip ?_
    refine W.seq ?_
    refine W.reg ?_
    refine Wx.rd (v := .string rim) (rd_move rfl) rfl ?_
    refine Wx.callF (run_callF Tryd.call74 rfl) (F74 (by first | assumption | (simp only [maxLen]; omega) | (simp only [ByteArray.size_extract, ByteArray.size_append, maxLen] at *; omega) | decide) (by omega) hr2 hS.fb_lt) rfl ?_
    rintro r_4 w_5 hx_6 ⟨v_7, v_8, rfl, hv_9, hv_10⟩
    have ln_12 := hv_9.len63
    have ln_14 := hv_10.len63
    have hS := hS.ext hx_6
    have hS := hS.add hv_9
    have hS := hS.add (hv_10.mv (.less (by simp [fb, Ob.blk])))
    refine Wx.rd (v := .tuple #[v_7, v_8]) (rd_move rfl) rfl ?_
    refine Wx.rd (v := v_7) (rd_extract rfl rfl) rfl ?_
    refine Wx.rd (v := v_8) (rd_extract rfl rfl) rfl ?_
    refine Wx.rd (v := v_7) (rd_assign rfl) rfl ?_
    refine Wx.rd (v := v_8) (rd_assign rfl) rfl ?_
    refine Wx.nil ?_
    refine W.seq ?_
    refine W.reg ?_
    refine Wx.rd (v := v_7) (rd_move rfl) rfl ?_
    refine Wx.rd (v := v_7) (rd_assign rfl) rfl ?_
    refine Wx.rd (v := .int .i64 0) (rd_assign rfl) rfl ?_
    refine Wx.nil ?_
    have e1_0 : stepsV rim = (takS rim).1 := by rw [stepsV, if_pos hr0]
    have e1_1 : (rimE rim) = (0 : Int) := by exact hr0
    exact W.ret ⟨.tuple #[v_7, .int .i64 0], ResIs.two, hS.bel, ⟨v_7, (by rw [e1_1]), (by rw [e1_0]; exact (V.mv (hS.v 1 rfl) (.less (fun _ h => List.mem_append.2 (.inr h)))))⟩⟩

theorem F32 {rim : ByteArray} {w : World} (s_rim : rim.size ≤ maxLen) (hG : Laid w) : Calls Tryd.prog 32 #[.string rim] w (Ret w (fun r _ => r = .tuple #[.string (restE rim), .int .i64 (rimE rim)])) := by
  have hS := St.start0 w
  refine enterR Tryd.func32 rfl Tryd.ntmps32 Tryd.results32 rfl ?_
  refine W.seq ?_
  refine W.reg ?_
  refine Wx.rd (v := .string ({ data := #[] } : ByteArray)) (rd_assign rfl) rfl ?_
  refine Wx.rd (v := .int .i64 0) (rd_assign rfl) rfl ?_
  refine Wx.nil ?_
  refine W.seq ?_
  refine W.seq ?_
  refine W.reg ?_
  refine Wx.rd (v := .string rim) (rd_move rfl) rfl ?_
  refine Wx.callF (run_callF Tryd.call17 rfl) (F17 (by first | assumption | (simp only [maxLen]; omega) | (simp only [ByteArray.size_extract, ByteArray.size_append, maxLen] at *; omega) | decide)) rfl ?_
  rintro r_1 w_2 hx_3 rfl
  have hS := hS.ext hx_3
  refine Wx.rd (v := .int .i64 (rimE rim)) (rd_assign rfl) rfl ?_
  refine Wx.nil ?_
  refine W.seq ?_
  refine W.reg ?_
  refine Wx.rd (v := .int .i64 (rimE rim)) (rd_move rfl) rfl ?_
  refine Wx.rd (v := .bool (decide ((rimE rim) ≠ 0))) (rd_neq rfl rfl) rfl ?_
  refine Wx.nil ?_
  refine W.condD rfl (fun c0 => ?_) (fun c0 => ?_)
  · -- yes
    refine W.seq ?_
    refine W.reg ?_
    refine Wx.rd (v := .int .i64 (rimE rim)) (rd_move rfl) rfl ?_
    refine Wx.rd (v := .string ({ data := #[] } : ByteArray)) (rd_assign rfl) rfl ?_
    refine Wx.rd (v := .int .i64 (rimE rim)) (rd_assign rfl) rfl ?_
    refine Wx.nil ?_
    have e0_0 : (restE rim) = ({ data := #[] } : ByteArray) := by rw [restE, if_neg c0]; rfl
    exact W.ret ⟨.tuple #[.string ({ data := #[] } : ByteArray), .int .i64 (rimE rim)], ResIs.two, hS.bel, (by rw [e0_0])⟩
  · -- no
    have hr0 : rimE rim = 0 := by omega
    obtain ⟨hr1, hr2⟩ := rimE_ok hr0
    refine W.skip ?_
    refine W.seq ?_
    refine W.reg ?_
    refine Wx.rd (v := .string rim) (rd_move rfl) rfl ?_
    refine Wx.callF (run_callF Tryd.call75 rfl) (F75 (by first | assumption | (simp only [maxLen]; omega) | (simp only [ByteArray.size_extract, ByteArray.size_append, maxLen] at *; omega) | decide) (by omega) hr2 (hG.ext hS.bel)) rfl ?_
    rintro r_4 w_5 hx_6 rfl
    have hS := hS.ext hx_6
    refine Wx.rd (v := .string (restV rim)) (rd_assign rfl) rfl ?_
    refine Wx.rd (v := .int .i64 0) (rd_assign rfl) rfl ?_
    refine Wx.nil ?_
    have e1_0 : (restE rim) = (restV rim) := by rw [restE, if_pos hr0]
    have e1_1 : (rimE rim) = (0 : Int) := by exact hr0
    exact W.ret ⟨.tuple #[.string (restV rim), .int .i64 0], ResIs.two, hS.bel, (by rw [e1_0, e1_1])⟩

theorem F33 {rim : ByteArray} {O : List (Option Nat)} {w : World} (s_rim : rim.size ≤ maxLen) (hO : ∀ b, some b ∈ O → b < w.heap.size) : Calls Tryd.prog 33 #[.string rim] w (Ret w (fun r _ => r = .tuple #[.string (restE rim), .int .i64 (rimE rim)])) := by
  have hS := St.start w O hO
  refine enterR Tryd.func33 rfl Tryd.ntmps33 Tryd.results33 rfl ?_
  refine W.seq ?_
  refine W.reg ?_
  refine Wx.rd (v := .string ({ data := #[] } : ByteArray)) (rd_assign rfl) rfl ?_
  refine Wx.rd (v := .int .i64 0) (rd_assign rfl) rfl ?_
  refine Wx.nil ?_
  refine W.seq ?_
  refine W.reg ?_
  refine Wx.rd (v := .string rim) (rd_move rfl) rfl ?_
  refine Wx.callF (run_callF Tryd.call18 rfl) (F18 (by first | assumption | (simp only [maxLen]; omega) | (simp only [ByteArray.size_extract, ByteArray.size_append, maxLen] at *; omega) | decide)) rfl ?_
  rintro r_1 w_2 hx_3 rfl
  have hS := hS.ext hx_3
  refine Wx.rd (v := .int .i64 (rimE rim)) (rd_assign rfl) rfl ?_
  refine Wx.nil ?_
  refine W.seq ?_
  refine W.seq ?_
  refine W.reg ?_
  refine Wx.rd (v := .int .i64 (rimE rim)) (rd_move rfl) rfl ?_
  refine Wx.rd (v := .bool (decide ((rimE rim) ≠ 0))) (rd_neq rfl rfl) rfl ?_
  refine Wx.nil ?_
  refine W.condD rfl (fun c0 => ?_) (fun c0 => ?_)
  · -- yes
    refine W.seq ?_
    refine W.reg ?_
    refine Wx.rd (v := .int .i64 (rimE rim)) (rd_move rfl) rfl ?_
    refine Wx.rd (v := .string ({ data := #[] } : ByteArray)) (rd_assign rfl) rfl ?_
    refine Wx.rd (v := .int .i64 (rimE rim)) (rd_assign rfl) rfl ?_
    refine Wx.nil ?_
    have e0_0 : (restE rim) = ({ data := #[] } : ByteArray) := by rw [restE, if_neg c0]; rfl
    exact W.ret ⟨.tuple #[.string ({ data := #[] } : ByteArray), .int .i64 (rimE rim)], ResIs.two, hS.bel, (by rw [e0_0])⟩
  · -- no
    have hr0 : rimE rim = 0 := by omega
    obtain ⟨hr1, hr2⟩ := rimE_ok hr0
    refine W.skip ?_
    refine W.seq ?_
    refine W.reg ?_
    refine Wx.rd (v := .string rim) (rd_move rfl) rfl ?_
    refine Wx.callF (run_callF Tryd.call76 rfl) (F76 (by first | assumption | (simp only [maxLen]; omega) | (simp only [ByteArray.size_extract, ByteArray.size_append, maxLen] at *; omega) | decide) (by omega) hr2 hS.fb_lt) rfl ?_
    rintro r_4 w_5 hx_6 rfl
    have hS := hS.ext hx_6
    refine Wx.rd (v := .string (restV rim)) (rd_assign rfl) rfl ?_
    refine Wx.rd (v := .int .i64 0) (rd_assign rfl) rfl ?_
    refine Wx.nil ?_
    have e1_0 : (restE rim) = (restV rim) := by rw [restE, if_pos hr0]
    have e1_1 : (rimE rim) = (0 : Int) := by exact hr0
    exact W.ret ⟨.tuple #[.string (restV rim), .int .i64 0], ResIs.two, hS.bel, (by rw [e1_0, e1_1])⟩

theorem F34 {rim : ByteArray} {w : World} (s_rim : rim.size ≤ maxLen) (hG : Laid w) : Calls Tryd.prog 34 #[.string rim] w (Ret w (fun r _ => r = .tuple #[.bool (fullP rim), .int .i64 (rimE rim)])) := by
  have hS := St.start0 w
  refine enterR Tryd.func34 rfl Tryd.ntmps34 Tryd.results34 rfl ?_
  refine W.seq ?_
  refine W.reg ?_
  refine Wx.rd (v := .bool false) (rd_assign rfl) rfl ?_
  refine Wx.rd (v := .int .i64 0) (rd_assign rfl) rfl ?_
  refine Wx.nil ?_
  refine W.seq ?_
  refine W.reg ?_
  refine Wx.rd (v := .string rim) (rd_move rfl) rfl ?_
  refine Wx.callF (run_callF Tryd.call32 rfl) (F32 (by first | assumption | (simp only [maxLen]; omega) | (simp only [ByteArray.size_extract, ByteArray.size_append, maxLen] at *; omega) | decide) (hG.ext hS.bel)) rfl ?_
  rintro r_1 w_2 hx_3 rfl
  have hS := hS.ext hx_3
  refine Wx.rd (v := .tuple #[.string (restE rim), .int .i64 (rimE rim)]) (rd_move rfl) rfl ?_
  refine Wx.rd (v := .string (restE rim)) (rd_extract rfl rfl) rfl ?_
  refine Wx.rd (v := .int .i64 (rimE rim)) (rd_extract rfl rfl) rfl ?_
  refine Wx.rd (v := .string (restE rim)) (rd_assign rfl) rfl ?_
  refine Wx.rd (v := .int .i64 (rimE rim)) (rd_assign rfl) rfl ?_
  refine Wx.nil ?_
  refine W.seq ?_
  refine W.reg ?_
  refine Wx.rd (v := .int .i64 (rimE rim)) (rd_move rfl) rfl ?_
  refine Wx.rd (v := .bool (decide ((rimE rim) = 0))) (rd_eql rfl rfl) rfl ?_
  refine Wx.rd (v := .bool (decide ((rimE rim) = 0))) (rd_move rfl) rfl ?_
  refine Wx.cut (X := Unit) 3 [14, 15, 16] (fun _ => [(16, .bool (decide ((rimE rim) = 0) && (restE rim) == ({ data := #[] } : ByteArray)))]) (fun _ w' => St w [] w' []) ?_ ?_
  · rcases Bool.eq_false_or_eq_true (decide ((rimE rim) = 0)) with g_4 | g_4
    · -- True
      have gp_5 := of_decide_eq_true g_4
      refine Wx.gyes rfl rfl (congrArg Value.bool g_4) ?_
      refine Wx.rd (v := .string (restE rim)) (rd_move rfl) rfl ?_
      refine Wx.gyes rfl rfl (congrArg Value.bool g_4) ?_
      refine Wx.rd (v := .bool ((restE rim) == ({ data := #[] } : ByteArray))) (rd_eqlS rfl rfl) rfl ?_
      refine Wx.rd (v := .bool ((restE rim) == ({ data := #[] } : ByteArray))) (rd_pickT (congrArg Value.bool g_4) rfl) rfl ?_
      refine Wx.nil ⟨(), hS, ⟨?_, trivial⟩, Out.look rfl Out.refl⟩
      show Value.bool ((restE rim) == ({ data := #[] } : ByteArray)) = Value.bool (decide ((rimE rim) = 0) && (restE rim) == ({ data := #[] } : ByteArray))
      rw [g_4]; rfl
    · -- False
      have gp_6 := of_decide_eq_false g_4
      refine Wx.gnoB rfl rfl (congrArg Value.bool g_4) rfl rfl ?_
      refine Wx.gnoB rfl rfl (congrArg Value.bool g_4) rfl rfl ?_
      refine Wx.rd (v := .bool false) (rd_pickF (congrArg Value.bool g_4) rfl) rfl ?_
      refine Wx.nil ⟨(), hS, ⟨?_, trivial⟩, Out.look rfl Out.refl⟩
      show Value.bool false = Value.bool (decide ((rimE rim) = 0) && (restE rim) == ({ data := #[] } : ByteArray))
      rw [g_4]; rfl
  rintro ⟨⟩ u_8 w_7 hS
  refine Wx.rd (v := .int .i64 (rimE rim)) (rd_move rfl) rfl ?_
  refine Wx.rd (v := .bool (decide ((rimE rim) = 0) && (restE rim) == ({ data := #[] } : ByteArray))) (rd_assign rfl) rfl ?_
  refine Wx.rd (v := .int .i64 (rimE rim)) (rd_assign rfl) rfl ?_
  refine Wx.nil ?_
  have e0_0 : (fullP rim) = (decide ((rimE rim) = 0) && (restE rim) == ({ data := #[] } : ByteArray)) := by rw [fullP, restE]; by_cases h : rimE rim = 0; (rw [if_pos h]; rfl); (rw [decide_eq_false h]; rfl)
  exact W.ret ⟨.tuple #[.bool (decide ((rimE rim) = 0) && (restE rim) == ({ data := #[] } : ByteArray)), .int .i64 (rimE rim)], ResIs.two, hS.bel, (by rw [e0_0])⟩

theorem F35 {rim : ByteArray} {O : List (Option Nat)} {w : World} (s_rim : rim.size ≤ maxLen) (hO : ∀ b, some b ∈ O → b < w.heap.size) : Calls Tryd.prog 35 #[.string rim] w (Ret w (fun r _ => r = .tuple #[.bool (fullR rim), .int .i64 (rimE rim)])) := by
  have hS := St.start w O hO
  refine enterR Tryd.func35 rfl Tryd.ntmps35 Tryd.results35 rfl ?_
  refine W.seq ?_
  refine W.reg ?_
  refine Wx.rd (v := .bool false) (rd_assign rfl) rfl ?_
  refine Wx.rd (v := .int .i64 0) (rd_assign rfl) rfl ?_
  refine Wx.nil ?_
  refine W.seq ?_
  refine W.reg ?_
  refine Wx.rd (v := .string rim) (rd_move rfl) rfl ?_
  refine Wx.callF (run_callF Tryd.call18 rfl) (F18 (by first | assumption | (simp only [maxLen]; omega) | (simp only [ByteArray.size_extract, ByteArray.size_append, maxLen] at *; omega) | decide)) rfl ?_
  rintro r_1 w_2 hx_3 rfl
  have hS := hS.ext hx_3
  refine Wx.rd (v := .int .i64 (rimE rim)) (rd_assign rfl) rfl ?_
  refine Wx.nil ?_
  refine W.seq ?_
  refine W.seq ?_
  refine W.reg ?_
  refine Wx.rd (v := .int .i64 (rimE rim)) (rd_move rfl) rfl ?_
  refine Wx.rd (v := .bool (decide ((rimE rim) ≠ 0))) (rd_neq rfl rfl) rfl ?_
  refine Wx.nil ?_
  refine W.condD rfl (fun c0 => ?_) (fun c0 => ?_)
  · -- yes
    refine W.seq ?_
    refine W.reg ?_
    refine Wx.rd (v := .int .i64 (rimE rim)) (rd_move rfl) rfl ?_
    refine Wx.rd (v := .bool false) (rd_assign rfl) rfl ?_
    refine Wx.rd (v := .int .i64 (rimE rim)) (rd_assign rfl) rfl ?_
    refine Wx.nil ?_
    have e0_0 : (fullR rim) = false := by rw [fullR, if_neg c0]
    exact W.ret ⟨.tuple #[.bool false, .int .i64 (rimE rim)], ResIs.two, hS.bel, (by rw [e0_0])⟩
  · -- no
    have hr0 : rimE rim = 0 := by omega
    obtain ⟨hr1, hr2⟩ := rimE_ok hr0
    have hmh := most_half rim
    refine W.skip ?_
    refine W.seq ?_
    refine W.reg ?_
    refine Wx.rd (v := .string rim) (rd_move rfl) rfl ?_
    refine Wx.callF (run_callF Tryd.call68 rfl) (F68 (by first | assumption | (simp only [maxLen]; omega) | (simp only [ByteArray.size_extract, ByteArray.size_append, maxLen] at *; omega) | decide) (by omega) hr2 hS.fb_lt) rfl ?_
    rintro r_4 w_5 hx_6 ⟨v_7, rfl, hv_8⟩
    have ln_10 := hv_8.len63
    have hS := hS.ext hx_6
    have hS := hS.add hv_8
    refine Wx.rd (v := .tuple #[v_7, .int .i64 ((allV rim).1)]) (rd_move rfl) rfl ?_
    refine Wx.rd (v := v_7) (rd_extract rfl rfl) rfl ?_
    refine Wx.rd (v := .int .i64 ((allV rim).1)) (rd_extract rfl rfl) rfl ?_
    refine Wx.rd (v := v_7) (rd_assign rfl) rfl ?_
    refine Wx.rd (v := .int .i64 ((allV rim).1)) (rd_assign rfl) rfl ?_
    refine Wx.nil ?_
    refine W.seq ?_
    refine W.reg ?_
    refine Wx.rd (v := .int .i64 ((allV rim).1)) (rd_move rfl) rfl ?_
    refine Wx.rd (v := .int .i64 (2 * ((allV rim).1))) (rd_mul rfl rfl (in_i64 (by omega) (by omega))) rfl ?_
    refine Wx.rd (v := .string rim) (rd_move rfl) rfl ?_
    refine Wx.rd (v := .int .i64 (rim.size : Int)) (rd_lenS rfl Tryd.underlying9) rfl ?_
    refine Wx.rd (v := .bool (decide ((2 * ((allV rim).1)) = (rim.size : Int)))) (rd_eql rfl rfl) rfl ?_
    refine Wx.rd (v := .bool (decide ((2 * ((allV rim).1)) = (rim.size : Int)))) (rd_assign rfl) rfl ?_
    refine Wx.rd (v := .int .i64 0) (rd_assign rfl) rfl ?_
    refine Wx.nil ?_
    have e1_0 : (fullR rim) = (decide ((2 * ((allV rim).1)) = (rim.size : Int))) := by rw [fullR, if_pos hr0]
    have e1_1 : (rimE rim) = (0 : Int) := by exact hr0
    exact W.ret ⟨.tuple #[.bool (decide ((2 * ((allV rim).1)) = (rim.size : Int))), .int .i64 0], ResIs.two, hS.bel, (by rw [e1_0, e1_1])⟩

theorem F36 {rim : ByteArray} {w : World} (s_rim : rim.size ≤ maxLen) (hG : Laid w) : Calls Tryd.prog 36 #[.string rim] w (Ret w (fun r _ => r = .tuple #[.string (coreV rim), .int .i64 (rimE rim)])) := by
  have hS := St.start0 w
  refine enterR Tryd.func36 rfl Tryd.ntmps36 Tryd.results36 rfl ?_
  refine W.seq ?_
  refine W.reg ?_
  refine Wx.rd (v := .string ({ data := #[] } : ByteArray)) (rd_assign rfl) rfl ?_
  refine Wx.rd (v := .int .i64 0) (rd_assign rfl) rfl ?_
  refine Wx.nil ?_
  refine W.seq ?_
  refine W.reg ?_
  refine Wx.rd (v := .string rim) (rd_move rfl) rfl ?_
  refine Wx.callF (run_callF Tryd.call32 rfl) (F32 (by first | assumption | (simp only [maxLen]; omega) | (simp only [ByteArray.size_extract, ByteArray.size_append, maxLen] at *; omega) | decide) (hG.ext hS.bel)) rfl ?_
  rintro r_1 w_2 hx_3 rfl
  have hS := hS.ext hx_3
  refine Wx.rd (v := .tuple #[.string (restE rim), .int .i64 (rimE rim)]) (rd_move rfl) rfl ?_
  refine Wx.rd (v := .string (restE rim)) (rd_extract rfl rfl) rfl ?_
  refine Wx.rd (v := .int .i64 (rimE rim)) (rd_extract rfl rfl) rfl ?_
  refine Wx.rd (v := .string (restE rim)) (rd_assign rfl) rfl ?_
  refine Wx.rd (v := .int .i64 (rimE rim)) (rd_assign rfl) rfl ?_
  refine Wx.nil ?_
  refine W.seq ?_
  refine W.seq ?_
  refine W.reg ?_
  refine Wx.rd (v := .int .i64 (rimE rim)) (rd_move rfl) rfl ?_
  refine Wx.rd (v := .bool (decide ((rimE rim) ≠ 0))) (rd_neq rfl rfl) rfl ?_
  refine Wx.nil ?_
  refine W.condD rfl (fun c0 => ?_) (fun c0 => ?_)
  · -- yes
    refine W.seq ?_
    refine W.reg ?_
    refine Wx.rd (v := .int .i64 (rimE rim)) (rd_move rfl) rfl ?_
    refine Wx.rd (v := .string ({ data := #[] } : ByteArray)) (rd_assign rfl) rfl ?_
    refine Wx.rd (v := .int .i64 (rimE rim)) (rd_assign rfl) rfl ?_
    refine Wx.nil ?_
    have e0_0 : (coreV rim) = ({ data := #[] } : ByteArray) := by rw [coreV, if_neg c0]; rfl
    exact W.ret ⟨.tuple #[.string ({ data := #[] } : ByteArray), .int .i64 (rimE rim)], ResIs.two, hS.bel, (by rw [e0_0])⟩
  · -- no
    have hr0 : rimE rim = 0 := by omega
    obtain ⟨hr1, hr2⟩ := rimE_ok hr0
    have hrs := rest_size (s := rim)
    have hre : restE rim = restV rim := if_pos hr0
    refine W.skip ?_
    refine W.seq ?_
    refine W.block ?_
    refine W.loop [4, 14, 15, 16, 17, 18, 19, 20, 21, 22, 23, 24, 25, 26, 27, 28] (fun (cur : ByteArray) => [(4, .string cur)]) (fun (cur : ByteArray) w' => St w [] w' [] ∧ coreF cur = coreF (restV rim) ∧ Lets cur ∧ (cur.size : Int) ≤ 12) (fun (cur : ByteArray) => cur.size) (restE rim) ⟨rfl, trivial⟩ ⟨hS, (by rw [hre]), (by rw [hre]; exact hr2.rest), (by rw [hre]; omega)⟩ ?_
    rintro cur u_5 w_4 ⟨hS, h1, h2, h3⟩
    refine W.seq ?_
    refine W.seq ?_
    refine W.reg ?_
    refine Wx.rd (v := .string cur) (rd_move rfl) rfl ?_
    refine Wx.rd (v := .int .i64 (cur.size : Int)) (rd_lenS rfl Tryd.underlying9) rfl ?_
    refine Wx.rd (v := .bool (decide (1 < (cur.size : Int)))) (rd_gtr rfl rfl) rfl ?_
    refine Wx.rd (v := .bool (decide (1 < (cur.size : Int)))) (rd_move rfl) rfl ?_
    refine Wx.cut (X := Unit) 6 [18, 19, 20, 21, 22, 23] (fun _ => [(23, .bool (decide (1 < (cur.size : Int)) && fitR cur 0 ((cur.size : Int) - 1)))]) (fun _ w' => St w [] w' []) ?_ ?_
    · rcases Bool.eq_false_or_eq_true (decide (1 < (cur.size : Int))) with g_6 | g_6
      · -- True
        have gp_7 := of_decide_eq_true g_6
        refine Wx.gyes rfl rfl (congrArg Value.bool g_6) ?_
        refine Wx.rd (v := .string cur) (rd_move rfl) rfl ?_
        refine Wx.gyes rfl rfl (congrArg Value.bool g_6) ?_
        refine Wx.rd (v := .string cur) (rd_move rfl) rfl ?_
        refine Wx.gyes rfl rfl (congrArg Value.bool g_6) ?_
        refine Wx.rd (v := .int .i64 (cur.size : Int)) (rd_lenS rfl Tryd.underlying9) rfl ?_
        refine Wx.gyes rfl rfl (congrArg Value.bool g_6) ?_
        refine Wx.rd (v := .int .i64 ((cur.size : Int) - 1)) (rd_sub rfl rfl (in_i64 (by omega) (by omega))) rfl ?_
        refine Wx.gyes rfl rfl (congrArg Value.bool g_6) ?_
        refine Wx.callF (run_callF Tryd.call61 rfl) (F61 (by first | assumption | (simp only [maxLen]; omega) | (simp only [ByteArray.size_extract, ByteArray.size_append, maxLen] at *; omega) | decide) (in_i64 (by omega) (by omega)) (in_i64 (by omega) (by omega)) (by omega) (by omega) (by omega) (by omega) (by omega) (hG.ext hS.bel)) rfl ?_
        rintro r_8 w_9 hx_10 rfl
        have hS := hS.ext hx_10
        refine Wx.rd (v := .bool (fitR cur 0 ((cur.size : Int) - 1))) (rd_pickT (congrArg Value.bool g_6) rfl) rfl ?_
        refine Wx.nil ⟨(), hS, ⟨?_, trivial⟩, Out.look rfl Out.refl⟩
        show Value.bool (fitR cur 0 ((cur.size : Int) - 1)) = Value.bool (decide (1 < (cur.size : Int)) && fitR cur 0 ((cur.size : Int) - 1))
        rw [g_6]; rfl
      · -- False
        have gp_11 := of_decide_eq_false g_6
        refine Wx.gnoB rfl rfl (congrArg Value.bool g_6) rfl rfl ?_
        refine Wx.gnoB rfl rfl (congrArg Value.bool g_6) rfl rfl ?_
        refine Wx.gnoB rfl rfl (congrArg Value.bool g_6) rfl rfl ?_
        refine Wx.gnoB rfl rfl (congrArg Value.bool g_6) rfl rfl ?_
        refine Wx.gnoB rfl rfl (congrArg Value.bool g_6) rfl rfl ?_
        refine Wx.rd (v := .bool false) (rd_pickF (congrArg Value.bool g_6) rfl) rfl ?_
        refine Wx.nil ⟨(), hS, ⟨?_, trivial⟩, Out.look rfl Out.refl⟩
        show Value.bool false = Value.bool (decide (1 < (cur.size : Int)) && fitR cur 0 ((cur.size : Int) - 1))
        rw [g_6]; rfl
    rintro ⟨⟩ u_13 w_12 hS
    refine Wx.nil ?_
    refine W.cond rfl (fun c1 => ?_) (fun c1 => ?_)
    · -- yes
      try simp only [Bool.and_eq_true, Bool.or_eq_true, Bool.not_eq_true', Bool.and_eq_false_iff, Bool.or_eq_false_iff, Bool.not_eq_false', decide_eq_true_eq, decide_eq_false_iff_not, not_or, Bool.false_eq_true, Bool.true_eq_false, false_or, or_false, not_false_eq_true] at c1
      refine W.skip ?_
      refine W.block ?_
      refine W.reg ?_
      refine Wx.rd (v := .string cur) (rd_move rfl) rfl ?_
      refine Wx.rd (v := .string cur) (rd_move rfl) rfl ?_
      refine Wx.rd (v := .int .i64 (cur.size : Int)) (rd_lenS rfl Tryd.underlying9) rfl ?_
      refine Wx.rd (v := .int .i64 ((cur.size : Int) - 1)) (rd_sub rfl rfl (in_i64 (by omega) (by omega))) rfl ?_
      refine Wx.rd (v := .string ((cur).extract (1 : Int).toNat ((cur.size : Int) - 1).toNat)) (rd_sliceS_LH Tryd.underlying9 rfl rfl rfl (by omega) (by omega) (by omega)) rfl ?_
      refine Wx.rd (v := .string ((cur).extract (1 : Int).toNat ((cur.size : Int) - 1).toNat)) (rd_assign rfl) rfl ?_
      refine Wx.nil ?_
      refine ⟨(cur).extract (1 : Int).toNat ((cur.size : Int) - 1).toNat, (by exact inner_lt c1.1), ?_, ?_, Out.look rfl (Out.hav rfl (Out.look rfl Out.self))⟩
      · exact ⟨hS, ((coreF_yes c1).trans h1), (h2.extract _ _), (inner_le h3)⟩
      · exact ⟨rfl, trivial⟩
    · -- no
      try simp only [Bool.and_eq_true, Bool.or_eq_true, Bool.not_eq_true', Bool.and_eq_false_iff, Bool.or_eq_false_iff, Bool.not_eq_false', decide_eq_true_eq, decide_eq_false_iff_not, not_or, Bool.false_eq_true, Bool.true_eq_false, false_or, or_false, not_false_eq_true] at c1
      refine W.exit rfl ?_
      refine W.seq ?_
      refine W.reg ?_
      refine Wx.rd (v := .string cur) (rd_move rfl) rfl ?_
      refine Wx.rd (v := .string cur) (rd_assign rfl) rfl ?_
      refine Wx.rd (v := .int .i64 0) (rd_assign rfl) rfl ?_
      refine Wx.nil ?_
      have e1_0 : (coreV rim) = cur := by rw [coreV, if_pos hr0, ← h1, coreF_no c1]
      have e1_1 : (rimE rim) = (0 : Int) := by exact hr0
      exact W.ret ⟨.tuple #[.string cur, .int .i64 0], ResIs.two, hS.bel, (by rw [e1_0, e1_1])⟩

theorem F77 {rim : ByteArray} {O : List (Option Nat)} {w : World} (s_rim : rim.size ≤ maxLen) (p_12 : (rim.size : Int) ≤ 12) (p_l : Lets rim) (hO : ∀ b, some b ∈ O → b < w.heap.size) : Calls Tryd.prog 77 #[.string rim] w (Ret w (fun r _ => r = .string (coreF (restV rim)))) := by
  have hrs := rest_size (s := rim)
  have hS := St.start w O hO
  refine enterR Tryd.func77 rfl Tryd.ntmps77 Tryd.results77 rfl ?_
  refine W.seq ?_
  refine W.reg ?_
  refine Wx.rd (v := .string ({ data := #[] } : ByteArray)) (rd_assign rfl) rfl ?_
  refine Wx.nil ?_
  refine W.seq ?_
  refine W.reg ?_
  refine Wx.rd (v := .string rim) (rd_move rfl) rfl ?_
  refine Wx.callF (run_callF Tryd.call76 rfl) (F76 (by first | assumption | (simp only [maxLen]; omega) | (simp only [ByteArray.size_extract, ByteArray.size_append, maxLen] at *; omega) | decide) (by omega) (by omega) hS.fb_lt) rfl ?_
  rintro r_1 w_2 hx_3 rfl
  have hS := hS.ext hx_3
  refine Wx.rd (v := .string (restV rim)) (rd_assign rfl) rfl ?_
  refine Wx.nil ?_
  refine W.seq ?_
  refine W.block ?_
  refine W.loop [3, 6, 7, 8, 9, 10, 11, 12, 13, 14, 15, 16, 17, 18, 19, 20] (fun (cur : ByteArray) => [(3, .string cur)]) (fun (cur : ByteArray) w' => St w O w' [] ∧ coreF cur = coreF (restV rim) ∧ Lets cur ∧ (cur.size : Int) ≤ 12) (fun (cur : ByteArray) => cur.size) (restV rim) ⟨rfl, trivial⟩ ⟨hS, (rfl), (p_l.rest), (by omega)⟩ ?_
  rintro cur u_5 w_4 ⟨hS, h1, h2, h3⟩
  refine W.seq ?_
  refine W.seq ?_
  refine W.reg ?_
  refine Wx.rd (v := .string cur) (rd_move rfl) rfl ?_
  refine Wx.rd (v := .int .i64 (cur.size : Int)) (rd_lenS rfl Tryd.underlying9) rfl ?_
  refine Wx.rd (v := .bool (decide (1 < (cur.size : Int)))) (rd_gtr rfl rfl) rfl ?_
  refine Wx.rd (v := .bool (decide (1 < (cur.size : Int)))) (rd_move rfl) rfl ?_
  refine Wx.cut (X := Unit) 6 [10, 11, 12, 13, 14, 15] (fun _ => [(15, .bool (decide (1 < (cur.size : Int)) && fitR cur 0 ((cur.size : Int) - 1)))]) (fun _ w' => St w O w' []) ?_ ?_
  · rcases Bool.eq_false_or_eq_true (decide (1 < (cur.size : Int))) with g_6 | g_6
    · -- True
      have gp_7 := of_decide_eq_true g_6
      refine Wx.gyes rfl rfl (congrArg Value.bool g_6) ?_
      refine Wx.rd (v := .string cur) (rd_move rfl) rfl ?_
      refine Wx.gyes rfl rfl (congrArg Value.bool g_6) ?_
      refine Wx.rd (v := .string cur) (rd_move rfl) rfl ?_
      refine Wx.gyes rfl rfl (congrArg Value.bool g_6) ?_
      refine Wx.rd (v := .int .i64 (cur.size : Int)) (rd_lenS rfl Tryd.underlying9) rfl ?_
      refine Wx.gyes rfl rfl (congrArg Value.bool g_6) ?_
      refine Wx.rd (v := .int .i64 ((cur.size : Int) - 1)) (rd_sub rfl rfl (in_i64 (by omega) (by omega))) rfl ?_
      refine Wx.gyes rfl rfl (congrArg Value.bool g_6) ?_
      refine Wx.callF (run_callF Tryd.call64 rfl) (F64 (by first | assumption | (simp only [maxLen]; omega) | (simp only [ByteArray.size_extract, ByteArray.size_append, maxLen] at *; omega) | decide) (in_i64 (by omega) (by omega)) (in_i64 (by omega) (by omega)) (by omega) (by omega) (by omega) (by omega) (by omega)) rfl ?_
      rintro r_8 w_9 hx_10 rfl
      have hS := hS.ext hx_10
      refine Wx.rd (v := .bool (fitR cur 0 ((cur.size : Int) - 1))) (rd_pickT (congrArg Value.bool g_6) rfl) rfl ?_
      refine Wx.nil ⟨(), hS, ⟨?_, trivial⟩, Out.look rfl Out.refl⟩
      show Value.bool (fitR cur 0 ((cur.size : Int) - 1)) = Value.bool (decide (1 < (cur.size : Int)) && fitR cur 0 ((cur.size : Int) - 1))
      rw [g_6]; rfl
    · -- False
      have gp_11 := of_decide_eq_false g_6
      refine Wx.gnoB rfl rfl (congrArg Value.bool g_6) rfl rfl ?_
      refine Wx.gnoB rfl rfl (congrArg Value.bool g_6) rfl rfl ?_
      refine Wx.gnoB rfl rfl (congrArg Value.bool g_6) rfl rfl ?_
      refine Wx.gnoB rfl rfl (congrArg Value.bool g_6) rfl rfl ?_
      refine Wx.gnoB rfl rfl (congrArg Value.bool g_6) rfl rfl ?_
      refine Wx.rd (v := .bool false) (rd_pickF (congrArg Value.bool g_6) rfl) rfl ?_
      refine Wx.nil ⟨(), hS, ⟨?_, trivial⟩, Out.look rfl Out.refl⟩
      show Value.bool false = Value.bool (decide (1 < (cur.size : Int)) && fitR cur 0 ((cur.size : Int) - 1))
      rw [g_6]; rfl
  rintro ⟨⟩ u_13 w_12 hS
  refine Wx.nil ?_
  refine W.cond rfl (fun c0 => ?_) (fun c0 => ?_)
  · -- yes
    try simp only [Bool.and_eq_true, Bool.or_eq_true, Bool.not_eq_true', Bool.and_eq_false_iff, Bool.or_eq_false_iff, Bool.not_eq_false', decide_eq_true_eq, decide_eq_false_iff_not, not_or, Bool.false_eq_true, Bool.true_eq_false, false_or, or_false, not_false_eq_true] at c0
    refine W.skip ?_
    refine W.block ?_
    refine W.reg ?_
    refine Wx.rd (v := .string cur) (rd_move rfl) rfl ?_
    refine Wx.rd (v := .string cur) (rd_move rfl) rfl ?_
    refine Wx.rd (v := .int .i64 (cur.size : Int)) (rd_lenS rfl Tryd.underlying9) rfl ?_
    refine Wx.rd (v := .int .i64 ((cur.size : Int) - 1)) (rd_sub rfl rfl (in_i64 (by omega) (by omega))) rfl ?_
    refine Wx.rd (v := .string ((cur).extract (1 : Int).toNat ((cur.size : Int) - 1).toNat)) (rd_sliceS_LH Tryd.underlying9 rfl rfl rfl (by omega) (by omega) (by omega)) rfl ?_
    refine Wx.rd (v := .string ((cur).extract (1 : Int).toNat ((cur.size : Int) - 1).toNat)) (rd_assign rfl) rfl ?_
    refine Wx.nil ?_
    refine ⟨(cur).extract (1 : Int).toNat ((cur.size : Int) - 1).toNat, (by exact inner_lt c0.1), ?_, ?_, Out.look rfl (Out.hav rfl (Out.look rfl Out.self))⟩
    · exact ⟨hS, ((coreF_yes c0).trans h1), (h2.extract _ _), (inner_le h3)⟩
    · exact ⟨rfl, trivial⟩
  · -- no
    try simp only [Bool.and_eq_true, Bool.or_eq_true, Bool.not_eq_true', Bool.and_eq_false_iff, Bool.or_eq_false_iff, Bool.not_eq_false', decide_eq_true_eq, decide_eq_false_iff_not, not_or, Bool.false_eq_true, Bool.true_eq_false, false_or, or_false, not_false_eq_true] at c0
    refine W.exit rfl ?_
    refine W.seq ?_
    refine W.reg ?_
    refine Wx.rd (v := .string cur) (rd_move rfl) rfl ?_
    refine Wx.rd (v := .string cur) (rd_assign rfl) rfl ?_
    refine Wx.nil ?_
    have e0_0 : (coreF (restV rim)) = cur := by rw [← h1, coreF_no c0]
    exact W.ret ⟨.string cur, ResIs.one, hS.bel, (by rw [e0_0])⟩

theorem F37 {rim : ByteArray} {O : List (Option Nat)} {w : World} (s_rim : rim.size ≤ maxLen) (hO : ∀ b, some b ∈ O → b < w.heap.size) : Calls Tryd.prog 37 #[.string rim] w (Ret w (fun r _ => r = .tuple #[.string (coreV rim), .int .i64 (rimE rim)])) := by
  have hS := St.start w O hO
  refine enterR Tryd.func37 rfl Tryd.ntmps37 Tryd.results37 rfl ?_
  refine W.seq ?_
  refine W.reg ?_
  refine Wx.rd (v := .string ({ data := #[] } : ByteArray)) (rd_assign rfl) rfl ?_
  refine Wx.rd (v := .int .i64 0) (rd_assign rfl) rfl ?_
  refine Wx.nil ?_
  refine W.seq ?_
  refine W.reg ?_
  refine Wx.rd (v := .string rim) (rd_move rfl) rfl ?_
  refine Wx.callF (run_callF Tryd.call18 rfl) (F18 (by first | assumption | (simp only [maxLen]; omega) | (simp only [ByteArray.size_extract, ByteArray.size_append, maxLen] at *; omega) | decide)) rfl ?_
  rintro r_1 w_2 hx_3 rfl
  have hS := hS.ext hx_3
  refine Wx.rd (v := .int .i64 (rimE rim)) (rd_assign rfl) rfl ?_
  refine Wx.nil ?_
  refine W.seq ?_
  refine W.seq ?_
  refine W.reg ?_
  refine Wx.rd (v := .int .i64 (rimE rim)) (rd_move rfl) rfl ?_
  refine Wx.rd (v := .bool (decide ((rimE rim) ≠ 0))) (rd_neq rfl rfl) rfl ?_
  refine Wx.nil ?_
  refine W.condD rfl (fun c0 => ?_) (fun c0 => ?_)
  · -- yes
    refine W.seq ?_
    refine W.reg ?_
    refine Wx.rd (v := .int .i64 (rimE rim)) (rd_move rfl) rfl ?_
    refine Wx.rd (v := .string ({ data := #[] } : ByteArray)) (rd_assign rfl) rfl ?_
    refine Wx.rd (v := .int .i64 (rimE rim)) (rd_assign rfl) rfl ?_
    refine Wx.nil ?_
    have e0_0 : (coreV rim) = ({ data := #[] } : ByteArray) := by rw [coreV, if_neg c0]; rfl
    exact W.ret ⟨.tuple #[.string ({ data := #[] } : ByteArray), .int .i64 (rimE rim)], ResIs.two, hS.bel, (by rw [e0_0])⟩
  · -- no
    have hr0 : rimE rim = 0 := by omega
    obtain ⟨hr1, hr2⟩ := rimE_ok hr0
    refine W.skip ?_
    refine W.seq ?_
    refine W.reg ?_
    refine Wx.rd (v := .string rim) (rd_move rfl) rfl ?_
    refine Wx.callF (run_callF Tryd.call77 rfl) (F77 (by first | assumption | (simp only [maxLen]; omega) | (simp only [ByteArray.size_extract, ByteArray.size_append, maxLen] at *; omega) | decide) (by omega) hr2 hS.fb_lt) rfl ?_
    rintro r_4 w_5 hx_6 rfl
    have hS := hS.ext hx_6
    refine Wx.rd (v := .string (coreF (restV rim))) (rd_assign rfl) rfl ?_
    refine Wx.rd (v := .int .i64 0) (rd_assign rfl) rfl ?_
    refine Wx.nil ?_
    have e1_0 : (coreV rim) = (coreF (restV rim)) := by rw [coreV, if_pos hr0]
    have e1_1 : (rimE rim) = (0 : Int) := by exact hr0
    exact W.ret ⟨.tuple #[.string (coreF (restV rim)), .int .i64 0], ResIs.two, hS.bel, (by rw [e1_0, e1_1])⟩
end Go.Proofs.YtokdjjebnomciaaDoor
