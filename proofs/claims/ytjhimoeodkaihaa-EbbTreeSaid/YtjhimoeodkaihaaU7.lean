/-
  WHAT IS PROVED HERE, TEXT BY TEXT (several texts of one prover, joined to one file; the conditions stand in each statement):
  * WHAT IS PROVED HERE: what functions of layer 1 hand back, each out of its own code; the conditions stand in each statement.
-/
import Derived.Test.YtjhimoeodkaihaaProg
import Derived.Test.YtjhimoeodkaihaaU2
import Derived.Test.YtjhimoeodkaihaaU6

set_option linter.unusedVariables false
set_option linter.unusedSimpArgs false

namespace Go.Proofs.Ytjhimoeodkaihaa
open Go.Wk Go.RowKit Go.Lib
set_option linter.unusedVariables false
set_option linter.unusedSimpArgs false
theorem foMt_24_2 : fldOff Try.prog 24 2 = some 2 := by kernel_rfl
theorem elMt_22 : ElemI Try.prog 22 3 (.int .i64 0) 1 8 := ElemI.of Try.underlying22 (by kernel_rfl) (by first | rfl | kernel_rfl) (by decide)
theorem elMt_37 : ElemI Try.prog 37 22 ((.slice none 0 0)) 1 24 := ElemI.of Try.underlying37 (by kernel_rfl) (by first | rfl | kernel_rfl) (by decide)
theorem mixedMt_ : Try.prog.follows .mixedOrders = true := by kernel_rfl

theorem F50 {R : Int} {C : Int} {hv : Value} {H : List Int} {O : List (Option Nat)} {w : World} (i_R : InK .i64 R) (i_C : InK .i64 C) (h_hv : V (tSl (tI .i64)) H hv O w) (p_n : (H.length : Int) ≤ 36) (hO : ∀ b, some b ∈ O → b < w.heap.size) : Calls Try.prog 50 #[.agg #[.int .i64 R, .int .i64 C, hv]] w (Ret w (fun r w' => ∃ rv, r = rv ∧ V (tSl (tI .i64)) (H ++ [0]) rv O w')) := by
  have b_C := bd_i64 i_C
  have b_R := bd_i64 i_R
  have a_hv := h_hv
  have l_hv := h_hv.len63
  have hS := St.start w O hO
  refine enterR Try.func50 rfl Try.ntmps50 Try.results50 rfl ?_
  refine W.seq ?_
  refine W.reg ?_
  refine Wx.box (cs := [.int .i64 R, .int .i64 C, hv]) hS rfl rfl rfl (fun g_1 w_2 hx_4 hb_3 hS => ?_)
  refine Wx.rd (v := (.slice none 0 0)) (rd_assign rfl) rfl ?_
  refine Wx.nil ?_
  refine W.seq ?_
  refine W.reg ?_
  refine Wx.rd (v := .pointer (some ⟨g_1, 2, none⟩)) (rd_fieldAddr rfl foMt_24_2) rfl ?_
  refine Wx.rd (v := hv) (rd_loadX hS 0 rfl rfl rfl Try.isAgg22) rfl ?_
  refine Wx.callF (run_callF Try.call45 rfl) (F45 (hS.arg a_hv) (by omega)) rfl ?_
  rintro r_5 w_6 hx_7 ⟨_, rfl, hv_8⟩
  have hS := hS.pushFr hx_7 hv_8
  refine Wx.lit (t := (tI .i64)) (ys := [0]) (vs := [.int .i64 0]) elMt_22 hS rfl rfl ⟨(V.mkInt (in_i64 (by omega) (by omega))), trivial⟩ (by decide) rfl (fun v_10 w_11 hx_12 hS => ?_)
  refine Wx.append elMt_22 hS 1 rfl rfl rfl (Src.ofR hS 0 rfl) (by simp only [maxLen]; first | omega | (simp; omega) | simp) (by first | omega | (simp; omega) | simp) rfl (fun v_13 w_14 hz_15 hS => ?_)
  refine Wx.rd (v := v_13) (rd_assign rfl) rfl ?_
  refine Wx.nil ?_
  exact W.ret ⟨v_13, ResIs.one, hS.bel, ⟨v_13, rfl, ((hS.lend 1 rfl).mv (.less (fun _ h => List.mem_append.2 (.inr h))))⟩⟩

set_option maxHeartbeats 4000000 in
set_option maxRecDepth 10000 in
theorem F52 {R : Int} {C : Int} {hv : Value} {H : List Int} {O : List (Option Nat)} {w : World} (i_R : InK .i64 R) (i_C : InK .i64 C) (h_hv : V (tSl (tI .i64)) H hv O w) (p_ok : SOK R C H) (hO : ∀ b, some b ∈ O → b < w.heap.size) : Calls Try.prog 52 #[.agg #[.int .i64 R, .int .i64 C, hv]] w (Ret w (fun r w' => ∃ l : List (List Int), (FwI C H ((H.length : Int) + 1) 0 0 l) ∧ ∃ rv, r = rv ∧ V (tSl (tSl (tI .i64))) l rv O w')) := by
  have b_C := bd_i64 i_C
  have b_R := bd_i64 i_R
  obtain ⟨⟨r1, r2⟩, ⟨c1_, c2_⟩, hRC, ⟨n1, n36⟩, hCn, hok⟩ := id p_ok
  have hhl : ((H ++ [0]).length : Int) = ((H.length : Int) + 1) := by simp
  have a_hv := h_hv
  have l_hv := h_hv.len63
  have hS := St.start w O hO
  refine enterR Try.func52 rfl Try.ntmps52 Try.results52 rfl ?_
  refine W.seq ?_
  refine W.reg ?_
  refine Wx.box (cs := [.int .i64 R, .int .i64 C, hv]) hS rfl rfl rfl (fun g_1 w_2 hx_4 hb_3 hS => ?_)
  refine Wx.rd (v := (.slice none 0 0)) (rd_assign rfl) rfl ?_
  refine Wx.nil ?_
  refine W.seq ?_
  refine W.reg ?_
  refine Wx.rd (v := .agg #[.int .i64 R, .int .i64 C, hv]) (rd_loadXs (ds := [.int .i64 R, .int .i64 C, hv]) hS 0 rfl rfl rfl rfl Try.isAgg24 Try.sizeOf24) rfl ?_
  refine Wx.callF (run_callF Try.call50 rfl) (F50 i_R i_C (hS.arg a_hv) (by omega) hS.fb_lt) rfl ?_
  rintro r_5 w_6 hx_7 ⟨_, rfl, hv_8⟩
  have ln_10 := hv_8.len63
  have hS := hS.ext hx_7
  have hS := hS.add hv_8
  refine Wx.rd (v := r_5) (rd_assign rfl) rfl ?_
  refine Wx.nil ?_
  refine W.seq ?_
  refine W.reg ?_
  refine Wx.rd (v := r_5) (rd_move rfl) rfl ?_
  refine Wx.rd (v := .int .i64 ((H ++ [0]).length : Int)) (rd_lenV rfl (hS.v 0 rfl) Try.underlying22) rfl ?_
  refine Wx.makeM (e1 := 3) (m := (H.length + 1)) elMt_37 hS (congrArg (Value.int .i64) (by omega)) (congrArg (Value.int .i64) (by omega)) (by omega) (by simp only [maxLen]; omega) rfl (fun g_16 w_12 hx_13 hS => ?_)
  have hS : St _ _ w_12 (Ob.v (tSl (tI .i64)) (H ++ [0]) r_5 :: .box g_1 24 [.int .i64 R, .int .i64 C, hv] :: matO 22 3 g_16 (List.replicate (H.length + 1) (.slice none 0 0)) (List.replicate (H.length + 1) [])) := hS
  refine Wx.rd (v := .slice (some ⟨g_16, 0, none⟩) (H.length + 1) (H.length + 1)) (rd_assign rfl) rfl ?_
  refine Wx.nil ?_
  refine W.seq ?_
  refine W.seq ?_
  refine W.reg ?_
  refine Wx.rd (v := r_5) (rd_move rfl) rfl ?_
  refine Wx.rd (v := .int .i64 ((H ++ [0]).length : Int)) (rd_lenV rfl (hS.v 0 rfl) Try.underlying22) rfl ?_
  refine Wx.rd (v := .int .i64 0) (rd_move rfl) rfl ?_
  refine Wx.nil ?_
  refine W.block ?_
  refine W.loop [5, 6, 7, 18, 19, 20, 21, 22, 23, 24, 25, 26, 27, 28, 29, 30, 31, 32, 33, 34, 35, 36, 37, 38, 39, 40, 41, 42, 43, 44, 45, 46, 47, 48, 49, 50, 51, 52, 53, 54, 55] (fun x : Int × (List Value) × (List (List Int)) => match x with | (a, vs, yss) => [(18, .int .i64 a)]) (fun (x : Int × (List Value) × (List (List Int))) w' => match x with | (a, vs, yss) => St w O w' (Ob.v (tSl (tI .i64)) (H ++ [0]) r_5 :: .box g_1 24 [.int .i64 R, .int .i64 C, hv] :: matO 22 3 g_16 vs yss) ∧ 0 ≤ a ∧ a ≤ ((H.length : Int) + 1) ∧ LsI C H a 0 yss ∧ vs.length = (H.length + 1)) (fun x : Int × (List Value) × (List (List Int)) => match x with | (a, vs, yss) => (((H.length : Int) + 1) - a).toNat) (0, List.replicate (H.length + 1) (.slice none 0 0), List.replicate (H.length + 1) []) ⟨rfl, trivial⟩ ⟨hS, (by first | omega | simp), (by first | omega | simp), (ls_start (by omega)), (by simp)⟩ ?_
  rintro ⟨a, vs, yss⟩ u_18 w_17 ⟨hS, i0, i1, i3, i4⟩
  refine W.seq ?_
  refine W.reg ?_
  refine Wx.rd (v := .bool (decide (a < ((H ++ [0]).length : Int)))) (rd_lss rfl rfl) rfl ?_
  refine Wx.nil ?_
  refine W.seq ?_
  refine W.condD rfl (fun c0 => ?_) (fun c0 => ?_)
  · -- yes
    have hrl := ls_len i3 i0 (by omega) (Int.le_refl 0)
    refine W.skip ?_
    refine W.seq ?_
    refine W.block ?_
    refine W.seq ?_
    refine W.reg ?_
    refine Wx.rd (v := .int .i64 a) (rd_move rfl) rfl ?_
    refine Wx.rd (v := .int .i64 a) (rd_assign rfl) rfl ?_
    refine Wx.nil ?_
    refine W.seq ?_
    refine W.reg ?_
    refine Wx.rd (v := r_5) (rd_move rfl) rfl ?_
    refine Wx.rd (v := .int .i64 ((H ++ [0]).length : Int)) (rd_lenV rfl (hS.v 0 rfl) Try.underlying22) rfl ?_
    refine Wx.rd (v := .int .i64 0) (rd_move rfl) rfl ?_
    refine Wx.nil ?_
    refine W.block ?_
    refine W.loop [6, 7, 23, 24, 25, 26, 27, 28, 29, 30, 31, 32, 33, 34, 35, 36, 37, 38, 39, 40, 41, 42, 43, 44, 45, 46, 47, 48, 49, 50, 51, 52, 53, 54] (fun x : Int × (List Value) × (List (List Int)) => match x with | (b, vs2, yss2) => [(23, .int .i64 b)]) (fun (x : Int × (List Value) × (List (List Int))) w' => match x with | (b, vs2, yss2) => St w O w' (Ob.v (tSl (tI .i64)) (H ++ [0]) r_5 :: .box g_1 24 [.int .i64 R, .int .i64 C, hv] :: matO 22 3 g_16 vs2 yss2) ∧ 0 ≤ b ∧ b ≤ ((H.length : Int) + 1) ∧ LsI C H a b yss2 ∧ vs2.length = (H.length + 1)) (fun x : Int × (List Value) × (List (List Int)) => match x with | (b, vs2, yss2) => (((H.length : Int) + 1) - b).toNat) (0, vs, yss) ⟨rfl, trivial⟩ ⟨hS, (by first | omega | simp), (by first | omega | simp), (i3), (i4)⟩ ?_
    rintro ⟨b, vs2, yss2⟩ u_20 w_19 ⟨hS, j0, j1, j3, j4⟩
    refine W.seq ?_
    refine W.reg ?_
    refine Wx.rd (v := .bool (decide (b < ((H ++ [0]).length : Int)))) (rd_lss rfl rfl) rfl ?_
    refine Wx.nil ?_
    refine W.seq ?_
    refine W.condD rfl (fun c1 => ?_) (fun c1 => ?_)
    · -- yes
      have hrl := ls_len j3 i0 (by omega) j0
      have hyl := j3.1
      have hba := high_bd p_ok (x := a) ⟨by omega, by omega⟩
      have hbb := high_bd p_ok (x := b) ⟨by omega, by omega⟩
      refine W.skip ?_
      refine W.seq ?_
      refine W.block ?_
      refine W.seq ?_
      refine W.reg ?_
      refine Wx.rd (v := .int .i64 b) (rd_move rfl) rfl ?_
      refine Wx.rd (v := .int .i64 b) (rd_assign rfl) rfl ?_
      refine Wx.nil ?_
      refine W.seq ?_
      refine W.reg ?_
      refine Wx.rd (v := .int .i64 1000) (rd_assign rfl) rfl ?_
      refine Wx.nil ?_
      refine W.seq ?_
      refine W.seq ?_
      refine W.reg ?_
      refine Wx.rd (v := .int .i64 a) (rd_move rfl) rfl ?_
      refine Wx.rd (v := .int .i64 b) (rd_move rfl) rfl ?_
      refine Wx.rd (v := .bool (decide (a = b))) (rd_eql rfl rfl) rfl ?_
      refine Wx.rd (v := .bool (decide (a = b))) (rd_move rfl) rfl ?_
      refine Wx.cut (X := Unit) 5 [30, 31, 32, 33, 34] (fun _ => [(34, .bool (decide (a = b) || nearB C H.length a b))]) (fun _ w' => St w O w' (Ob.v (tSl (tI .i64)) (H ++ [0]) r_5 :: .box g_1 24 [.int .i64 R, .int .i64 C, hv] :: matO 22 3 g_16 vs2 yss2)) ?_ ?_
      · rcases Bool.eq_false_or_eq_true (decide (a = b)) with g_21 | g_21
        · -- True
          have gp_22 := of_decide_eq_true g_21
          refine Wx.gnoB rfl rfl (congrArg Value.bool g_21) rfl rfl ?_
          refine Wx.gnoB rfl rfl (congrArg Value.bool g_21) rfl rfl ?_
          refine Wx.gnoB rfl rfl (congrArg Value.bool g_21) rfl rfl ?_
          refine Wx.gnoB rfl rfl (congrArg Value.bool g_21) rfl rfl ?_
          refine Wx.rd (v := .bool true) (rd_pickT (congrArg Value.bool g_21) rfl) rfl ?_
          refine Wx.nil ⟨(), hS, ⟨?_, trivial⟩, Out.look rfl Out.refl⟩
          show Value.bool true = Value.bool (decide (a = b) || nearB C H.length a b)
          first | rw [g_21, Bool.true_or] | (rw [g_21]; rfl)
        · -- False
          have gp_23 := of_decide_eq_false g_21
          refine Wx.gyes rfl rfl (congrArg Value.bool g_21) ?_
          refine Wx.rd (v := .agg #[.int .i64 R, .int .i64 C, hv]) (rd_loadXs (ds := [.int .i64 R, .int .i64 C, hv]) hS 1 rfl rfl rfl rfl Try.isAgg24 Try.sizeOf24) rfl ?_
          refine Wx.gyes rfl rfl (congrArg Value.bool g_21) ?_
          refine Wx.rd (v := .int .i64 a) (rd_move rfl) rfl ?_
          refine Wx.gyes rfl rfl (congrArg Value.bool g_21) ?_
          refine Wx.rd (v := .int .i64 b) (rd_move rfl) rfl ?_
          refine Wx.gyes rfl rfl (congrArg Value.bool g_21) ?_
          refine Wx.callF (run_callF Try.call43 rfl) (F43 i_R i_C (hS.arg a_hv) (in_i64 (by omega) (by omega)) (in_i64 (by omega) (by omega)) ⟨by omega, by omega⟩ ⟨by omega, by omega⟩ ⟨c1_, c2_⟩ n36) rfl ?_
          rintro r_24 w_25 hx_26 rfl
          have hS := hS.ext hx_26
          refine Wx.rd (v := .bool (nearB C H.length a b)) (rd_pickF (congrArg Value.bool g_21) rfl) rfl ?_
          refine Wx.nil ⟨(), hS, ⟨?_, trivial⟩, Out.look rfl Out.refl⟩
          show Value.bool (nearB C H.length a b) = Value.bool (decide (a = b) || nearB C H.length a b)
          first | rw [g_21, Bool.false_or] | (rw [g_21]; rfl)
      rintro ⟨⟩ u_28 w_27 hS
      refine Wx.nil ?_
      refine W.cutK [7, 35, 36, 37, 38, 39, 40, 41, 42, 43] (fun (d : Int) => [(7, .int .i64 d)]) (fun (d : Int) w' => St w O w' (Ob.v (tSl (tI .i64)) (H ++ [0]) r_5 :: .box g_1 24 [.int .i64 R, .int .i64 C, hv] :: matO 22 3 g_16 vs2 yss2) ∧ d = d0V C H a b ∧ 0 ≤ d ∧ d ≤ 1000) ?_ ?_
      · -- up to the cut
        refine W.cond rfl (fun c2 => ?_) (fun c2 => ?_)
        · -- yes
          try simp only [Bool.and_eq_true, Bool.or_eq_true, Bool.not_eq_true', Bool.and_eq_false_iff, Bool.or_eq_false_iff, Bool.not_eq_false', decide_eq_true_eq, decide_eq_false_iff_not, not_or, Bool.false_eq_true, Bool.true_eq_false, false_or, or_false, not_false_eq_true] at c2
          refine W.regQ mixedMt_ (by kernel_rfl) ?_
          refine Wx.rd (v := r_5) (rd_move rfl) rfl ?_
          refine Wx.rd (v := .int .i64 a) (rd_move rfl) rfl ?_
          refine Wx.ex (rd_index 0 (hS.v 0 rfl) rfl rfl Try.underlying22 Try.sizeOf3 (by first | omega | (simp only [List.length_set, List.length_append, List.length_cons, List.length_nil, List.length_replicate]; omega)) (by first | omega | (simp only [List.length_set, List.length_append, List.length_cons, List.length_nil, List.length_replicate]; omega))) rfl (fun p_29 hp_30 => ?_)
          refine Wx.rd (v := .int .i64 (highV H a)) (Rd.to (v := .int .i64 (ix 0 (H ++ [0]) a)) (rd_loadI hp_30 rfl Try.isAgg3 Try.sizeOf3) (congrArg (Value.int .i64) (show (highV H a : Int) = (ix 0 (H ++ [0]) a : Int) from (highs_ix (by omega) (by omega)).symm).symm)) rfl ?_
          have bd_31 := bd_i64 hp_30.inK
          refine Wx.rd (v := r_5) (rd_move rfl) rfl ?_
          refine Wx.rd (v := .int .i64 b) (rd_move rfl) rfl ?_
          refine Wx.ex (rd_index 0 (hS.v 0 rfl) rfl rfl Try.underlying22 Try.sizeOf3 (by first | omega | (simp only [List.length_set, List.length_append, List.length_cons, List.length_nil, List.length_replicate]; omega)) (by first | omega | (simp only [List.length_set, List.length_append, List.length_cons, List.length_nil, List.length_replicate]; omega))) rfl (fun p_32 hp_33 => ?_)
          refine Wx.rd (v := .int .i64 (highV H b)) (Rd.to (v := .int .i64 (ix 0 (H ++ [0]) b)) (rd_loadI hp_33 rfl Try.isAgg3 Try.sizeOf3) (congrArg (Value.int .i64) (show (highV H b : Int) = (ix 0 (H ++ [0]) b : Int) from (highs_ix (by omega) (by omega)).symm).symm)) rfl ?_
          have bd_34 := bd_i64 hp_33.inK
          refine Wx.rd (v := .int .i64 (max (highV H a) (highV H b))) (rd_max rfl rfl) rfl ?_
          refine Wx.rd (v := .int .i64 (max (highV H a) (highV H b))) (rd_assign rfl) rfl ?_
          refine Wx.nilQ (fun w_35 hx_36 => ?_)
          have hS := hS.ext hx_36
          refine ⟨max (highV H a) (highV H b), ?_, ?_, Out.look rfl Out.refl⟩
          · exact ⟨hS, (by rw [d0V, if_pos c2]), (by first | omega | assumption)⟩
          · exact ⟨rfl, trivial⟩
        · -- no
          try simp only [Bool.and_eq_true, Bool.or_eq_true, Bool.not_eq_true', Bool.and_eq_false_iff, Bool.or_eq_false_iff, Bool.not_eq_false', decide_eq_true_eq, decide_eq_false_iff_not, not_or, Bool.false_eq_true, Bool.true_eq_false, false_or, or_false, not_false_eq_true] at c2
          refine W.skip ?_
          refine ⟨1000, ?_, ?_, Out.look rfl Out.refl⟩
          · exact ⟨hS, (by rw [d0V, if_neg (by simpa using c2)]), (by first | omega | assumption)⟩
          · exact ⟨rfl, trivial⟩
      rintro d u_38 w_37 ⟨hS, hd, hdb⟩
      refine W.reg ?_
      refine Wx.rd (v := .slice (some ⟨g_16, 0, none⟩) (H.length + 1) (H.length + 1)) (rd_move rfl) rfl ?_
      refine Wx.rd (v := .int .i64 a) (rd_move rfl) rfl ?_
      refine Wx.rd (v := .slice (some ⟨g_16, 0, none⟩) (H.length + 1) (H.length + 1)) (rd_move rfl) rfl ?_
      refine Wx.rd (v := .int .i64 a) (rd_move rfl) rfl ?_
      refine Wx.rd (v := .pointer (some ⟨g_16, a.toNat, none⟩)) (rd_indexM rfl rfl Try.underlying37 Try.sizeOf22 (by first | omega | (simp only [List.length_set, List.length_append, List.length_cons, List.length_nil, List.length_replicate]; omega)) (by first | omega | (simp only [List.length_set, List.length_append, List.length_cons, List.length_nil, List.length_replicate]; omega))) rfl ?_
      obtain ⟨v_39, hv_40⟩ := mat_v (vs := vs2) (i := a.toNat) (by first | omega | (simp only [List.length_set, List.length_append, List.length_cons, List.length_nil, List.length_replicate]; omega))
      refine Wx.rd (v := v_39) (rd_loadM hS 2 (e2 := 22) (e1 := 3) (g := g_16) (vs := vs2) (yss := yss2) rfl hv_40 rfl Try.isAgg22) rfl ?_
      refine Wx.rd (v := .int .i64 d) (rd_move rfl) rfl ?_
      refine Wx.lit (t := (tI .i64)) (ys := [d]) (vs := [.int .i64 d]) elMt_22 hS rfl rfl ⟨(V.mkInt (in_i64 (by omega) (by omega))), trivial⟩ (by decide) rfl (fun v_41 w_42 hx_43 hS => ?_)
      refine Wx.append elMt_22 hS (3 + 1 + a.toNat) (mat_row (e2 := 22) (g := g_16) (vs := vs2) (yss := yss2) (i := a.toNat) rfl hv_40 (ix_get (d := []) (by first | omega | (simp only [List.length_set, List.length_append, List.length_cons, List.length_nil, List.length_replicate]; omega)) (by first | omega | (simp only [List.length_set, List.length_append, List.length_cons, List.length_nil, List.length_replicate]; omega)))) rfl rfl (Src.ofR hS 0 rfl) (by simp only [maxLen]; first | omega | (simp; omega) | simp) (by first | omega | (simp; omega) | simp) rfl (fun v_44 w_45 hz_46 hS => ?_)
      refine Wx.rd (v := .pointer (some ⟨g_16, a.toNat, none⟩)) (rd_indexM rfl rfl Try.underlying37 Try.sizeOf22 (by first | omega | (simp only [List.length_set, List.length_append, List.length_cons, List.length_nil, List.length_replicate]; omega)) (by first | omega | (simp only [List.length_set, List.length_append, List.length_cons, List.length_nil, List.length_replicate]; omega))) rfl ?_
      refine Wx.storeMV (e2 := 22) (e1 := 3) (g := g_16) (vs := vs2) (yss := yss2) (v := v_44) (y := (ix [] yss2 a) ++ [d]) (obs := (.row (tI .i64) 3 v_41 [d] :: Ob.v (tSl (tI .i64)) (H ++ [0]) r_5 :: .box g_1 24 [.int .i64 R, .int .i64 C, hv] :: matO 22 3 g_16 vs2 yss2)) (i := a.toNat) 3 rfl (by first | omega | (simp only [List.length_set, List.length_append, List.length_cons, List.length_nil, List.length_replicate]; omega)) (by first | omega | (simp only [List.length_set, List.length_append, List.length_cons, List.length_nil, List.length_replicate]; omega)) hS rfl rfl Try.sizeOf22 (fun w_47 hz_48 hS => ?_)
      have hS : St _ _ w_47 (.row (tI .i64) 3 v_41 [d] :: Ob.v (tSl (tI .i64)) (H ++ [0]) r_5 :: .box g_1 24 [.int .i64 R, .int .i64 C, hv] :: matO 22 3 g_16 (List.set vs2 a.toNat v_44) (List.set yss2 a.toNat ((ix [] yss2 a) ++ [d]))) := hS
      refine Wx.nil ?_
      refine W.reg ?_
      refine Wx.rd (v := .int .i64 (b + 1)) (rd_add rfl rfl (in_i64 (by omega) (by omega))) rfl ?_
      refine Wx.rd (v := .int .i64 (b + 1)) (rd_move rfl) rfl ?_
      refine Wx.nil ?_
      refine ⟨(b + 1, List.set vs2 a.toNat v_44, List.set yss2 a.toNat ((ix [] yss2 a) ++ [d])), (by show (((H.length : Int) + 1) - (b + 1)).toNat < (((H.length : Int) + 1) - b).toNat; omega), ?_, ?_, Out.look rfl (Out.hav rfl (Out.look rfl (Out.hav rfl (Out.look rfl Out.self))))⟩
      · exact ⟨hS.tl, (by first | omega | assumption), (by first | omega | assumption), (ls_next j3 i0 (by omega) j0 hd), (by rw [List.length_set]; exact j4)⟩
      · exact ⟨rfl, trivial⟩
    · -- no
      refine W.exit rfl ?_
      refine W.reg ?_
      refine Wx.rd (v := .int .i64 (a + 1)) (rd_add rfl rfl (in_i64 (by omega) (by omega))) rfl ?_
      refine Wx.rd (v := .int .i64 (a + 1)) (rd_move rfl) rfl ?_
      refine Wx.nil ?_
      refine ⟨(a + 1, vs2, yss2), (by show (((H.length : Int) + 1) - (a + 1)).toNat < (((H.length : Int) + 1) - a).toNat; omega), ?_, ?_, Out.look rfl (Out.hav rfl (Out.look rfl Out.self))⟩
      · exact ⟨hS, (by first | omega | assumption), (by first | omega | assumption), (ls_row j3 (by omega)), (by first | omega | assumption)⟩
      · exact ⟨rfl, trivial⟩
  · -- no
    have hf0 := ls_end p_ok i3 (by omega)
    refine W.exit rfl ?_
    refine W.seq ?_
    refine W.seq ?_
    refine W.reg ?_
    refine Wx.rd (v := r_5) (rd_move rfl) rfl ?_
    refine Wx.rd (v := .int .i64 ((H ++ [0]).length : Int)) (rd_lenV rfl (hS.v 0 rfl) Try.underlying22) rfl ?_
    refine Wx.rd (v := .int .i64 0) (rd_move rfl) rfl ?_
    refine Wx.nil ?_
    refine W.block ?_
    refine W.loop [8, 9, 10, 58, 59, 60, 61, 62, 63, 64, 65, 66, 67, 68, 69, 70, 71, 72, 73, 74, 75, 76, 77, 78, 79, 80, 81, 82, 83, 84, 85, 86, 87, 88, 89, 90, 91, 92, 93, 94, 95, 96, 97, 98, 99, 100, 101, 102] (fun x : Int × (List Value) × (List (List Int)) => match x with | (m, vs3, yss3) => [(58, .int .i64 m)]) (fun (x : Int × (List Value) × (List (List Int))) w' => match x with | (m, vs3, yss3) => St w O w' (Ob.v (tSl (tI .i64)) (H ++ [0]) r_5 :: .box g_1 24 [.int .i64 R, .int .i64 C, hv] :: matO 22 3 g_16 vs3 yss3) ∧ 0 ≤ m ∧ m ≤ ((H.length : Int) + 1) ∧ FwI C H m 0 0 yss3 ∧ vs3.length = (H.length + 1)) (fun x : Int × (List Value) × (List (List Int)) => match x with | (m, vs3, yss3) => (((H.length : Int) + 1) - m).toNat) (0, vs, yss) ⟨rfl, trivial⟩ ⟨hS, (by first | omega | simp), (by first | omega | simp), (hf0), (i4)⟩ ?_
    rintro ⟨m, vs3, yss3⟩ u_50 w_49 ⟨hS, f0, f1, f3, f4⟩
    refine W.seq ?_
    refine W.reg ?_
    refine Wx.rd (v := .bool (decide (m < ((H ++ [0]).length : Int)))) (rd_lss rfl rfl) rfl ?_
    refine Wx.nil ?_
    refine W.seq ?_
    refine W.condD rfl (fun c3 => ?_) (fun c3 => ?_)
    · -- yes
      have hml := f3.1.1
      refine W.skip ?_
      refine W.seq ?_
      refine W.block ?_
      refine W.seq ?_
      refine W.reg ?_
      refine Wx.rd (v := .int .i64 m) (rd_move rfl) rfl ?_
      refine Wx.rd (v := .int .i64 m) (rd_assign rfl) rfl ?_
      refine Wx.nil ?_
      refine W.seq ?_
      refine W.reg ?_
      refine Wx.rd (v := r_5) (rd_move rfl) rfl ?_
      refine Wx.rd (v := .int .i64 ((H ++ [0]).length : Int)) (rd_lenV rfl (hS.v 0 rfl) Try.underlying22) rfl ?_
      refine Wx.rd (v := .int .i64 0) (rd_move rfl) rfl ?_
      refine Wx.nil ?_
      refine W.block ?_
      refine W.loop [9, 10, 63, 64, 65, 66, 67, 68, 69, 70, 71, 72, 73, 74, 75, 76, 77, 78, 79, 80, 81, 82, 83, 84, 85, 86, 87, 88, 89, 90, 91, 92, 93, 94, 95, 96, 97, 98, 99, 100, 101] (fun x : Int × (List Value) × (List (List Int)) => match x with | (u, vs4, yss4) => [(63, .int .i64 u)]) (fun (x : Int × (List Value) × (List (List Int))) w' => match x with | (u, vs4, yss4) => St w O w' (Ob.v (tSl (tI .i64)) (H ++ [0]) r_5 :: .box g_1 24 [.int .i64 R, .int .i64 C, hv] :: matO 22 3 g_16 vs4 yss4) ∧ 0 ≤ u ∧ u ≤ ((H.length : Int) + 1) ∧ FwI C H m u 0 yss4 ∧ vs4.length = (H.length + 1)) (fun x : Int × (List Value) × (List (List Int)) => match x with | (u, vs4, yss4) => (((H.length : Int) + 1) - u).toNat) (0, vs3, yss3) ⟨rfl, trivial⟩ ⟨hS, (by first | omega | simp), (by first | omega | simp), (f3), (f4)⟩ ?_
      rintro ⟨u, vs4, yss4⟩ u_52 w_51 ⟨hS, g0, g1, g3, g4⟩
      refine W.seq ?_
      refine W.reg ?_
      refine Wx.rd (v := .bool (decide (u < ((H ++ [0]).length : Int)))) (rd_lss rfl rfl) rfl ?_
      refine Wx.nil ?_
      refine W.seq ?_
      refine W.condD rfl (fun c4 => ?_) (fun c4 => ?_)
      · -- yes
        have hml2 := g3.1.1
        refine W.skip ?_
        refine W.seq ?_
        refine W.block ?_
        refine W.seq ?_
        refine W.reg ?_
        refine Wx.rd (v := .int .i64 u) (rd_move rfl) rfl ?_
        refine Wx.rd (v := .int .i64 u) (rd_assign rfl) rfl ?_
        refine Wx.nil ?_
        refine W.seq ?_
        refine W.reg ?_
        refine Wx.rd (v := r_5) (rd_move rfl) rfl ?_
        refine Wx.rd (v := .int .i64 ((H ++ [0]).length : Int)) (rd_lenV rfl (hS.v 0 rfl) Try.underlying22) rfl ?_
        refine Wx.rd (v := .int .i64 0) (rd_move rfl) rfl ?_
        refine Wx.nil ?_
        refine W.block ?_
        refine W.loop [10, 68, 69, 70, 71, 72, 73, 74, 75, 76, 77, 78, 79, 80, 81, 82, 83, 84, 85, 86, 87, 88, 89, 90, 91, 92, 93, 94, 95, 96, 97, 98, 99, 100] (fun x : Int × (List Value) × (List (List Int)) => match x with | (q, vs5, yss5) => [(68, .int .i64 q)]) (fun (x : Int × (List Value) × (List (List Int))) w' => match x with | (q, vs5, yss5) => St w O w' (Ob.v (tSl (tI .i64)) (H ++ [0]) r_5 :: .box g_1 24 [.int .i64 R, .int .i64 C, hv] :: matO 22 3 g_16 vs5 yss5) ∧ 0 ≤ q ∧ q ≤ ((H.length : Int) + 1) ∧ FwI C H m u q yss5 ∧ vs5.length = (H.length + 1)) (fun x : Int × (List Value) × (List (List Int)) => match x with | (q, vs5, yss5) => (((H.length : Int) + 1) - q).toNat) (0, vs4, yss4) ⟨rfl, trivial⟩ ⟨hS, (by first | omega | simp), (by first | omega | simp), (g3), (g4)⟩ ?_
        rintro ⟨q, vs5, yss5⟩ u_54 w_53 ⟨hS, k0, k1, k3, k4⟩
        refine W.seq ?_
        refine W.reg ?_
        refine Wx.rd (v := .bool (decide (q < ((H ++ [0]).length : Int)))) (rd_lss rfl rfl) rfl ?_
        refine Wx.nil ?_
        refine W.seq ?_
        refine W.condD rfl (fun c5 => ?_) (fun c5 => ?_)
        · -- yes
          have hml3 := k3.1.1
          have hr1 := k3.1.2 u (by omega) (by omega)
          have hr2 := k3.1.2 m (by omega) (by omega)
          have hv1 := fw_le k3 p_ok (x := u) (y := q) (by omega) (by omega) (by omega) (by omega)
          have hv2 := fw_le k3 p_ok (x := u) (y := m) (by omega) (by omega) (by omega) (by omega)
          have hv3 := fw_le k3 p_ok (x := m) (y := q) (by omega) (by omega) (by omega) (by omega)
          have hms := fun v => mx_set (v := v) k3.1 (x := u) (y := q) (by omega) (by omega) (by omega) (by omega)
          refine W.skip ?_
          refine W.seq ?_
          refine W.block ?_
          refine W.seq ?_
          refine W.reg ?_
          refine Wx.rd (v := .int .i64 q) (rd_move rfl) rfl ?_
          refine Wx.rd (v := .int .i64 q) (rd_assign rfl) rfl ?_
          refine Wx.nil ?_
          refine W.regT 29 mixedMt_ (by kernel_rfl) ?_
          refine Wx.rd (v := .slice (some ⟨g_16, 0, none⟩) (H.length + 1) (H.length + 1)) (rd_move rfl) rfl ?_
          refine Wx.rd (v := .int .i64 u) (rd_move rfl) rfl ?_
          refine Wx.rd (v := .pointer (some ⟨g_16, u.toNat, none⟩)) (rd_indexM rfl rfl Try.underlying37 Try.sizeOf22 (by first | omega | (simp only [List.length_set, List.length_append, List.length_cons, List.length_nil, List.length_replicate]; omega)) (by first | omega | (simp only [List.length_set, List.length_append, List.length_cons, List.length_nil, List.length_replicate]; omega))) rfl ?_
          obtain ⟨v_55, hv_56⟩ := mat_v (vs := vs5) (i := u.toNat) (by first | omega | (simp only [List.length_set, List.length_append, List.length_cons, List.length_nil, List.length_replicate]; omega))
          refine Wx.rd (v := v_55) (rd_loadM hS 2 (e2 := 22) (e1 := 3) (g := g_16) (vs := vs5) (yss := yss5) rfl hv_56 rfl Try.isAgg22) rfl ?_
          refine Wx.rd (v := .int .i64 q) (rd_move rfl) rfl ?_
          refine Wx.rd (v := .slice (some ⟨g_16, 0, none⟩) (H.length + 1) (H.length + 1)) (rd_move rfl) rfl ?_
          refine Wx.rd (v := .int .i64 u) (rd_move rfl) rfl ?_
          refine Wx.rd (v := .pointer (some ⟨g_16, u.toNat, none⟩)) (rd_indexM rfl rfl Try.underlying37 Try.sizeOf22 (by first | omega | (simp only [List.length_set, List.length_append, List.length_cons, List.length_nil, List.length_replicate]; omega)) (by first | omega | (simp only [List.length_set, List.length_append, List.length_cons, List.length_nil, List.length_replicate]; omega))) rfl ?_
          obtain ⟨v_57, hv_58⟩ := mat_v (vs := vs5) (i := u.toNat) (by first | omega | (simp only [List.length_set, List.length_append, List.length_cons, List.length_nil, List.length_replicate]; omega))
          refine Wx.rd (v := v_57) (rd_loadM hS 2 (e2 := 22) (e1 := 3) (g := g_16) (vs := vs5) (yss := yss5) rfl hv_58 rfl Try.isAgg22) rfl ?_
          refine Wx.rd (v := .int .i64 q) (rd_move rfl) rfl ?_
          refine Wx.indexR hS (2 + 1 + u.toNat) (mat_row (e2 := 22) (g := g_16) (vs := vs5) (yss := yss5) (i := u.toNat) rfl hv_58 (ix_get (d := []) (by first | omega | (simp only [List.length_set, List.length_append, List.length_cons, List.length_nil, List.length_replicate]; omega)) (by first | omega | (simp only [List.length_set, List.length_append, List.length_cons, List.length_nil, List.length_replicate]; omega)))) rfl rfl Try.underlying22 Try.sizeOf3 (by first | omega | (simp only [List.length_set, List.length_append, List.length_cons, List.length_nil, List.length_replicate]; omega)) (by first | omega | (simp only [List.length_set, List.length_append, List.length_cons, List.length_nil, List.length_replicate]; omega)) rfl (fun g_59 hg_60 => ?_)
          refine Wx.rd (v := .int .i64 (ix 0 (ix [] yss5 u) q)) (rd_loadRI' hS (2 + 1 + u.toNat) (mat_row (e2 := 22) (g := g_16) (vs := vs5) (yss := yss5) (i := u.toNat) rfl hv_58 (ix_get (d := []) (by first | omega | (simp only [List.length_set, List.length_append, List.length_cons, List.length_nil, List.length_replicate]; omega)) (by first | omega | (simp only [List.length_set, List.length_append, List.length_cons, List.length_nil, List.length_replicate]; omega)))) hg_60 rfl (by first | omega | (simp only [List.length_set, List.length_append, List.length_cons, List.length_nil, List.length_replicate]; omega)) (by first | omega | (simp only [List.length_set, List.length_append, List.length_cons, List.length_nil, List.length_replicate]; omega)) Try.isAgg3 Try.sizeOf3) rfl ?_
          have bd_61 := bd_i64 (hS.rowInK' (2 + 1 + u.toNat) (mat_row (e2 := 22) (g := g_16) (vs := vs5) (yss := yss5) (i := u.toNat) rfl hv_58 (ix_get (d := []) (by first | omega | (simp only [List.length_set, List.length_append, List.length_cons, List.length_nil, List.length_replicate]; omega)) (by first | omega | (simp only [List.length_set, List.length_append, List.length_cons, List.length_nil, List.length_replicate]; omega)))) (by first | omega | (simp only [List.length_set, List.length_append, List.length_cons, List.length_nil, List.length_replicate]; omega)) (by first | omega | (simp only [List.length_set, List.length_append, List.length_cons, List.length_nil, List.length_replicate]; omega)) : InK .i64 (ix 0 (ix [] yss5 u) q))
          refine Wx.rd (v := .slice (some ⟨g_16, 0, none⟩) (H.length + 1) (H.length + 1)) (rd_move rfl) rfl ?_
          refine Wx.rd (v := .int .i64 u) (rd_move rfl) rfl ?_
          refine Wx.rd (v := .pointer (some ⟨g_16, u.toNat, none⟩)) (rd_indexM rfl rfl Try.underlying37 Try.sizeOf22 (by first | omega | (simp only [List.length_set, List.length_append, List.length_cons, List.length_nil, List.length_replicate]; omega)) (by first | omega | (simp only [List.length_set, List.length_append, List.length_cons, List.length_nil, List.length_replicate]; omega))) rfl ?_
          obtain ⟨v_62, hv_63⟩ := mat_v (vs := vs5) (i := u.toNat) (by first | omega | (simp only [List.length_set, List.length_append, List.length_cons, List.length_nil, List.length_replicate]; omega))
          refine Wx.rd (v := v_62) (rd_loadM hS 2 (e2 := 22) (e1 := 3) (g := g_16) (vs := vs5) (yss := yss5) rfl hv_63 rfl Try.isAgg22) rfl ?_
          refine Wx.rd (v := .int .i64 m) (rd_move rfl) rfl ?_
          refine Wx.indexR hS (2 + 1 + u.toNat) (mat_row (e2 := 22) (g := g_16) (vs := vs5) (yss := yss5) (i := u.toNat) rfl hv_63 (ix_get (d := []) (by first | omega | (simp only [List.length_set, List.length_append, List.length_cons, List.length_nil, List.length_replicate]; omega)) (by first | omega | (simp only [List.length_set, List.length_append, List.length_cons, List.length_nil, List.length_replicate]; omega)))) rfl rfl Try.underlying22 Try.sizeOf3 (by first | omega | (simp only [List.length_set, List.length_append, List.length_cons, List.length_nil, List.length_replicate]; omega)) (by first | omega | (simp only [List.length_set, List.length_append, List.length_cons, List.length_nil, List.length_replicate]; omega)) rfl (fun g_64 hg_65 => ?_)
          refine Wx.rd (v := .int .i64 (ix 0 (ix [] yss5 u) m)) (rd_loadRI' hS (2 + 1 + u.toNat) (mat_row (e2 := 22) (g := g_16) (vs := vs5) (yss := yss5) (i := u.toNat) rfl hv_63 (ix_get (d := []) (by first | omega | (simp only [List.length_set, List.length_append, List.length_cons, List.length_nil, List.length_replicate]; omega)) (by first | omega | (simp only [List.length_set, List.length_append, List.length_cons, List.length_nil, List.length_replicate]; omega)))) hg_65 rfl (by first | omega | (simp only [List.length_set, List.length_append, List.length_cons, List.length_nil, List.length_replicate]; omega)) (by first | omega | (simp only [List.length_set, List.length_append, List.length_cons, List.length_nil, List.length_replicate]; omega)) Try.isAgg3 Try.sizeOf3) rfl ?_
          have bd_66 := bd_i64 (hS.rowInK' (2 + 1 + u.toNat) (mat_row (e2 := 22) (g := g_16) (vs := vs5) (yss := yss5) (i := u.toNat) rfl hv_63 (ix_get (d := []) (by first | omega | (simp only [List.length_set, List.length_append, List.length_cons, List.length_nil, List.length_replicate]; omega)) (by first | omega | (simp only [List.length_set, List.length_append, List.length_cons, List.length_nil, List.length_replicate]; omega)))) (by first | omega | (simp only [List.length_set, List.length_append, List.length_cons, List.length_nil, List.length_replicate]; omega)) (by first | omega | (simp only [List.length_set, List.length_append, List.length_cons, List.length_nil, List.length_replicate]; omega)) : InK .i64 (ix 0 (ix [] yss5 u) m))
          refine Wx.rd (v := .slice (some ⟨g_16, 0, none⟩) (H.length + 1) (H.length + 1)) (rd_move rfl) rfl ?_
          refine Wx.rd (v := .int .i64 m) (rd_move rfl) rfl ?_
          refine Wx.rd (v := .pointer (some ⟨g_16, m.toNat, none⟩)) (rd_indexM rfl rfl Try.underlying37 Try.sizeOf22 (by first | omega | (simp only [List.length_set, List.length_append, List.length_cons, List.length_nil, List.length_replicate]; omega)) (by first | omega | (simp only [List.length_set, List.length_append, List.length_cons, List.length_nil, List.length_replicate]; omega))) rfl ?_
          obtain ⟨v_67, hv_68⟩ := mat_v (vs := vs5) (i := m.toNat) (by first | omega | (simp only [List.length_set, List.length_append, List.length_cons, List.length_nil, List.length_replicate]; omega))
          refine Wx.rd (v := v_67) (rd_loadM hS 2 (e2 := 22) (e1 := 3) (g := g_16) (vs := vs5) (yss := yss5) rfl hv_68 rfl Try.isAgg22) rfl ?_
          refine Wx.rd (v := .int .i64 q) (rd_move rfl) rfl ?_
          refine Wx.indexR hS (2 + 1 + m.toNat) (mat_row (e2 := 22) (g := g_16) (vs := vs5) (yss := yss5) (i := m.toNat) rfl hv_68 (ix_get (d := []) (by first | omega | (simp only [List.length_set, List.length_append, List.length_cons, List.length_nil, List.length_replicate]; omega)) (by first | omega | (simp only [List.length_set, List.length_append, List.length_cons, List.length_nil, List.length_replicate]; omega)))) rfl rfl Try.underlying22 Try.sizeOf3 (by first | omega | (simp only [List.length_set, List.length_append, List.length_cons, List.length_nil, List.length_replicate]; omega)) (by first | omega | (simp only [List.length_set, List.length_append, List.length_cons, List.length_nil, List.length_replicate]; omega)) rfl (fun g_69 hg_70 => ?_)
          refine Wx.rd (v := .int .i64 (ix 0 (ix [] yss5 m) q)) (rd_loadRI' hS (2 + 1 + m.toNat) (mat_row (e2 := 22) (g := g_16) (vs := vs5) (yss := yss5) (i := m.toNat) rfl hv_68 (ix_get (d := []) (by first | omega | (simp only [List.length_set, List.length_append, List.length_cons, List.length_nil, List.length_replicate]; omega)) (by first | omega | (simp only [List.length_set, List.length_append, List.length_cons, List.length_nil, List.length_replicate]; omega)))) hg_70 rfl (by first | omega | (simp only [List.length_set, List.length_append, List.length_cons, List.length_nil, List.length_replicate]; omega)) (by first | omega | (simp only [List.length_set, List.length_append, List.length_cons, List.length_nil, List.length_replicate]; omega)) Try.isAgg3 Try.sizeOf3) rfl ?_
          have bd_71 := bd_i64 (hS.rowInK' (2 + 1 + m.toNat) (mat_row (e2 := 22) (g := g_16) (vs := vs5) (yss := yss5) (i := m.toNat) rfl hv_68 (ix_get (d := []) (by first | omega | (simp only [List.length_set, List.length_append, List.length_cons, List.length_nil, List.length_replicate]; omega)) (by first | omega | (simp only [List.length_set, List.length_append, List.length_cons, List.length_nil, List.length_replicate]; omega)))) (by first | omega | (simp only [List.length_set, List.length_append, List.length_cons, List.length_nil, List.length_replicate]; omega)) (by first | omega | (simp only [List.length_set, List.length_append, List.length_cons, List.length_nil, List.length_replicate]; omega)) : InK .i64 (ix 0 (ix [] yss5 m) q))
          refine Wx.rd (v := .int .i64 (max (ix 0 (ix [] yss5 u) m) (ix 0 (ix [] yss5 m) q))) (rd_max rfl rfl) rfl ?_
          refine Wx.rd (v := .int .i64 (min (ix 0 (ix [] yss5 u) q) (max (ix 0 (ix [] yss5 u) m) (ix 0 (ix [] yss5 m) q)))) (rd_min rfl rfl) rfl ?_
          refine Wx.indexR hS (2 + 1 + u.toNat) (mat_row (e2 := 22) (g := g_16) (vs := vs5) (yss := yss5) (i := u.toNat) rfl hv_56 (ix_get (d := []) (by first | omega | (simp only [List.length_set, List.length_append, List.length_cons, List.length_nil, List.length_replicate]; omega)) (by first | omega | (simp only [List.length_set, List.length_append, List.length_cons, List.length_nil, List.length_replicate]; omega)))) rfl rfl Try.underlying22 Try.sizeOf3 (by first | omega | (simp only [List.length_set, List.length_append, List.length_cons, List.length_nil, List.length_replicate]; omega)) (by first | omega | (simp only [List.length_set, List.length_append, List.length_cons, List.length_nil, List.length_replicate]; omega)) rfl (fun g_72 hg_73 => ?_)
          refine Wx.nilQ (fun w_74 hx_75 => ?_)
          have hS := hS.ext hx_75
          refine Wx.storeM (e2 := 22) (e1 := 3) (g := g_16) (vs := vs5) (yss := yss5) (i := u.toNat) (j := q.toNat) hS 2 rfl hv_56 (ix_get (d := []) (by first | omega | (simp only [List.length_set, List.length_append, List.length_cons, List.length_nil, List.length_replicate]; omega)) (by first | omega | (simp only [List.length_set, List.length_append, List.length_cons, List.length_nil, List.length_replicate]; omega))) hg_73 rfl (by first | omega | (simp only [List.length_set, List.length_append, List.length_cons, List.length_nil, List.length_replicate]; omega)) rfl (in_i64 (by omega) (by omega)) Try.sizeOf3 (fun w_76 hz_77 hS => ?_)
          have hS : St _ _ w_76 (Ob.v (tSl (tI .i64)) (H ++ [0]) r_5 :: .box g_1 24 [.int .i64 R, .int .i64 C, hv] :: matO 22 3 g_16 vs5 (List.set yss5 u.toNat (List.set (ix [] yss5 u) q.toNat (min (ix 0 (ix [] yss5 u) q) (max (ix 0 (ix [] yss5 u) m) (ix 0 (ix [] yss5 m) q)))))) := hS
          refine Wx.nil ?_
          refine W.reg ?_
          refine Wx.rd (v := .int .i64 (q + 1)) (rd_add rfl rfl (in_i64 (by omega) (by omega))) rfl ?_
          refine Wx.rd (v := .int .i64 (q + 1)) (rd_move rfl) rfl ?_
          refine Wx.nil ?_
          refine ⟨(q + 1, vs5, List.set yss5 u.toNat (List.set (ix [] yss5 u) q.toNat (min (ix 0 (ix [] yss5 u) q) (max (ix 0 (ix [] yss5 u) m) (ix 0 (ix [] yss5 m) q))))), (by show (((H.length : Int) + 1) - (q + 1)).toNat < (((H.length : Int) + 1) - q).toNat; omega), ?_, ?_, Out.look rfl Out.self⟩
          · exact ⟨hS, (by first | omega | assumption), (by first | omega | assumption), (fw_next p_ok k3 f0 (by omega) g0 (by omega) k0 (by omega) rfl (hms _).1 (hms _).2), (by first | omega | assumption)⟩
          · exact ⟨rfl, trivial⟩
        · -- no
          refine W.exit rfl ?_
          refine W.reg ?_
          refine Wx.rd (v := .int .i64 (u + 1)) (rd_add rfl rfl (in_i64 (by omega) (by omega))) rfl ?_
          refine Wx.rd (v := .int .i64 (u + 1)) (rd_move rfl) rfl ?_
          refine Wx.nil ?_
          refine ⟨(u + 1, vs5, yss5), (by show (((H.length : Int) + 1) - (u + 1)).toNat < (((H.length : Int) + 1) - u).toNat; omega), ?_, ?_, Out.look rfl (Out.hav rfl (Out.look rfl Out.self))⟩
          · exact ⟨hS, (by first | omega | assumption), (by first | omega | assumption), (fw_row k3 (by omega)), (by first | omega | assumption)⟩
          · exact ⟨rfl, trivial⟩
      · -- no
        refine W.exit rfl ?_
        refine W.reg ?_
        refine Wx.rd (v := .int .i64 (m + 1)) (rd_add rfl rfl (in_i64 (by omega) (by omega))) rfl ?_
        refine Wx.rd (v := .int .i64 (m + 1)) (rd_move rfl) rfl ?_
        refine Wx.nil ?_
        refine ⟨(m + 1, vs4, yss4), (by show (((H.length : Int) + 1) - (m + 1)).toNat < (((H.length : Int) + 1) - m).toNat; omega), ?_, ?_, Out.look rfl (Out.hav rfl (Out.look rfl Out.self))⟩
        · exact ⟨hS, (by first | omega | assumption), (by first | omega | assumption), (fw_place g3 (by omega) f0), (by first | omega | assumption)⟩
        · exact ⟨rfl, trivial⟩
    · -- no
      refine W.exit rfl ?_
      refine W.seq ?_
      refine W.reg ?_
      have hS := hS.matFreezeN (n := (H.length + 1)) (e2 := 22) (e1 := 3) (g := g_16) (vs := vs3) (yss := yss3) 2 rfl f4 (by have := f3.1.1; omega) (by simp only [maxLen]; omega)
      have hS : St _ _ w_49 [Ob.v (tSl (tSl (tI .i64))) yss3 (.slice (some ⟨g_16, 0, none⟩) (H.length + 1) (H.length + 1)), Ob.v (tSl (tI .i64)) (H ++ [0]) r_5, .box g_1 24 [.int .i64 R, .int .i64 C, hv]] := hS
      refine Wx.rd (v := (.slice (some ⟨g_16, 0, none⟩) (H.length + 1) (H.length + 1))) (rd_move rfl) rfl ?_
      refine Wx.rd (v := (.slice (some ⟨g_16, 0, none⟩) (H.length + 1) (H.length + 1))) (rd_assign rfl) rfl ?_
      refine Wx.nil ?_
      exact W.ret ⟨(.slice (some ⟨g_16, 0, none⟩) (H.length + 1) (H.length + 1)), ResIs.one, hS.bel, ⟨yss3, (by rw [show ((H.length : Int) + 1) = m by omega]; exact f3), ⟨(.slice (some ⟨g_16, 0, none⟩) (H.length + 1) (H.length + 1)), rfl, (V.mv (hS.v 0 rfl) (.less (fun _ h => List.mem_append.2 (.inr h))))⟩⟩⟩
end Go.Proofs.Ytjhimoeodkaihaa
