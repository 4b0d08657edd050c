/-
  WHAT IS PROVED HERE: what functions of layer 3 hand back, each out of its own code; the conditions stand in each statement.
-/
import Derived.Test.YtjmpojoimcljoaaProg
import Derived.Test.YtjmpojoimcljoaaWk5
import Derived.Test.YtjmpojoimcljoaaSpec3
import Derived.Test.YtjmpojoimcljoaaFa
import Derived.Test.YtjmpojoimcljoaaRa
namespace Go.Proofs.Ytjmpojoimcljoaa
open Go.Wk Go.RowKit
set_option linter.unusedVariables false
set_option linter.unusedSimpArgs false
theorem foRb_27_0 : fldOff Try.prog 27 0 = some 0 := by kernel_rfl
theorem foRb_27_1 : fldOff Try.prog 27 1 = some 1 := by kernel_rfl
theorem elRb_36 : ElemI Try.prog 36 61 (.agg #[.int .i64 0, .int .i64 0]) 2 16 := ElemI.of Try.underlying36 (by kernel_rfl) (by first | rfl | kernel_rfl) (by decide)

theorem F68 {ov : Value} {order : List Int} {Fr_ov : List (Option Nat)} {a : Int} {b : Int} {w : World} (h_ov : V (tSl (tI .i64)) order ov Fr_ov w) (i_a : InK .i64 a) (i_b : InK .i64 b) : Calls Try.prog 68 #[ov, .int .i64 a, .int .i64 b] w (Ret w (fun r _ => r = .bool (nextL a b order))) := by
  have b_b := bd_i64 i_b
  have b_a := bd_i64 i_a
  have a_ov := h_ov.any
  have l_ov := h_ov.len63
  have hS := St.start0 w
  refine enterR Try.func68 rfl Try.ntmps68 Try.results68 rfl ?_
  refine W.seq ?_
  refine W.reg ?_
  refine Wx.rd (v := .bool false) (rd_assign rfl) rfl ?_
  refine Wx.nil ?_
  refine W.seq ?_
  refine W.seq ?_
  refine W.reg ?_
  refine Wx.rd (v := .int .i64 0) (rd_assign rfl) rfl ?_
  refine Wx.nil ?_
  refine W.block ?_
  refine W.loop [6, 7, 8, 9, 10, 11, 12, 13, 14, 15, 16, 17, 18, 19, 20, 21, 22, 23, 24, 25, 26, 27, 28, 29, 30, 31, 32, 33, 34, 35, 36, 37, 38, 39, 40, 41, 42, 43, 44, 45, 46] (fun (i : Int) => [(7, .int .i64 i)]) (fun (i : Int) w' => St w [] w' [] ∧ 0 ≤ i ∧ (i + 1 ≤ order.length ∨ i = 0) ∧ nextL a b (order.drop i.toNat) = nextL a b order) (fun (i : Int) => (order.length - i).toNat) 0 ⟨rfl, trivial⟩ ⟨hS, (by first | omega | simp), (by first | omega | simp), (by simp)⟩ ?_
  rintro i u_2 w_1 ⟨hS, h0, h1, h2⟩
  refine W.seq ?_
  refine W.seq ?_
  refine W.reg ?_
  refine Wx.rd (v := .int .i64 i) (rd_move rfl) rfl ?_
  refine Wx.rd (v := .int .i64 (i + 1)) (rd_add rfl rfl (in_i64 (by omega) (by omega))) rfl ?_
  refine Wx.rd (v := ov) (rd_move rfl) rfl ?_
  refine Wx.rd (v := .int .i64 (order.length : Int)) (rd_lenV rfl (hS.arg a_ov) Try.underlying28) rfl ?_
  refine Wx.rd (v := .bool (decide ((i + 1) < (order.length : Int)))) (rd_lss rfl rfl) rfl ?_
  refine Wx.nil ?_
  refine W.condD rfl (fun c0 => ?_) (fun c0 => ?_)
  · -- yes
    refine W.skip ?_
    refine W.seq ?_
    refine W.block ?_
    refine W.seq ?_
    refine W.reg ?_
    refine Wx.rd (v := ov) (rd_move rfl) rfl ?_
    refine Wx.rd (v := .int .i64 i) (rd_move rfl) rfl ?_
    refine Wx.ex (rd_index 0 (hS.arg a_ov) rfl rfl Try.underlying28 Try.sizeOf3 (by first | omega | (simp only [List.length_set, List.length_append, List.length_cons, List.length_nil, List.length_replicate]; omega)) (by first | omega | (simp only [List.length_set, List.length_append, List.length_cons, List.length_nil, List.length_replicate]; omega))) rfl (fun p_3 hp_4 => ?_)
    refine Wx.rd (v := .int .i64 (ix 0 order i)) (rd_loadI hp_4 rfl Try.isAgg3 Try.sizeOf3) rfl ?_
    have bd_5 := bd_i64 hp_4.inK
    refine Wx.rd (v := .int .i64 a) (rd_move rfl) rfl ?_
    refine Wx.rd (v := .bool (decide ((ix 0 order i) = a))) (rd_eql rfl rfl) rfl ?_
    refine Wx.rd (v := .bool (decide ((ix 0 order i) = a))) (rd_move rfl) rfl ?_
    refine Wx.cut (X := Unit) 8 [22, 23, 24, 25, 26, 27, 28, 29] (fun _ => [(29, .bool (decide ((ix 0 order i) = a) && decide ((ix 0 order (i + 1)) = b)))]) (fun _ w' => St w [] w' []) ?_ ?_
    · rcases Bool.eq_false_or_eq_true (decide ((ix 0 order i) = a)) with g_6 | g_6
      · -- True
        have gp_7 := of_decide_eq_true g_6
        refine Wx.gyes rfl rfl (congrArg Value.bool g_6) ?_
        refine Wx.rd (v := ov) (rd_move rfl) rfl ?_
        refine Wx.gyes rfl rfl (congrArg Value.bool g_6) ?_
        refine Wx.rd (v := .int .i64 i) (rd_move rfl) rfl ?_
        refine Wx.gyes rfl rfl (congrArg Value.bool g_6) ?_
        refine Wx.rd (v := .int .i64 (i + 1)) (rd_add rfl rfl (in_i64 (by omega) (by omega))) rfl ?_
        refine Wx.gyes rfl rfl (congrArg Value.bool g_6) ?_
        refine Wx.ex (rd_index 0 (hS.arg a_ov) rfl rfl Try.underlying28 Try.sizeOf3 (by first | omega | (simp only [List.length_set, List.length_append, List.length_cons, List.length_nil, List.length_replicate]; omega)) (by first | omega | (simp only [List.length_set, List.length_append, List.length_cons, List.length_nil, List.length_replicate]; omega))) rfl (fun p_8 hp_9 => ?_)
        refine Wx.gyes rfl rfl (congrArg Value.bool g_6) ?_
        refine Wx.rd (v := .int .i64 (ix 0 order (i + 1))) (rd_loadI hp_9 rfl Try.isAgg3 Try.sizeOf3) rfl ?_
        have bd_10 := bd_i64 hp_9.inK
        refine Wx.gyes rfl rfl (congrArg Value.bool g_6) ?_
        refine Wx.rd (v := .int .i64 b) (rd_move rfl) rfl ?_
        refine Wx.gyes rfl rfl (congrArg Value.bool g_6) ?_
        refine Wx.rd (v := .bool (decide ((ix 0 order (i + 1)) = b))) (rd_eql rfl rfl) rfl ?_
        refine Wx.rd (v := .bool (decide ((ix 0 order (i + 1)) = b))) (rd_pickT (congrArg Value.bool g_6) rfl) rfl ?_
        refine Wx.nil ⟨(), hS, ⟨?_, trivial⟩, Out.look rfl Out.refl⟩
        show Value.bool (decide ((ix 0 order (i + 1)) = b)) = Value.bool (decide ((ix 0 order i) = a) && decide ((ix 0 order (i + 1)) = b))
        rw [g_6]; rfl
      · -- False
        have gp_11 := of_decide_eq_false g_6
        refine Wx.gnoB rfl rfl (congrArg Value.bool g_6) rfl rfl ?_
        refine Wx.gnoB rfl rfl (congrArg Value.bool g_6) rfl rfl ?_
        refine Wx.gnoB rfl rfl (congrArg Value.bool g_6) rfl rfl ?_
        refine Wx.gnoB rfl rfl (congrArg Value.bool g_6) rfl rfl ?_
        refine Wx.gnoB rfl rfl (congrArg Value.bool g_6) rfl rfl ?_
        refine Wx.gnoB rfl rfl (congrArg Value.bool g_6) rfl rfl ?_
        refine Wx.gnoB rfl rfl (congrArg Value.bool g_6) rfl rfl ?_
        refine Wx.rd (v := .bool false) (rd_pickF (congrArg Value.bool g_6) rfl) rfl ?_
        refine Wx.nil ⟨(), hS, ⟨?_, trivial⟩, Out.look rfl Out.refl⟩
        show Value.bool false = Value.bool (decide ((ix 0 order i) = a) && decide ((ix 0 order (i + 1)) = b))
        rw [g_6]; rfl
    rintro ⟨⟩ u_13 w_12 hS
    refine Wx.rd (v := .bool (decide ((ix 0 order i) = a) && decide ((ix 0 order (i + 1)) = b))) (rd_move rfl) rfl ?_
    refine Wx.cut (X := Unit) 16 [31, 32, 33, 34, 35, 36, 37, 38, 39, 40, 41, 42, 43, 44, 45, 46] (fun _ => [(46, .bool ((decide ((ix 0 order i) = a) && decide ((ix 0 order (i + 1)) = b)) || (decide ((ix 0 order i) = b) && decide ((ix 0 order (i + 1)) = a))))]) (fun _ w' => St w [] w' []) ?_ ?_
    · rcases Bool.eq_false_or_eq_true (decide ((ix 0 order i) = a) && decide ((ix 0 order (i + 1)) = b)) with g_14 | g_14
      · -- True
        have gp_15 := g_14
        try simp only [Bool.and_eq_true, Bool.or_eq_true, Bool.not_eq_true', Bool.and_eq_false_iff, Bool.or_eq_false_iff, Bool.not_eq_false', decide_eq_true_eq, decide_eq_false_iff_not, not_or, Bool.false_eq_true, Bool.true_eq_false, false_or, or_false, not_false_eq_true] at gp_15
        refine Wx.gnoB rfl rfl (congrArg Value.bool g_14) rfl rfl ?_
        refine Wx.gnoB rfl rfl (congrArg Value.bool g_14) rfl rfl ?_
        refine Wx.gnoB rfl rfl (congrArg Value.bool g_14) rfl rfl ?_
        refine Wx.gnoB rfl rfl (congrArg Value.bool g_14) rfl rfl ?_
        refine Wx.gnoB rfl rfl (congrArg Value.bool g_14) rfl rfl ?_
        refine Wx.gnoB rfl rfl (congrArg Value.bool g_14) rfl rfl ?_
        refine Wx.gnoB rfl rfl (congrArg Value.bool g_14) rfl rfl ?_
        refine Wx.gno rfl rfl rfl rfl ?_
        refine Wx.gno rfl rfl rfl rfl ?_
        refine Wx.gno rfl rfl rfl rfl ?_
        refine Wx.gno rfl rfl rfl rfl ?_
        refine Wx.gno rfl rfl rfl rfl ?_
        refine Wx.gno rfl rfl rfl rfl ?_
        refine Wx.gno rfl rfl rfl rfl ?_
        refine Wx.gnoB rfl rfl (congrArg Value.bool g_14) rfl rfl ?_
        refine Wx.rd (v := .bool true) (rd_pickT (congrArg Value.bool g_14) rfl) rfl ?_
        refine Wx.nil ⟨(), hS, ⟨?_, trivial⟩, Out.look rfl Out.refl⟩
        show Value.bool true = Value.bool ((decide ((ix 0 order i) = a) && decide ((ix 0 order (i + 1)) = b)) || (decide ((ix 0 order i) = b) && decide ((ix 0 order (i + 1)) = a)))
        rw [g_14]; rfl
      · -- False
        have gp_16 := g_14
        try simp only [Bool.and_eq_true, Bool.or_eq_true, Bool.not_eq_true', Bool.and_eq_false_iff, Bool.or_eq_false_iff, Bool.not_eq_false', decide_eq_true_eq, decide_eq_false_iff_not, not_or, Bool.false_eq_true, Bool.true_eq_false, false_or, or_false, not_false_eq_true] at gp_16
        refine Wx.gyes rfl rfl (congrArg Value.bool g_14) ?_
        refine Wx.rd (v := ov) (rd_move rfl) rfl ?_
        refine Wx.gyes rfl rfl (congrArg Value.bool g_14) ?_
        refine Wx.rd (v := .int .i64 i) (rd_move rfl) rfl ?_
        refine Wx.gyes rfl rfl (congrArg Value.bool g_14) ?_
        refine Wx.ex (rd_index 0 (hS.arg a_ov) rfl rfl Try.underlying28 Try.sizeOf3 (by first | omega | (simp only [List.length_set, List.length_append, List.length_cons, List.length_nil, List.length_replicate]; omega)) (by first | omega | (simp only [List.length_set, List.length_append, List.length_cons, List.length_nil, List.length_replicate]; omega))) rfl (fun p_17 hp_18 => ?_)
        refine Wx.gyes rfl rfl (congrArg Value.bool g_14) ?_
        refine Wx.rd (v := .int .i64 (ix 0 order i)) (rd_loadI hp_18 rfl Try.isAgg3 Try.sizeOf3) rfl ?_
        have bd_19 := bd_i64 hp_18.inK
        refine Wx.gyes rfl rfl (congrArg Value.bool g_14) ?_
        refine Wx.rd (v := .int .i64 b) (rd_move rfl) rfl ?_
        refine Wx.gyes rfl rfl (congrArg Value.bool g_14) ?_
        refine Wx.rd (v := .bool (decide ((ix 0 order i) = b))) (rd_eql rfl rfl) rfl ?_
        refine Wx.gyes rfl rfl (congrArg Value.bool g_14) ?_
        refine Wx.rd (v := .bool (decide ((ix 0 order i) = b))) (rd_move rfl) rfl ?_
        refine Wx.cut (X := Unit) 8 [38, 39, 40, 41, 42, 43, 44, 45] (fun _ => [(45, .bool (decide ((ix 0 order i) = b) && decide ((ix 0 order (i + 1)) = a)))]) (fun _ w' => St w [] w' []) ?_ ?_
        · rcases Bool.eq_false_or_eq_true (decide ((ix 0 order i) = b)) with g_20 | g_20
          · -- True
            have gp_21 := of_decide_eq_true g_20
            refine Wx.gyes rfl rfl (congrArg Value.bool g_20) ?_
            refine Wx.rd (v := ov) (rd_move rfl) rfl ?_
            refine Wx.gyes rfl rfl (congrArg Value.bool g_20) ?_
            refine Wx.rd (v := .int .i64 i) (rd_move rfl) rfl ?_
            refine Wx.gyes rfl rfl (congrArg Value.bool g_20) ?_
            refine Wx.rd (v := .int .i64 (i + 1)) (rd_add rfl rfl (in_i64 (by omega) (by omega))) rfl ?_
            refine Wx.gyes rfl rfl (congrArg Value.bool g_20) ?_
            refine Wx.ex (rd_index 0 (hS.arg a_ov) rfl rfl Try.underlying28 Try.sizeOf3 (by first | omega | (simp only [List.length_set, List.length_append, List.length_cons, List.length_nil, List.length_replicate]; omega)) (by first | omega | (simp only [List.length_set, List.length_append, List.length_cons, List.length_nil, List.length_replicate]; omega))) rfl (fun p_22 hp_23 => ?_)
            refine Wx.gyes rfl rfl (congrArg Value.bool g_20) ?_
            refine Wx.rd (v := .int .i64 (ix 0 order (i + 1))) (rd_loadI hp_23 rfl Try.isAgg3 Try.sizeOf3) rfl ?_
            have bd_24 := bd_i64 hp_23.inK
            refine Wx.gyes rfl rfl (congrArg Value.bool g_20) ?_
            refine Wx.rd (v := .int .i64 a) (rd_move rfl) rfl ?_
            refine Wx.gyes rfl rfl (congrArg Value.bool g_20) ?_
            refine Wx.rd (v := .bool (decide ((ix 0 order (i + 1)) = a))) (rd_eql rfl rfl) rfl ?_
            refine Wx.gyes rfl rfl (congrArg Value.bool g_14) ?_
            refine Wx.rd (v := .bool (decide ((ix 0 order (i + 1)) = a))) (rd_pickT (congrArg Value.bool g_20) rfl) rfl ?_
            refine Wx.nil ⟨(), hS, ⟨?_, trivial⟩, Out.look rfl Out.refl⟩
            show Value.bool (decide ((ix 0 order (i + 1)) = a)) = Value.bool (decide ((ix 0 order i) = b) && decide ((ix 0 order (i + 1)) = a))
            rw [g_20]; rfl
          · -- False
            have gp_25 := of_decide_eq_false g_20
            refine Wx.gnoB rfl rfl (congrArg Value.bool g_20) rfl rfl ?_
            refine Wx.gnoB rfl rfl (congrArg Value.bool g_20) rfl rfl ?_
            refine Wx.gnoB rfl rfl (congrArg Value.bool g_20) rfl rfl ?_
            refine Wx.gnoB rfl rfl (congrArg Value.bool g_20) rfl rfl ?_
            refine Wx.gnoB rfl rfl (congrArg Value.bool g_20) rfl rfl ?_
            refine Wx.gnoB rfl rfl (congrArg Value.bool g_20) rfl rfl ?_
            refine Wx.gnoB rfl rfl (congrArg Value.bool g_20) rfl rfl ?_
            refine Wx.gyes rfl rfl (congrArg Value.bool g_14) ?_
            refine Wx.rd (v := .bool false) (rd_pickF (congrArg Value.bool g_20) rfl) rfl ?_
            refine Wx.nil ⟨(), hS, ⟨?_, trivial⟩, Out.look rfl Out.refl⟩
            show Value.bool false = Value.bool (decide ((ix 0 order i) = b) && decide ((ix 0 order (i + 1)) = a))
            rw [g_20]; rfl
        rintro ⟨⟩ u_27 w_26 hS
        refine Wx.rd (v := .bool (decide ((ix 0 order i) = b) && decide ((ix 0 order (i + 1)) = a))) (rd_pickF (congrArg Value.bool g_14) rfl) rfl ?_
        refine Wx.nil ⟨(), hS, ⟨?_, trivial⟩, Out.look rfl (Out.hav rfl (Out.look rfl Out.refl))⟩
        show Value.bool (decide ((ix 0 order i) = b) && decide ((ix 0 order (i + 1)) = a)) = Value.bool ((decide ((ix 0 order i) = a) && decide ((ix 0 order (i + 1)) = b)) || (decide ((ix 0 order i) = b) && decide ((ix 0 order (i + 1)) = a)))
        rw [g_14]; rfl
    rintro ⟨⟩ u_29 w_28 hS
    refine Wx.nil ?_
    refine W.cond rfl (fun c1 => ?_) (fun c1 => ?_)
    · -- yes
      try simp only [Bool.and_eq_true, Bool.or_eq_true, Bool.not_eq_true', Bool.and_eq_false_iff, Bool.or_eq_false_iff, Bool.not_eq_false', decide_eq_true_eq, decide_eq_false_iff_not, not_or, Bool.false_eq_true, Bool.true_eq_false, false_or, or_false, not_false_eq_true] at c1
      refine W.seq ?_
      refine W.reg ?_
      refine Wx.rd (v := .bool true) (rd_assign rfl) rfl ?_
      refine Wx.nil ?_
      have e0_0 : (nextL a b order) = true := by rw [← h2, drop_ix (d := 0) h0 (by omega), drop_ix (d := 0) (n := i + 1) (by omega) c0, nextL, show ((decide (ix 0 order i = a) && decide (ix 0 order (i + 1) = b)) || (decide (ix 0 order i = b) && decide (ix 0 order (i + 1) = a))) = true by simp only [Bool.or_eq_true, Bool.and_eq_true, decide_eq_true_eq]; exact c1]; rfl
      exact W.ret ⟨.bool true, ResIs.one, hS.bel, (by rw [e0_0])⟩
    · -- no
      try simp only [Bool.and_eq_true, Bool.or_eq_true, Bool.not_eq_true', Bool.and_eq_false_iff, Bool.or_eq_false_iff, Bool.not_eq_false', decide_eq_true_eq, decide_eq_false_iff_not, not_or, Bool.false_eq_true, Bool.true_eq_false, false_or, or_false, not_false_eq_true] at c1
      refine W.skip ?_
      refine W.reg ?_
      refine Wx.rd (v := .int .i64 i) (rd_move rfl) rfl ?_
      refine Wx.rd (v := .int .i64 (i + 1)) (rd_add rfl rfl (in_i64 (by omega) (by omega))) rfl ?_
      refine Wx.rd (v := .int .i64 (i + 1)) (rd_assign rfl) rfl ?_
      refine Wx.nil ?_
      have hf : ((decide (ix 0 order i = a) && decide (ix 0 order (i + 1) = b)) || (decide (ix 0 order i = b) && decide (ix 0 order (i + 1) = a))) = false := by simp only [Bool.or_eq_false_iff, Bool.and_eq_false_iff, decide_eq_false_iff_not]; exact c1
      refine ⟨i + 1, (by show (order.length - (i + 1)).toNat < (order.length - i).toNat; omega), ?_, ?_, Out.look rfl (Out.hav rfl (Out.look rfl (Out.hav rfl (Out.look rfl Out.self))))⟩
      · exact ⟨hS, (by first | omega | assumption), (by first | omega | assumption), (by rw [← h2, drop_ix (d := 0) h0 (by omega), drop_ix (d := 0) (n := i + 1) (by omega) c0, nextL, hf, Bool.false_or])⟩
      · exact ⟨rfl, trivial⟩
  · -- no
    refine W.exit rfl ?_
    refine W.seq ?_
    refine W.reg ?_
    refine Wx.rd (v := .bool false) (rd_assign rfl) rfl ?_
    refine Wx.nil ?_
    have e1_0 : (nextL a b order) = false := by rw [← h2]; by_cases hl : i < order.length; rw [drop_ix (d := 0) h0 hl, drop_end (n := i + 1) (by omega)]; rfl; rw [drop_end (by omega)]; rfl
    exact W.ret ⟨.bool false, ResIs.one, hS.bel, (by rw [e1_0])⟩

theorem F21 {L : Int} {fv : Value} {fs : List (List Int)} {Fr_fv : List (Option Nat)} {w : World} (i_L : InK .i64 L) (h_fv : V (tSl (tSl (tI .i64))) fs fv Fr_fv w) : Calls Try.prog 21 #[.agg #[.int .i64 L, fv]] w (Ret w (fun r w' => ∃ rv, r = .tuple #[rv, .int .i64 ((refFirst L fs).2)] ∧ Fresh (tP (tI .i64) (tI .i64)) 61 (refBeside L fs) rv w.heap.size w')) := by
  have b_L := bd_i64 i_L
  have a_fv := h_fv.any
  have l_fv := h_fv.len63
  have hS := St.start0 w
  refine enterR Try.func21 rfl Try.ntmps21 Try.results21 rfl ?_
  refine W.seq ?_
  refine W.reg ?_
  refine Wx.box (cs := [.int .i64 L, fv]) hS rfl rfl rfl (fun g_1 w_2 hx_4 hb_3 hS => ?_)
  refine Wx.rd (v := (.slice none 0 0)) (rd_assign rfl) rfl ?_
  refine Wx.rd (v := .int .i64 0) (rd_assign rfl) rfl ?_
  refine Wx.nil ?_
  refine W.seq ?_
  refine W.reg ?_
  refine Wx.rd (v := .agg #[.int .i64 L, fv]) (rd_loadXs (ds := [.int .i64 L, fv]) hS 0 rfl rfl rfl rfl Try.isAgg27 Try.sizeOf27) rfl ?_
  refine Wx.callF (run_callF Try.call37 rfl) (F37 (in_i64 (by omega) (by omega)) (hS.arg a_fv)) rfl ?_
  rintro r_5 w_6 hx_7 rfl
  have hS := hS.ext hx_7
  refine Wx.rd (v := .int .i64 (checkE L fs)) (rd_assign rfl) rfl ?_
  refine Wx.nil ?_
  refine W.seq ?_
  refine W.seq ?_
  refine W.reg ?_
  refine Wx.rd (v := .int .i64 (checkE L fs)) (rd_move rfl) rfl ?_
  refine Wx.rd (v := .bool (decide ((checkE L fs) ≠ 0))) (rd_neq rfl rfl) rfl ?_
  refine Wx.nil ?_
  refine W.condD rfl (fun c0 => ?_) (fun c0 => ?_)
  · -- yes
    refine W.seq ?_
    refine W.reg ?_
    refine Wx.rd (v := .int .i64 (checkE L fs)) (rd_move rfl) rfl ?_
    refine Wx.rd (v := (.slice none 0 0)) (rd_assign rfl) rfl ?_
    refine Wx.rd (v := .int .i64 (checkE L fs)) (rd_assign rfl) rfl ?_
    refine Wx.nil ?_
    have hE : (refFirst L fs).2 = checkE L fs := by rw [refFirst, if_pos (by omega)]
    have hl : refBeside L fs = [] := by rw [refBeside, if_neg (by omega)]
    have e0_0 : refBeside L fs = [] := by exact hl
    have e0_1 : ((refFirst L fs).2) = (checkE L fs : Int) := by exact hE
    exact W.ret ⟨.tuple #[(.slice none 0 0), .int .i64 (checkE L fs)], ResIs.two, hS.bel, ⟨(.slice none 0 0), (by rw [e0_1]), (by rw [e0_0]; exact ((hS.addNil (tP (tI .i64) (tI .i64)) 61).fr 0 rfl flat_i2))⟩⟩
  · -- no
    have hk := check_ok (L := L) (fs := fs) (by omega)
    have hfl := fitL_len L fs hk.2.1
    refine W.skip ?_
    refine W.seq ?_
    refine W.reg ?_
    refine Wx.rd (v := .pointer (some ⟨g_1, 0, none⟩)) (rd_fieldAddr rfl foRb_27_0) rfl ?_
    refine Wx.rd (v := .int .i64 L) (rd_loadX hS 0 rfl rfl rfl Try.isAgg3) rfl ?_
    refine Wx.rd (v := .pointer (some ⟨g_1, 1, none⟩)) (rd_fieldAddr rfl foRb_27_1) rfl ?_
    refine Wx.rd (v := fv) (rd_loadX hS 0 rfl rfl rfl Try.isAgg22) rfl ?_
    refine Wx.callF (run_callF Try.call64 rfl) (F64 (in_i64 (by omega) (by omega)) (hS.arg a_fv) (by omega) (by omega) hS.fb_lt) rfl ?_
    rintro r_8 w_9 hx_10 ⟨_, rfl, hv_11⟩
    have ln_13 := hv_11.len63
    have hS := hS.ext hx_10
    have hS := hS.add hv_11
    refine Wx.rd (v := r_8) (rd_assign rfl) rfl ?_
    refine Wx.nil ?_
    refine W.seq ?_
    refine W.seq ?_
    refine W.reg ?_
    refine Wx.rd (v := r_8) (rd_move rfl) rfl ?_
    refine Wx.rd (v := .int .i64 ((fitL L fs).length : Int)) (rd_lenV rfl (hS.v 0 rfl) Try.underlying22) rfl ?_
    refine Wx.rd (v := .bool (decide (((fitL L fs).length : Int) = 0))) (rd_eql rfl rfl) rfl ?_
    refine Wx.nil ?_
    refine W.condD rfl (fun c1 => ?_) (fun c1 => ?_)
    · -- yes
      refine W.seq ?_
      refine W.reg ?_
      refine Wx.rd (v := (.slice none 0 0)) (rd_assign rfl) rfl ?_
      refine Wx.rd (v := .int .i64 12) (rd_assign rfl) rfl ?_
      refine Wx.nil ?_
      have hE : (refFirst L fs).2 = 12 := by rw [refFirst, if_neg (by omega), if_pos (by omega)]
      have hl : refBeside L fs = [] := by rw [refBeside, if_neg (by omega)]
      have e1_0 : refBeside L fs = [] := by exact hl
      have e1_1 : ((refFirst L fs).2) = (12 : Int) := by exact hE
      exact W.ret ⟨.tuple #[(.slice none 0 0), .int .i64 12], ResIs.two, hS.bel, ⟨(.slice none 0 0), (by rw [e1_1]), (by rw [e1_0]; exact ((hS.addNil (tP (tI .i64) (tI .i64)) 61).fr 0 rfl flat_i2))⟩⟩
    · -- no
      refine W.skip ?_
      refine W.seq ?_
      refine W.reg ?_
      refine Wx.rd (v := (.slice none 0 0)) (rd_assign rfl) rfl ?_
      refine Wx.nil ?_
      refine W.seq ?_
      refine W.seq ?_
      refine W.reg ?_
      refine Wx.rd (v := .int .i64 0) (rd_assign rfl) rfl ?_
      refine Wx.nil ?_
      refine W.block ?_
      have hS := hS.addNil (tP (tI .i64) (tI .i64)) 61
      refine W.loop [6, 7, 8, 9, 10, 24, 25, 26, 27, 28, 29, 30, 31, 32, 33, 34, 35, 36, 37, 38, 39, 40, 41, 42, 43, 44, 45, 46, 47, 48, 49, 50, 51, 52, 53, 54, 55, 56, 57, 58, 59, 60] (fun x : Int × Value × (List (Int × Int)) => match x with | (a, xv, out) => [(7, .int .i64 a), (6, xv)]) (fun (x : Int × Value × (List (Int × Int))) w' => match x with | (a, xv, out) => St w [] w' [.row (tP (tI .i64) (tI .i64)) 61 xv out, Ob.v (tSl (tSl (tI .i64))) (fitL L fs) r_8, .box g_1 27 [.int .i64 L, fv]] ∧ 0 ≤ a ∧ a ≤ L ∧ out ++ pairA L (fun a b => (fitL L fs).all (nextL a b)) (L - a).toNat = pairA L (fun a b => (fitL L fs).all (nextL a b)) L.toNat ∧ (out.length : Int) ≤ 10 * a) (fun x : Int × Value × (List (Int × Int)) => match x with | (a, xv, out) => (L - a).toNat) (0, (.slice none 0 0), []) ⟨rfl, rfl, trivial⟩ ⟨hS, (by first | omega | simp), (by first | omega | simp), (by simp), (by simp)⟩ ?_
      rintro ⟨a, xv, out⟩ u_15 w_14 ⟨hS, h0, h1, h2, h3⟩
      refine W.seq ?_
      refine W.seq ?_
      refine W.reg ?_
      refine Wx.rd (v := .int .i64 a) (rd_move rfl) rfl ?_
      refine Wx.rd (v := .pointer (some ⟨g_1, 0, none⟩)) (rd_fieldAddr rfl foRb_27_0) rfl ?_
      refine Wx.rd (v := .int .i64 L) (rd_loadX hS 2 rfl rfl rfl Try.isAgg3) rfl ?_
      refine Wx.rd (v := .bool (decide (a < L))) (rd_lss rfl rfl) rfl ?_
      refine Wx.nil ?_
      refine W.condD rfl (fun c2 => ?_) (fun c2 => ?_)
      · -- yes
        refine W.skip ?_
        refine W.seq ?_
        refine W.block ?_
        refine W.seq ?_
        refine W.reg ?_
        refine Wx.rd (v := .int .i64 a) (rd_move rfl) rfl ?_
        refine Wx.rd (v := .int .i64 (a + 1)) (rd_add rfl rfl (in_i64 (by omega) (by omega))) rfl ?_
        refine Wx.rd (v := .int .i64 (a + 1)) (rd_assign rfl) rfl ?_
        refine Wx.nil ?_
        refine W.block ?_
        refine W.loop [6, 8, 9, 10, 32, 33, 34, 35, 36, 37, 38, 39, 40, 41, 42, 43, 44, 45, 46, 47, 48, 49, 50, 51, 52, 53, 54, 55, 56, 57, 58, 59, 60] (fun x : Int × Value × (List (Int × Int)) => match x with | (b, xv, out) => [(8, .int .i64 b), (6, xv)]) (fun (x : Int × Value × (List (Int × Int))) w' => match x with | (b, xv, out) => St w [] w' [.row (tP (tI .i64) (tI .i64)) 61 xv out, Ob.v (tSl (tSl (tI .i64))) (fitL L fs) r_8, .box g_1 27 [.int .i64 L, fv]] ∧ a + 1 ≤ b ∧ b ≤ L ∧ out ++ pairB L a (fun a b => (fitL L fs).all (nextL a b)) (L - b).toNat ++ pairA L (fun a b => (fitL L fs).all (nextL a b)) (L - (a + 1)).toNat = pairA L (fun a b => (fitL L fs).all (nextL a b)) L.toNat ∧ (out.length : Int) ≤ 10 * a + (b - a)) (fun x : Int × Value × (List (Int × Int)) => match x with | (b, xv, out) => (L - b).toNat) (a + 1, xv, out) ⟨rfl, rfl, trivial⟩ ⟨hS, (by first | omega | simp), (by first | omega | simp), (by rw [← h2, show (L - a).toNat = (L - (a + 1)).toNat + 1 by omega, pairA, show L - (((L - (a + 1)).toNat : Nat) + 1 : Int) = a by omega, List.append_assoc]), (by omega)⟩ ?_
        rintro ⟨b, xv, out⟩ u_17 w_16 ⟨hS, g0, g1, g2, g3⟩
        refine W.seq ?_
        refine W.seq ?_
        refine W.reg ?_
        refine Wx.rd (v := .int .i64 b) (rd_move rfl) rfl ?_
        refine Wx.rd (v := .pointer (some ⟨g_1, 0, none⟩)) (rd_fieldAddr rfl foRb_27_0) rfl ?_
        refine Wx.rd (v := .int .i64 L) (rd_loadX hS 2 rfl rfl rfl Try.isAgg3) rfl ?_
        refine Wx.rd (v := .bool (decide (b < L))) (rd_lss rfl rfl) rfl ?_
        refine Wx.nil ?_
        refine W.condD rfl (fun c3 => ?_) (fun c3 => ?_)
        · -- yes
          refine W.skip ?_
          refine W.seq ?_
          refine W.block ?_
          refine W.seq ?_
          refine W.reg ?_
          refine Wx.rd (v := .bool true) (rd_assign rfl) rfl ?_
          refine Wx.nil ?_
          refine W.seq ?_
          refine W.seq ?_
          refine W.reg ?_
          refine Wx.rd (v := .int .i64 0) (rd_assign rfl) rfl ?_
          refine Wx.nil ?_
          refine W.block ?_
          refine W.loop [9, 10, 38, 39, 40, 41, 42, 43, 44, 45, 46, 47, 48, 49, 50, 51, 52, 53] (fun x : Bool × Int => match x with | (g, k) => [(9, .bool g), (10, .int .i64 k)]) (fun (x : Bool × Int) w' => match x with | (g, k) => St w [] w' [.row (tP (tI .i64) (tI .i64)) 61 xv out, Ob.v (tSl (tSl (tI .i64))) (fitL L fs) r_8, .box g_1 27 [.int .i64 L, fv]] ∧ 0 ≤ k ∧ k ≤ (fitL L fs).length ∧ g = ((fitL L fs).take k.toNat).all (nextL a b)) (fun x : Bool × Int => match x with | (g, k) => ((fitL L fs).length - k).toNat) (true, 0) ⟨rfl, rfl, trivial⟩ ⟨hS, (by first | omega | simp), (by first | omega | simp), (by simp)⟩ ?_
          rintro ⟨g, k⟩ u_19 w_18 ⟨hS, k0, k1, k2⟩
          refine W.seq ?_
          refine W.seq ?_
          refine W.reg ?_
          refine Wx.rd (v := .int .i64 k) (rd_move rfl) rfl ?_
          refine Wx.rd (v := r_8) (rd_move rfl) rfl ?_
          refine Wx.rd (v := .int .i64 ((fitL L fs).length : Int)) (rd_lenV rfl (hS.v 1 rfl) Try.underlying22) rfl ?_
          refine Wx.rd (v := .bool (decide (k < ((fitL L fs).length : Int)))) (rd_lss rfl rfl) rfl ?_
          refine Wx.nil ?_
          refine W.condD rfl (fun c4 => ?_) (fun c4 => ?_)
          · -- yes
            refine W.skip ?_
            refine W.seq ?_
            refine W.block ?_
            refine W.reg ?_
            refine Wx.rd (v := .bool g) (rd_move rfl) rfl ?_
            refine Wx.rd (v := .bool g) (rd_move rfl) rfl ?_
            refine Wx.cut (X := Unit) 8 [46, 47, 48, 49, 50, 51, 52, 53] (fun _ => [(53, .bool (g && nextL a b (ix [] (fitL L fs) k)))]) (fun _ w' => St w [] w' [.row (tP (tI .i64) (tI .i64)) 61 xv out, Ob.v (tSl (tSl (tI .i64))) (fitL L fs) r_8, .box g_1 27 [.int .i64 L, fv]]) ?_ ?_
            · rcases Bool.eq_false_or_eq_true g with g_20 | g_20
              · -- True
                have gp_21 := g_20
                try simp only [Bool.and_eq_true, Bool.or_eq_true, Bool.not_eq_true', Bool.and_eq_false_iff, Bool.or_eq_false_iff, Bool.not_eq_false', decide_eq_true_eq, decide_eq_false_iff_not, not_or, Bool.false_eq_true, Bool.true_eq_false, false_or, or_false, not_false_eq_true] at gp_21
                refine Wx.gyes rfl rfl (congrArg Value.bool g_20) ?_
                refine Wx.rd (v := r_8) (rd_move rfl) rfl ?_
                refine Wx.gyes rfl rfl (congrArg Value.bool g_20) ?_
                refine Wx.rd (v := .int .i64 k) (rd_move rfl) rfl ?_
                refine Wx.gyes rfl rfl (congrArg Value.bool g_20) ?_
                refine Wx.ex (rd_index [] (hS.v 1 rfl) rfl rfl Try.underlying22 Try.sizeOf28 (by first | omega | (simp only [List.length_set, List.length_append, List.length_cons, List.length_nil, List.length_replicate]; omega)) (by first | omega | (simp only [List.length_set, List.length_append, List.length_cons, List.length_nil, List.length_replicate]; omega))) rfl (fun p_22 hp_23 => ?_)
                refine Wx.gyes rfl rfl (congrArg Value.bool g_20) ?_
                refine Wx.ex (rd_load hp_23 rfl Try.isAgg28 Try.sizeOf28) rfl (fun v_24 hv_25 => ?_)
                have ln_26 := hv_25.len63
                have hS := hS.add hv_25
                refine Wx.gyes rfl rfl (congrArg Value.bool g_20) ?_
                refine Wx.rd (v := .int .i64 a) (rd_move rfl) rfl ?_
                refine Wx.gyes rfl rfl (congrArg Value.bool g_20) ?_
                refine Wx.rd (v := .int .i64 b) (rd_move rfl) rfl ?_
                refine Wx.gyes rfl rfl (congrArg Value.bool g_20) ?_
                refine Wx.callF (run_callF Try.call68 rfl) (F68 (hS.v 0 rfl) (in_i64 (by omega) (by omega)) (in_i64 (by omega) (by omega))) rfl ?_
                rintro r_28 w_29 hx_30 rfl
                have hS := hS.ext hx_30
                refine Wx.rd (v := .bool (nextL a b (ix [] (fitL L fs) k))) (rd_pickT (congrArg Value.bool g_20) rfl) rfl ?_
                refine Wx.nil ⟨(), hS.tl, ⟨?_, trivial⟩, Out.look rfl Out.refl⟩
                show Value.bool (nextL a b (ix [] (fitL L fs) k)) = Value.bool (g && nextL a b (ix [] (fitL L fs) k))
                rw [g_20]; rfl
              · -- False
                have gp_31 := g_20
                try simp only [Bool.and_eq_true, Bool.or_eq_true, Bool.not_eq_true', Bool.and_eq_false_iff, Bool.or_eq_false_iff, Bool.not_eq_false', decide_eq_true_eq, decide_eq_false_iff_not, not_or, Bool.false_eq_true, Bool.true_eq_false, false_or, or_false, not_false_eq_true] at gp_31
                refine Wx.gnoB rfl rfl (congrArg Value.bool g_20) rfl rfl ?_
                refine Wx.gnoB rfl rfl (congrArg Value.bool g_20) rfl rfl ?_
                refine Wx.gnoB rfl rfl (congrArg Value.bool g_20) rfl rfl ?_
                refine Wx.gnoB rfl rfl (congrArg Value.bool g_20) rfl rfl ?_
                refine Wx.gnoB rfl rfl (congrArg Value.bool g_20) rfl rfl ?_
                refine Wx.gnoB rfl rfl (congrArg Value.bool g_20) rfl rfl ?_
                refine Wx.gnoB rfl rfl (congrArg Value.bool g_20) rfl rfl ?_
                refine Wx.rd (v := .bool false) (rd_pickF (congrArg Value.bool g_20) rfl) rfl ?_
                refine Wx.nil ⟨(), hS, ⟨?_, trivial⟩, Out.look rfl Out.refl⟩
                show Value.bool false = Value.bool (g && nextL a b (ix [] (fitL L fs) k))
                rw [g_20]; rfl
            rintro ⟨⟩ u_33 w_32 hS
            refine Wx.rd (v := .bool (g && nextL a b (ix [] (fitL L fs) k))) (rd_assign rfl) rfl ?_
            refine Wx.nil ?_
            refine W.reg ?_
            refine Wx.rd (v := .int .i64 k) (rd_move rfl) rfl ?_
            refine Wx.rd (v := .int .i64 (k + 1)) (rd_add rfl rfl (in_i64 (by omega) (by omega))) rfl ?_
            refine Wx.rd (v := .int .i64 (k + 1)) (rd_assign rfl) rfl ?_
            refine Wx.nil ?_
            refine ⟨((g && nextL a b (ix [] (fitL L fs) k)), k + 1), (by show ((fitL L fs).length - (k + 1)).toNat < ((fitL L fs).length - k).toNat; omega), ?_, ?_, Out.look rfl (Out.hav rfl (Out.look rfl Out.self))⟩
            · exact ⟨hS, (by first | omega | assumption), (by first | omega | assumption), (by rw [take_ix (d := []) k0 c4, List.all_append, ← k2]; simp)⟩
            · exact ⟨rfl, rfl, trivial⟩
          · -- no
            refine W.exit rfl ?_
            refine W.seq ?_
            refine W.reg ?_
            refine Wx.rd (v := .bool g) (rd_move rfl) rfl ?_
            refine Wx.nil ?_
            refine W.cond rfl (fun c5 => ?_) (fun c5 => ?_)
            · -- yes
              try simp only [Bool.and_eq_true, Bool.or_eq_true, Bool.not_eq_true', Bool.and_eq_false_iff, Bool.or_eq_false_iff, Bool.not_eq_false', decide_eq_true_eq, decide_eq_false_iff_not, not_or, Bool.false_eq_true, Bool.true_eq_false, false_or, or_false, not_false_eq_true] at c5
              refine W.reg ?_
              refine Wx.rd (v := xv) (rd_move rfl) rfl ?_
              refine Wx.rd (v := .int .i64 a) (rd_move rfl) rfl ?_
              refine Wx.rd (v := .int .i64 b) (rd_move rfl) rfl ?_
              refine Wx.rd (v := .agg #[.int .i64 a, .int .i64 b]) (rd_build (vs := [(0, .int .i64 a), (1, .int .i64 b)]) rfl (by kernel_rfl)) rfl ?_
              refine Wx.lit (t := (tP (tI .i64) (tI .i64))) (ys := [(a, b)]) (vs := [.agg #[.int .i64 a, .int .i64 b]]) elRb_36 hS rfl rfl ⟨(V.mk2 (in_i64 (by omega) (by omega)) (in_i64 (by omega) (by omega))), trivial⟩ (by decide) rfl (fun v_34 w_35 hx_36 hS => ?_)
              refine Wx.append elRb_36 hS 1 rfl rfl rfl (Src.ofR hS 0 rfl) (by simp only [maxLen]; simp; omega) (by simp; omega) rfl (fun v_37 w_38 hz_39 hS => ?_)
              refine Wx.rd (v := v_37) (rd_assign rfl) rfl ?_
              refine Wx.nil ?_
              refine W.reg ?_
              refine Wx.rd (v := .int .i64 b) (rd_move rfl) rfl ?_
              refine Wx.rd (v := .int .i64 (b + 1)) (rd_add rfl rfl (in_i64 (by omega) (by omega))) rfl ?_
              refine Wx.rd (v := .int .i64 (b + 1)) (rd_assign rfl) rfl ?_
              refine Wx.nil ?_
              refine ⟨(b + 1, v_37, out ++ [(a, b)]), (by show (L - (b + 1)).toNat < (L - b).toNat; omega), ?_, ?_, Out.look rfl (Out.hav rfl (Out.look rfl Out.self))⟩
              · exact ⟨hS.tl, (by first | omega | assumption), (by first | omega | assumption), (by rw [← g2, show (L - b).toNat = (L - (b + 1)).toNat + 1 by omega, pairB, show L - (((L - (b + 1)).toNat : Nat) + 1 : Int) = b by omega, if_pos (by show (fitL L fs).all (nextL a b) = true; rw [← c5, k2, take_end (by omega)])]; simp), (by simp; omega)⟩
              · exact ⟨rfl, rfl, trivial⟩
            · -- no
              try simp only [Bool.and_eq_true, Bool.or_eq_true, Bool.not_eq_true', Bool.and_eq_false_iff, Bool.or_eq_false_iff, Bool.not_eq_false', decide_eq_true_eq, decide_eq_false_iff_not, not_or, Bool.false_eq_true, Bool.true_eq_false, false_or, or_false, not_false_eq_true] at c5
              refine W.skip ?_
              refine W.reg ?_
              refine Wx.rd (v := .int .i64 b) (rd_move rfl) rfl ?_
              refine Wx.rd (v := .int .i64 (b + 1)) (rd_add rfl rfl (in_i64 (by omega) (by omega))) rfl ?_
              refine Wx.rd (v := .int .i64 (b + 1)) (rd_assign rfl) rfl ?_
              refine Wx.nil ?_
              refine ⟨(b + 1, xv, out), (by show (L - (b + 1)).toNat < (L - b).toNat; omega), ?_, ?_, Out.look rfl (Out.hav rfl (Out.look rfl Out.self))⟩
              · exact ⟨hS, (by first | omega | assumption), (by first | omega | assumption), (by rw [← g2, show (L - b).toNat = (L - (b + 1)).toNat + 1 by omega, pairB, show L - (((L - (b + 1)).toNat : Nat) + 1 : Int) = b by omega, if_neg (by show ¬ (fitL L fs).all (nextL a b) = true; rw [← take_end (xs := fitL L fs) (n := k) (by omega), ← k2, c5]; decide)]), (by omega)⟩
              · exact ⟨rfl, rfl, trivial⟩
        · -- no
          refine W.exit rfl ?_
          refine W.reg ?_
          refine Wx.rd (v := .int .i64 a) (rd_move rfl) rfl ?_
          refine Wx.rd (v := .int .i64 (a + 1)) (rd_add rfl rfl (in_i64 (by omega) (by omega))) rfl ?_
          refine Wx.rd (v := .int .i64 (a + 1)) (rd_assign rfl) rfl ?_
          refine Wx.nil ?_
          refine ⟨(a + 1, xv, out), (by show (L - (a + 1)).toNat < (L - a).toNat; omega), ?_, ?_, Out.look rfl (Out.hav rfl (Out.look rfl Out.self))⟩
          · exact ⟨hS, (by first | omega | assumption), (by first | omega | assumption), (by rw [← g2, show (L - b).toNat = 0 by omega, pairB, List.append_nil]), (by omega)⟩
          · exact ⟨rfl, rfl, trivial⟩
      · -- no
        refine W.exit rfl ?_
        refine W.seq ?_
        refine W.reg ?_
        refine Wx.rd (v := xv) (rd_move rfl) rfl ?_
        refine Wx.rd (v := xv) (rd_assign rfl) rfl ?_
        refine Wx.rd (v := .int .i64 0) (rd_assign rfl) rfl ?_
        refine Wx.nil ?_
        have hE : (refFirst L fs).2 = 0 := by rw [refFirst, if_neg (by omega), if_neg (by omega)]
        have hl : refBeside L fs = out := by rw [refBeside, if_pos hE, ← h2, show (L - a).toNat = 0 by omega, pairA, List.append_nil]
        have e2_0 : refBeside L fs = out := by exact hl
        have e2_1 : ((refFirst L fs).2) = (0 : Int) := by exact hE
        exact W.ret ⟨.tuple #[xv, .int .i64 0], ResIs.two, hS.bel, ⟨xv, (by rw [e2_1]), (by rw [e2_0]; exact (hS.fr 0 rfl flat_i2))⟩⟩
end Go.Proofs.Ytjmpojoimcljoaa
