/-
  WHAT IS PROVED HERE: what functions of layer 3 hand back, each out of its own code; the conditions stand in each statement.
-/
import Derived.Test.YtjmpojoimcljoaaProg
import Derived.Test.YtjmpojoimcljoaaWk5
import Derived.Test.YtjmpojoimcljoaaSpec3
import Derived.Test.YtjmpojoimcljoaaFa
import Derived.Test.YtjmpojoimcljoaaRa
import Derived.Test.YtjmpojoimcljoaaRc
namespace Go.Proofs.Ytjmpojoimcljoaa
open Go.Wk Go.RowKit
set_option linter.unusedVariables false
set_option linter.unusedSimpArgs false
theorem foRd_27_0 : fldOff Try.prog 27 0 = some 0 := by kernel_rfl
theorem mixedRd_ : Try.prog.follows .mixedOrders = true := by kernel_rfl
theorem foRd_27_1 : fldOff Try.prog 27 1 = some 1 := by kernel_rfl
theorem elRd_36 : ElemI Try.prog 36 61 (.agg #[.int .i64 0, .int .i64 0]) 2 16 := ElemI.of Try.underlying36 (by kernel_rfl) (by first | rfl | kernel_rfl) (by decide)

theorem F27 {L : Int} {fv : Value} {fs : List (List Int)} {Fr_fv : List (Option Nat)} {a : Int} {b : Int} {c : Int} {w : World} (i_L : InK .i64 L) (h_fv : V (tSl (tSl (tI .i64))) fs fv Fr_fv w) (i_a : InK .i64 a) (i_b : InK .i64 b) (i_c : InK .i64 c) : Calls Try.prog 27 #[.agg #[.int .i64 L, fv], .int .i64 a, .int .i64 b, .int .i64 c] w (Ret w (fun r _ => r = .int .i64 (refProves L fs a b c))) := by
  have b_c := bd_i64 i_c
  have b_b := bd_i64 i_b
  have b_a := bd_i64 i_a
  have b_L := bd_i64 i_L
  have a_fv := h_fv.any
  have l_fv := h_fv.len63
  have hS := St.start0 w
  refine enterR Try.func27 rfl Try.ntmps27 Try.results27 rfl ?_
  refine W.seq ?_
  refine W.reg ?_
  refine Wx.box (cs := [.int .i64 L, fv]) hS rfl rfl rfl (fun g_1 w_2 hx_4 hb_3 hS => ?_)
  refine Wx.rd (v := .int .i64 0) (rd_assign rfl) rfl ?_
  refine Wx.nil ?_
  refine W.seq ?_
  refine W.reg ?_
  refine Wx.rd (v := .agg #[.int .i64 L, fv]) (rd_loadXs (ds := [.int .i64 L, fv]) hS 0 rfl rfl rfl rfl Try.isAgg27 Try.sizeOf27) rfl ?_
  refine Wx.callF (run_callF Try.call37 rfl) (F37 (in_i64 (by omega) (by omega)) (hS.arg a_fv)) rfl ?_
  rintro r_5 w_6 hx_7 rfl
  have hS := hS.ext hx_7
  refine Wx.rd (v := .int .i64 (checkE L fs)) (rd_assign rfl) rfl ?_
  refine Wx.nil ?_
  refine W.seq ?_
  refine W.seq ?_
  refine W.reg ?_
  refine Wx.rd (v := .int .i64 (checkE L fs)) (rd_move rfl) rfl ?_
  refine Wx.rd (v := .bool (decide ((checkE L fs) = 0))) (rd_eql rfl rfl) rfl ?_
  refine Wx.rd (v := .bool (decide ((checkE L fs) = 0))) (rd_move rfl) rfl ?_
  refine Wx.cut (X := Unit) 23 [15, 16, 17, 18, 19, 20, 21, 22, 23, 24, 25, 26, 27, 28, 29, 30, 31, 32, 33, 34, 35, 36, 37] (fun _ => [(37, .bool (decide ((checkE L fs) = 0) && ((!(decide (0 ≤ a) && decide (a ≤ (L - 1))) || !(decide (0 ≤ b) && decide (b ≤ (L - 1)))) || !(decide (0 ≤ c) && decide (c ≤ (L - 1))))))]) (fun _ w' => St w [] w' [.box g_1 27 [.int .i64 L, fv]]) ?_ ?_
  · rcases Bool.eq_false_or_eq_true (decide ((checkE L fs) = 0)) with g_8 | g_8
    · -- True
      have gp_9 := of_decide_eq_true g_8
      have hk := check_ok (L := L) (fs := fs) (by omega)
      refine Wx.gyes rfl rfl (congrArg Value.bool g_8) ?_
      refine Wx.rd (v := .int .i64 a) (rd_move rfl) rfl ?_
      refine Wx.gyes rfl rfl (congrArg Value.bool g_8) ?_
      refine Wx.rd (v := .pointer (some ⟨g_1, 0, none⟩)) (rd_fieldAddr rfl foRd_27_0) rfl ?_
      refine Wx.gyes rfl rfl (congrArg Value.bool g_8) ?_
      refine Wx.rd (v := .int .i64 L) (rd_loadX hS 0 rfl rfl rfl Try.isAgg3) rfl ?_
      refine Wx.gyes rfl rfl (congrArg Value.bool g_8) ?_
      refine Wx.rd (v := .int .i64 (L - 1)) (rd_sub rfl rfl (in_i64 (by omega) (by omega))) rfl ?_
      refine Wx.gyes rfl rfl (congrArg Value.bool g_8) ?_
      refine Wx.callF (run_callF Try.call71 rfl) (F71 (in_i64 (by omega) (by omega)) (in_i64 (by omega) (by omega)) (in_i64 (by omega) (by omega))) rfl ?_
      rintro r_10 w_11 hx_12 rfl
      have hS := hS.ext hx_12
      refine Wx.gyes rfl rfl (congrArg Value.bool g_8) ?_
      refine Wx.rd (v := .bool (!(decide (0 ≤ a) && decide (a ≤ (L - 1))))) (rd_not rfl) rfl ?_
      refine Wx.gyes rfl rfl (congrArg Value.bool g_8) ?_
      refine Wx.rd (v := .bool (!(decide (0 ≤ a) && decide (a ≤ (L - 1))))) (rd_move rfl) rfl ?_
      refine Wx.cut (X := Unit) 7 [22, 23, 24, 25, 26, 27, 28] (fun _ => [(28, .bool (!(decide (0 ≤ a) && decide (a ≤ (L - 1))) || !(decide (0 ≤ b) && decide (b ≤ (L - 1)))))]) (fun _ w' => St w [] w' [.box g_1 27 [.int .i64 L, fv]]) ?_ ?_
      · rcases Bool.eq_false_or_eq_true (!(decide (0 ≤ a) && decide (a ≤ (L - 1)))) with g_13 | g_13
        · -- True
          have gp_14 := g_13
          try simp only [Bool.and_eq_true, Bool.or_eq_true, Bool.not_eq_true', Bool.and_eq_false_iff, Bool.or_eq_false_iff, Bool.not_eq_false', decide_eq_true_eq, decide_eq_false_iff_not, not_or, Bool.false_eq_true, Bool.true_eq_false, false_or, or_false, not_false_eq_true] at gp_14
          refine Wx.gnoB rfl rfl (congrArg Value.bool g_13) rfl rfl ?_
          refine Wx.gnoB rfl rfl (congrArg Value.bool g_13) rfl rfl ?_
          refine Wx.gnoB rfl rfl (congrArg Value.bool g_13) rfl rfl ?_
          refine Wx.gnoB rfl rfl (congrArg Value.bool g_13) rfl rfl ?_
          refine Wx.gnoB rfl rfl (congrArg Value.bool g_13) rfl rfl ?_
          refine Wx.gnoB rfl rfl (congrArg Value.bool g_13) rfl rfl ?_
          refine Wx.gyes rfl rfl (congrArg Value.bool g_8) ?_
          refine Wx.rd (v := .bool true) (rd_pickT (congrArg Value.bool g_13) rfl) rfl ?_
          refine Wx.nil ⟨(), hS, ⟨?_, trivial⟩, Out.look rfl Out.refl⟩
          show Value.bool true = Value.bool (!(decide (0 ≤ a) && decide (a ≤ (L - 1))) || !(decide (0 ≤ b) && decide (b ≤ (L - 1))))
          rw [g_13]; rfl
        · -- False
          have gp_15 := g_13
          try simp only [Bool.and_eq_true, Bool.or_eq_true, Bool.not_eq_true', Bool.and_eq_false_iff, Bool.or_eq_false_iff, Bool.not_eq_false', decide_eq_true_eq, decide_eq_false_iff_not, not_or, Bool.false_eq_true, Bool.true_eq_false, false_or, or_false, not_false_eq_true] at gp_15
          refine Wx.gyes rfl rfl (congrArg Value.bool g_13) ?_
          refine Wx.rd (v := .int .i64 b) (rd_move rfl) rfl ?_
          refine Wx.gyes rfl rfl (congrArg Value.bool g_13) ?_
          refine Wx.rd (v := .pointer (some ⟨g_1, 0, none⟩)) (rd_fieldAddr rfl foRd_27_0) rfl ?_
          refine Wx.gyes rfl rfl (congrArg Value.bool g_13) ?_
          refine Wx.rd (v := .int .i64 L) (rd_loadX hS 0 rfl rfl rfl Try.isAgg3) rfl ?_
          refine Wx.gyes rfl rfl (congrArg Value.bool g_13) ?_
          refine Wx.rd (v := .int .i64 (L - 1)) (rd_sub rfl rfl (in_i64 (by omega) (by omega))) rfl ?_
          refine Wx.gyes rfl rfl (congrArg Value.bool g_13) ?_
          refine Wx.callF (run_callF Try.call71 rfl) (F71 (in_i64 (by omega) (by omega)) (in_i64 (by omega) (by omega)) (in_i64 (by omega) (by omega))) rfl ?_
          rintro r_16 w_17 hx_18 rfl
          have hS := hS.ext hx_18
          refine Wx.gyes rfl rfl (congrArg Value.bool g_13) ?_
          refine Wx.rd (v := .bool (!(decide (0 ≤ b) && decide (b ≤ (L - 1))))) (rd_not rfl) rfl ?_
          refine Wx.gyes rfl rfl (congrArg Value.bool g_8) ?_
          refine Wx.rd (v := .bool (!(decide (0 ≤ b) && decide (b ≤ (L - 1))))) (rd_pickF (congrArg Value.bool g_13) rfl) rfl ?_
          refine Wx.nil ⟨(), hS, ⟨?_, trivial⟩, Out.look rfl Out.refl⟩
          show Value.bool (!(decide (0 ≤ b) && decide (b ≤ (L - 1)))) = Value.bool (!(decide (0 ≤ a) && decide (a ≤ (L - 1))) || !(decide (0 ≤ b) && decide (b ≤ (L - 1))))
          rw [g_13]; rfl
      rintro ⟨⟩ u_20 w_19 hS
      refine Wx.gyes rfl rfl (congrArg Value.bool g_8) ?_
      refine Wx.rd (v := .bool (!(decide (0 ≤ a) && decide (a ≤ (L - 1))) || !(decide (0 ≤ b) && decide (b ≤ (L - 1))))) (rd_move rfl) rfl ?_
      refine Wx.cut (X := Unit) 7 [30, 31, 32, 33, 34, 35, 36] (fun _ => [(36, .bool ((!(decide (0 ≤ a) && decide (a ≤ (L - 1))) || !(decide (0 ≤ b) && decide (b ≤ (L - 1)))) || !(decide (0 ≤ c) && decide (c ≤ (L - 1)))))]) (fun _ w' => St w [] w' [.box g_1 27 [.int .i64 L, fv]]) ?_ ?_
      · rcases Bool.eq_false_or_eq_true (!(decide (0 ≤ a) && decide (a ≤ (L - 1))) || !(decide (0 ≤ b) && decide (b ≤ (L - 1)))) with g_21 | g_21
        · -- True
          have gp_22 := g_21
          try simp only [Bool.and_eq_true, Bool.or_eq_true, Bool.not_eq_true', Bool.and_eq_false_iff, Bool.or_eq_false_iff, Bool.not_eq_false', decide_eq_true_eq, decide_eq_false_iff_not, not_or, Bool.false_eq_true, Bool.true_eq_false, false_or, or_false, not_false_eq_true] at gp_22
          refine Wx.gnoB rfl rfl (congrArg Value.bool g_21) rfl rfl ?_
          refine Wx.gnoB rfl rfl (congrArg Value.bool g_21) rfl rfl ?_
          refine Wx.gnoB rfl rfl (congrArg Value.bool g_21) rfl rfl ?_
          refine Wx.gnoB rfl rfl (congrArg Value.bool g_21) rfl rfl ?_
          refine Wx.gnoB rfl rfl (congrArg Value.bool g_21) rfl rfl ?_
          refine Wx.gnoB rfl rfl (congrArg Value.bool g_21) rfl rfl ?_
          refine Wx.gyes rfl rfl (congrArg Value.bool g_8) ?_
          refine Wx.rd (v := .bool true) (rd_pickT (congrArg Value.bool g_21) rfl) rfl ?_
          refine Wx.nil ⟨(), hS, ⟨?_, trivial⟩, Out.look rfl Out.refl⟩
          show Value.bool true = Value.bool ((!(decide (0 ≤ a) && decide (a ≤ (L - 1))) || !(decide (0 ≤ b) && decide (b ≤ (L - 1)))) || !(decide (0 ≤ c) && decide (c ≤ (L - 1))))
          rw [g_21]; rfl
        · -- False
          have gp_23 := g_21
          try simp only [Bool.and_eq_true, Bool.or_eq_true, Bool.not_eq_true', Bool.and_eq_false_iff, Bool.or_eq_false_iff, Bool.not_eq_false', decide_eq_true_eq, decide_eq_false_iff_not, not_or, Bool.false_eq_true, Bool.true_eq_false, false_or, or_false, not_false_eq_true] at gp_23
          refine Wx.gyes rfl rfl (congrArg Value.bool g_21) ?_
          refine Wx.rd (v := .int .i64 c) (rd_move rfl) rfl ?_
          refine Wx.gyes rfl rfl (congrArg Value.bool g_21) ?_
          refine Wx.rd (v := .pointer (some ⟨g_1, 0, none⟩)) (rd_fieldAddr rfl foRd_27_0) rfl ?_
          refine Wx.gyes rfl rfl (congrArg Value.bool g_21) ?_
          refine Wx.rd (v := .int .i64 L) (rd_loadX hS 0 rfl rfl rfl Try.isAgg3) rfl ?_
          refine Wx.gyes rfl rfl (congrArg Value.bool g_21) ?_
          refine Wx.rd (v := .int .i64 (L - 1)) (rd_sub rfl rfl (in_i64 (by omega) (by omega))) rfl ?_
          refine Wx.gyes rfl rfl (congrArg Value.bool g_21) ?_
          refine Wx.callF (run_callF Try.call71 rfl) (F71 (in_i64 (by omega) (by omega)) (in_i64 (by omega) (by omega)) (in_i64 (by omega) (by omega))) rfl ?_
          rintro r_24 w_25 hx_26 rfl
          have hS := hS.ext hx_26
          refine Wx.gyes rfl rfl (congrArg Value.bool g_21) ?_
          refine Wx.rd (v := .bool (!(decide (0 ≤ c) && decide (c ≤ (L - 1))))) (rd_not rfl) rfl ?_
          refine Wx.gyes rfl rfl (congrArg Value.bool g_8) ?_
          refine Wx.rd (v := .bool (!(decide (0 ≤ c) && decide (c ≤ (L - 1))))) (rd_pickF (congrArg Value.bool g_21) rfl) rfl ?_
          refine Wx.nil ⟨(), hS, ⟨?_, trivial⟩, Out.look rfl Out.refl⟩
          show Value.bool (!(decide (0 ≤ c) && decide (c ≤ (L - 1)))) = Value.bool ((!(decide (0 ≤ a) && decide (a ≤ (L - 1))) || !(decide (0 ≤ b) && decide (b ≤ (L - 1)))) || !(decide (0 ≤ c) && decide (c ≤ (L - 1))))
          rw [g_21]; rfl
      rintro ⟨⟩ u_28 w_27 hS
      refine Wx.rd (v := .bool ((!(decide (0 ≤ a) && decide (a ≤ (L - 1))) || !(decide (0 ≤ b) && decide (b ≤ (L - 1)))) || !(decide (0 ≤ c) && decide (c ≤ (L - 1))))) (rd_pickT (congrArg Value.bool g_8) rfl) rfl ?_
      refine Wx.nil ⟨(), hS, ⟨?_, trivial⟩, Out.look rfl (Out.hav rfl (Out.look rfl (Out.hav rfl (Out.look rfl Out.refl))))⟩
      show Value.bool ((!(decide (0 ≤ a) && decide (a ≤ (L - 1))) || !(decide (0 ≤ b) && decide (b ≤ (L - 1)))) || !(decide (0 ≤ c) && decide (c ≤ (L - 1)))) = Value.bool (decide ((checkE L fs) = 0) && ((!(decide (0 ≤ a) && decide (a ≤ (L - 1))) || !(decide (0 ≤ b) && decide (b ≤ (L - 1)))) || !(decide (0 ≤ c) && decide (c ≤ (L - 1)))))
      rw [g_8]; rfl
    · -- False
      have gp_29 := of_decide_eq_false g_8
      refine Wx.gnoB rfl rfl (congrArg Value.bool g_8) rfl rfl ?_
      refine Wx.gnoB rfl rfl (congrArg Value.bool g_8) rfl rfl ?_
      refine Wx.gnoB rfl rfl (congrArg Value.bool g_8) rfl rfl ?_
      refine Wx.gnoB rfl rfl (congrArg Value.bool g_8) rfl rfl ?_
      refine Wx.gnoB rfl rfl (congrArg Value.bool g_8) rfl rfl ?_
      refine Wx.gnoB rfl rfl (congrArg Value.bool g_8) rfl rfl ?_
      refine Wx.gnoB rfl rfl (congrArg Value.bool g_8) rfl rfl ?_
      refine Wx.gno rfl rfl rfl rfl ?_
      refine Wx.gno rfl rfl rfl rfl ?_
      refine Wx.gno rfl rfl rfl rfl ?_
      refine Wx.gno rfl rfl rfl rfl ?_
      refine Wx.gno rfl rfl rfl rfl ?_
      refine Wx.gno rfl rfl rfl rfl ?_
      refine Wx.gnoB rfl rfl (congrArg Value.bool g_8) rfl rfl ?_
      refine Wx.gnoB rfl rfl (congrArg Value.bool g_8) rfl rfl ?_
      refine Wx.gno rfl rfl rfl rfl ?_
      refine Wx.gno rfl rfl rfl rfl ?_
      refine Wx.gno rfl rfl rfl rfl ?_
      refine Wx.gno rfl rfl rfl rfl ?_
      refine Wx.gno rfl rfl rfl rfl ?_
      refine Wx.gno rfl rfl rfl rfl ?_
      refine Wx.gnoB rfl rfl (congrArg Value.bool g_8) rfl rfl ?_
      refine Wx.rd (v := .bool false) (rd_pickF (congrArg Value.bool g_8) rfl) rfl ?_
      refine Wx.nil ⟨(), hS, ⟨?_, trivial⟩, Out.look rfl Out.refl⟩
      show Value.bool false = Value.bool (decide ((checkE L fs) = 0) && ((!(decide (0 ≤ a) && decide (a ≤ (L - 1))) || !(decide (0 ≤ b) && decide (b ≤ (L - 1)))) || !(decide (0 ≤ c) && decide (c ≤ (L - 1)))))
      rw [g_8]; rfl
  rintro ⟨⟩ u_31 w_30 hS
  refine Wx.nil ?_
  refine W.cutK [9] (fun (e : Int) => [(9, .int .i64 e)]) (fun (e : Int) w' => St w [] w' [.box g_1 27 [.int .i64 L, fv]] ∧ (e = if checkE L fs = 0 ∧ (((a < 0 ∨ L - 1 < a) ∨ (b < 0 ∨ L - 1 < b)) ∨ (c < 0 ∨ L - 1 < c)) then 2 else checkE L fs)) ?_ ?_
  · -- up to the cut
    refine W.cond rfl (fun c0 => ?_) (fun c0 => ?_)
    · -- yes
      try simp only [Bool.and_eq_true, Bool.or_eq_true, Bool.not_eq_true', Bool.and_eq_false_iff, Bool.or_eq_false_iff, Bool.not_eq_false', decide_eq_true_eq, decide_eq_false_iff_not, not_or, Bool.false_eq_true, Bool.true_eq_false, false_or, or_false, not_false_eq_true] at c0
      refine W.reg ?_
      refine Wx.rd (v := .int .i64 2) (rd_assign rfl) rfl ?_
      refine Wx.nil ?_
      refine ⟨2, ?_, ?_, Out.look rfl Out.refl⟩
      · exact ⟨hS, ((if_pos ⟨c0.1, by have := c0.2; omega⟩).symm)⟩
      · exact ⟨rfl, trivial⟩
    · -- no
      try simp only [Bool.and_eq_true, Bool.or_eq_true, Bool.not_eq_true', Bool.and_eq_false_iff, Bool.or_eq_false_iff, Bool.not_eq_false', decide_eq_true_eq, decide_eq_false_iff_not, not_or, Bool.false_eq_true, Bool.true_eq_false, false_or, or_false, not_false_eq_true] at c0
      refine W.skip ?_
      refine ⟨checkE L fs, ?_, ?_, Out.look rfl Out.refl⟩
      · exact ⟨hS, ((if_neg (fun hh => by rcases c0 with c | c; exact c hh.1; have := hh.2; omega)).symm)⟩
      · exact ⟨rfl, trivial⟩
  rintro e u_33 w_32 ⟨hS, j1⟩
  refine W.seq ?_
  refine W.seq ?_
  refine W.reg ?_
  refine Wx.rd (v := .int .i64 e) (rd_move rfl) rfl ?_
  refine Wx.rd (v := .bool (decide (e = 0))) (rd_eql rfl rfl) rfl ?_
  refine Wx.rd (v := .bool (decide (e = 0))) (rd_move rfl) rfl ?_
  refine Wx.cut (X := Unit) 14 [41, 42, 43, 44, 45, 46, 47, 48, 49, 50, 51, 52, 53, 54] (fun _ => [(54, .bool (decide (e = 0) && ((decide (a = b) || decide (b = c)) || decide (a = c))))]) (fun _ w' => St w [] w' [.box g_1 27 [.int .i64 L, fv]]) ?_ ?_
  · rcases Bool.eq_false_or_eq_true (decide (e = 0)) with g_34 | g_34
    · -- True
      have gp_35 := of_decide_eq_true g_34
      refine Wx.gyes rfl rfl (congrArg Value.bool g_34) ?_
      refine Wx.rd (v := .int .i64 a) (rd_move rfl) rfl ?_
      refine Wx.gyes rfl rfl (congrArg Value.bool g_34) ?_
      refine Wx.rd (v := .int .i64 b) (rd_move rfl) rfl ?_
      refine Wx.gyes rfl rfl (congrArg Value.bool g_34) ?_
      refine Wx.rd (v := .bool (decide (a = b))) (rd_eql rfl rfl) rfl ?_
      refine Wx.gyes rfl rfl (congrArg Value.bool g_34) ?_
      refine Wx.rd (v := .bool (decide (a = b))) (rd_move rfl) rfl ?_
      refine Wx.cut (X := Unit) 4 [45, 46, 47, 48] (fun _ => [(48, .bool (decide (a = b) || decide (b = c)))]) (fun _ w' => St w [] w' [.box g_1 27 [.int .i64 L, fv]]) ?_ ?_
      · rcases Bool.eq_false_or_eq_true (decide (a = b)) with g_36 | g_36
        · -- True
          have gp_37 := of_decide_eq_true g_36
          refine Wx.gnoB rfl rfl (congrArg Value.bool g_36) rfl rfl ?_
          refine Wx.gnoB rfl rfl (congrArg Value.bool g_36) rfl rfl ?_
          refine Wx.gnoB rfl rfl (congrArg Value.bool g_36) rfl rfl ?_
          refine Wx.gyes rfl rfl (congrArg Value.bool g_34) ?_
          refine Wx.rd (v := .bool true) (rd_pickT (congrArg Value.bool g_36) rfl) rfl ?_
          refine Wx.nil ⟨(), hS, ⟨?_, trivial⟩, Out.look rfl Out.refl⟩
          show Value.bool true = Value.bool (decide (a = b) || decide (b = c))
          rw [g_36]; rfl
        · -- False
          have gp_38 := of_decide_eq_false g_36
          refine Wx.gyes rfl rfl (congrArg Value.bool g_36) ?_
          refine Wx.rd (v := .int .i64 b) (rd_move rfl) rfl ?_
          refine Wx.gyes rfl rfl (congrArg Value.bool g_36) ?_
          refine Wx.rd (v := .int .i64 c) (rd_move rfl) rfl ?_
          refine Wx.gyes rfl rfl (congrArg Value.bool g_36) ?_
          refine Wx.rd (v := .bool (decide (b = c))) (rd_eql rfl rfl) rfl ?_
          refine Wx.gyes rfl rfl (congrArg Value.bool g_34) ?_
          refine Wx.rd (v := .bool (decide (b = c))) (rd_pickF (congrArg Value.bool g_36) rfl) rfl ?_
          refine Wx.nil ⟨(), hS, ⟨?_, trivial⟩, Out.look rfl Out.refl⟩
          show Value.bool (decide (b = c)) = Value.bool (decide (a = b) || decide (b = c))
          rw [g_36]; rfl
      rintro ⟨⟩ u_40 w_39 hS
      refine Wx.gyes rfl rfl (congrArg Value.bool g_34) ?_
      refine Wx.rd (v := .bool (decide (a = b) || decide (b = c))) (rd_move rfl) rfl ?_
      refine Wx.cut (X := Unit) 4 [50, 51, 52, 53] (fun _ => [(53, .bool ((decide (a = b) || decide (b = c)) || decide (a = c)))]) (fun _ w' => St w [] w' [.box g_1 27 [.int .i64 L, fv]]) ?_ ?_
      · rcases Bool.eq_false_or_eq_true (decide (a = b) || decide (b = c)) with g_41 | g_41
        · -- True
          have gp_42 := g_41
          try simp only [Bool.and_eq_true, Bool.or_eq_true, Bool.not_eq_true', Bool.and_eq_false_iff, Bool.or_eq_false_iff, Bool.not_eq_false', decide_eq_true_eq, decide_eq_false_iff_not, not_or, Bool.false_eq_true, Bool.true_eq_false, false_or, or_false, not_false_eq_true] at gp_42
          refine Wx.gnoB rfl rfl (congrArg Value.bool g_41) rfl rfl ?_
          refine Wx.gnoB rfl rfl (congrArg Value.bool g_41) rfl rfl ?_
          refine Wx.gnoB rfl rfl (congrArg Value.bool g_41) rfl rfl ?_
          refine Wx.gyes rfl rfl (congrArg Value.bool g_34) ?_
          refine Wx.rd (v := .bool true) (rd_pickT (congrArg Value.bool g_41) rfl) rfl ?_
          refine Wx.nil ⟨(), hS, ⟨?_, trivial⟩, Out.look rfl Out.refl⟩
          show Value.bool true = Value.bool ((decide (a = b) || decide (b = c)) || decide (a = c))
          rw [g_41]; rfl
        · -- False
          have gp_43 := g_41
          try simp only [Bool.and_eq_true, Bool.or_eq_true, Bool.not_eq_true', Bool.and_eq_false_iff, Bool.or_eq_false_iff, Bool.not_eq_false', decide_eq_true_eq, decide_eq_false_iff_not, not_or, Bool.false_eq_true, Bool.true_eq_false, false_or, or_false, not_false_eq_true] at gp_43
          refine Wx.gyes rfl rfl (congrArg Value.bool g_41) ?_
          refine Wx.rd (v := .int .i64 a) (rd_move rfl) rfl ?_
          refine Wx.gyes rfl rfl (congrArg Value.bool g_41) ?_
          refine Wx.rd (v := .int .i64 c) (rd_move rfl) rfl ?_
          refine Wx.gyes rfl rfl (congrArg Value.bool g_41) ?_
          refine Wx.rd (v := .bool (decide (a = c))) (rd_eql rfl rfl) rfl ?_
          refine Wx.gyes rfl rfl (congrArg Value.bool g_34) ?_
          refine Wx.rd (v := .bool (decide (a = c))) (rd_pickF (congrArg Value.bool g_41) rfl) rfl ?_
          refine Wx.nil ⟨(), hS, ⟨?_, trivial⟩, Out.look rfl Out.refl⟩
          show Value.bool (decide (a = c)) = Value.bool ((decide (a = b) || decide (b = c)) || decide (a = c))
          rw [g_41]; rfl
      rintro ⟨⟩ u_45 w_44 hS
      refine Wx.rd (v := .bool ((decide (a = b) || decide (b = c)) || decide (a = c))) (rd_pickT (congrArg Value.bool g_34) rfl) rfl ?_
      refine Wx.nil ⟨(), hS, ⟨?_, trivial⟩, Out.look rfl (Out.hav rfl (Out.look rfl (Out.hav rfl (Out.look rfl Out.refl))))⟩
      show Value.bool ((decide (a = b) || decide (b = c)) || decide (a = c)) = Value.bool (decide (e = 0) && ((decide (a = b) || decide (b = c)) || decide (a = c)))
      rw [g_34]; rfl
    · -- False
      have gp_46 := of_decide_eq_false g_34
      refine Wx.gnoB rfl rfl (congrArg Value.bool g_34) rfl rfl ?_
      refine Wx.gnoB rfl rfl (congrArg Value.bool g_34) rfl rfl ?_
      refine Wx.gnoB rfl rfl (congrArg Value.bool g_34) rfl rfl ?_
      refine Wx.gnoB rfl rfl (congrArg Value.bool g_34) rfl rfl ?_
      refine Wx.gno rfl rfl rfl rfl ?_
      refine Wx.gno rfl rfl rfl rfl ?_
      refine Wx.gno rfl rfl rfl rfl ?_
      refine Wx.gnoB rfl rfl (congrArg Value.bool g_34) rfl rfl ?_
      refine Wx.gnoB rfl rfl (congrArg Value.bool g_34) rfl rfl ?_
      refine Wx.gno rfl rfl rfl rfl ?_
      refine Wx.gno rfl rfl rfl rfl ?_
      refine Wx.gno rfl rfl rfl rfl ?_
      refine Wx.gnoB rfl rfl (congrArg Value.bool g_34) rfl rfl ?_
      refine Wx.rd (v := .bool false) (rd_pickF (congrArg Value.bool g_34) rfl) rfl ?_
      refine Wx.nil ⟨(), hS, ⟨?_, trivial⟩, Out.look rfl Out.refl⟩
      show Value.bool false = Value.bool (decide (e = 0) && ((decide (a = b) || decide (b = c)) || decide (a = c)))
      rw [g_34]; rfl
  rintro ⟨⟩ u_48 w_47 hS
  refine Wx.nil ?_
  refine W.cutK [9] (fun (d : Int) => [(9, .int .i64 d)]) (fun (d : Int) w' => St w [] w' [.box g_1 27 [.int .i64 L, fv]] ∧ (d = if e = 0 ∧ ((a = b ∨ b = c) ∨ a = c) then 6 else e)) ?_ ?_
  · -- up to the cut
    refine W.cond rfl (fun c1 => ?_) (fun c1 => ?_)
    · -- yes
      try simp only [Bool.and_eq_true, Bool.or_eq_true, Bool.not_eq_true', Bool.and_eq_false_iff, Bool.or_eq_false_iff, Bool.not_eq_false', decide_eq_true_eq, decide_eq_false_iff_not, not_or, Bool.false_eq_true, Bool.true_eq_false, false_or, or_false, not_false_eq_true] at c1
      refine W.reg ?_
      refine Wx.rd (v := .int .i64 6) (rd_assign rfl) rfl ?_
      refine Wx.nil ?_
      refine ⟨6, ?_, ?_, Out.look rfl Out.refl⟩
      · exact ⟨hS, ((if_pos c1).symm)⟩
      · exact ⟨rfl, trivial⟩
    · -- no
      try simp only [Bool.and_eq_true, Bool.or_eq_true, Bool.not_eq_true', Bool.and_eq_false_iff, Bool.or_eq_false_iff, Bool.not_eq_false', decide_eq_true_eq, decide_eq_false_iff_not, not_or, Bool.false_eq_true, Bool.true_eq_false, false_or, or_false, not_false_eq_true] at c1
      refine W.skip ?_
      refine ⟨e, ?_, ?_, Out.look rfl Out.refl⟩
      · exact ⟨hS, ((if_neg (fun hh => by rcases c1 with c | c; exact c hh.1; have := hh.2; omega)).symm)⟩
      · exact ⟨rfl, trivial⟩
  rintro d u_50 w_49 ⟨hS, j2⟩
  have hd : d = 0 → e = 0 := fun h => by rw [j2] at h; split at h; cases h; exact h
  have he : e = 0 → checkE L fs = 0 ∧ ¬ (((a < 0 ∨ L - 1 < a) ∨ (b < 0 ∨ L - 1 < b)) ∨ (c < 0 ∨ L - 1 < c)) := fun h => by rw [j1] at h; split at h; cases h; rename_i hn; exact ⟨h, fun hb => hn ⟨h, hb⟩⟩
  refine W.seq ?_
  refine W.seq ?_
  refine W.reg ?_
  refine Wx.rd (v := .int .i64 d) (rd_move rfl) rfl ?_
  refine Wx.rd (v := .bool (decide (d = 0))) (rd_eql rfl rfl) rfl ?_
  refine Wx.rd (v := .bool (decide (d = 0))) (rd_move rfl) rfl ?_
  refine Wx.cut (X := Unit) 7 [58, 59, 60, 61, 62, 63, 64] (fun _ => [(64, .bool (decide (d = 0) && !(apartR fs a b c)))]) (fun _ w' => St w [] w' [.box g_1 27 [.int .i64 L, fv]]) ?_ ?_
  · rcases Bool.eq_false_or_eq_true (decide (d = 0)) with g_51 | g_51
    · -- True
      have gp_52 := of_decide_eq_true g_51
      refine Wx.gyes rfl rfl (congrArg Value.bool g_51) ?_
      refine Wx.rd (v := .agg #[.int .i64 L, fv]) (rd_loadXs (ds := [.int .i64 L, fv]) hS 0 rfl rfl rfl rfl Try.isAgg27 Try.sizeOf27) rfl ?_
      refine Wx.gyes rfl rfl (congrArg Value.bool g_51) ?_
      refine Wx.rd (v := .int .i64 a) (rd_move rfl) rfl ?_
      refine Wx.gyes rfl rfl (congrArg Value.bool g_51) ?_
      refine Wx.rd (v := .int .i64 b) (rd_move rfl) rfl ?_
      refine Wx.gyes rfl rfl (congrArg Value.bool g_51) ?_
      refine Wx.rd (v := .int .i64 c) (rd_move rfl) rfl ?_
      refine Wx.gyes rfl rfl (congrArg Value.bool g_51) ?_
      have he2 := he (hd (by omega))
      have hk := check_ok he2.1
      refine Wx.callF (run_callF Try.call70 rfl) (F70 (in_i64 (by omega) (by omega)) (hS.arg a_fv) (in_i64 (by omega) (by omega)) (in_i64 (by omega) (by omega)) (in_i64 (by omega) (by omega)) hk.2.2.2 (by omega) (by omega) (by omega) (by omega) (by omega) (by omega) (by omega)) rfl ?_
      rintro r_53 w_54 hx_55 rfl
      have hS := hS.ext hx_55
      refine Wx.gyes rfl rfl (congrArg Value.bool g_51) ?_
      refine Wx.rd (v := .bool (!(apartR fs a b c))) (rd_not rfl) rfl ?_
      refine Wx.rd (v := .bool (!(apartR fs a b c))) (rd_pickT (congrArg Value.bool g_51) rfl) rfl ?_
      refine Wx.nil ⟨(), hS, ⟨?_, trivial⟩, Out.look rfl Out.refl⟩
      show Value.bool (!(apartR fs a b c)) = Value.bool (decide (d = 0) && !(apartR fs a b c))
      rw [g_51]; rfl
    · -- False
      have gp_56 := of_decide_eq_false g_51
      refine Wx.gnoB rfl rfl (congrArg Value.bool g_51) rfl rfl ?_
      refine Wx.gnoB rfl rfl (congrArg Value.bool g_51) rfl rfl ?_
      refine Wx.gnoB rfl rfl (congrArg Value.bool g_51) rfl rfl ?_
      refine Wx.gnoB rfl rfl (congrArg Value.bool g_51) rfl rfl ?_
      refine Wx.gnoB rfl rfl (congrArg Value.bool g_51) rfl rfl ?_
      refine Wx.gnoB rfl rfl (congrArg Value.bool g_51) rfl rfl ?_
      refine Wx.rd (v := .bool false) (rd_pickF (congrArg Value.bool g_51) rfl) rfl ?_
      refine Wx.nil ⟨(), hS, ⟨?_, trivial⟩, Out.look rfl Out.refl⟩
      show Value.bool false = Value.bool (decide (d = 0) && !(apartR fs a b c))
      rw [g_51]; rfl
  rintro ⟨⟩ u_58 w_57 hS
  refine Wx.nil ?_
  refine W.cutK [9] (fun (q : Int) => [(9, .int .i64 q)]) (fun (q : Int) w' => St w [] w' [.box g_1 27 [.int .i64 L, fv]] ∧ q = if d = 0 ∧ apartR fs a b c = false then 14 else d) ?_ ?_
  · -- up to the cut
    refine W.cond rfl (fun c2 => ?_) (fun c2 => ?_)
    · -- yes
      try simp only [Bool.and_eq_true, Bool.or_eq_true, Bool.not_eq_true', Bool.and_eq_false_iff, Bool.or_eq_false_iff, Bool.not_eq_false', decide_eq_true_eq, decide_eq_false_iff_not, not_or, Bool.false_eq_true, Bool.true_eq_false, false_or, or_false, not_false_eq_true] at c2
      refine W.reg ?_
      refine Wx.rd (v := .int .i64 14) (rd_assign rfl) rfl ?_
      refine Wx.nil ?_
      refine ⟨14, ?_, ?_, Out.look rfl Out.refl⟩
      · exact ⟨hS, ((if_pos c2).symm)⟩
      · exact ⟨rfl, trivial⟩
    · -- no
      try simp only [Bool.and_eq_true, Bool.or_eq_true, Bool.not_eq_true', Bool.and_eq_false_iff, Bool.or_eq_false_iff, Bool.not_eq_false', decide_eq_true_eq, decide_eq_false_iff_not, not_or, Bool.false_eq_true, Bool.true_eq_false, false_or, or_false, not_false_eq_true] at c2
      refine W.skip ?_
      refine ⟨d, ?_, ?_, Out.look rfl Out.refl⟩
      · exact ⟨hS, ((if_neg (fun hh => by rcases c2 with c | c; exact c hh.1; rw [hh.2] at c; cases c)).symm)⟩
      · exact ⟨rfl, trivial⟩
  rintro q u_60 w_59 ⟨hS, j3⟩
  refine W.seq ?_
  refine W.reg ?_
  refine Wx.rd (v := .int .i64 q) (rd_move rfl) rfl ?_
  refine Wx.rd (v := .int .i64 q) (rd_assign rfl) rfl ?_
  refine Wx.nil ?_
  have e0_0 : (refProves L fs a b c) = (q : Int) := by exact (proves_eq j1 j2 j3).symm
  exact W.ret ⟨.int .i64 q, ResIs.one, hS.bel, (by rw [e0_0])⟩

theorem F74 {L : Int} {fv : Value} {fs : List (List Int)} {Fr_fv : List (Option Nat)} {ov : Value} {order : List Int} {Fr_ov : List (Option Nat)} {w : World} (i_L : InK .i64 L) (h_fv : V (tSl (tSl (tI .i64))) fs fv Fr_fv w) (h_ov : V (tSl (tI .i64)) order ov Fr_ov w) : Calls Try.prog 74 #[.agg #[.int .i64 L, fv], ov] w (Ret w (fun r _ => r = .int .i64 (orderedE L fs order))) := by
  have b_L := bd_i64 i_L
  have a_fv := h_fv.any
  have l_fv := h_fv.len63
  have a_ov := h_ov.any
  have l_ov := h_ov.len63
  have hS := St.start0 w
  refine enterR Try.func74 rfl Try.ntmps74 Try.results74 rfl ?_
  refine W.seq ?_
  refine W.reg ?_
  refine Wx.box (cs := [.int .i64 L, fv]) hS rfl rfl rfl (fun g_1 w_2 hx_4 hb_3 hS => ?_)
  refine Wx.rd (v := .int .i64 0) (rd_assign rfl) rfl ?_
  refine Wx.nil ?_
  refine W.seq ?_
  refine W.reg ?_
  refine Wx.rd (v := .agg #[.int .i64 L, fv]) (rd_loadXs (ds := [.int .i64 L, fv]) hS 0 rfl rfl rfl rfl Try.isAgg27 Try.sizeOf27) rfl ?_
  refine Wx.callF (run_callF Try.call37 rfl) (F37 (in_i64 (by omega) (by omega)) (hS.arg a_fv)) rfl ?_
  rintro r_5 w_6 hx_7 rfl
  have hS := hS.ext hx_7
  refine Wx.rd (v := .int .i64 (checkE L fs)) (rd_assign rfl) rfl ?_
  refine Wx.nil ?_
  refine W.seq ?_
  refine W.seq ?_
  refine W.reg ?_
  refine Wx.rd (v := .int .i64 (checkE L fs)) (rd_move rfl) rfl ?_
  refine Wx.rd (v := .bool (decide ((checkE L fs) = 0))) (rd_eql rfl rfl) rfl ?_
  refine Wx.rd (v := .bool (decide ((checkE L fs) = 0))) (rd_move rfl) rfl ?_
  refine Wx.cut (X := Unit) 6 [12, 13, 14, 15, 16, 17] (fun _ => [(17, .bool (decide ((checkE L fs) = 0) && decide ((order.length : Int) ≠ L)))]) (fun _ w' => St w [] w' [.box g_1 27 [.int .i64 L, fv]]) ?_ ?_
  · rcases Bool.eq_false_or_eq_true (decide ((checkE L fs) = 0)) with g_8 | g_8
    · -- True
      have gp_9 := of_decide_eq_true g_8
      refine Wx.gyes rfl rfl (congrArg Value.bool g_8) ?_
      refine Wx.rd (v := ov) (rd_move rfl) rfl ?_
      refine Wx.gyes rfl rfl (congrArg Value.bool g_8) ?_
      refine Wx.rd (v := .int .i64 (order.length : Int)) (rd_lenV rfl (hS.arg a_ov) Try.underlying28) rfl ?_
      refine Wx.gyes rfl rfl (congrArg Value.bool g_8) ?_
      refine Wx.rd (v := .pointer (some ⟨g_1, 0, none⟩)) (rd_fieldAddr rfl foRd_27_0) rfl ?_
      refine Wx.gyes rfl rfl (congrArg Value.bool g_8) ?_
      refine Wx.rd (v := .int .i64 L) (rd_loadX hS 0 rfl rfl rfl Try.isAgg3) rfl ?_
      refine Wx.gyes rfl rfl (congrArg Value.bool g_8) ?_
      refine Wx.rd (v := .bool (decide ((order.length : Int) ≠ L))) (rd_neq rfl rfl) rfl ?_
      refine Wx.rd (v := .bool (decide ((order.length : Int) ≠ L))) (rd_pickT (congrArg Value.bool g_8) rfl) rfl ?_
      refine Wx.nil ⟨(), hS, ⟨?_, trivial⟩, Out.look rfl Out.refl⟩
      show Value.bool (decide ((order.length : Int) ≠ L)) = Value.bool (decide ((checkE L fs) = 0) && decide ((order.length : Int) ≠ L))
      rw [g_8]; rfl
    · -- False
      have gp_10 := of_decide_eq_false g_8
      refine Wx.gnoB rfl rfl (congrArg Value.bool g_8) rfl rfl ?_
      refine Wx.gnoB rfl rfl (congrArg Value.bool g_8) rfl rfl ?_
      refine Wx.gnoB rfl rfl (congrArg Value.bool g_8) rfl rfl ?_
      refine Wx.gnoB rfl rfl (congrArg Value.bool g_8) rfl rfl ?_
      refine Wx.gnoB rfl rfl (congrArg Value.bool g_8) rfl rfl ?_
      refine Wx.rd (v := .bool false) (rd_pickF (congrArg Value.bool g_8) rfl) rfl ?_
      refine Wx.nil ⟨(), hS, ⟨?_, trivial⟩, Out.look rfl Out.refl⟩
      show Value.bool false = Value.bool (decide ((checkE L fs) = 0) && decide ((order.length : Int) ≠ L))
      rw [g_8]; rfl
  rintro ⟨⟩ u_12 w_11 hS
  refine Wx.nil ?_
  refine W.cutK [5] (fun (e : Int) => [(5, .int .i64 e)]) (fun (e : Int) w' => St w [] w' [.box g_1 27 [.int .i64 L, fv]] ∧ e = if checkE L fs = 0 ∧ (order.length : Int) ≠ L then 5 else checkE L fs) ?_ ?_
  · -- up to the cut
    refine W.cond rfl (fun c0 => ?_) (fun c0 => ?_)
    · -- yes
      try simp only [Bool.and_eq_true, Bool.or_eq_true, Bool.not_eq_true', Bool.and_eq_false_iff, Bool.or_eq_false_iff, Bool.not_eq_false', decide_eq_true_eq, decide_eq_false_iff_not, not_or, Bool.false_eq_true, Bool.true_eq_false, false_or, or_false, not_false_eq_true] at c0
      refine W.reg ?_
      refine Wx.rd (v := .int .i64 5) (rd_assign rfl) rfl ?_
      refine Wx.nil ?_
      refine ⟨5, ?_, ?_, Out.look rfl Out.refl⟩
      · exact ⟨hS, ((if_pos c0).symm)⟩
      · exact ⟨rfl, trivial⟩
    · -- no
      try simp only [Bool.and_eq_true, Bool.or_eq_true, Bool.not_eq_true', Bool.and_eq_false_iff, Bool.or_eq_false_iff, Bool.not_eq_false', decide_eq_true_eq, decide_eq_false_iff_not, not_or, Bool.false_eq_true, Bool.true_eq_false, false_or, or_false, not_false_eq_true] at c0
      refine W.skip ?_
      refine ⟨checkE L fs, ?_, ?_, Out.look rfl Out.refl⟩
      · exact ⟨hS, ((if_neg (fun hh => by rcases c0 with c | c; exact c hh.1; exact c hh.2)).symm)⟩
      · exact ⟨rfl, trivial⟩
  rintro e u_14 w_13 ⟨hS, j1⟩
  have he : e ≠ 0 → orderedE L fs order = e := fun h => by rw [j1] at h ⊢; split at h; rename_i hc; rw [orderedE, if_neg (by omega), if_pos hc.2, if_pos hc]; rename_i hc; rw [orderedE, if_pos h, if_neg hc]
  have he0 : e = 0 → checkE L fs = 0 ∧ orderedE L fs order = ordG L [] order := fun h => by rw [j1] at h; split at h; cases h; rename_i hc; exact ⟨h, by rw [orderedE, if_neg (by omega), if_neg (fun h2 => hc ⟨h, h2⟩)]⟩
  refine W.seq ?_
  refine W.seq ?_
  refine W.reg ?_
  refine Wx.rd (v := .int .i64 e) (rd_move rfl) rfl ?_
  refine Wx.rd (v := .bool (decide (e ≠ 0))) (rd_neq rfl rfl) rfl ?_
  refine Wx.nil ?_
  refine W.condD rfl (fun c1 => ?_) (fun c1 => ?_)
  · -- yes
    refine W.seq ?_
    refine W.reg ?_
    refine Wx.rd (v := .int .i64 e) (rd_move rfl) rfl ?_
    refine Wx.rd (v := .int .i64 e) (rd_assign rfl) rfl ?_
    refine Wx.nil ?_
    have e0_0 : (orderedE L fs order) = (e : Int) := by exact he (by omega)
    exact W.ret ⟨.int .i64 e, ResIs.one, hS.bel, (by rw [e0_0])⟩
  · -- no
    refine W.skip ?_
    refine W.seq ?_
    refine W.seq ?_
    refine W.reg ?_
    refine Wx.rd (v := .int .i64 0) (rd_assign rfl) rfl ?_
    refine Wx.nil ?_
    refine W.block ?_
    have hz := he0 (by omega)
    have hk := check_ok hz.1
    refine W.loop [4, 6, 21, 22, 23, 24, 25, 26, 27, 28, 29, 30, 31, 32, 33, 34, 35, 36, 37, 38, 39, 40, 41, 42, 43] (fun (k : Int) => [(6, .int .i64 k)]) (fun (k : Int) w' => St w [] w' [.box g_1 27 [.int .i64 L, fv]] ∧ 0 ≤ k ∧ k ≤ order.length ∧ ordG L (order.take k.toNat) (order.drop k.toNat) = orderedE L fs order) (fun (k : Int) => (order.length - k).toNat) 0 ⟨rfl, trivial⟩ ⟨hS, (by first | omega | simp), (by first | omega | simp), (by rw [hz.2]; simp)⟩ ?_
    rintro k u_16 w_15 ⟨hS, h0, h1, h2⟩
    refine W.seq ?_
    refine W.seq ?_
    refine W.reg ?_
    refine Wx.rd (v := .int .i64 k) (rd_move rfl) rfl ?_
    refine Wx.rd (v := ov) (rd_move rfl) rfl ?_
    refine Wx.rd (v := .int .i64 (order.length : Int)) (rd_lenV rfl (hS.arg a_ov) Try.underlying28) rfl ?_
    refine Wx.rd (v := .bool (decide (k < (order.length : Int)))) (rd_lss rfl rfl) rfl ?_
    refine Wx.nil ?_
    refine W.condD rfl (fun c2 => ?_) (fun c2 => ?_)
    · -- yes
      refine W.skip ?_
      refine W.seq ?_
      refine W.block ?_
      refine W.seq ?_
      refine W.seq ?_
      refine W.regQ mixedRd_ (by kernel_rfl) ?_
      refine Wx.rd (v := ov) (rd_move rfl) rfl ?_
      refine Wx.rd (v := .int .i64 k) (rd_move rfl) rfl ?_
      refine Wx.ex (rd_index 0 (hS.arg a_ov) rfl rfl Try.underlying28 Try.sizeOf3 (by first | omega | (simp only [List.length_set, List.length_append, List.length_cons, List.length_nil, List.length_replicate]; omega)) (by first | omega | (simp only [List.length_set, List.length_append, List.length_cons, List.length_nil, List.length_replicate]; omega))) rfl (fun p_17 hp_18 => ?_)
      refine Wx.rd (v := .int .i64 (ix 0 order k)) (rd_loadI hp_18 rfl Try.isAgg3 Try.sizeOf3) rfl ?_
      have bd_19 := bd_i64 hp_18.inK
      refine Wx.rd (v := .pointer (some ⟨g_1, 0, none⟩)) (rd_fieldAddr rfl foRd_27_0) rfl ?_
      refine Wx.rd (v := .int .i64 L) (rd_loadX hS 0 rfl rfl rfl Try.isAgg3) rfl ?_
      refine Wx.rd (v := .int .i64 (L - 1)) (rd_sub rfl rfl (in_i64 (by omega) (by omega))) rfl ?_
      refine Wx.callV (v := .bool (decide (0 ≤ (ix 0 order k)) && decide ((ix 0 order k) ≤ (L - 1)))) (run_callF Try.call71 rfl) (fun w_20 hw_21 => (F71 (in_i64 (by omega) (by omega)) (in_i64 (by omega) (by omega)) (in_i64 (by omega) (by omega)))) rfl ?_
      refine Wx.rd (v := .bool (!(decide (0 ≤ (ix 0 order k)) && decide ((ix 0 order k) ≤ (L - 1))))) (rd_not rfl) rfl ?_
      refine Wx.nilQ (fun w_22 hx_23 => ?_)
      have hS := hS.ext hx_23
      refine W.cond rfl (fun c3 => ?_) (fun c3 => ?_)
      · -- yes
        try simp only [Bool.and_eq_true, Bool.or_eq_true, Bool.not_eq_true', Bool.and_eq_false_iff, Bool.or_eq_false_iff, Bool.not_eq_false', decide_eq_true_eq, decide_eq_false_iff_not, not_or, Bool.false_eq_true, Bool.true_eq_false, false_or, or_false, not_false_eq_true] at c3
        refine W.seq ?_
        refine W.reg ?_
        refine Wx.rd (v := .int .i64 2) (rd_assign rfl) rfl ?_
        refine Wx.nil ?_
        have e1_0 : (orderedE L fs order) = (2 : Int) := by rw [← h2, drop_ix (d := 0) h0 c2, ordG, if_pos (by omega)]
        exact W.ret ⟨.int .i64 2, ResIs.one, hS.bel, (by rw [e1_0])⟩
      · -- no
        try simp only [Bool.and_eq_true, Bool.or_eq_true, Bool.not_eq_true', Bool.and_eq_false_iff, Bool.or_eq_false_iff, Bool.not_eq_false', decide_eq_true_eq, decide_eq_false_iff_not, not_or, Bool.false_eq_true, Bool.true_eq_false, false_or, or_false, not_false_eq_true] at c3
        refine W.skip ?_
        refine W.seq ?_
        refine W.regQ mixedRd_ (by kernel_rfl) ?_
        refine Wx.rd (v := ov) (rd_move rfl) rfl ?_
        refine Wx.rd (v := .int .i64 k) (rd_move rfl) rfl ?_
        refine Wx.ex (rd_sliceH (hS.arg a_ov) Try.underlying28 Try.sizeOf3 rfl rfl (by omega) (by omega)) rfl (fun u_24 hu_25 => ?_)
        have ln_26 := hu_25.len63
        have hS := hS.add hu_25
        refine Wx.rd (v := ov) (rd_move rfl) rfl ?_
        refine Wx.rd (v := .int .i64 k) (rd_move rfl) rfl ?_
        refine Wx.ex (rd_index 0 (hS.arg a_ov) rfl rfl Try.underlying28 Try.sizeOf3 (by first | omega | (simp only [List.length_set, List.length_append, List.length_cons, List.length_nil, List.length_replicate]; omega)) (by first | omega | (simp only [List.length_set, List.length_append, List.length_cons, List.length_nil, List.length_replicate]; omega))) rfl (fun p_28 hp_29 => ?_)
        refine Wx.rd (v := .int .i64 (ix 0 order k)) (rd_loadI hp_29 rfl Try.isAgg3 Try.sizeOf3) rfl ?_
        have bd_30 := bd_i64 hp_29.inK
        refine Wx.callV (v := .bool (hasL (order.take k.toNat) (ix 0 order k))) (run_callF Try.call81 rfl) (fun w_31 hw_32 => (F81 ((hS.v 0 rfl).ext hw_32) (in_i64 (by omega) (by omega)))) rfl ?_
        refine Wx.nilQ (fun w_33 hx_34 => ?_)
        have hS := hS.ext hx_34
        refine W.cond rfl (fun c4 => ?_) (fun c4 => ?_)
        · -- yes
          try simp only [Bool.and_eq_true, Bool.or_eq_true, Bool.not_eq_true', Bool.and_eq_false_iff, Bool.or_eq_false_iff, Bool.not_eq_false', decide_eq_true_eq, decide_eq_false_iff_not, not_or, Bool.false_eq_true, Bool.true_eq_false, false_or, or_false, not_false_eq_true] at c4
          refine W.seq ?_
          refine W.reg ?_
          refine Wx.rd (v := .int .i64 6) (rd_assign rfl) rfl ?_
          refine Wx.nil ?_
          have e2_0 : (orderedE L fs order) = (6 : Int) := by rw [← h2, drop_ix (d := 0) h0 c2, ordG, if_neg (by omega), if_pos c4]
          exact W.ret ⟨.int .i64 6, ResIs.one, hS.bel, (by rw [e2_0])⟩
        · -- no
          try simp only [Bool.and_eq_true, Bool.or_eq_true, Bool.not_eq_true', Bool.and_eq_false_iff, Bool.or_eq_false_iff, Bool.not_eq_false', decide_eq_true_eq, decide_eq_false_iff_not, not_or, Bool.false_eq_true, Bool.true_eq_false, false_or, or_false, not_false_eq_true] at c4
          refine W.skip ?_
          refine W.reg ?_
          refine Wx.rd (v := .int .i64 k) (rd_move rfl) rfl ?_
          refine Wx.rd (v := .int .i64 (k + 1)) (rd_add rfl rfl (in_i64 (by omega) (by omega))) rfl ?_
          refine Wx.rd (v := .int .i64 (k + 1)) (rd_assign rfl) rfl ?_
          refine Wx.nil ?_
          refine ⟨k + 1, (by show (order.length - (k + 1)).toNat < (order.length - k).toNat; omega), ?_, ?_, Out.look rfl Out.self⟩
          · exact ⟨hS.tl, (by first | omega | assumption), (by first | omega | assumption), (by rw [← h2, drop_ix (d := 0) h0 c2, ordG, if_neg (by omega), if_neg (by rw [c4]; decide), take_ix (d := 0) h0 c2])⟩
          · exact ⟨rfl, trivial⟩
    · -- no
      refine W.exit rfl ?_
      refine W.seq ?_
      refine W.reg ?_
      refine Wx.rd (v := .int .i64 0) (rd_assign rfl) rfl ?_
      refine Wx.nil ?_
      have e3_0 : (orderedE L fs order) = (0 : Int) := by rw [← h2, drop_end (by omega)]; rfl
      exact W.ret ⟨.int .i64 0, ResIs.one, hS.bel, (by rw [e3_0])⟩

theorem F31 {L : Int} {fv : Value} {fs : List (List Int)} {Fr_fv : List (Option Nat)} {ov : Value} {order : List Int} {Fr_ov : List (Option Nat)} {w : World} (i_L : InK .i64 L) (h_fv : V (tSl (tSl (tI .i64))) fs fv Fr_fv w) (h_ov : V (tSl (tI .i64)) order ov Fr_ov w) : Calls Try.prog 31 #[.agg #[.int .i64 L, fv], ov] w (Ret w (fun r _ => r = .tuple #[.bool (refWhole L fs order), .int .i64 (orderedE L fs order)])) := by
  have b_L := bd_i64 i_L
  have a_fv := h_fv.any
  have l_fv := h_fv.len63
  have a_ov := h_ov.any
  have l_ov := h_ov.len63
  have hS := St.start0 w
  refine enterR Try.func31 rfl Try.ntmps31 Try.results31 rfl ?_
  refine W.seq ?_
  refine W.reg ?_
  refine Wx.box (cs := [.int .i64 L, fv]) hS rfl rfl rfl (fun g_1 w_2 hx_4 hb_3 hS => ?_)
  refine Wx.rd (v := .bool false) (rd_assign rfl) rfl ?_
  refine Wx.rd (v := .int .i64 0) (rd_assign rfl) rfl ?_
  refine Wx.nil ?_
  refine W.seq ?_
  refine W.reg ?_
  refine Wx.rd (v := .agg #[.int .i64 L, fv]) (rd_loadXs (ds := [.int .i64 L, fv]) hS 0 rfl rfl rfl rfl Try.isAgg27 Try.sizeOf27) rfl ?_
  refine Wx.rd (v := ov) (rd_move rfl) rfl ?_
  refine Wx.callF (run_callF Try.call74 rfl) (F74 (in_i64 (by omega) (by omega)) (hS.arg a_fv) (hS.arg a_ov)) rfl ?_
  rintro r_5 w_6 hx_7 rfl
  have hS := hS.ext hx_7
  refine Wx.rd (v := .int .i64 (orderedE L fs order)) (rd_assign rfl) rfl ?_
  refine Wx.nil ?_
  refine W.seq ?_
  refine W.seq ?_
  refine W.reg ?_
  refine Wx.rd (v := .int .i64 (orderedE L fs order)) (rd_move rfl) rfl ?_
  refine Wx.rd (v := .bool (decide ((orderedE L fs order) ≠ 0))) (rd_neq rfl rfl) rfl ?_
  refine Wx.nil ?_
  refine W.condD rfl (fun c0 => ?_) (fun c0 => ?_)
  · -- yes
    refine W.seq ?_
    refine W.reg ?_
    refine Wx.rd (v := .int .i64 (orderedE L fs order)) (rd_move rfl) rfl ?_
    refine Wx.rd (v := .bool false) (rd_assign rfl) rfl ?_
    refine Wx.rd (v := .int .i64 (orderedE L fs order)) (rd_assign rfl) rfl ?_
    refine Wx.nil ?_
    have e0_0 : (refWhole L fs order) = false := by rw [refWhole, decide_eq_false (by omega)]; rfl
    exact W.ret ⟨.tuple #[.bool false, .int .i64 (orderedE L fs order)], ResIs.two, hS.bel, (by rw [e0_0])⟩
  · -- no
    refine W.skip ?_
    refine W.seq ?_
    refine W.reg ?_
    refine Wx.rd (v := .pointer (some ⟨g_1, 1, none⟩)) (rd_fieldAddr rfl foRd_27_1) rfl ?_
    refine Wx.rd (v := fv) (rd_loadX hS 0 rfl rfl rfl Try.isAgg22) rfl ?_
    refine Wx.rd (v := ov) (rd_move rfl) rfl ?_
    refine Wx.callF (run_callF Try.call75 rfl) (F75 (hS.arg a_fv) (hS.arg a_ov)) rfl ?_
    rintro r_8 w_9 hx_10 rfl
    have hS := hS.ext hx_10
    refine Wx.rd (v := .bool (fitsL fs order)) (rd_assign rfl) rfl ?_
    refine Wx.rd (v := .int .i64 0) (rd_assign rfl) rfl ?_
    refine Wx.nil ?_
    have e1_0 : (refWhole L fs order) = (fitsL fs order) := by rw [refWhole, decide_eq_true (by omega)]; rfl
    have e1_1 : (orderedE L fs order) = (0 : Int) := by omega
    exact W.ret ⟨.tuple #[.bool (fitsL fs order), .int .i64 0], ResIs.two, hS.bel, (by rw [e1_0, e1_1])⟩

theorem F33 {L : Int} {fv : Value} {fs : List (List Int)} {Fr_fv : List (Option Nat)} {ov : Value} {order : List Int} {Fr_ov : List (Option Nat)} {w : World} (i_L : InK .i64 L) (h_fv : V (tSl (tSl (tI .i64))) fs fv Fr_fv w) (h_ov : V (tSl (tI .i64)) order ov Fr_ov w) : Calls Try.prog 33 #[.agg #[.int .i64 L, fv], ov] w (Ret w (fun r _ => r = .tuple #[.int .i64 (refGaps L fs order), .int .i64 (orderedE L fs order)])) := by
  have b_L := bd_i64 i_L
  have a_fv := h_fv.any
  have l_fv := h_fv.len63
  have a_ov := h_ov.any
  have l_ov := h_ov.len63
  have hS := St.start0 w
  refine enterR Try.func33 rfl Try.ntmps33 Try.results33 rfl ?_
  refine W.seq ?_
  refine W.reg ?_
  refine Wx.box (cs := [.int .i64 L, fv]) hS rfl rfl rfl (fun g_1 w_2 hx_4 hb_3 hS => ?_)
  refine Wx.rd (v := .int .i64 0) (rd_assign rfl) rfl ?_
  refine Wx.rd (v := .int .i64 0) (rd_assign rfl) rfl ?_
  refine Wx.nil ?_
  refine W.seq ?_
  refine W.reg ?_
  refine Wx.rd (v := .agg #[.int .i64 L, fv]) (rd_loadXs (ds := [.int .i64 L, fv]) hS 0 rfl rfl rfl rfl Try.isAgg27 Try.sizeOf27) rfl ?_
  refine Wx.rd (v := ov) (rd_move rfl) rfl ?_
  refine Wx.callF (run_callF Try.call74 rfl) (F74 (in_i64 (by omega) (by omega)) (hS.arg a_fv) (hS.arg a_ov)) rfl ?_
  rintro r_5 w_6 hx_7 rfl
  have hS := hS.ext hx_7
  refine Wx.rd (v := .int .i64 (orderedE L fs order)) (rd_assign rfl) rfl ?_
  refine Wx.nil ?_
  refine W.seq ?_
  refine W.seq ?_
  refine W.reg ?_
  refine Wx.rd (v := .int .i64 (orderedE L fs order)) (rd_move rfl) rfl ?_
  refine Wx.rd (v := .bool (decide ((orderedE L fs order) ≠ 0))) (rd_neq rfl rfl) rfl ?_
  refine Wx.nil ?_
  refine W.condD rfl (fun c0 => ?_) (fun c0 => ?_)
  · -- yes
    refine W.seq ?_
    refine W.reg ?_
    refine Wx.rd (v := .int .i64 (orderedE L fs order)) (rd_move rfl) rfl ?_
    refine Wx.rd (v := .int .i64 0) (rd_assign rfl) rfl ?_
    refine Wx.rd (v := .int .i64 (orderedE L fs order)) (rd_assign rfl) rfl ?_
    refine Wx.nil ?_
    have e0_0 : (refGaps L fs order) = (0 : Int) := by rw [refGaps, if_neg (by omega)]
    exact W.ret ⟨.tuple #[.int .i64 0, .int .i64 (orderedE L fs order)], ResIs.two, hS.bel, (by rw [e0_0])⟩
  · -- no
    have hz := orderedE_ok (L := L) (fs := fs) (order := order) (by omega)
    have hk := check_ok hz.1
    refine W.skip ?_
    refine W.seq ?_
    refine W.reg ?_
    refine Wx.rd (v := .int .i64 0) (rd_assign rfl) rfl ?_
    refine Wx.nil ?_
    refine W.seq ?_
    refine W.seq ?_
    refine W.reg ?_
    refine Wx.rd (v := .int .i64 0) (rd_assign rfl) rfl ?_
    refine Wx.nil ?_
    refine W.block ?_
    refine W.loop [7, 8, 15, 16, 17, 18, 19, 20, 21, 22, 23, 24, 25, 26, 27, 28, 29, 30, 31] (fun x : Int × Int => match x with | (n, k) => [(7, .int .i64 n), (8, .int .i64 k)]) (fun (x : Int × Int) w' => match x with | (n, k) => St w [] w' [.box g_1 27 [.int .i64 L, fv]] ∧ 0 ≤ k ∧ k ≤ fs.length ∧ n = gapsG order (fs.take k.toNat) ∧ -1 * k ≤ n ∧ n ≤ 7 * k) (fun x : Int × Int => match x with | (n, k) => (fs.length - k).toNat) (0, 0) ⟨rfl, rfl, trivial⟩ ⟨hS, (by first | omega | simp), (by first | omega | simp), (by simp [gapsG]), (by first | omega | simp), (by first | omega | simp)⟩ ?_
    rintro ⟨n, k⟩ u_9 w_8 ⟨hS, h0, h1, h2, h3, h4⟩
    have hr : 0 ≤ runsL (ix [] fs k) order ∧ runsL (ix [] fs k) order ≤ order.length := runsG_bd (ix [] fs k) order false
    refine W.seq ?_
    refine W.seq ?_
    refine W.reg ?_
    refine Wx.rd (v := .int .i64 k) (rd_move rfl) rfl ?_
    refine Wx.rd (v := .pointer (some ⟨g_1, 1, none⟩)) (rd_fieldAddr rfl foRd_27_1) rfl ?_
    refine Wx.rd (v := fv) (rd_loadX hS 0 rfl rfl rfl Try.isAgg22) rfl ?_
    refine Wx.rd (v := .int .i64 (fs.length : Int)) (rd_lenV rfl (hS.arg a_fv) Try.underlying22) rfl ?_
    refine Wx.rd (v := .bool (decide (k < (fs.length : Int)))) (rd_lss rfl rfl) rfl ?_
    refine Wx.nil ?_
    refine W.condD rfl (fun c1 => ?_) (fun c1 => ?_)
    · -- yes
      refine W.skip ?_
      refine W.seq ?_
      refine W.block ?_
      refine W.reg ?_
      refine Wx.rd (v := .int .i64 n) (rd_move rfl) rfl ?_
      refine Wx.rd (v := .pointer (some ⟨g_1, 1, none⟩)) (rd_fieldAddr rfl foRd_27_1) rfl ?_
      refine Wx.rd (v := fv) (rd_loadX hS 0 rfl rfl rfl Try.isAgg22) rfl ?_
      refine Wx.rd (v := .int .i64 k) (rd_move rfl) rfl ?_
      refine Wx.ex (rd_index [] (hS.arg a_fv) rfl rfl Try.underlying22 Try.sizeOf28 (by first | omega | (simp only [List.length_set, List.length_append, List.length_cons, List.length_nil, List.length_replicate]; omega)) (by first | omega | (simp only [List.length_set, List.length_append, List.length_cons, List.length_nil, List.length_replicate]; omega))) rfl (fun p_10 hp_11 => ?_)
      refine Wx.ex (rd_load hp_11 rfl Try.isAgg28 Try.sizeOf28) rfl (fun v_12 hv_13 => ?_)
      have ln_14 := hv_13.len63
      have hS := hS.add hv_13
      refine Wx.rd (v := ov) (rd_move rfl) rfl ?_
      refine Wx.callF (run_callF Try.call78 rfl) (F78 (hS.v 0 rfl) (hS.arg a_ov)) rfl ?_
      rintro r_16 w_17 hx_18 rfl
      have hS := hS.ext hx_18
      have hr := runsG_bd (ix [] fs k) order false
      refine Wx.rd (v := .int .i64 ((runsL (ix [] fs k) order) - 1)) (rd_sub rfl rfl (in_i64 (by omega) (by omega))) rfl ?_
      refine Wx.rd (v := .int .i64 (n + ((runsL (ix [] fs k) order) - 1))) (rd_add rfl rfl (in_i64 (by omega) (by omega))) rfl ?_
      refine Wx.rd (v := .int .i64 (n + ((runsL (ix [] fs k) order) - 1))) (rd_assign rfl) rfl ?_
      refine Wx.nil ?_
      refine W.reg ?_
      refine Wx.rd (v := .int .i64 k) (rd_move rfl) rfl ?_
      refine Wx.rd (v := .int .i64 (k + 1)) (rd_add rfl rfl (in_i64 (by omega) (by omega))) rfl ?_
      refine Wx.rd (v := .int .i64 (k + 1)) (rd_assign rfl) rfl ?_
      refine Wx.nil ?_
      refine ⟨(n + ((runsL (ix [] fs k) order) - 1), k + 1), (by show (fs.length - (k + 1)).toNat < (fs.length - k).toNat; omega), ?_, ?_, Out.look rfl Out.self⟩
      · exact ⟨hS.tl, (by first | omega | assumption), (by first | omega | assumption), (by rw [take_ix (d := []) h0 c1, gapsG_snoc, ← h2]), (by first | omega | assumption), (by first | omega | assumption)⟩
      · exact ⟨rfl, rfl, trivial⟩
    · -- no
      refine W.exit rfl ?_
      refine W.seq ?_
      refine W.reg ?_
      refine Wx.rd (v := .int .i64 n) (rd_move rfl) rfl ?_
      refine Wx.rd (v := .int .i64 n) (rd_assign rfl) rfl ?_
      refine Wx.rd (v := .int .i64 0) (rd_assign rfl) rfl ?_
      refine Wx.nil ?_
      have e1_0 : (refGaps L fs order) = (n : Int) := by rw [refGaps, if_pos (by omega), h2, take_end (by omega)]
      have e1_1 : (orderedE L fs order) = (0 : Int) := by omega
      exact W.ret ⟨.tuple #[.int .i64 n, .int .i64 0], ResIs.two, hS.bel, (by rw [e1_0, e1_1])⟩

theorem F35 {L : Int} {fv : Value} {fs : List (List Int)} {Fr_fv : List (Option Nat)} {ov : Value} {order : List Int} {Fr_ov : List (Option Nat)} {w : World} (i_L : InK .i64 L) (h_fv : V (tSl (tSl (tI .i64))) fs fv Fr_fv w) (h_ov : V (tSl (tI .i64)) order ov Fr_ov w) : Calls Try.prog 35 #[.agg #[.int .i64 L, fv], ov] w (Ret w (fun r w' => ∃ rv, r = .tuple #[rv, .int .i64 (orderedE L fs order)] ∧ Fresh (tP (tI .i64) (tI .i64)) 61 (refDates L fs order) rv w.heap.size w')) := by
  have b_L := bd_i64 i_L
  have a_fv := h_fv.any
  have l_fv := h_fv.len63
  have a_ov := h_ov.any
  have l_ov := h_ov.len63
  have hS := St.start0 w
  refine enterR Try.func35 rfl Try.ntmps35 Try.results35 rfl ?_
  refine W.seq ?_
  refine W.reg ?_
  refine Wx.box (cs := [.int .i64 L, fv]) hS rfl rfl rfl (fun g_1 w_2 hx_4 hb_3 hS => ?_)
  refine Wx.rd (v := (.slice none 0 0)) (rd_assign rfl) rfl ?_
  refine Wx.rd (v := .int .i64 0) (rd_assign rfl) rfl ?_
  refine Wx.nil ?_
  refine W.seq ?_
  refine W.reg ?_
  refine Wx.rd (v := .agg #[.int .i64 L, fv]) (rd_loadXs (ds := [.int .i64 L, fv]) hS 0 rfl rfl rfl rfl Try.isAgg27 Try.sizeOf27) rfl ?_
  refine Wx.rd (v := ov) (rd_move rfl) rfl ?_
  refine Wx.callF (run_callF Try.call74 rfl) (F74 (in_i64 (by omega) (by omega)) (hS.arg a_fv) (hS.arg a_ov)) rfl ?_
  rintro r_5 w_6 hx_7 rfl
  have hS := hS.ext hx_7
  refine Wx.rd (v := .int .i64 (orderedE L fs order)) (rd_assign rfl) rfl ?_
  refine Wx.nil ?_
  refine W.seq ?_
  refine W.seq ?_
  refine W.reg ?_
  refine Wx.rd (v := .int .i64 (orderedE L fs order)) (rd_move rfl) rfl ?_
  refine Wx.rd (v := .bool (decide ((orderedE L fs order) ≠ 0))) (rd_neq rfl rfl) rfl ?_
  refine Wx.nil ?_
  refine W.condD rfl (fun c0 => ?_) (fun c0 => ?_)
  · -- yes
    refine W.seq ?_
    refine W.reg ?_
    refine Wx.rd (v := .int .i64 (orderedE L fs order)) (rd_move rfl) rfl ?_
    refine Wx.rd (v := (.slice none 0 0)) (rd_assign rfl) rfl ?_
    refine Wx.rd (v := .int .i64 (orderedE L fs order)) (rd_assign rfl) rfl ?_
    refine Wx.nil ?_
    have e0_0 : refDates L fs order = [] := by rw [refDates, if_neg (by omega)]
    exact W.ret ⟨.tuple #[(.slice none 0 0), .int .i64 (orderedE L fs order)], ResIs.two, hS.bel, ⟨(.slice none 0 0), rfl, (by rw [e0_0]; exact ((hS.addNil (tP (tI .i64) (tI .i64)) 61).fr 0 rfl flat_i2))⟩⟩
  · -- no
    have hz := orderedE_ok (L := L) (fs := fs) (order := order) (by omega)
    have hk := check_ok hz.1
    refine W.skip ?_
    refine W.seq ?_
    refine W.reg ?_
    refine Wx.rd (v := (.slice none 0 0)) (rd_assign rfl) rfl ?_
    refine Wx.nil ?_
    refine W.seq ?_
    refine W.seq ?_
    refine W.reg ?_
    refine Wx.rd (v := .int .i64 0) (rd_assign rfl) rfl ?_
    refine Wx.nil ?_
    refine W.block ?_
    have hS := hS.addNil (tP (tI .i64) (tI .i64)) 61
    refine W.loop [7, 8, 9, 10, 17, 18, 19, 20, 21, 22, 23, 24, 25, 26, 27, 28, 29, 30, 31, 32, 33, 34, 35, 36, 37, 38, 39, 40, 41, 42, 43, 44, 45, 46, 47, 48, 49, 50, 51, 52, 53, 54, 55] (fun x : Int × Value × (List (Int × Int)) => match x with | (k, xv, out) => [(8, .int .i64 k), (7, xv)]) (fun (x : Int × Value × (List (Int × Int))) w' => match x with | (k, xv, out) => St w [] w' [.row (tP (tI .i64) (tI .i64)) 61 xv out, .box g_1 27 [.int .i64 L, fv]] ∧ 0 ≤ k ∧ k ≤ fs.length ∧ out = (fs.take k.toNat).map fun f => dateG f 0 order (L, 0)) (fun x : Int × Value × (List (Int × Int)) => match x with | (k, xv, out) => (fs.length - k).toNat) (0, (.slice none 0 0), []) ⟨rfl, rfl, trivial⟩ ⟨hS, (by first | omega | simp), (by first | omega | simp), (by simp)⟩ ?_
    rintro ⟨k, xv, out⟩ u_9 w_8 ⟨hS, h0, h1, h2⟩
    have hln : (out.length : Int) ≤ 10 := by rw [h2]; simp; omega
    refine W.seq ?_
    refine W.seq ?_
    refine W.reg ?_
    refine Wx.rd (v := .int .i64 k) (rd_move rfl) rfl ?_
    refine Wx.rd (v := .pointer (some ⟨g_1, 1, none⟩)) (rd_fieldAddr rfl foRd_27_1) rfl ?_
    refine Wx.rd (v := fv) (rd_loadX hS 1 rfl rfl rfl Try.isAgg22) rfl ?_
    refine Wx.rd (v := .int .i64 (fs.length : Int)) (rd_lenV rfl (hS.arg a_fv) Try.underlying22) rfl ?_
    refine Wx.rd (v := .bool (decide (k < (fs.length : Int)))) (rd_lss rfl rfl) rfl ?_
    refine Wx.nil ?_
    refine W.condD rfl (fun c1 => ?_) (fun c1 => ?_)
    · -- yes
      refine W.skip ?_
      refine W.seq ?_
      refine W.block ?_
      refine W.seq ?_
      refine W.reg ?_
      refine Wx.rd (v := .pointer (some ⟨g_1, 0, none⟩)) (rd_fieldAddr rfl foRd_27_0) rfl ?_
      refine Wx.rd (v := .int .i64 L) (rd_loadX hS 1 rfl rfl rfl Try.isAgg3) rfl ?_
      refine Wx.rd (v := .agg #[.int .i64 L, .int .i64 0]) (rd_build (vs := [(0, .int .i64 L), (1, .int .i64 0)]) rfl (by kernel_rfl)) rfl ?_
      refine Wx.alloc (cs := [.int .i64 0, .int .i64 0]) hS Try.zeroValue61 rfl rfl (fun g_10 w_11 hx_13 hb_12 hS => ?_)
      refine Wx.storeX (cs' := [.int .i64 L, .int .i64 0]) (ds := [.int .i64 L, .int .i64 0]) hS 0 rfl rfl rfl rfl Try.sizeOf61 (Nat.le_of_ble_eq_true rfl) (one_cons rfl (one_cons rfl one_nil)) rfl (fun w_14 hz_15 hS => ?_)
      refine Wx.nil ?_
      refine W.seq ?_
      refine W.seq ?_
      refine W.reg ?_
      refine Wx.rd (v := .int .i64 0) (rd_assign rfl) rfl ?_
      refine Wx.nil ?_
      refine W.block ?_
      refine W.loop [10, 27, 28, 29, 30, 31, 32, 33, 34, 35, 36, 37, 38, 39, 40, 41, 42, 43, 44, 45, 46, 47, 48, 49, 50, 51] (fun x : Int × Int × Int => match x with | (j, u, v) => [(10, .int .i64 j)]) (fun (x : Int × Int × Int) w' => match x with | (j, u, v) => St w [] w' [.box g_10 61 [.int .i64 u, .int .i64 v], .row (tP (tI .i64) (tI .i64)) 61 xv out, .box g_1 27 [.int .i64 L, fv]] ∧ 0 ≤ j ∧ j ≤ order.length ∧ dateG (ix [] fs k) j (order.drop j.toNat) (u, v) = dateG (ix [] fs k) 0 order (L, 0) ∧ 0 ≤ u ∧ u ≤ 7 ∧ 0 ≤ v ∧ v ≤ 7) (fun x : Int × Int × Int => match x with | (j, u, v) => (order.length - j).toNat) (0, L, 0) ⟨rfl, trivial⟩ ⟨hS, (by first | omega | simp), (by first | omega | simp), (by simp), (by first | omega | simp), (by first | omega | simp), (by first | omega | simp), (by first | omega | simp)⟩ ?_
      rintro ⟨j, u, v⟩ u_17 w_16 ⟨hS, g0, g1, g2, g3, g4, g5, g6⟩
      refine W.seq ?_
      refine W.seq ?_
      refine W.reg ?_
      refine Wx.rd (v := .int .i64 j) (rd_move rfl) rfl ?_
      refine Wx.rd (v := ov) (rd_move rfl) rfl ?_
      refine Wx.rd (v := .int .i64 (order.length : Int)) (rd_lenV rfl (hS.arg a_ov) Try.underlying28) rfl ?_
      refine Wx.rd (v := .bool (decide (j < (order.length : Int)))) (rd_lss rfl rfl) rfl ?_
      refine Wx.nil ?_
      refine W.condD rfl (fun c2 => ?_) (fun c2 => ?_)
      · -- yes
        refine W.skip ?_
        refine W.seq ?_
        refine W.block ?_
        refine W.seq ?_
        refine W.regQ mixedRd_ (by kernel_rfl) ?_
        refine Wx.rd (v := .pointer (some ⟨g_1, 1, none⟩)) (rd_fieldAddr rfl foRd_27_1) rfl ?_
        refine Wx.rd (v := fv) (rd_loadX hS 2 rfl rfl rfl Try.isAgg22) rfl ?_
        refine Wx.rd (v := .int .i64 k) (rd_move rfl) rfl ?_
        refine Wx.ex (rd_index [] (hS.arg a_fv) rfl rfl Try.underlying22 Try.sizeOf28 (by first | omega | (simp only [List.length_set, List.length_append, List.length_cons, List.length_nil, List.length_replicate]; omega)) (by first | omega | (simp only [List.length_set, List.length_append, List.length_cons, List.length_nil, List.length_replicate]; omega))) rfl (fun p_18 hp_19 => ?_)
        refine Wx.ex (rd_load hp_19 rfl Try.isAgg28 Try.sizeOf28) rfl (fun v_20 hv_21 => ?_)
        have ln_22 := hv_21.len63
        have hS := hS.add hv_21
        refine Wx.rd (v := ov) (rd_move rfl) rfl ?_
        refine Wx.rd (v := .int .i64 j) (rd_move rfl) rfl ?_
        refine Wx.ex (rd_index 0 (hS.arg a_ov) rfl rfl Try.underlying28 Try.sizeOf3 (by first | omega | (simp only [List.length_set, List.length_append, List.length_cons, List.length_nil, List.length_replicate]; omega)) (by first | omega | (simp only [List.length_set, List.length_append, List.length_cons, List.length_nil, List.length_replicate]; omega))) rfl (fun p_24 hp_25 => ?_)
        refine Wx.rd (v := .int .i64 (ix 0 order j)) (rd_loadI hp_25 rfl Try.isAgg3 Try.sizeOf3) rfl ?_
        have bd_26 := bd_i64 hp_25.inK
        refine Wx.callV (v := .bool (hasL (ix [] fs k) (ix 0 order j))) (run_callF Try.call81 rfl) (fun w_27 hw_28 => (F81 ((hS.v 0 rfl).ext hw_28) (in_i64 (by omega) (by omega)))) rfl ?_
        refine Wx.nilQ (fun w_29 hx_30 => ?_)
        have hS := hS.ext hx_30
        refine W.cond rfl (fun c3 => ?_) (fun c3 => ?_)
        · -- yes
          try simp only [Bool.and_eq_true, Bool.or_eq_true, Bool.not_eq_true', Bool.and_eq_false_iff, Bool.or_eq_false_iff, Bool.not_eq_false', decide_eq_true_eq, decide_eq_false_iff_not, not_or, Bool.false_eq_true, Bool.true_eq_false, false_or, or_false, not_false_eq_true] at c3
          refine W.reg ?_
          refine Wx.rd (v := .pointer (some ⟨g_10, 0, none⟩)) (rd_indexArr (n := 0) rfl rfl Try.underlying61 Try.sizeOf3 (by decide) (by decide)) rfl ?_
          refine Wx.rd (v := .int .i64 u) (rd_loadX hS 1 rfl rfl rfl Try.isAgg3) rfl ?_
          refine Wx.rd (v := .int .i64 j) (rd_move rfl) rfl ?_
          refine Wx.rd (v := .int .i64 (min u j)) (rd_min rfl rfl) rfl ?_
          have hmi : min u j = if u ≤ j then u else j := Int.min_def ..
          refine Wx.rd (v := .pointer (some ⟨g_10, 1, none⟩)) (rd_indexArr (n := 1) rfl rfl Try.underlying61 Try.sizeOf3 (by decide) (by decide)) rfl ?_
          refine Wx.rd (v := .int .i64 v) (rd_loadX hS 1 rfl rfl rfl Try.isAgg3) rfl ?_
          refine Wx.rd (v := .int .i64 j) (rd_move rfl) rfl ?_
          refine Wx.rd (v := .int .i64 (max v j)) (rd_max rfl rfl) rfl ?_
          have hma : max v j = if v ≤ j then j else v := Int.max_def ..
          refine Wx.rd (v := .agg #[.int .i64 (min u j), .int .i64 (max v j)]) (rd_build (vs := [(0, .int .i64 (min u j)), (1, .int .i64 (max v j))]) rfl (by kernel_rfl)) rfl ?_
          refine Wx.storeX (cs' := [.int .i64 (min u j), .int .i64 (max v j)]) (ds := [.int .i64 (min u j), .int .i64 (max v j)]) hS 1 rfl rfl rfl rfl Try.sizeOf61 (Nat.le_of_ble_eq_true rfl) (one_cons rfl (one_cons rfl one_nil)) rfl (fun w_31 hz_32 hS => ?_)
          refine Wx.nil ?_
          refine W.reg ?_
          refine Wx.rd (v := .int .i64 j) (rd_move rfl) rfl ?_
          refine Wx.rd (v := .int .i64 (j + 1)) (rd_add rfl rfl (in_i64 (by omega) (by omega))) rfl ?_
          refine Wx.rd (v := .int .i64 (j + 1)) (rd_assign rfl) rfl ?_
          refine Wx.nil ?_
          refine ⟨(j + 1, min u j, max v j), (by show (order.length - (j + 1)).toNat < (order.length - j).toNat; omega), ?_, ?_, Out.look rfl Out.self⟩
          · exact ⟨hS.tl, (by first | omega | assumption), (by first | omega | assumption), (by rw [← g2, drop_ix (d := 0) g0 c2, dateG, if_pos c3]), (by rw [hmi]; split <;> omega), (by rw [hmi]; split <;> omega), (by rw [hma]; split <;> omega), (by rw [hma]; split <;> omega)⟩
          · exact ⟨rfl, trivial⟩
        · -- no
          try simp only [Bool.and_eq_true, Bool.or_eq_true, Bool.not_eq_true', Bool.and_eq_false_iff, Bool.or_eq_false_iff, Bool.not_eq_false', decide_eq_true_eq, decide_eq_false_iff_not, not_or, Bool.false_eq_true, Bool.true_eq_false, false_or, or_false, not_false_eq_true] at c3
          refine W.skip ?_
          refine W.reg ?_
          refine Wx.rd (v := .int .i64 j) (rd_move rfl) rfl ?_
          refine Wx.rd (v := .int .i64 (j + 1)) (rd_add rfl rfl (in_i64 (by omega) (by omega))) rfl ?_
          refine Wx.rd (v := .int .i64 (j + 1)) (rd_assign rfl) rfl ?_
          refine Wx.nil ?_
          refine ⟨(j + 1, u, v), (by show (order.length - (j + 1)).toNat < (order.length - j).toNat; omega), ?_, ?_, Out.look rfl Out.self⟩
          · exact ⟨hS.tl, (by first | omega | assumption), (by first | omega | assumption), (by rw [← g2, drop_ix (d := 0) g0 c2, dateG, if_neg (by rw [c3]; decide)]), (by first | omega | assumption), (by first | omega | assumption), (by first | omega | assumption), (by first | omega | assumption)⟩
          · exact ⟨rfl, trivial⟩
      · -- no
        refine W.exit rfl ?_
        refine W.reg ?_
        refine Wx.rd (v := xv) (rd_move rfl) rfl ?_
        refine Wx.rd (v := .agg #[.int .i64 u, .int .i64 v]) (rd_loadXs (ds := [.int .i64 u, .int .i64 v]) hS 0 rfl rfl rfl rfl Try.isAgg61 Try.sizeOf61) rfl ?_
        refine Wx.lit (t := (tP (tI .i64) (tI .i64))) (ys := [(u, v)]) (vs := [.agg #[.int .i64 u, .int .i64 v]]) elRd_36 hS rfl rfl ⟨(V.mk2 (in_i64 (by omega) (by omega)) (in_i64 (by omega) (by omega))), trivial⟩ (by decide) rfl (fun v_33 w_34 hx_35 hS => ?_)
        refine Wx.append elRd_36 hS 2 rfl rfl rfl (Src.ofR hS 0 rfl) (by simp only [maxLen]; simp; omega) (by simp; omega) rfl (fun v_36 w_37 hz_38 hS => ?_)
        refine Wx.rd (v := v_36) (rd_assign rfl) rfl ?_
        refine Wx.nil ?_
        refine W.reg ?_
        refine Wx.rd (v := .int .i64 k) (rd_move rfl) rfl ?_
        refine Wx.rd (v := .int .i64 (k + 1)) (rd_add rfl rfl (in_i64 (by omega) (by omega))) rfl ?_
        refine Wx.rd (v := .int .i64 (k + 1)) (rd_assign rfl) rfl ?_
        refine Wx.nil ?_
        refine ⟨(k + 1, v_36, out ++ [(u, v)]), (by show (fs.length - (k + 1)).toNat < (fs.length - k).toNat; omega), ?_, ?_, Out.look rfl (Out.hav rfl (Out.look rfl Out.self))⟩
        · exact ⟨St.tl (hS.tl), (by first | omega | assumption), (by first | omega | assumption), (by rw [take_ix (d := []) h0 c1, h2, show (u, v) = dateG (ix [] fs k) 0 order (L, 0) by rw [← g2, drop_end (by omega)]; rfl]; simp)⟩
        · exact ⟨rfl, rfl, trivial⟩
    · -- no
      refine W.exit rfl ?_
      refine W.seq ?_
      refine W.reg ?_
      refine Wx.rd (v := xv) (rd_move rfl) rfl ?_
      refine Wx.rd (v := xv) (rd_assign rfl) rfl ?_
      refine Wx.rd (v := .int .i64 0) (rd_assign rfl) rfl ?_
      refine Wx.nil ?_
      have e1_0 : refDates L fs order = out := by rw [refDates, if_pos (by omega), h2, take_end (by omega)]
      have e1_1 : (orderedE L fs order) = (0 : Int) := by omega
      exact W.ret ⟨.tuple #[xv, .int .i64 0], ResIs.two, hS.bel, ⟨xv, (by rw [e1_1]), (by rw [e1_0]; exact (hS.fr 0 rfl flat_i2))⟩⟩
end Go.Proofs.Ytjmpojoimcljoaa
