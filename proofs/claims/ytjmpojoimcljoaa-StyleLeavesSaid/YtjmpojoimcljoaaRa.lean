/-
  WHAT IS PROVED HERE: what functions of layer 3 hand back, each out of its own code; the conditions stand in each statement.
-/
import Derived.Test.YtjmpojoimcljoaaProg
import Derived.Test.YtjmpojoimcljoaaWk5
import Derived.Test.YtjmpojoimcljoaaSpec4
import Derived.Test.YtjmpojoimcljoaaFa
namespace Go.Proofs.Ytjmpojoimcljoaa
open Go.Wk Go.RowKit
set_option linter.unusedVariables false
set_option linter.unusedSimpArgs false
theorem elRa_22 : ElemI Try.prog 22 28 ((.slice none 0 0)) 1 24 := ElemI.of Try.underlying22 (by kernel_rfl) (by first | rfl | kernel_rfl) (by decide)
theorem elRa_28 : ElemI Try.prog 28 3 (.int .i64 0) 1 8 := ElemI.of Try.underlying28 (by kernel_rfl) (by first | rfl | kernel_rfl) (by decide)
theorem foRa_27_0 : fldOff Try.prog 27 0 = some 0 := by kernel_rfl
theorem foRa_27_1 : fldOff Try.prog 27 1 = some 1 := by kernel_rfl

theorem F78 {fv : Value} {form : List Int} {Fr_fv : List (Option Nat)} {ov : Value} {order : List Int} {Fr_ov : List (Option Nat)} {w : World} (h_fv : V (tSl (tI .i64)) form fv Fr_fv w) (h_ov : V (tSl (tI .i64)) order ov Fr_ov w) : Calls Try.prog 78 #[fv, ov] w (Ret w (fun r _ => r = .int .i64 (runsL form order))) := by
  have a_fv := h_fv.any
  have l_fv := h_fv.len63
  have a_ov := h_ov.any
  have l_ov := h_ov.len63
  have hS := St.start0 w
  refine enterR Try.func78 rfl Try.ntmps78 Try.results78 rfl ?_
  refine W.seq ?_
  refine W.reg ?_
  refine Wx.rd (v := .int .i64 0) (rd_assign rfl) rfl ?_
  refine Wx.nil ?_
  refine W.seq ?_
  refine W.reg ?_
  refine Wx.rd (v := .int .i64 0) (rd_assign rfl) rfl ?_
  refine Wx.nil ?_
  refine W.seq ?_
  refine W.seq ?_
  refine W.reg ?_
  refine Wx.rd (v := .int .i64 0) (rd_assign rfl) rfl ?_
  refine Wx.nil ?_
  refine W.block ?_
  refine W.loop [5, 6, 7, 8, 9, 10, 11, 12, 13, 14, 15, 16, 17, 18, 19, 20, 21, 22, 23, 24, 25, 26, 27, 28, 29, 30, 31, 32, 33, 34] (fun x : Int × Int => match x with | (n, i) => [(5, .int .i64 n), (6, .int .i64 i)]) (fun (x : Int × Int) w' => match x with | (n, i) => St w [] w' [] ∧ 0 ≤ i ∧ i ≤ order.length ∧ n + runsG form (if i = 0 then false else hasL form (ix 0 order (i - 1))) (order.drop i.toNat) = runsL form order ∧ 0 ≤ n ∧ n ≤ i) (fun x : Int × Int => match x with | (n, i) => (order.length - i).toNat) (0, 0) ⟨rfl, rfl, trivial⟩ ⟨hS, (by first | omega | simp), (by first | omega | simp), (by simp [runsL]), (by first | omega | simp), (by first | omega | simp)⟩ ?_
  rintro ⟨n, i⟩ u_2 w_1 ⟨hS, h0, h1, h2, h3, h4⟩
  refine W.seq ?_
  refine W.seq ?_
  refine W.reg ?_
  refine Wx.rd (v := .int .i64 i) (rd_move rfl) rfl ?_
  refine Wx.rd (v := ov) (rd_move rfl) rfl ?_
  refine Wx.rd (v := .int .i64 (order.length : Int)) (rd_lenV rfl (hS.arg a_ov) Try.underlying28) rfl ?_
  refine Wx.rd (v := .bool (decide (i < (order.length : Int)))) (rd_lss rfl rfl) rfl ?_
  refine Wx.nil ?_
  refine W.condD rfl (fun c0 => ?_) (fun c0 => ?_)
  · -- yes
    refine W.skip ?_
    refine W.seq ?_
    refine W.block ?_
    refine W.seq ?_
    refine W.reg ?_
    refine Wx.rd (v := fv) (rd_move rfl) rfl ?_
    refine Wx.rd (v := ov) (rd_move rfl) rfl ?_
    refine Wx.rd (v := .int .i64 i) (rd_move rfl) rfl ?_
    refine Wx.ex (rd_index 0 (hS.arg a_ov) rfl rfl Try.underlying28 Try.sizeOf3 (by first | omega | (simp only [List.length_set, List.length_append, List.length_cons, List.length_nil, List.length_replicate]; omega)) (by first | omega | (simp only [List.length_set, List.length_append, List.length_cons, List.length_nil, List.length_replicate]; omega))) rfl (fun p_3 hp_4 => ?_)
    refine Wx.rd (v := .int .i64 (ix 0 order i)) (rd_loadI hp_4 rfl Try.isAgg3 Try.sizeOf3) rfl ?_
    have bd_5 := bd_i64 hp_4.inK
    refine Wx.callF (run_callF Try.call81 rfl) (F81 (hS.arg a_fv) (in_i64 (by omega) (by omega))) rfl ?_
    rintro r_6 w_7 hx_8 rfl
    have hS := hS.ext hx_8
    refine Wx.rd (v := .bool (hasL form (ix 0 order i))) (rd_move rfl) rfl ?_
    refine Wx.cut (X := Unit) 13 [20, 21, 22, 23, 24, 25, 26, 27, 28, 29, 30, 31, 32] (fun _ => [(32, .bool (hasL form (ix 0 order i) && (decide (i = 0) || !(hasL form (ix 0 order (i - 1))))))]) (fun _ w' => St w [] w' []) ?_ ?_
    · rcases Bool.eq_false_or_eq_true (hasL form (ix 0 order i)) with g_9 | g_9
      · -- True
        have gp_10 := g_9
        try simp only [Bool.and_eq_true, Bool.or_eq_true, Bool.not_eq_true', Bool.and_eq_false_iff, Bool.or_eq_false_iff, Bool.not_eq_false', decide_eq_true_eq, decide_eq_false_iff_not, not_or, Bool.false_eq_true, Bool.true_eq_false, false_or, or_false, not_false_eq_true] at gp_10
        refine Wx.gyes rfl rfl (congrArg Value.bool g_9) ?_
        refine Wx.rd (v := .int .i64 i) (rd_move rfl) rfl ?_
        refine Wx.gyes rfl rfl (congrArg Value.bool g_9) ?_
        refine Wx.rd (v := .bool (decide (i = 0))) (rd_eql rfl rfl) rfl ?_
        refine Wx.gyes rfl rfl (congrArg Value.bool g_9) ?_
        refine Wx.rd (v := .bool (decide (i = 0))) (rd_move rfl) rfl ?_
        refine Wx.cut (X := Unit) 9 [23, 24, 25, 26, 27, 28, 29, 30, 31] (fun _ => [(31, .bool (decide (i = 0) || !(hasL form (ix 0 order (i - 1)))))]) (fun _ w' => St w [] w' []) ?_ ?_
        · rcases Bool.eq_false_or_eq_true (decide (i = 0)) with g_11 | g_11
          · -- True
            have gp_12 := of_decide_eq_true g_11
            refine Wx.gnoB rfl rfl (congrArg Value.bool g_11) rfl rfl ?_
            refine Wx.gnoB rfl rfl (congrArg Value.bool g_11) rfl rfl ?_
            refine Wx.gnoB rfl rfl (congrArg Value.bool g_11) rfl rfl ?_
            refine Wx.gnoB rfl rfl (congrArg Value.bool g_11) rfl rfl ?_
            refine Wx.gnoB rfl rfl (congrArg Value.bool g_11) rfl rfl ?_
            refine Wx.gnoB rfl rfl (congrArg Value.bool g_11) rfl rfl ?_
            refine Wx.gnoB rfl rfl (congrArg Value.bool g_11) rfl rfl ?_
            refine Wx.gnoB rfl rfl (congrArg Value.bool g_11) rfl rfl ?_
            refine Wx.gyes rfl rfl (congrArg Value.bool g_9) ?_
            refine Wx.rd (v := .bool true) (rd_pickT (congrArg Value.bool g_11) rfl) rfl ?_
            refine Wx.nil ⟨(), hS, ⟨?_, trivial⟩, Out.look rfl Out.refl⟩
            show Value.bool true = Value.bool (decide (i = 0) || !(hasL form (ix 0 order (i - 1))))
            rw [g_11]; rfl
          · -- False
            have gp_13 := of_decide_eq_false g_11
            refine Wx.gyes rfl rfl (congrArg Value.bool g_11) ?_
            refine Wx.rd (v := fv) (rd_move rfl) rfl ?_
            refine Wx.gyes rfl rfl (congrArg Value.bool g_11) ?_
            refine Wx.rd (v := ov) (rd_move rfl) rfl ?_
            refine Wx.gyes rfl rfl (congrArg Value.bool g_11) ?_
            refine Wx.rd (v := .int .i64 i) (rd_move rfl) rfl ?_
            refine Wx.gyes rfl rfl (congrArg Value.bool g_11) ?_
            refine Wx.rd (v := .int .i64 (i - 1)) (rd_sub rfl rfl (in_i64 (by omega) (by omega))) rfl ?_
            refine Wx.gyes rfl rfl (congrArg Value.bool g_11) ?_
            refine Wx.ex (rd_index 0 (hS.arg a_ov) rfl rfl Try.underlying28 Try.sizeOf3 (by first | omega | (simp only [List.length_set, List.length_append, List.length_cons, List.length_nil, List.length_replicate]; omega)) (by first | omega | (simp only [List.length_set, List.length_append, List.length_cons, List.length_nil, List.length_replicate]; omega))) rfl (fun p_14 hp_15 => ?_)
            refine Wx.gyes rfl rfl (congrArg Value.bool g_11) ?_
            refine Wx.rd (v := .int .i64 (ix 0 order (i - 1))) (rd_loadI hp_15 rfl Try.isAgg3 Try.sizeOf3) rfl ?_
            have bd_16 := bd_i64 hp_15.inK
            refine Wx.gyes rfl rfl (congrArg Value.bool g_11) ?_
            refine Wx.callF (run_callF Try.call81 rfl) (F81 (hS.arg a_fv) (in_i64 (by omega) (by omega))) rfl ?_
            rintro r_17 w_18 hx_19 rfl
            have hS := hS.ext hx_19
            refine Wx.gyes rfl rfl (congrArg Value.bool g_11) ?_
            refine Wx.rd (v := .bool (!(hasL form (ix 0 order (i - 1))))) (rd_not rfl) rfl ?_
            refine Wx.gyes rfl rfl (congrArg Value.bool g_9) ?_
            refine Wx.rd (v := .bool (!(hasL form (ix 0 order (i - 1))))) (rd_pickF (congrArg Value.bool g_11) rfl) rfl ?_
            refine Wx.nil ⟨(), hS, ⟨?_, trivial⟩, Out.look rfl Out.refl⟩
            show Value.bool (!(hasL form (ix 0 order (i - 1)))) = Value.bool (decide (i = 0) || !(hasL form (ix 0 order (i - 1))))
            rw [g_11]; rfl
        rintro ⟨⟩ u_21 w_20 hS
        refine Wx.rd (v := .bool (decide (i = 0) || !(hasL form (ix 0 order (i - 1))))) (rd_pickT (congrArg Value.bool g_9) rfl) rfl ?_
        refine Wx.nil ⟨(), hS, ⟨?_, trivial⟩, Out.look rfl (Out.hav rfl (Out.look rfl Out.refl))⟩
        show Value.bool (decide (i = 0) || !(hasL form (ix 0 order (i - 1)))) = Value.bool (hasL form (ix 0 order i) && (decide (i = 0) || !(hasL form (ix 0 order (i - 1)))))
        rw [g_9]; rfl
      · -- False
        have gp_22 := g_9
        try simp only [Bool.and_eq_true, Bool.or_eq_true, Bool.not_eq_true', Bool.and_eq_false_iff, Bool.or_eq_false_iff, Bool.not_eq_false', decide_eq_true_eq, decide_eq_false_iff_not, not_or, Bool.false_eq_true, Bool.true_eq_false, false_or, or_false, not_false_eq_true] at gp_22
        refine Wx.gnoB rfl rfl (congrArg Value.bool g_9) rfl rfl ?_
        refine Wx.gnoB rfl rfl (congrArg Value.bool g_9) rfl rfl ?_
        refine Wx.gnoB rfl rfl (congrArg Value.bool g_9) rfl rfl ?_
        refine Wx.gno rfl rfl rfl rfl ?_
        refine Wx.gno rfl rfl rfl rfl ?_
        refine Wx.gno rfl rfl rfl rfl ?_
        refine Wx.gno rfl rfl rfl rfl ?_
        refine Wx.gno rfl rfl rfl rfl ?_
        refine Wx.gno rfl rfl rfl rfl ?_
        refine Wx.gno rfl rfl rfl rfl ?_
        refine Wx.gno rfl rfl rfl rfl ?_
        refine Wx.gnoB rfl rfl (congrArg Value.bool g_9) rfl rfl ?_
        refine Wx.rd (v := .bool false) (rd_pickF (congrArg Value.bool g_9) rfl) rfl ?_
        refine Wx.nil ⟨(), hS, ⟨?_, trivial⟩, Out.look rfl Out.refl⟩
        show Value.bool false = Value.bool (hasL form (ix 0 order i) && (decide (i = 0) || !(hasL form (ix 0 order (i - 1)))))
        rw [g_9]; rfl
    rintro ⟨⟩ u_24 w_23 hS
    refine Wx.nil ?_
    refine W.cond rfl (fun c1 => ?_) (fun c1 => ?_)
    · -- yes
      try simp only [Bool.and_eq_true, Bool.or_eq_true, Bool.not_eq_true', Bool.and_eq_false_iff, Bool.or_eq_false_iff, Bool.not_eq_false', decide_eq_true_eq, decide_eq_false_iff_not, not_or, Bool.false_eq_true, Bool.true_eq_false, false_or, or_false, not_false_eq_true] at c1
      refine W.reg ?_
      refine Wx.rd (v := .int .i64 n) (rd_move rfl) rfl ?_
      refine Wx.rd (v := .int .i64 (n + 1)) (rd_add rfl rfl (in_i64 (by omega) (by omega))) rfl ?_
      refine Wx.rd (v := .int .i64 (n + 1)) (rd_assign rfl) rfl ?_
      refine Wx.nil ?_
      refine W.reg ?_
      refine Wx.rd (v := .int .i64 i) (rd_move rfl) rfl ?_
      refine Wx.rd (v := .int .i64 (i + 1)) (rd_add rfl rfl (in_i64 (by omega) (by omega))) rfl ?_
      refine Wx.rd (v := .int .i64 (i + 1)) (rd_assign rfl) rfl ?_
      refine Wx.nil ?_
      have hh : hasL form (ix 0 order i) = true ∧ (if i = 0 then false else hasL form (ix 0 order (i - 1))) = false := ⟨c1.1, by split; rfl; rcases c1.2 with c | c; omega; exact c⟩
      refine ⟨(n + 1, i + 1), (by show (order.length - (i + 1)).toNat < (order.length - i).toNat; omega), ?_, ?_, Out.look rfl (Out.hav rfl (Out.look rfl Out.self))⟩
      · exact ⟨hS, (by first | omega | assumption), (by first | omega | assumption), (by rw [← h2, drop_ix (d := 0) h0 c0, runsG, if_neg (show ¬ (i + 1 = 0) by omega), show i + 1 - 1 = i by omega, if_pos hh]; omega), (by first | omega | assumption), (by first | omega | assumption)⟩
      · exact ⟨rfl, rfl, trivial⟩
    · -- no
      try simp only [Bool.and_eq_true, Bool.or_eq_true, Bool.not_eq_true', Bool.and_eq_false_iff, Bool.or_eq_false_iff, Bool.not_eq_false', decide_eq_true_eq, decide_eq_false_iff_not, not_or, Bool.false_eq_true, Bool.true_eq_false, false_or, or_false, not_false_eq_true] at c1
      refine W.skip ?_
      refine W.reg ?_
      refine Wx.rd (v := .int .i64 i) (rd_move rfl) rfl ?_
      refine Wx.rd (v := .int .i64 (i + 1)) (rd_add rfl rfl (in_i64 (by omega) (by omega))) rfl ?_
      refine Wx.rd (v := .int .i64 (i + 1)) (rd_assign rfl) rfl ?_
      refine Wx.nil ?_
      have hh : ¬ (hasL form (ix 0 order i) = true ∧ (if i = 0 then false else hasL form (ix 0 order (i - 1))) = false) := fun hh => by rcases c1 with c | c; rw [c] at hh; cases hh.1; rw [if_neg c.1, c.2] at hh; cases hh.2
      refine ⟨(n, i + 1), (by show (order.length - (i + 1)).toNat < (order.length - i).toNat; omega), ?_, ?_, Out.look rfl (Out.hav rfl (Out.look rfl Out.self))⟩
      · exact ⟨hS, (by first | omega | assumption), (by first | omega | assumption), (by rw [← h2, drop_ix (d := 0) h0 c0, runsG, if_neg (show ¬ (i + 1 = 0) by omega), show i + 1 - 1 = i by omega, if_neg hh]; omega), (by first | omega | assumption), (by first | omega | assumption)⟩
      · exact ⟨rfl, rfl, trivial⟩
  · -- no
    refine W.exit rfl ?_
    refine W.seq ?_
    refine W.reg ?_
    refine Wx.rd (v := .int .i64 n) (rd_move rfl) rfl ?_
    refine Wx.rd (v := .int .i64 n) (rd_assign rfl) rfl ?_
    refine Wx.nil ?_
    have e0_0 : (runsL form order) = (n : Int) := by rw [← h2, drop_end (by omega), runsG]; omega
    exact W.ret ⟨.int .i64 n, ResIs.one, hS.bel, (by rw [e0_0])⟩

theorem F75 {fv : Value} {fs : List (List Int)} {Fr_fv : List (Option Nat)} {ov : Value} {order : List Int} {Fr_ov : List (Option Nat)} {w : World} (h_fv : V (tSl (tSl (tI .i64))) fs fv Fr_fv w) (h_ov : V (tSl (tI .i64)) order ov Fr_ov w) : Calls Try.prog 75 #[fv, ov] w (Ret w (fun r _ => r = .bool (fitsL fs order))) := by
  have a_fv := h_fv.any
  have l_fv := h_fv.len63
  have a_ov := h_ov.any
  have l_ov := h_ov.len63
  have hS := St.start0 w
  refine enterR Try.func75 rfl Try.ntmps75 Try.results75 rfl ?_
  refine W.seq ?_
  refine W.reg ?_
  refine Wx.rd (v := .bool false) (rd_assign rfl) rfl ?_
  refine Wx.nil ?_
  refine W.seq ?_
  refine W.seq ?_
  refine W.reg ?_
  refine Wx.rd (v := .int .i64 0) (rd_assign rfl) rfl ?_
  refine Wx.nil ?_
  refine W.block ?_
  refine W.loop [4, 5, 6, 7, 8, 9, 10, 11, 12, 13, 14, 15, 16, 17, 18] (fun (k : Int) => [(5, .int .i64 k)]) (fun (k : Int) w' => St w [] w' [] ∧ 0 ≤ k ∧ k ≤ fs.length ∧ (fs.drop k.toNat).all (fun f => decide (runsL f order = 1)) = fitsL fs order) (fun (k : Int) => (fs.length - k).toNat) 0 ⟨rfl, trivial⟩ ⟨hS, (by first | omega | simp), (by first | omega | simp), (by simp [fitsL])⟩ ?_
  rintro k u_2 w_1 ⟨hS, h0, h1, h2⟩
  refine W.seq ?_
  refine W.seq ?_
  refine W.reg ?_
  refine Wx.rd (v := .int .i64 k) (rd_move rfl) rfl ?_
  refine Wx.rd (v := fv) (rd_move rfl) rfl ?_
  refine Wx.rd (v := .int .i64 (fs.length : Int)) (rd_lenV rfl (hS.arg a_fv) Try.underlying22) rfl ?_
  refine Wx.rd (v := .bool (decide (k < (fs.length : Int)))) (rd_lss rfl rfl) rfl ?_
  refine Wx.nil ?_
  refine W.condD rfl (fun c0 => ?_) (fun c0 => ?_)
  · -- yes
    refine W.skip ?_
    refine W.seq ?_
    refine W.block ?_
    refine W.seq ?_
    refine W.reg ?_
    refine Wx.rd (v := fv) (rd_move rfl) rfl ?_
    refine Wx.rd (v := .int .i64 k) (rd_move rfl) rfl ?_
    refine Wx.ex (rd_index [] (hS.arg a_fv) rfl rfl Try.underlying22 Try.sizeOf28 (by first | omega | (simp only [List.length_set, List.length_append, List.length_cons, List.length_nil, List.length_replicate]; omega)) (by first | omega | (simp only [List.length_set, List.length_append, List.length_cons, List.length_nil, List.length_replicate]; omega))) rfl (fun p_3 hp_4 => ?_)
    refine Wx.ex (rd_load hp_4 rfl Try.isAgg28 Try.sizeOf28) rfl (fun v_5 hv_6 => ?_)
    have ln_7 := hv_6.len63
    have hS := hS.add hv_6
    refine Wx.rd (v := ov) (rd_move rfl) rfl ?_
    refine Wx.callF (run_callF Try.call78 rfl) (F78 (hS.v 0 rfl) (hS.arg a_ov)) rfl ?_
    rintro r_9 w_10 hx_11 rfl
    have hS := hS.ext hx_11
    refine Wx.rd (v := .bool (decide ((runsL (ix [] fs k) order) ≠ 1))) (rd_neq rfl rfl) rfl ?_
    refine Wx.nil ?_
    refine W.condD rfl (fun c1 => ?_) (fun c1 => ?_)
    · -- yes
      refine W.seq ?_
      refine W.reg ?_
      refine Wx.rd (v := .bool false) (rd_assign rfl) rfl ?_
      refine Wx.nil ?_
      have e0_0 : (fitsL fs order) = false := by rw [← h2, drop_ix (d := []) h0 c0, List.all_cons, decide_eq_false (by omega), Bool.false_and]
      exact W.ret ⟨.bool false, ResIs.one, hS.bel, (by rw [e0_0])⟩
    · -- no
      refine W.skip ?_
      refine W.reg ?_
      refine Wx.rd (v := .int .i64 k) (rd_move rfl) rfl ?_
      refine Wx.rd (v := .int .i64 (k + 1)) (rd_add rfl rfl (in_i64 (by omega) (by omega))) rfl ?_
      refine Wx.rd (v := .int .i64 (k + 1)) (rd_assign rfl) rfl ?_
      refine Wx.nil ?_
      refine ⟨k + 1, (by show (fs.length - (k + 1)).toNat < (fs.length - k).toNat; omega), ?_, ?_, Out.look rfl Out.self⟩
      · exact ⟨hS.tl, (by first | omega | assumption), (by first | omega | assumption), (by rw [← h2, drop_ix (d := []) h0 c0, List.all_cons, decide_eq_true (by omega), Bool.true_and])⟩
      · exact ⟨rfl, trivial⟩
  · -- no
    refine W.exit rfl ?_
    refine W.seq ?_
    refine W.reg ?_
    refine Wx.rd (v := .bool true) (rd_assign rfl) rfl ?_
    refine Wx.nil ?_
    have e1_0 : (fitsL fs order) = true := by rw [← h2, drop_end (by omega)]; rfl
    exact W.ret ⟨.bool true, ResIs.one, hS.bel, (by rw [e1_0])⟩

theorem F91_rec : ∀ (fuel : Nat) {n : Int} {bv : Value} {begun : List Int} {O : List (Option Nat)} {w : World} (i_n : InK .i64 n) (h_bv : V (tSl (tI .i64)) begun bv O w) (p_0 : 0 ≤ n) (p_7 : n ≤ 7) (p_l : (begun.length : Int) ≤ n) (hO : ∀ b, some b ∈ O → b < w.heap.size) (hfuel : (n - begun.length).toNat < fuel), Calls Try.prog 91 #[.int .i64 n, bv] w (Ret w (fun r w' => ∃ rv, r = rv ∧ V (tSl (tSl (tI .i64))) (allG n (n - begun.length).toNat begun) rv O w')) := by
  intro fuel
  induction fuel with
  | zero => intros; omega
  | succ fuel IH =>
  intro n bv begun O w i_n h_bv p_0 p_7 p_l hO hfuel
  have b_n := bd_i64 i_n
  have a_bv := h_bv
  have l_bv := h_bv.len63
  have hS := St.start w O hO
  refine enterR Try.func91 rfl Try.ntmps91 Try.results91 rfl ?_
  refine W.seq ?_
  refine W.reg ?_
  refine Wx.rd (v := (.slice none 0 0)) (rd_assign rfl) rfl ?_
  refine Wx.nil ?_
  refine W.seq ?_
  refine W.seq ?_
  refine W.reg ?_
  refine Wx.rd (v := bv) (rd_move rfl) rfl ?_
  refine Wx.rd (v := .int .i64 (begun.length : Int)) (rd_lenV rfl (hS.arg a_bv) Try.underlying28) rfl ?_
  refine Wx.rd (v := .int .i64 n) (rd_move rfl) rfl ?_
  refine Wx.rd (v := .bool (decide ((begun.length : Int) = n))) (rd_eql rfl rfl) rfl ?_
  refine Wx.nil ?_
  refine W.condD rfl (fun c0 => ?_) (fun c0 => ?_)
  · -- yes
    refine W.seq ?_
    refine W.reg ?_
    refine Wx.rd (v := bv) (rd_move rfl) rfl ?_
    refine Wx.lit (t := (tSl (tI .i64))) (ys := [begun]) (vs := [bv]) elRa_22 hS rfl rfl ⟨(hS.arg a_bv), trivial⟩ (by decide) rfl (fun v_1 w_2 hx_3 hS => ?_)
    refine Wx.rd (v := v_1) (rd_assign rfl) rfl ?_
    refine Wx.nil ?_
    have e0_0 : allG n (n - begun.length).toNat begun = [begun] := by rw [show (n - begun.length).toNat = 0 by omega]; rfl
    exact W.ret ⟨v_1, ResIs.one, hS.bel, ⟨v_1, rfl, (by rw [e0_0]; exact ((hS.lend 0 rfl).mv (.less (fun _ h => List.mem_append.2 (.inr h)))))⟩⟩
  · -- no
    obtain ⟨m, hm⟩ : ∃ m : Nat, (n - begun.length).toNat = m + 1 := ⟨(n - begun.length).toNat - 1, by omega⟩
    refine W.skip ?_
    refine W.seq ?_
    refine W.reg ?_
    refine Wx.rd (v := (.slice none 0 0)) (rd_assign rfl) rfl ?_
    refine Wx.nil ?_
    refine W.seq ?_
    refine W.seq ?_
    refine W.reg ?_
    refine Wx.rd (v := .int .i64 0) (rd_assign rfl) rfl ?_
    refine Wx.nil ?_
    refine W.block ?_
    have hS := hS.addNil (tSl (tI .i64)) 28
    refine W.loop [5, 6, 13, 14, 15, 16, 17, 18, 19, 20, 21, 22, 23, 24, 25, 26, 27, 28, 29, 30, 31] (fun x : Int × Value × (List (List Int)) => match x with | (x, xv, out) => [(6, .int .i64 x), (5, xv)]) (fun (x : Int × Value × (List (List Int))) w' => match x with | (x, xv, out) => St w O w' [.row (tSl (tI .i64)) 28 xv out] ∧ 0 ≤ x ∧ x ≤ n ∧ out ++ allX n (allG n m) begun (n - x).toNat = allG n (m + 1) begun) (fun x : Int × Value × (List (List Int)) => match x with | (x, xv, out) => (n - x).toNat) (0, (.slice none 0 0), []) ⟨rfl, rfl, trivial⟩ ⟨hS, (by first | omega | simp), (by first | omega | simp), (by rw [List.nil_append, allG, Int.sub_zero])⟩ ?_
    rintro ⟨x, xv, out⟩ u_5 w_4 ⟨hS, h0, h1, h2⟩
    refine W.seq ?_
    refine W.seq ?_
    refine W.reg ?_
    refine Wx.rd (v := .int .i64 x) (rd_move rfl) rfl ?_
    refine Wx.rd (v := .int .i64 n) (rd_move rfl) rfl ?_
    refine Wx.rd (v := .bool (decide (x < n))) (rd_lss rfl rfl) rfl ?_
    refine Wx.nil ?_
    refine W.condD rfl (fun c1 => ?_) (fun c1 => ?_)
    · -- yes
      refine W.skip ?_
      refine W.seq ?_
      refine W.block ?_
      refine W.seq ?_
      refine W.reg ?_
      refine Wx.rd (v := bv) (rd_move rfl) rfl ?_
      refine Wx.rd (v := .int .i64 x) (rd_move rfl) rfl ?_
      refine Wx.callF (run_callF Try.call81 rfl) (F81 (hS.arg a_bv) (in_i64 (by omega) (by omega))) rfl ?_
      rintro r_6 w_7 hx_8 rfl
      have hS := hS.ext hx_8
      refine Wx.rd (v := .bool (!(hasL begun x))) (rd_not rfl) rfl ?_
      refine Wx.nil ?_
      refine W.cond rfl (fun c2 => ?_) (fun c2 => ?_)
      · -- yes
        try simp only [Bool.and_eq_true, Bool.or_eq_true, Bool.not_eq_true', Bool.and_eq_false_iff, Bool.or_eq_false_iff, Bool.not_eq_false', decide_eq_true_eq, decide_eq_false_iff_not, not_or, Bool.false_eq_true, Bool.true_eq_false, false_or, or_false, not_false_eq_true] at c2
        refine W.reg ?_
        refine Wx.rd (v := xv) (rd_move rfl) rfl ?_
        refine Wx.rd (v := .int .i64 n) (rd_move rfl) rfl ?_
        refine Wx.lit (t := (tI .i64)) (ys := []) (vs := []) elRa_28 hS rfl rfl trivial (by decide) rfl (fun v_9 w_10 hx_11 hS => ?_)
        refine Wx.rd (v := bv) (rd_move rfl) rfl ?_
        refine Wx.append elRa_28 hS 0 rfl rfl rfl (Src.ofV (hS.arg a_bv)) (by simp only [maxLen]; simp; omega) (by simp; omega) rfl (fun v_12 w_13 hz_14 hS => ?_)
        refine Wx.rd (v := .int .i64 x) (rd_move rfl) rfl ?_
        refine Wx.lit (t := (tI .i64)) (ys := [x]) (vs := [.int .i64 x]) elRa_28 hS rfl rfl ⟨(V.mkInt (in_i64 (by omega) (by omega))), trivial⟩ (by decide) rfl (fun v_15 w_16 hx_17 hS => ?_)
        refine Wx.append elRa_28 hS 1 rfl rfl rfl (Src.ofR hS 0 rfl) (by simp only [maxLen]; simp; omega) (by simp; omega) rfl (fun v_18 w_19 hz_20 hS => ?_)
        have hS := hS.freeze 1 rfl
        refine Wx.callF (run_callF Try.call91 rfl) (IH (in_i64 (by omega) (by omega)) (hS.v 0 rfl) (by omega) (by omega) (by simp; omega) hS.fb_lt (by simp; omega)) rfl ?_
        rintro r_22 w_23 hx_24 ⟨_, rfl, hv_25⟩
        have ln_27 := hv_25.len63
        have hS := hS.ext hx_24
        have hS := hS.add hv_25
        have hl1 := allG_len' n p_7 (m := (n - ([] ++ begun ++ [x]).length).toNat) (by simp; omega) ([] ++ begun ++ [x])
        have hl2 := congrArg List.length h2
        rw [List.length_append] at hl2
        have hl3 := allG_len' n p_7 (m := m + 1) (by omega) begun
        refine Wx.append elRa_22 hS 3 rfl rfl rfl (Src.ofV (hS.v 0 rfl)) (by simp only [maxLen]; omega) (by omega) rfl (fun v_28 w_29 hz_30 hS => ?_)
        refine Wx.rd (v := v_28) (rd_assign rfl) rfl ?_
        refine Wx.nil ?_
        refine W.reg ?_
        refine Wx.rd (v := .int .i64 x) (rd_move rfl) rfl ?_
        refine Wx.rd (v := .int .i64 (x + 1)) (rd_add rfl rfl (in_i64 (by omega) (by omega))) rfl ?_
        refine Wx.rd (v := .int .i64 (x + 1)) (rd_assign rfl) rfl ?_
        refine Wx.nil ?_
        refine ⟨(x + 1, v_28, out ++ (allG n (n - ([] ++ begun ++ [x]).length).toNat ([] ++ begun ++ [x]))), (by show (n - (x + 1)).toNat < (n - x).toNat; omega), ?_, ?_, Out.look rfl Out.self⟩
        · exact ⟨St.tl (St.tl (hS.tl)), (by first | omega | assumption), (by first | omega | assumption), (by rw [← h2, show (n - x).toNat = (n - (x + 1)).toNat + 1 by omega, allX, show n - (((n - (x + 1)).toNat : Nat) + 1 : Int) = x by omega, if_neg (by simp [c2]), show (n - ((([] ++ begun ++ [x] : List Int).length : Nat) : Int)).toNat = m by simp; omega, List.nil_append, List.append_assoc])⟩
        · exact ⟨rfl, rfl, trivial⟩
      · -- no
        try simp only [Bool.and_eq_true, Bool.or_eq_true, Bool.not_eq_true', Bool.and_eq_false_iff, Bool.or_eq_false_iff, Bool.not_eq_false', decide_eq_true_eq, decide_eq_false_iff_not, not_or, Bool.false_eq_true, Bool.true_eq_false, false_or, or_false, not_false_eq_true] at c2
        refine W.skip ?_
        refine W.reg ?_
        refine Wx.rd (v := .int .i64 x) (rd_move rfl) rfl ?_
        refine Wx.rd (v := .int .i64 (x + 1)) (rd_add rfl rfl (in_i64 (by omega) (by omega))) rfl ?_
        refine Wx.rd (v := .int .i64 (x + 1)) (rd_assign rfl) rfl ?_
        refine Wx.nil ?_
        refine ⟨(x + 1, xv, out), (by show (n - (x + 1)).toNat < (n - x).toNat; omega), ?_, ?_, Out.look rfl Out.self⟩
        · exact ⟨hS, (by first | omega | assumption), (by first | omega | assumption), (by rw [← h2, show (n - x).toNat = (n - (x + 1)).toNat + 1 by omega, allX, show n - (((n - (x + 1)).toNat : Nat) + 1 : Int) = x by omega, if_pos c2, List.nil_append])⟩
        · exact ⟨rfl, rfl, trivial⟩
    · -- no
      refine W.exit rfl ?_
      refine W.seq ?_
      refine W.reg ?_
      refine Wx.rd (v := xv) (rd_move rfl) rfl ?_
      refine Wx.rd (v := xv) (rd_assign rfl) rfl ?_
      refine Wx.nil ?_
      have e1_0 : allG n (n - begun.length).toNat begun = out := by rw [hm, ← h2, show (n - x).toNat = 0 by omega, allX, List.append_nil]
      exact W.ret ⟨xv, ResIs.one, hS.bel, ⟨xv, rfl, (by rw [e1_0]; exact ((hS.lend 0 rfl).mv (.less (fun _ h => List.mem_append.2 (.inr h)))))⟩⟩
theorem F91 {n : Int} {bv : Value} {begun : List Int} {O : List (Option Nat)} {w : World} (i_n : InK .i64 n) (h_bv : V (tSl (tI .i64)) begun bv O w) (p_0 : 0 ≤ n) (p_7 : n ≤ 7) (p_l : (begun.length : Int) ≤ n) (hO : ∀ b, some b ∈ O → b < w.heap.size) : Calls Try.prog 91 #[.int .i64 n, bv] w (Ret w (fun r w' => ∃ rv, r = rv ∧ V (tSl (tSl (tI .i64))) (allG n (n - begun.length).toNat begun) rv O w')) := F91_rec _ i_n h_bv p_0 p_7 p_l hO (Nat.lt_succ_self _)

theorem F64 {n : Int} {fv : Value} {fs : List (List Int)} {O : List (Option Nat)} {w : World} (i_n : InK .i64 n) (h_fv : V (tSl (tSl (tI .i64))) fs fv O w) (p_0 : 0 ≤ n) (p_7 : n ≤ 7) (hO : ∀ b, some b ∈ O → b < w.heap.size) : Calls Try.prog 64 #[.int .i64 n, fv] w (Ret w (fun r w' => ∃ rv, r = rv ∧ V (tSl (tSl (tI .i64))) (fitL n fs) rv O w')) := by
  have b_n := bd_i64 i_n
  have ha : allG n (n - ([] : List Int).length).toNat ([] : List Int) = allL n := by simp [allL]
  have hal := allG_len' n p_7 (m := (n - ([] : List Int).length).toNat) (by simp; omega) ([] : List Int)
  have a_fv := h_fv
  have l_fv := h_fv.len63
  have hS := St.start w O hO
  refine enterR Try.func64 rfl Try.ntmps64 Try.results64 rfl ?_
  refine W.seq ?_
  refine W.reg ?_
  refine Wx.rd (v := (.slice none 0 0)) (rd_assign rfl) rfl ?_
  refine Wx.nil ?_
  refine W.seq ?_
  refine W.reg ?_
  refine Wx.rd (v := (.slice none 0 0)) (rd_assign rfl) rfl ?_
  refine Wx.nil ?_
  refine W.seq ?_
  refine W.reg ?_
  refine Wx.rd (v := .int .i64 n) (rd_move rfl) rfl ?_
  refine Wx.callF (run_callF Try.call91 rfl) (F91 (in_i64 (by omega) (by omega)) (V.nil (t := (tI .i64))) (by omega) (by omega) (by simp; omega) hS.fb_lt) rfl ?_
  rintro r_1 w_2 hx_3 ⟨_, rfl, hv_4⟩
  have ln_6 := hv_4.len63
  have hS := hS.ext hx_3
  have hS := hS.add hv_4
  refine Wx.rd (v := r_1) (rd_assign rfl) rfl ?_
  refine Wx.nil ?_
  refine W.seq ?_
  refine W.seq ?_
  refine W.reg ?_
  refine Wx.rd (v := .int .i64 0) (rd_assign rfl) rfl ?_
  refine Wx.nil ?_
  refine W.block ?_
  have hS := hS.addNil (tSl (tI .i64)) 28
  refine W.loop [5, 7, 10, 11, 12, 13, 14, 15, 16, 17, 18, 19, 20, 21, 22, 23, 24, 25, 26, 27, 28] (fun x : Int × Value × (List (List Int)) => match x with | (k, xv, out) => [(7, .int .i64 k), (5, xv)]) (fun (x : Int × Value × (List (List Int))) w' => match x with | (k, xv, out) => St w O w' [.row (tSl (tI .i64)) 28 xv out, Ob.v (tSl (tSl (tI .i64))) (allG n (n - ([] : List Int).length).toNat ([] : List Int)) r_1] ∧ 0 ≤ k ∧ k ≤ (allG n (n - ([] : List Int).length).toNat ([] : List Int)).length ∧ out = ((allG n (n - ([] : List Int).length).toNat ([] : List Int)).take k.toNat).filter (fitsL fs)) (fun x : Int × Value × (List (List Int)) => match x with | (k, xv, out) => ((allG n (n - ([] : List Int).length).toNat ([] : List Int)).length - k).toNat) (0, (.slice none 0 0), []) ⟨rfl, rfl, trivial⟩ ⟨hS, (by first | omega | simp), (by first | omega | simp), (by simp)⟩ ?_
  rintro ⟨k, xv, out⟩ u_8 w_7 ⟨hS, h0, h1, h2⟩
  have hln : out.length ≤ 823543 := by rw [h2]; exact Nat.le_trans (List.length_filter_le _ _) (Nat.le_trans (List.length_take_le' _ _) hal)
  refine W.seq ?_
  refine W.seq ?_
  refine W.reg ?_
  refine Wx.rd (v := .int .i64 k) (rd_move rfl) rfl ?_
  refine Wx.rd (v := r_1) (rd_move rfl) rfl ?_
  refine Wx.rd (v := .int .i64 ((allG n (n - ([] : List Int).length).toNat ([] : List Int)).length : Int)) (rd_lenV rfl (hS.v 1 rfl) Try.underlying22) rfl ?_
  refine Wx.rd (v := .bool (decide (k < ((allG n (n - ([] : List Int).length).toNat ([] : List Int)).length : Int)))) (rd_lss rfl rfl) rfl ?_
  refine Wx.nil ?_
  refine W.condD rfl (fun c0 => ?_) (fun c0 => ?_)
  · -- yes
    refine W.skip ?_
    refine W.seq ?_
    refine W.block ?_
    refine W.seq ?_
    refine W.reg ?_
    refine Wx.rd (v := fv) (rd_move rfl) rfl ?_
    refine Wx.rd (v := r_1) (rd_move rfl) rfl ?_
    refine Wx.rd (v := .int .i64 k) (rd_move rfl) rfl ?_
    refine Wx.ex (rd_index [] (hS.v 1 rfl) rfl rfl Try.underlying22 Try.sizeOf28 (by first | omega | (simp only [List.length_set, List.length_append, List.length_cons, List.length_nil, List.length_replicate]; omega)) (by first | omega | (simp only [List.length_set, List.length_append, List.length_cons, List.length_nil, List.length_replicate]; omega))) rfl (fun p_9 hp_10 => ?_)
    refine Wx.ex (rd_load hp_10 rfl Try.isAgg28 Try.sizeOf28) rfl (fun v_11 hv_12 => ?_)
    have ln_13 := hv_12.len63
    have hS := hS.add hv_12
    refine Wx.callF (run_callF Try.call75 rfl) (F75 (hS.arg a_fv) (hS.v 0 rfl)) rfl ?_
    rintro r_15 w_16 hx_17 rfl
    have hS := hS.ext hx_17
    refine Wx.nil ?_
    refine W.cond rfl (fun c1 => ?_) (fun c1 => ?_)
    · -- yes
      try simp only [Bool.and_eq_true, Bool.or_eq_true, Bool.not_eq_true', Bool.and_eq_false_iff, Bool.or_eq_false_iff, Bool.not_eq_false', decide_eq_true_eq, decide_eq_false_iff_not, not_or, Bool.false_eq_true, Bool.true_eq_false, false_or, or_false, not_false_eq_true] at c1
      refine W.reg ?_
      refine Wx.rd (v := xv) (rd_move rfl) rfl ?_
      refine Wx.rd (v := r_1) (rd_move rfl) rfl ?_
      refine Wx.rd (v := .int .i64 k) (rd_move rfl) rfl ?_
      refine Wx.ex (rd_index [] (hS.v 2 rfl) rfl rfl Try.underlying22 Try.sizeOf28 (by first | omega | (simp only [List.length_set, List.length_append, List.length_cons, List.length_nil, List.length_replicate]; omega)) (by first | omega | (simp only [List.length_set, List.length_append, List.length_cons, List.length_nil, List.length_replicate]; omega))) rfl (fun p_18 hp_19 => ?_)
      refine Wx.ex (rd_load hp_19 rfl Try.isAgg28 Try.sizeOf28) rfl (fun v_20 hv_21 => ?_)
      have ln_22 := hv_21.len63
      have hS := hS.add hv_21
      refine Wx.lit (t := (tSl (tI .i64))) (ys := [ix [] (allG n (n - ([] : List Int).length).toNat ([] : List Int)) k]) (vs := [v_20]) elRa_22 hS rfl rfl ⟨(hS.v 0 rfl), trivial⟩ (by decide) rfl (fun v_24 w_25 hx_26 hS => ?_)
      refine Wx.append elRa_22 hS 3 rfl rfl rfl (Src.ofR hS 0 rfl) (by simp only [maxLen]; simp; omega) (by simp; omega) rfl (fun v_27 w_28 hz_29 hS => ?_)
      refine Wx.rd (v := v_27) (rd_assign rfl) rfl ?_
      refine Wx.nil ?_
      refine W.reg ?_
      refine Wx.rd (v := .int .i64 k) (rd_move rfl) rfl ?_
      refine Wx.rd (v := .int .i64 (k + 1)) (rd_add rfl rfl (in_i64 (by omega) (by omega))) rfl ?_
      refine Wx.rd (v := .int .i64 (k + 1)) (rd_assign rfl) rfl ?_
      refine Wx.nil ?_
      refine ⟨(k + 1, v_27, out ++ [ix [] (allG n (n - ([] : List Int).length).toNat ([] : List Int)) k]), (by show ((allG n (n - ([] : List Int).length).toNat ([] : List Int)).length - (k + 1)).toNat < ((allG n (n - ([] : List Int).length).toNat ([] : List Int)).length - k).toNat; omega), ?_, ?_, Out.look rfl Out.self⟩
      · exact ⟨St.tl (St.tl (hS.tl)), (by first | omega | assumption), (by first | omega | assumption), (by rw [take_ix (d := []) h0 c0, List.filter_append, ← h2, List.filter_cons_of_pos c1]; rfl)⟩
      · exact ⟨rfl, rfl, trivial⟩
    · -- no
      try simp only [Bool.and_eq_true, Bool.or_eq_true, Bool.not_eq_true', Bool.and_eq_false_iff, Bool.or_eq_false_iff, Bool.not_eq_false', decide_eq_true_eq, decide_eq_false_iff_not, not_or, Bool.false_eq_true, Bool.true_eq_false, false_or, or_false, not_false_eq_true] at c1
      refine W.skip ?_
      refine W.reg ?_
      refine Wx.rd (v := .int .i64 k) (rd_move rfl) rfl ?_
      refine Wx.rd (v := .int .i64 (k + 1)) (rd_add rfl rfl (in_i64 (by omega) (by omega))) rfl ?_
      refine Wx.rd (v := .int .i64 (k + 1)) (rd_assign rfl) rfl ?_
      refine Wx.nil ?_
      refine ⟨(k + 1, xv, out), (by show ((allG n (n - ([] : List Int).length).toNat ([] : List Int)).length - (k + 1)).toNat < ((allG n (n - ([] : List Int).length).toNat ([] : List Int)).length - k).toNat; omega), ?_, ?_, Out.look rfl Out.self⟩
      · exact ⟨hS.tl, (by first | omega | assumption), (by first | omega | assumption), (by rw [take_ix (d := []) h0 c0, List.filter_append, ← h2, List.filter_cons_of_neg (by rw [c1]; decide), List.filter_nil, List.append_nil])⟩
      · exact ⟨rfl, rfl, trivial⟩
  · -- no
    refine W.exit rfl ?_
    refine W.seq ?_
    refine W.reg ?_
    refine Wx.rd (v := xv) (rd_move rfl) rfl ?_
    refine Wx.rd (v := xv) (rd_assign rfl) rfl ?_
    refine Wx.nil ?_
    have e0_0 : fitL n fs = out := by rw [h2, take_end (by omega), ha]; rfl
    exact W.ret ⟨xv, ResIs.one, hS.bel, ⟨xv, rfl, (by rw [e0_0]; exact ((hS.lend 0 rfl).mv (.less (fun _ h => List.mem_append.2 (.inr h)))))⟩⟩

theorem F17 {L : Int} {fv : Value} {fs : List (List Int)} {O : List (Option Nat)} {w : World} (i_L : InK .i64 L) (h_fv : V (tSl (tSl (tI .i64))) fs fv O w) (hO : ∀ b, some b ∈ O → b < w.heap.size) : Calls Try.prog 17 #[.agg #[.int .i64 L, fv]] w (Ret w (fun r w' => ∃ rv, r = .tuple #[rv, .int .i64 ((refFirst L fs).2)] ∧ V (tSl (tI .i64)) ((refFirst L fs).1) rv O w')) := by
  have b_L := bd_i64 i_L
  have a_fv := h_fv
  have l_fv := h_fv.len63
  have hS := St.start w O hO
  refine enterR Try.func17 rfl Try.ntmps17 Try.results17 rfl ?_
  refine W.seq ?_
  refine W.reg ?_
  refine Wx.box (cs := [.int .i64 L, fv]) hS rfl rfl rfl (fun g_1 w_2 hx_4 hb_3 hS => ?_)
  refine Wx.rd (v := (.slice none 0 0)) (rd_assign rfl) rfl ?_
  refine Wx.rd (v := .int .i64 0) (rd_assign rfl) rfl ?_
  refine Wx.nil ?_
  refine W.seq ?_
  refine W.reg ?_
  refine Wx.rd (v := .agg #[.int .i64 L, fv]) (rd_loadXs (ds := [.int .i64 L, fv]) hS 0 rfl rfl rfl rfl Try.isAgg27 Try.sizeOf27) rfl ?_
  refine Wx.callF (run_callF Try.call37 rfl) (F37 (in_i64 (by omega) (by omega)) (hS.arg a_fv)) rfl ?_
  rintro r_5 w_6 hx_7 rfl
  have hS := hS.ext hx_7
  refine Wx.rd (v := .int .i64 (checkE L fs)) (rd_assign rfl) rfl ?_
  refine Wx.nil ?_
  refine W.seq ?_
  refine W.seq ?_
  refine W.reg ?_
  refine Wx.rd (v := .int .i64 (checkE L fs)) (rd_move rfl) rfl ?_
  refine Wx.rd (v := .bool (decide ((checkE L fs) ≠ 0))) (rd_neq rfl rfl) rfl ?_
  refine Wx.nil ?_
  refine W.condD rfl (fun c0 => ?_) (fun c0 => ?_)
  · -- yes
    refine W.seq ?_
    refine W.reg ?_
    refine Wx.rd (v := .int .i64 (checkE L fs)) (rd_move rfl) rfl ?_
    refine Wx.rd (v := (.slice none 0 0)) (rd_assign rfl) rfl ?_
    refine Wx.rd (v := .int .i64 (checkE L fs)) (rd_assign rfl) rfl ?_
    refine Wx.nil ?_
    have hr : refFirst L fs = ([], checkE L fs) := by rw [refFirst, if_pos (by omega)]
    have e0_0 : (refFirst L fs).1 = [] := by rw [hr]
    have e0_1 : ((refFirst L fs).2) = (checkE L fs : Int) := by rw [hr]
    exact W.ret ⟨.tuple #[(.slice none 0 0), .int .i64 (checkE L fs)], ResIs.two, hS.bel, ⟨(.slice none 0 0), (by rw [e0_1]), (by rw [e0_0]; exact (V.nil (t := (tI .i64))))⟩⟩
  · -- no
    have hk := check_ok (L := L) (fs := fs) (by omega)
    have hfl := fitL_len L fs hk.2.1
    refine W.skip ?_
    refine W.seq ?_
    refine W.reg ?_
    refine Wx.rd (v := .pointer (some ⟨g_1, 0, none⟩)) (rd_fieldAddr rfl foRa_27_0) rfl ?_
    refine Wx.rd (v := .int .i64 L) (rd_loadX hS 0 rfl rfl rfl Try.isAgg3) rfl ?_
    refine Wx.rd (v := .pointer (some ⟨g_1, 1, none⟩)) (rd_fieldAddr rfl foRa_27_1) rfl ?_
    refine Wx.rd (v := fv) (rd_loadX hS 0 rfl rfl rfl Try.isAgg22) rfl ?_
    refine Wx.callF (run_callF Try.call64 rfl) (F64 (in_i64 (by omega) (by omega)) (hS.arg a_fv) (by omega) (by omega) hS.fb_lt) rfl ?_
    rintro r_8 w_9 hx_10 ⟨_, rfl, hv_11⟩
    have ln_13 := hv_11.len63
    have hS := hS.ext hx_10
    have hS := hS.add hv_11
    refine Wx.rd (v := r_8) (rd_assign rfl) rfl ?_
    refine Wx.nil ?_
    refine W.seq ?_
    refine W.seq ?_
    refine W.reg ?_
    refine Wx.rd (v := r_8) (rd_move rfl) rfl ?_
    refine Wx.rd (v := .int .i64 ((fitL L fs).length : Int)) (rd_lenV rfl (hS.v 0 rfl) Try.underlying22) rfl ?_
    refine Wx.rd (v := .bool (decide (((fitL L fs).length : Int) = 0))) (rd_eql rfl rfl) rfl ?_
    refine Wx.nil ?_
    refine W.condD rfl (fun c1 => ?_) (fun c1 => ?_)
    · -- yes
      refine W.seq ?_
      refine W.reg ?_
      refine Wx.rd (v := (.slice none 0 0)) (rd_assign rfl) rfl ?_
      refine Wx.rd (v := .int .i64 12) (rd_assign rfl) rfl ?_
      refine Wx.nil ?_
      have hr : refFirst L fs = ([], 12) := by rw [refFirst, if_neg (by omega), if_pos (by omega)]
      have e1_0 : (refFirst L fs).1 = [] := by rw [hr]
      have e1_1 : ((refFirst L fs).2) = (12 : Int) := by rw [hr]
      exact W.ret ⟨.tuple #[(.slice none 0 0), .int .i64 12], ResIs.two, hS.bel, ⟨(.slice none 0 0), (by rw [e1_1]), (by rw [e1_0]; exact (V.nil (t := (tI .i64))))⟩⟩
    · -- no
      refine W.skip ?_
      refine W.seq ?_
      refine W.reg ?_
      refine Wx.rd (v := r_8) (rd_move rfl) rfl ?_
      refine Wx.ex (rd_index [] (hS.v 0 rfl) rfl rfl Try.underlying22 Try.sizeOf28 (by first | omega | (simp only [List.length_set, List.length_append, List.length_cons, List.length_nil, List.length_replicate]; omega)) (by first | omega | (simp only [List.length_set, List.length_append, List.length_cons, List.length_nil, List.length_replicate]; omega))) rfl (fun p_14 hp_15 => ?_)
      refine Wx.ex (rd_load hp_15 rfl Try.isAgg28 Try.sizeOf28) rfl (fun v_16 hv_17 => ?_)
      have ln_18 := hv_17.len63
      have hS := hS.add hv_17
      refine Wx.rd (v := v_16) (rd_assign rfl) rfl ?_
      refine Wx.rd (v := .int .i64 0) (rd_assign rfl) rfl ?_
      refine Wx.nil ?_
      have hr : refFirst L fs = (ix [] (fitL L fs) 0, 0) := by rw [refFirst, if_neg (by omega), if_neg (by omega)]
      have e2_0 : (refFirst L fs).1 = ix [] (fitL L fs) 0 := by rw [hr]
      have e2_1 : ((refFirst L fs).2) = (0 : Int) := by rw [hr]
      exact W.ret ⟨.tuple #[v_16, .int .i64 0], ResIs.two, hS.bel, ⟨v_16, (by rw [e2_1]), (by rw [e2_0]; exact (V.mv (hS.v 0 rfl) (.less (fun _ h => List.mem_append.2 (.inr h)))))⟩⟩

theorem F19 {L : Int} {fv : Value} {fs : List (List Int)} {Fr_fv : List (Option Nat)} {w : World} (i_L : InK .i64 L) (h_fv : V (tSl (tSl (tI .i64))) fs fv Fr_fv w) : Calls Try.prog 19 #[.agg #[.int .i64 L, fv]] w (Ret w (fun r _ => r = .tuple #[.int .i64 (refCount L fs), .int .i64 (checkE L fs)])) := by
  have b_L := bd_i64 i_L
  have a_fv := h_fv.any
  have l_fv := h_fv.len63
  have hS := St.start0 w
  refine enterR Try.func19 rfl Try.ntmps19 Try.results19 rfl ?_
  refine W.seq ?_
  refine W.reg ?_
  refine Wx.box (cs := [.int .i64 L, fv]) hS rfl rfl rfl (fun g_1 w_2 hx_4 hb_3 hS => ?_)
  refine Wx.rd (v := .int .i64 0) (rd_assign rfl) rfl ?_
  refine Wx.rd (v := .int .i64 0) (rd_assign rfl) rfl ?_
  refine Wx.nil ?_
  refine W.seq ?_
  refine W.reg ?_
  refine Wx.rd (v := .agg #[.int .i64 L, fv]) (rd_loadXs (ds := [.int .i64 L, fv]) hS 0 rfl rfl rfl rfl Try.isAgg27 Try.sizeOf27) rfl ?_
  refine Wx.callF (run_callF Try.call37 rfl) (F37 (in_i64 (by omega) (by omega)) (hS.arg a_fv)) rfl ?_
  rintro r_5 w_6 hx_7 rfl
  have hS := hS.ext hx_7
  refine Wx.rd (v := .int .i64 (checkE L fs)) (rd_assign rfl) rfl ?_
  refine Wx.nil ?_
  refine W.seq ?_
  refine W.seq ?_
  refine W.reg ?_
  refine Wx.rd (v := .int .i64 (checkE L fs)) (rd_move rfl) rfl ?_
  refine Wx.rd (v := .bool (decide ((checkE L fs) ≠ 0))) (rd_neq rfl rfl) rfl ?_
  refine Wx.nil ?_
  refine W.condD rfl (fun c0 => ?_) (fun c0 => ?_)
  · -- yes
    refine W.seq ?_
    refine W.reg ?_
    refine Wx.rd (v := .int .i64 (checkE L fs)) (rd_move rfl) rfl ?_
    refine Wx.rd (v := .int .i64 0) (rd_assign rfl) rfl ?_
    refine Wx.rd (v := .int .i64 (checkE L fs)) (rd_assign rfl) rfl ?_
    refine Wx.nil ?_
    have e0_0 : (refCount L fs) = (0 : Int) := by rw [refCount, if_pos (by omega)]
    exact W.ret ⟨.tuple #[.int .i64 0, .int .i64 (checkE L fs)], ResIs.two, hS.bel, (by rw [e0_0])⟩
  · -- no
    have hk := check_ok (L := L) (fs := fs) (by omega)
    have hfl := fitL_len L fs hk.2.1
    refine W.skip ?_
    refine W.seq ?_
    refine W.reg ?_
    refine Wx.rd (v := .pointer (some ⟨g_1, 0, none⟩)) (rd_fieldAddr rfl foRa_27_0) rfl ?_
    refine Wx.rd (v := .int .i64 L) (rd_loadX hS 0 rfl rfl rfl Try.isAgg3) rfl ?_
    refine Wx.rd (v := .pointer (some ⟨g_1, 1, none⟩)) (rd_fieldAddr rfl foRa_27_1) rfl ?_
    refine Wx.rd (v := fv) (rd_loadX hS 0 rfl rfl rfl Try.isAgg22) rfl ?_
    refine Wx.callF (run_callF Try.call64 rfl) (F64 (in_i64 (by omega) (by omega)) (hS.arg a_fv) (by omega) (by omega) hS.fb_lt) rfl ?_
    rintro r_8 w_9 hx_10 ⟨_, rfl, hv_11⟩
    have ln_13 := hv_11.len63
    have hS := hS.ext hx_10
    have hS := hS.add hv_11
    refine Wx.rd (v := .int .i64 ((fitL L fs).length : Int)) (rd_lenV rfl (hS.v 0 rfl) Try.underlying22) rfl ?_
    refine Wx.rd (v := .int .i64 ((fitL L fs).length : Int)) (rd_assign rfl) rfl ?_
    refine Wx.rd (v := .int .i64 0) (rd_assign rfl) rfl ?_
    refine Wx.nil ?_
    have e1_0 : (refCount L fs) = (((fitL L fs).length : Int) : Int) := by rw [refCount, if_neg (by omega)]
    have e1_1 : (checkE L fs) = (0 : Int) := by omega
    exact W.ret ⟨.tuple #[.int .i64 ((fitL L fs).length : Int), .int .i64 0], ResIs.two, hS.bel, (by rw [e1_0, e1_1])⟩
end Go.Proofs.Ytjmpojoimcljoaa
