/-
  WHAT IS PROVED HERE: what functions of layer 3 hand back, each out of its own code; the conditions stand in each statement.
-/
import Derived.Test.YtjmpojoimcljoaaProg
import Derived.Test.YtjmpojoimcljoaaWk9
import Derived.Test.YtjmpojoimcljoaaSpec6
import Derived.Test.YtjmpojoimcljoaaFa
import Derived.Test.YtjmpojoimcljoaaFj
namespace Go.Proofs.Ytjmpojoimcljoaa
open Go.Wk Go.RowKit
set_option linter.unusedVariables false
set_option linter.unusedSimpArgs false
theorem foGa_24_1 : fldOff Try.prog 24 1 = some 1 := by kernel_rfl
theorem foGa_64_0 : fldOff Try.prog 64 0 = some 0 := by kernel_rfl
theorem foGa_64_2 : fldOff Try.prog 64 2 = some 2 := by kernel_rfl
theorem foGa_64_1 : fldOff Try.prog 64 1 = some 1 := by kernel_rfl
theorem foGa_24_0 : fldOff Try.prog 24 0 = some 0 := by kernel_rfl
theorem elGa_28 : ElemI Try.prog 28 3 (.int .i64 0) 1 8 := ElemI.of Try.underlying28 (by kernel_rfl) (by first | rfl | kernel_rfl) (by decide)
theorem elGa_22 : ElemI Try.prog 22 28 ((.slice none 0 0)) 1 24 := ElemI.of Try.underlying22 (by kernel_rfl) (by first | rfl | kernel_rfl) (by decide)

theorem F85 {xv : Value} {xs : List Int} {Fr_xv : List (Option Nat)} {x : Int} {w : World} (h_xv : V (tSl (tI .i64)) xs xv Fr_xv w) (i_x : InK .i64 x) : Calls Try.prog 85 #[xv, .int .i64 x] w (Ret w (fun r _ => r = .int .i64 (idxI x 0 xs))) := by
  have b_x := bd_i64 i_x
  have a_xv := h_xv.any
  have l_xv := h_xv.len63
  have hS := St.start0 w
  refine enterR Try.func85 rfl Try.ntmps85 Try.results85 rfl ?_
  refine W.seq ?_
  refine W.reg ?_
  refine Wx.rd (v := .int .i64 0) (rd_assign rfl) rfl ?_
  refine Wx.nil ?_
  refine W.seq ?_
  refine W.seq ?_
  refine W.reg ?_
  refine Wx.rd (v := xv) (rd_move rfl) rfl ?_
  refine Wx.rd (v := .int .i64 (xs.length : Int)) (rd_lenV rfl (hS.arg a_xv) Try.underlying28) rfl ?_
  refine Wx.rd (v := .int .i64 0) (rd_move rfl) rfl ?_
  refine Wx.nil ?_
  refine W.block ?_
  refine W.loop [4, 5, 8, 9, 10, 11, 12, 13, 14, 15, 16, 17, 18] (fun (k : Int) => [(8, .int .i64 k)]) (fun (k : Int) w' => St w [] w' [] ∧ 0 ≤ k ∧ k ≤ xs.length ∧ idxI x k (xs.drop k.toNat) = idxI x 0 xs) (fun (k : Int) => (xs.length - k).toNat) 0 ⟨rfl, trivial⟩ ⟨hS, (by first | omega | simp), (by first | omega | simp), (by simp)⟩ ?_
  rintro k u_2 w_1 ⟨hS, h0, h1, h2⟩
  refine W.seq ?_
  refine W.reg ?_
  refine Wx.rd (v := .bool (decide (k < (xs.length : Int)))) (rd_lss rfl rfl) rfl ?_
  refine Wx.nil ?_
  refine W.seq ?_
  refine W.condD rfl (fun c0 => ?_) (fun c0 => ?_)
  · -- yes
    refine W.skip ?_
    refine W.seq ?_
    refine W.block ?_
    refine W.seq ?_
    refine W.reg ?_
    refine Wx.rd (v := .int .i64 k) (rd_move rfl) rfl ?_
    refine Wx.rd (v := .int .i64 k) (rd_assign rfl) rfl ?_
    refine Wx.nil ?_
    refine W.seq ?_
    refine W.reg ?_
    refine Wx.rd (v := .int .i64 x) (rd_move rfl) rfl ?_
    refine Wx.rd (v := xv) (rd_move rfl) rfl ?_
    refine Wx.rd (v := .int .i64 k) (rd_move rfl) rfl ?_
    refine Wx.ex (rd_index 0 (hS.arg a_xv) rfl rfl Try.underlying28 Try.sizeOf3 (by first | omega | (simp only [List.length_set, List.length_append, List.length_cons, List.length_nil, List.length_replicate]; omega)) (by first | omega | (simp only [List.length_set, List.length_append, List.length_cons, List.length_nil, List.length_replicate]; omega))) rfl (fun p_3 hp_4 => ?_)
    refine Wx.rd (v := .int .i64 (ix 0 xs k)) (rd_loadI hp_4 rfl Try.isAgg3 Try.sizeOf3) rfl ?_
    have bd_5 := bd_i64 hp_4.inK
    refine Wx.rd (v := .bool (decide (x = (ix 0 xs k)))) (rd_eql rfl rfl) rfl ?_
    refine Wx.nil ?_
    refine W.condD rfl (fun c1 => ?_) (fun c1 => ?_)
    · -- yes
      refine W.seq ?_
      refine W.reg ?_
      refine Wx.rd (v := .int .i64 k) (rd_move rfl) rfl ?_
      refine Wx.rd (v := .int .i64 k) (rd_assign rfl) rfl ?_
      refine Wx.nil ?_
      have e0_0 : (idxI x 0 xs) = (k : Int) := by rw [← h2, drop_ix (d := 0) h0 c0, idxI, if_pos (by omega)]
      exact W.ret ⟨.int .i64 k, ResIs.one, hS.bel, (by rw [e0_0])⟩
    · -- no
      refine W.skip ?_
      refine W.reg ?_
      refine Wx.rd (v := .int .i64 (k + 1)) (rd_add rfl rfl (in_i64 (by omega) (by omega))) rfl ?_
      refine Wx.rd (v := .int .i64 (k + 1)) (rd_move rfl) rfl ?_
      refine Wx.nil ?_
      refine ⟨k + 1, (by show (xs.length - (k + 1)).toNat < (xs.length - k).toNat; omega), ?_, ?_, Out.look rfl Out.self⟩
      · exact ⟨hS, (by first | omega | assumption), (by first | omega | assumption), (by rw [← h2, drop_ix (d := 0) h0 c0, idxI, if_neg (by omega)])⟩
      · exact ⟨rfl, trivial⟩
  · -- no
    refine W.exit rfl ?_
    refine W.seq ?_
    refine W.reg ?_
    refine Wx.rd (v := .int .i64 (-1)) (rd_assign rfl) rfl ?_
    refine Wx.nil ?_
    have e1_0 : (idxI x 0 xs) = (-1 : Int) := by rw [← h2, drop_end (by omega)]; rfl
    exact W.ret ⟨.int .i64 (-1), ResIs.one, hS.bel, (by rw [e1_0])⟩

theorem F57 {xv : Value} {xs : List Int} {Fr_xv : List (Option Nat)} {x : Int} {w : World} (h_xv : V (tSl (tI .i64)) xs xv Fr_xv w) (i_x : InK .i64 x) : Calls Try.prog 57 #[xv, .int .i64 x] w (Ret w (fun r _ => r = .bool (hasL xs x))) := by
  have b_x := bd_i64 i_x
  have a_xv := h_xv.any
  have l_xv := h_xv.len63
  have hS := St.start0 w
  refine enterR Try.func57 rfl Try.ntmps57 Try.results57 rfl ?_
  refine W.seq ?_
  refine W.reg ?_
  refine Wx.rd (v := .bool false) (rd_assign rfl) rfl ?_
  refine Wx.nil ?_
  refine W.seq ?_
  refine W.reg ?_
  refine Wx.rd (v := xv) (rd_move rfl) rfl ?_
  refine Wx.rd (v := .int .i64 x) (rd_move rfl) rfl ?_
  refine Wx.callF (run_callF Try.call85 rfl) (F85 (hS.arg a_xv) (in_i64 (by omega) (by omega))) rfl ?_
  rintro r_1 w_2 hx_3 rfl
  have hS := hS.ext hx_3
  have hid := idxI_bd x xs 0 (by omega)
  refine Wx.rd (v := .bool (decide (0 ≤ (idxI x 0 xs)))) (rd_geq rfl rfl) rfl ?_
  refine Wx.rd (v := .bool (decide (0 ≤ (idxI x 0 xs)))) (rd_assign rfl) rfl ?_
  refine Wx.nil ?_
  have e0_0 : (hasL xs x) = (decide (0 ≤ (idxI x 0 xs))) := by exact (idxI_has x xs 0 (by omega)).symm
  exact W.ret ⟨.bool (decide (0 ≤ (idxI x 0 xs))), ResIs.one, hS.bel, (by rw [e0_0])⟩

theorem F58 {fv : Value} {f : List Int} {Fr_fv : List (Option Nat)} {ov : Value} {order : List Int} {Fr_ov : List (Option Nat)} {w : World} (h_fv : V (tSl (tI .i64)) f fv Fr_fv w) (h_ov : V (tSl (tI .i64)) order ov Fr_ov w) : Calls Try.prog 58 #[fv, ov] w (Ret w (fun r _ => r = .int .i64 (gapsW f order))) := by
  have a_fv := h_fv.any
  have l_fv := h_fv.len63
  have a_ov := h_ov.any
  have l_ov := h_ov.len63
  have hS := St.start0 w
  refine enterR Try.func58 rfl Try.ntmps58 Try.results58 rfl ?_
  refine W.seq ?_
  refine W.reg ?_
  refine Wx.rd (v := .int .i64 0) (rd_assign rfl) rfl ?_
  refine Wx.nil ?_
  refine W.seq ?_
  refine W.reg ?_
  refine Wx.rd (v := .int .i64 (-1)) (rd_assign rfl) rfl ?_
  refine Wx.rd (v := .int .i64 (-1)) (rd_assign rfl) rfl ?_
  refine Wx.rd (v := .int .i64 0) (rd_assign rfl) rfl ?_
  refine Wx.nil ?_
  refine W.seq ?_
  refine W.seq ?_
  refine W.reg ?_
  refine Wx.rd (v := ov) (rd_move rfl) rfl ?_
  refine Wx.rd (v := .int .i64 (order.length : Int)) (rd_lenV rfl (hS.arg a_ov) Try.underlying28) rfl ?_
  refine Wx.rd (v := .int .i64 0) (rd_move rfl) rfl ?_
  refine Wx.nil ?_
  refine W.block ?_
  refine W.loop [5, 6, 7, 8, 9, 12, 13, 14, 15, 16, 17, 18, 19, 20, 21, 22, 23, 24, 25, 26, 27, 28, 29, 30, 31, 32, 33, 34, 35] (fun x : Int × Int × Int × Int => match x with | (fi, la, n, i) => [(5, .int .i64 fi), (6, .int .i64 la), (7, .int .i64 n), (12, .int .i64 i)]) (fun (x : Int × Int × Int × Int) w' => match x with | (fi, la, n, i) => St w [] w' [] ∧ 0 ≤ i ∧ i ≤ order.length ∧ gapG f i fi la n (order.drop i.toNat) = gapsW f order ∧ -1 ≤ fi ∧ fi ≤ i ∧ -1 ≤ la ∧ la + 1 ≤ i ∧ 0 ≤ n ∧ n ≤ i) (fun x : Int × Int × Int × Int => match x with | (fi, la, n, i) => (order.length - i).toNat) (-1, -1, 0, 0) ⟨rfl, rfl, rfl, rfl, trivial⟩ ⟨hS, (by first | omega | simp), (by first | omega | simp), (by simp [gapsW]), (by first | omega | simp), (by first | omega | simp), (by first | omega | simp), (by first | omega | simp), (by first | omega | simp), (by first | omega | simp)⟩ ?_
  rintro ⟨fi, la, n, i⟩ u_2 w_1 ⟨hS, h0, h1, h2, h3, h4, h5, h6, h7, h8⟩
  refine W.seq ?_
  refine W.reg ?_
  refine Wx.rd (v := .bool (decide (i < (order.length : Int)))) (rd_lss rfl rfl) rfl ?_
  refine Wx.nil ?_
  refine W.seq ?_
  refine W.condD rfl (fun c0 => ?_) (fun c0 => ?_)
  · -- yes
    refine W.skip ?_
    refine W.seq ?_
    refine W.block ?_
    refine W.seq ?_
    refine W.reg ?_
    refine Wx.rd (v := .int .i64 i) (rd_move rfl) rfl ?_
    refine Wx.ex (rd_index 0 (hS.arg a_ov) rfl rfl Try.underlying28 Try.sizeOf3 (by first | omega | (simp only [List.length_set, List.length_append, List.length_cons, List.length_nil, List.length_replicate]; omega)) (by first | omega | (simp only [List.length_set, List.length_append, List.length_cons, List.length_nil, List.length_replicate]; omega))) rfl (fun p_3 hp_4 => ?_)
    refine Wx.rd (v := .int .i64 (ix 0 order i)) (rd_loadI hp_4 rfl Try.isAgg3 Try.sizeOf3) rfl ?_
    have bd_5 := bd_i64 hp_4.inK
    refine Wx.rd (v := .int .i64 i) (rd_assign rfl) rfl ?_
    refine Wx.rd (v := .int .i64 (ix 0 order i)) (rd_assign rfl) rfl ?_
    refine Wx.nil ?_
    refine W.seq ?_
    refine W.seq ?_
    refine W.reg ?_
    refine Wx.rd (v := fv) (rd_move rfl) rfl ?_
    refine Wx.rd (v := .int .i64 (ix 0 order i)) (rd_move rfl) rfl ?_
    refine Wx.callF (run_callF Try.call57 rfl) (F57 (hS.arg a_fv) (in_i64 (by omega) (by omega))) rfl ?_
    rintro r_6 w_7 hx_8 rfl
    have hS := hS.ext hx_8
    refine Wx.rd (v := .bool (!(hasL f (ix 0 order i)))) (rd_not rfl) rfl ?_
    refine Wx.nil ?_
    refine W.cond rfl (fun c1 => ?_) (fun c1 => ?_)
    · -- yes
      try simp only [Bool.and_eq_true, Bool.or_eq_true, Bool.not_eq_true', Bool.and_eq_false_iff, Bool.or_eq_false_iff, Bool.not_eq_false', decide_eq_true_eq, decide_eq_false_iff_not, not_or, Bool.false_eq_true, Bool.true_eq_false, false_or, or_false, not_false_eq_true] at c1
      refine W.exit rfl ?_
      refine W.reg ?_
      refine Wx.rd (v := .int .i64 (i + 1)) (rd_add rfl rfl (in_i64 (by omega) (by omega))) rfl ?_
      refine Wx.rd (v := .int .i64 (i + 1)) (rd_move rfl) rfl ?_
      refine Wx.nil ?_
      refine ⟨(fi, la, n, i + 1), (by show (order.length - (i + 1)).toNat < (order.length - i).toNat; omega), ?_, ?_, Out.look rfl Out.self⟩
      · exact ⟨hS, (by first | omega | assumption), (by first | omega | assumption), (by rw [← h2, drop_ix (d := 0) h0 c0, gapG]; first | rw [if_neg (by rw [c1]; decide)] | (rw [if_pos c1]; first | rw [if_pos (by omega), if_pos (by omega)] | rw [if_pos (by omega), if_neg (by omega)] | rw [if_neg (by omega), if_pos (by omega)] | rw [if_neg (by omega), if_neg (by omega)])), (by first | omega | assumption), (by first | omega | assumption), (by first | omega | assumption), (by first | omega | assumption), (by first | omega | assumption), (by first | omega | assumption)⟩
      · exact ⟨rfl, rfl, rfl, rfl, trivial⟩
    · -- no
      try simp only [Bool.and_eq_true, Bool.or_eq_true, Bool.not_eq_true', Bool.and_eq_false_iff, Bool.or_eq_false_iff, Bool.not_eq_false', decide_eq_true_eq, decide_eq_false_iff_not, not_or, Bool.false_eq_true, Bool.true_eq_false, false_or, or_false, not_false_eq_true] at c1
      refine W.skip ?_
      refine W.seq ?_
      refine W.seq ?_
      refine W.reg ?_
      refine Wx.rd (v := .int .i64 fi) (rd_move rfl) rfl ?_
      refine Wx.rd (v := .bool (decide (0 ≤ fi))) (rd_geq rfl rfl) rfl ?_
      refine Wx.rd (v := .bool (decide (0 ≤ fi))) (rd_move rfl) rfl ?_
      refine Wx.cut (X := Unit) 5 [24, 25, 26, 27, 28] (fun _ => [(28, .bool (decide (0 ≤ fi) && decide ((la + 1) < i)))]) (fun _ w' => St w [] w' []) ?_ ?_
      · rcases Bool.eq_false_or_eq_true (decide (0 ≤ fi)) with g_9 | g_9
        · -- True
          have gp_10 := of_decide_eq_true g_9
          refine Wx.gyes rfl rfl (congrArg Value.bool g_9) ?_
          refine Wx.rd (v := .int .i64 i) (rd_move rfl) rfl ?_
          refine Wx.gyes rfl rfl (congrArg Value.bool g_9) ?_
          refine Wx.rd (v := .int .i64 la) (rd_move rfl) rfl ?_
          refine Wx.gyes rfl rfl (congrArg Value.bool g_9) ?_
          refine Wx.rd (v := .int .i64 (la + 1)) (rd_add rfl rfl (in_i64 (by omega) (by omega))) rfl ?_
          refine Wx.gyes rfl rfl (congrArg Value.bool g_9) ?_
          refine Wx.rd (v := .bool (decide ((la + 1) < i))) (rd_gtr rfl rfl) rfl ?_
          refine Wx.rd (v := .bool (decide ((la + 1) < i))) (rd_pickT (congrArg Value.bool g_9) rfl) rfl ?_
          refine Wx.nil ⟨(), hS, ⟨?_, trivial⟩, Out.look rfl Out.refl⟩
          show Value.bool (decide ((la + 1) < i)) = Value.bool (decide (0 ≤ fi) && decide ((la + 1) < i))
          rw [g_9]; rfl
        · -- False
          have gp_11 := of_decide_eq_false g_9
          refine Wx.gnoB rfl rfl (congrArg Value.bool g_9) rfl rfl ?_
          refine Wx.gnoB rfl rfl (congrArg Value.bool g_9) rfl rfl ?_
          refine Wx.gnoB rfl rfl (congrArg Value.bool g_9) rfl rfl ?_
          refine Wx.gnoB rfl rfl (congrArg Value.bool g_9) rfl rfl ?_
          refine Wx.rd (v := .bool false) (rd_pickF (congrArg Value.bool g_9) rfl) rfl ?_
          refine Wx.nil ⟨(), hS, ⟨?_, trivial⟩, Out.look rfl Out.refl⟩
          show Value.bool false = Value.bool (decide (0 ≤ fi) && decide ((la + 1) < i))
          rw [g_9]; rfl
      rintro ⟨⟩ u_13 w_12 hS
      refine Wx.nil ?_
      refine W.cond rfl (fun c2 => ?_) (fun c2 => ?_)
      · -- yes
        try simp only [Bool.and_eq_true, Bool.or_eq_true, Bool.not_eq_true', Bool.and_eq_false_iff, Bool.or_eq_false_iff, Bool.not_eq_false', decide_eq_true_eq, decide_eq_false_iff_not, not_or, Bool.false_eq_true, Bool.true_eq_false, false_or, or_false, not_false_eq_true] at c2
        refine W.reg ?_
        refine Wx.rd (v := .int .i64 n) (rd_move rfl) rfl ?_
        refine Wx.rd (v := .int .i64 (n + 1)) (rd_add rfl rfl (in_i64 (by omega) (by omega))) rfl ?_
        refine Wx.rd (v := .int .i64 (n + 1)) (rd_assign rfl) rfl ?_
        refine Wx.nil ?_
        refine W.seq ?_
        refine W.seq ?_
        refine W.reg ?_
        refine Wx.rd (v := .int .i64 fi) (rd_move rfl) rfl ?_
        refine Wx.rd (v := .bool (decide (fi < 0))) (rd_lss rfl rfl) rfl ?_
        refine Wx.nil ?_
        refine W.condD rfl (fun c3 => ?_) (fun c3 => ?_)
        · -- yes
          refine W.reg ?_
          refine Wx.rd (v := .int .i64 i) (rd_move rfl) rfl ?_
          refine Wx.rd (v := .int .i64 i) (rd_assign rfl) rfl ?_
          refine Wx.nil ?_
          refine W.reg ?_
          refine Wx.rd (v := .int .i64 i) (rd_move rfl) rfl ?_
          refine Wx.rd (v := .int .i64 i) (rd_assign rfl) rfl ?_
          refine Wx.nil ?_
          refine W.reg ?_
          refine Wx.rd (v := .int .i64 (i + 1)) (rd_add rfl rfl (in_i64 (by omega) (by omega))) rfl ?_
          refine Wx.rd (v := .int .i64 (i + 1)) (rd_move rfl) rfl ?_
          refine Wx.nil ?_
          refine ⟨(i, i, n + 1, i + 1), (by show (order.length - (i + 1)).toNat < (order.length - i).toNat; omega), ?_, ?_, Out.look rfl (Out.hav rfl (Out.look rfl Out.self))⟩
          · exact ⟨hS, (by first | omega | assumption), (by first | omega | assumption), (by rw [← h2, drop_ix (d := 0) h0 c0, gapG]; first | rw [if_neg (by rw [c1]; decide)] | (rw [if_pos c1]; first | rw [if_pos (by omega), if_pos (by omega)] | rw [if_pos (by omega), if_neg (by omega)] | rw [if_neg (by omega), if_pos (by omega)] | rw [if_neg (by omega), if_neg (by omega)])), (by first | omega | assumption), (by first | omega | assumption), (by first | omega | assumption), (by first | omega | assumption), (by first | omega | assumption), (by first | omega | assumption)⟩
          · exact ⟨rfl, rfl, rfl, rfl, trivial⟩
        · -- no
          refine W.skip ?_
          refine W.reg ?_
          refine Wx.rd (v := .int .i64 i) (rd_move rfl) rfl ?_
          refine Wx.rd (v := .int .i64 i) (rd_assign rfl) rfl ?_
          refine Wx.nil ?_
          refine W.reg ?_
          refine Wx.rd (v := .int .i64 (i + 1)) (rd_add rfl rfl (in_i64 (by omega) (by omega))) rfl ?_
          refine Wx.rd (v := .int .i64 (i + 1)) (rd_move rfl) rfl ?_
          refine Wx.nil ?_
          refine ⟨(fi, i, n + 1, i + 1), (by show (order.length - (i + 1)).toNat < (order.length - i).toNat; omega), ?_, ?_, Out.look rfl (Out.hav rfl (Out.look rfl Out.self))⟩
          · exact ⟨hS, (by first | omega | assumption), (by first | omega | assumption), (by rw [← h2, drop_ix (d := 0) h0 c0, gapG]; first | rw [if_neg (by rw [c1]; decide)] | (rw [if_pos c1]; first | rw [if_pos (by omega), if_pos (by omega)] | rw [if_pos (by omega), if_neg (by omega)] | rw [if_neg (by omega), if_pos (by omega)] | rw [if_neg (by omega), if_neg (by omega)])), (by first | omega | assumption), (by first | omega | assumption), (by first | omega | assumption), (by first | omega | assumption), (by first | omega | assumption), (by first | omega | assumption)⟩
          · exact ⟨rfl, rfl, rfl, rfl, trivial⟩
      · -- no
        try simp only [Bool.and_eq_true, Bool.or_eq_true, Bool.not_eq_true', Bool.and_eq_false_iff, Bool.or_eq_false_iff, Bool.not_eq_false', decide_eq_true_eq, decide_eq_false_iff_not, not_or, Bool.false_eq_true, Bool.true_eq_false, false_or, or_false, not_false_eq_true] at c2
        refine W.skip ?_
        refine W.seq ?_
        refine W.seq ?_
        refine W.reg ?_
        refine Wx.rd (v := .int .i64 fi) (rd_move rfl) rfl ?_
        refine Wx.rd (v := .bool (decide (fi < 0))) (rd_lss rfl rfl) rfl ?_
        refine Wx.nil ?_
        refine W.condD rfl (fun c4 => ?_) (fun c4 => ?_)
        · -- yes
          refine W.reg ?_
          refine Wx.rd (v := .int .i64 i) (rd_move rfl) rfl ?_
          refine Wx.rd (v := .int .i64 i) (rd_assign rfl) rfl ?_
          refine Wx.nil ?_
          refine W.reg ?_
          refine Wx.rd (v := .int .i64 i) (rd_move rfl) rfl ?_
          refine Wx.rd (v := .int .i64 i) (rd_assign rfl) rfl ?_
          refine Wx.nil ?_
          refine W.reg ?_
          refine Wx.rd (v := .int .i64 (i + 1)) (rd_add rfl rfl (in_i64 (by omega) (by omega))) rfl ?_
          refine Wx.rd (v := .int .i64 (i + 1)) (rd_move rfl) rfl ?_
          refine Wx.nil ?_
          refine ⟨(i, i, n, i + 1), (by show (order.length - (i + 1)).toNat < (order.length - i).toNat; omega), ?_, ?_, Out.look rfl (Out.hav rfl (Out.look rfl Out.self))⟩
          · exact ⟨hS, (by first | omega | assumption), (by first | omega | assumption), (by rw [← h2, drop_ix (d := 0) h0 c0, gapG]; first | rw [if_neg (by rw [c1]; decide)] | (rw [if_pos c1]; first | rw [if_pos (by omega), if_pos (by omega)] | rw [if_pos (by omega), if_neg (by omega)] | rw [if_neg (by omega), if_pos (by omega)] | rw [if_neg (by omega), if_neg (by omega)])), (by first | omega | assumption), (by first | omega | assumption), (by first | omega | assumption), (by first | omega | assumption), (by first | omega | assumption), (by first | omega | assumption)⟩
          · exact ⟨rfl, rfl, rfl, rfl, trivial⟩
        · -- no
          refine W.skip ?_
          refine W.reg ?_
          refine Wx.rd (v := .int .i64 i) (rd_move rfl) rfl ?_
          refine Wx.rd (v := .int .i64 i) (rd_assign rfl) rfl ?_
          refine Wx.nil ?_
          refine W.reg ?_
          refine Wx.rd (v := .int .i64 (i + 1)) (rd_add rfl rfl (in_i64 (by omega) (by omega))) rfl ?_
          refine Wx.rd (v := .int .i64 (i + 1)) (rd_move rfl) rfl ?_
          refine Wx.nil ?_
          refine ⟨(fi, i, n, i + 1), (by show (order.length - (i + 1)).toNat < (order.length - i).toNat; omega), ?_, ?_, Out.look rfl (Out.hav rfl (Out.look rfl Out.self))⟩
          · exact ⟨hS, (by first | omega | assumption), (by first | omega | assumption), (by rw [← h2, drop_ix (d := 0) h0 c0, gapG]; first | rw [if_neg (by rw [c1]; decide)] | (rw [if_pos c1]; first | rw [if_pos (by omega), if_pos (by omega)] | rw [if_pos (by omega), if_neg (by omega)] | rw [if_neg (by omega), if_pos (by omega)] | rw [if_neg (by omega), if_neg (by omega)])), (by first | omega | assumption), (by first | omega | assumption), (by first | omega | assumption), (by first | omega | assumption), (by first | omega | assumption), (by first | omega | assumption)⟩
          · exact ⟨rfl, rfl, rfl, rfl, trivial⟩
  · -- no
    refine W.exit rfl ?_
    refine W.seq ?_
    refine W.reg ?_
    refine Wx.rd (v := .int .i64 n) (rd_move rfl) rfl ?_
    refine Wx.rd (v := .int .i64 n) (rd_assign rfl) rfl ?_
    refine Wx.nil ?_
    have e0_0 : (gapsW f order) = (n : Int) := by rw [← h2, drop_end (by omega)]; rfl
    exact W.ret ⟨.int .i64 n, ResIs.one, hS.bel, (by rw [e0_0])⟩

theorem F46 {L : Int} {fv : Value} {fs : List (List Int)} {Fr_fv : List (Option Nat)} {ov : Value} {order : List Int} {Fr_ov : List (Option Nat)} {w : World} (i_L : InK .i64 L) (h_fv : V (tSl (tSl (tI .i64))) fs fv Fr_fv w) (h_ov : V (tSl (tI .i64)) order ov Fr_ov w) : Calls Try.prog 46 #[.agg #[.int .i64 L, fv], ov] w (Ret w (fun r _ => r = .bool (fitsW fs order))) := by
  have b_L := bd_i64 i_L
  have a_fv := h_fv.any
  have l_fv := h_fv.len63
  have a_ov := h_ov.any
  have l_ov := h_ov.len63
  have hS := St.start0 w
  refine enterR Try.func46 rfl Try.ntmps46 Try.results46 rfl ?_
  refine W.seq ?_
  refine W.reg ?_
  refine Wx.box (cs := [.int .i64 L, fv]) hS rfl rfl rfl (fun g_1 w_2 hx_4 hb_3 hS => ?_)
  refine Wx.rd (v := .bool false) (rd_assign rfl) rfl ?_
  refine Wx.nil ?_
  refine W.seq ?_
  refine W.seq ?_
  refine W.reg ?_
  refine Wx.rd (v := .pointer (some ⟨g_1, 1, none⟩)) (rd_fieldAddr rfl foGa_24_1) rfl ?_
  refine Wx.rd (v := fv) (rd_loadX hS 0 rfl rfl rfl Try.isAgg22) rfl ?_
  refine Wx.rd (v := .int .i64 (fs.length : Int)) (rd_lenV rfl (hS.arg a_fv) Try.underlying22) rfl ?_
  refine Wx.rd (v := .int .i64 0) (rd_move rfl) rfl ?_
  refine Wx.nil ?_
  refine W.block ?_
  refine W.loop [4, 6, 10, 11, 12, 13, 14, 15, 16, 17, 18] (fun (k : Int) => [(10, .int .i64 k)]) (fun (k : Int) w' => St w [] w' [.box g_1 24 [.int .i64 L, fv]] ∧ 0 ≤ k ∧ k ≤ fs.length ∧ fitsW (fs.drop k.toNat) order = fitsW fs order) (fun (k : Int) => (fs.length - k).toNat) 0 ⟨rfl, trivial⟩ ⟨hS, (by first | omega | simp), (by first | omega | simp), (by simp)⟩ ?_
  rintro k u_6 w_5 ⟨hS, h0, h1, h2⟩
  refine W.seq ?_
  refine W.reg ?_
  refine Wx.rd (v := .bool (decide (k < (fs.length : Int)))) (rd_lss rfl rfl) rfl ?_
  refine Wx.nil ?_
  refine W.seq ?_
  refine W.condD rfl (fun c0 => ?_) (fun c0 => ?_)
  · -- yes
    refine W.skip ?_
    refine W.seq ?_
    refine W.block ?_
    refine W.seq ?_
    refine W.reg ?_
    refine Wx.ex (rd_index [] (hS.arg a_fv) rfl rfl Try.underlying22 Try.sizeOf28 (by first | omega | (simp only [List.length_set, List.length_append, List.length_cons, List.length_nil, List.length_replicate]; omega)) (by first | omega | (simp only [List.length_set, List.length_append, List.length_cons, List.length_nil, List.length_replicate]; omega))) rfl (fun p_7 hp_8 => ?_)
    refine Wx.ex (rd_load hp_8 rfl Try.isAgg28 Try.sizeOf28) rfl (fun v_9 hv_10 => ?_)
    have ln_11 := hv_10.len63
    have hS := hS.add hv_10
    refine Wx.rd (v := v_9) (rd_assign rfl) rfl ?_
    refine Wx.nil ?_
    refine W.seq ?_
    refine W.reg ?_
    refine Wx.rd (v := v_9) (rd_move rfl) rfl ?_
    refine Wx.rd (v := ov) (rd_move rfl) rfl ?_
    refine Wx.callF (run_callF Try.call58 rfl) (F58 (hS.v 0 rfl) (hS.arg a_ov)) rfl ?_
    rintro r_13 w_14 hx_15 rfl
    have hS := hS.ext hx_15
    refine Wx.rd (v := .bool (decide (0 < (gapsW (ix [] fs k) order)))) (rd_gtr rfl rfl) rfl ?_
    refine Wx.nil ?_
    refine W.condD rfl (fun c1 => ?_) (fun c1 => ?_)
    · -- yes
      refine W.seq ?_
      refine W.reg ?_
      refine Wx.rd (v := .bool false) (rd_assign rfl) rfl ?_
      refine Wx.nil ?_
      have e0_0 : (fitsW fs order) = false := by rw [← h2, drop_ix (d := []) h0 c0]; show (decide (gapsW (ix [] fs k) order ≤ 0) && fitsW _ order) = _; rw [decide_eq_false (by omega), Bool.false_and]
      exact W.ret ⟨.bool false, ResIs.one, hS.bel, (by rw [e0_0])⟩
    · -- no
      refine W.skip ?_
      refine W.reg ?_
      refine Wx.rd (v := .int .i64 (k + 1)) (rd_add rfl rfl (in_i64 (by omega) (by omega))) rfl ?_
      refine Wx.rd (v := .int .i64 (k + 1)) (rd_move rfl) rfl ?_
      refine Wx.nil ?_
      refine ⟨k + 1, (by show (fs.length - (k + 1)).toNat < (fs.length - k).toNat; omega), ?_, ?_, Out.look rfl Out.self⟩
      · exact ⟨hS.tl, (by first | omega | assumption), (by first | omega | assumption), (by rw [← h2, drop_ix (d := []) h0 c0]; show _ = (decide (gapsW (ix [] fs k) order ≤ 0) && fitsW _ order); rw [decide_eq_true (by omega), Bool.true_and])⟩
      · exact ⟨rfl, trivial⟩
  · -- no
    refine W.exit rfl ?_
    refine W.seq ?_
    refine W.reg ?_
    refine Wx.rd (v := .bool true) (rd_assign rfl) rfl ?_
    refine Wx.nil ?_
    have e1_0 : (fitsW fs order) = true := by rw [← h2, drop_end (by omega)]; rfl
    exact W.ret ⟨.bool true, ResIs.one, hS.bel, (by rw [e1_0])⟩

theorem F43 {ly : Int} {mn : Int} {z0 : Int} {z1 : Int} {z2 : Int} {z3 : Int} {z4 : Int} {z5 : Int} {z6 : Int} {z7 : Int} {z8 : Int} {z9 : Int} {a : Int} {b : Int} {O : List (Option Nat)} {w : World} (i_ly : InK .u8 ly) (i_mn : InK .u8 mn) (i_z0 : InK .u8 z0) (i_z1 : InK .u8 z1) (i_z2 : InK .u8 z2) (i_z3 : InK .u8 z3) (i_z4 : InK .u8 z4) (i_z5 : InK .u8 z5) (i_z6 : InK .u8 z6) (i_z7 : InK .u8 z7) (i_z8 : InK .u8 z8) (i_z9 : InK .u8 z9) (i_a : InK .i64 a) (i_b : InK .i64 b) (p_a : 1 ≤ a) (p_a7 : a ≤ 7) (p_b : 0 ≤ b) (p_b10 : b ≤ 10) (hO : ∀ b, some b ∈ O → b < w.heap.size) : Calls Try.prog 43 #[.agg #[.int .u8 ly, .int .u8 mn, .int .u8 z0, .int .u8 z1, .int .u8 z2, .int .u8 z3, .int .u8 z4, .int .u8 z5, .int .u8 z6, .int .u8 z7, .int .u8 z8, .int .u8 z9], .int .i64 a, .int .i64 b] w (Ret w (fun r w' => ∃ rv, r = .agg #[.int .i64 (madeN a ly), rv] ∧ V (tSl (tSl (tI .i64))) (madeF a b ly mn [z0, z1, z2, z3, z4, z5, z6, z7, z8, z9]) rv O w')) := by
  have b_b := bd_i64 i_b
  have b_a := bd_i64 i_a
  have b_z9 := bd_u8 i_z9
  have b_z8 := bd_u8 i_z8
  have b_z7 := bd_u8 i_z7
  have b_z6 := bd_u8 i_z6
  have b_z5 := bd_u8 i_z5
  have b_z4 := bd_u8 i_z4
  have b_z3 := bd_u8 i_z3
  have b_z2 := bd_u8 i_z2
  have b_z1 := bd_u8 i_z1
  have b_z0 := bd_u8 i_z0
  have b_mn := bd_u8 i_mn
  have b_ly := bd_u8 i_ly
  have hN := madeN_bd (a := a) (ly := ly) p_a
  rw [madeN] at hN
  have hm0 := Int.emod_nonneg mn (show b + 1 ≠ 0 by omega)
  have hm1 := Int.emod_lt_of_pos mn (show 0 < b + 1 by omega)
  have hly := Int.emod_nonneg ly (show a ≠ 0 by omega)
  have hlt := Int.emod_lt_of_pos ly (show 0 < a by omega)
  have hS := St.start w O hO
  refine enterR Try.func43 rfl Try.ntmps43 Try.results43 rfl ?_
  refine W.seq ?_
  refine W.reg ?_
  refine Wx.box (cs := [.int .u8 ly, .int .u8 mn, .int .u8 z0, .int .u8 z1, .int .u8 z2, .int .u8 z3, .int .u8 z4, .int .u8 z5, .int .u8 z6, .int .u8 z7, .int .u8 z8, .int .u8 z9]) hS rfl rfl rfl (fun g_1 w_2 hx_4 hb_3 hS => ?_)
  refine Wx.alloc (cs := [.int .i64 0, (.slice none 0 0)]) hS Try.zeroValue24 rfl rfl (fun g_5 w_6 hx_8 hb_7 hS => ?_)
  refine Wx.nil ?_
  refine W.seq ?_
  refine W.reg ?_
  refine Wx.rd (v := .pointer (some ⟨g_1, 0, none⟩)) (rd_fieldAddr rfl foGa_64_0) rfl ?_
  refine Wx.rd (v := .int .u8 ly) (rd_loadX hS 1 rfl rfl rfl Try.isAgg5) rfl ?_
  refine Wx.rd (v := .int .i64 ly) (rd_convIn rfl Try.underlying5 Try.underlying3 (in_i64 (by omega) (by omega))) rfl ?_
  refine Wx.rd (v := .int .i64 a) (rd_move rfl) rfl ?_
  refine Wx.rd (v := .int .i64 (ly % a)) (rd_rem rfl rfl (by omega) (by omega)) rfl ?_
  refine Wx.rd (v := .int .i64 (1 + (ly % a))) (rd_add rfl rfl (in_i64 (by omega) (by omega))) rfl ?_
  refine Wx.rd (v := .agg #[.int .i64 (1 + (ly % a)), (.slice none 0 0)]) (rd_build (vs := [(0, .int .i64 (1 + (ly % a)))]) rfl (by kernel_rfl)) rfl ?_
  refine Wx.alloc (cs := [.int .i64 0, (.slice none 0 0)]) hS Try.zeroValue24 rfl rfl (fun g_9 w_10 hx_12 hb_11 hS => ?_)
  refine Wx.storeX (cs' := [.int .i64 (1 + (ly % a)), (.slice none 0 0)]) (ds := [.int .i64 (1 + (ly % a)), (.slice none 0 0)]) hS 0 rfl rfl rfl rfl Try.sizeOf24 (Nat.le_of_ble_eq_true rfl) (one_cons rfl (one_cons rfl one_nil)) rfl (fun w_13 hz_14 hS => ?_)
  refine Wx.nil ?_
  refine W.seq ?_
  refine W.seq ?_
  refine W.reg ?_
  refine Wx.rd (v := .pointer (some ⟨g_1, 2, none⟩)) (rd_fieldAddr rfl foGa_64_2) rfl ?_
  refine Wx.rd (v := .pointer (some ⟨g_1, 1, none⟩)) (rd_fieldAddr rfl foGa_64_1) rfl ?_
  refine Wx.rd (v := .int .u8 mn) (rd_loadX hS 2 rfl rfl rfl Try.isAgg5) rfl ?_
  refine Wx.rd (v := .int .i64 mn) (rd_convIn rfl Try.underlying5 Try.underlying3 (in_i64 (by omega) (by omega))) rfl ?_
  refine Wx.rd (v := .int .i64 b) (rd_move rfl) rfl ?_
  refine Wx.rd (v := .int .i64 (b + 1)) (rd_add rfl rfl (in_i64 (by omega) (by omega))) rfl ?_
  refine Wx.rd (v := .int .i64 (mn % (b + 1))) (rd_rem rfl rfl (by omega) (by omega)) rfl ?_
  refine Wx.rd (v := (.slice (some ⟨g_1, 2, none⟩) (mn % (b + 1)).toNat 10)) (rd_sliceArrH (m := 10) Try.underlying62 Try.sizeOf5 rfl rfl (by omega) (by omega)) rfl ?_
  have hS := hS.sliceBox (o := 2) (k := .u8) (m := (mn % (b + 1)).toNat) (xs := ([z0, z1, z2, z3, z4, z5, z6, z7, z8, z9] : List Int).take (mn % (b + 1)).toNat) (cap := 10) 2 rfl (by exact take_map_take (Value.int .u8) [z0, z1, z2, z3, z4, z5, z6, z7, z8, z9] _) (fun x hx => by have hx := List.mem_of_mem_take hx; simp only [List.mem_cons, List.not_mem_nil, or_false] at hx; rcases hx with rfl | rfl | rfl | rfl | rfl | rfl | rfl | rfl | rfl | rfl <;> assumption) (by simp; omega) (by omega) (by decide)
  refine Wx.rd (v := .int .i64 ((([z0, z1, z2, z3, z4, z5, z6, z7, z8, z9] : List Int).take (mn % (b + 1)).toNat).length : Int)) (rd_lenV rfl (hS.v 0 rfl) Try.underlying108) rfl ?_
  refine Wx.rd (v := .int .i64 0) (rd_move rfl) rfl ?_
  refine Wx.nil ?_
  refine W.block ?_
  have hzl : ((([z0, z1, z2, z3, z4, z5, z6, z7, z8, z9] : List Int).take (mn % (b + 1)).toNat).length : Int) ≤ 10 := by rw [List.length_take]; simp; omega
  have hS := hS.addNil (tSl (tI .i64)) 28
  refine W.loop [9, 10, 11, 28, 29, 30, 31, 32, 33, 34, 35, 36, 37, 38, 39, 40, 41, 42, 43, 44, 45, 46, 47, 48, 49, 50, 51, 52, 53, 54, 55, 56, 57] (fun x : Int × Value × (List (List Int)) => match x with | (k, sv, acc) => [(28, .int .i64 k)]) (fun (x : Int × Value × (List (List Int))) w' => match x with | (k, sv, acc) => St w O w' [.row (tSl (tI .i64)) 28 sv acc, Ob.v (tSl (tI .u8)) (([z0, z1, z2, z3, z4, z5, z6, z7, z8, z9] : List Int).take (mn % (b + 1)).toNat) (.slice (some ⟨g_1, 2, none⟩) (mn % (b + 1)).toNat 10), .box g_9 24 [.int .i64 (1 + ly % a), sv], .box g_5 24 [.int .i64 0, (.slice none 0 0)]] ∧ 0 ≤ k ∧ k ≤ (([z0, z1, z2, z3, z4, z5, z6, z7, z8, z9] : List Int).take (mn % (b + 1)).toNat).length ∧ acc = ((([z0, z1, z2, z3, z4, z5, z6, z7, z8, z9] : List Int).take (mn % (b + 1)).toNat).take k.toNat).map (formZ (1 + ly % a))) (fun x : Int × Value × (List (List Int)) => match x with | (k, sv, acc) => ((([z0, z1, z2, z3, z4, z5, z6, z7, z8, z9] : List Int).take (mn % (b + 1)).toNat).length - k).toNat) (0, (.slice none 0 0), []) ⟨rfl, trivial⟩ ⟨hS, (by first | omega | simp), (by first | omega | simp), (by simp)⟩ ?_
  rintro ⟨k, sv, acc⟩ u_17 w_16 ⟨hS, h0, h1, h2⟩
  have hln : (acc.length : Int) ≤ 10 := by rw [h2]; simp; omega
  refine W.seq ?_
  refine W.reg ?_
  refine Wx.rd (v := .bool (decide (k < ((([z0, z1, z2, z3, z4, z5, z6, z7, z8, z9] : List Int).take (mn % (b + 1)).toNat).length : Int)))) (rd_lss rfl rfl) rfl ?_
  refine Wx.nil ?_
  refine W.seq ?_
  refine W.condD rfl (fun c0 => ?_) (fun c0 => ?_)
  · -- yes
    refine W.skip ?_
    refine W.seq ?_
    refine W.block ?_
    refine W.seq ?_
    refine W.reg ?_
    refine Wx.ex (rd_index 0 (hS.v 1 rfl) rfl rfl Try.underlying108 Try.sizeOf5 (by first | omega | (simp only [List.length_set, List.length_append, List.length_cons, List.length_nil, List.length_replicate]; omega)) (by first | omega | (simp only [List.length_set, List.length_append, List.length_cons, List.length_nil, List.length_replicate]; omega))) rfl (fun p_18 hp_19 => ?_)
    refine Wx.rd (v := .int .u8 (ix 0 (([z0, z1, z2, z3, z4, z5, z6, z7, z8, z9] : List Int).take (mn % (b + 1)).toNat) k)) (rd_loadI hp_19 rfl Try.isAgg5 Try.sizeOf5) rfl ?_
    have bd_20 := bd_u8 hp_19.inK
    refine Wx.rd (v := .int .u8 (ix 0 (([z0, z1, z2, z3, z4, z5, z6, z7, z8, z9] : List Int).take (mn % (b + 1)).toNat) k)) (rd_assign rfl) rfl ?_
    refine Wx.nil ?_
    refine W.seq ?_
    refine W.reg ?_
    refine Wx.rd (v := (.slice none 0 0)) (rd_assign rfl) rfl ?_
    refine Wx.nil ?_
    refine W.seq ?_
    refine W.seq ?_
    refine W.reg ?_
    refine Wx.rd (v := .pointer (some ⟨g_9, 0, none⟩)) (rd_fieldAddr rfl foGa_24_0) rfl ?_
    refine Wx.rd (v := .int .i64 (1 + ly % a)) (rd_loadX hS 2 rfl rfl rfl Try.isAgg3) rfl ?_
    refine Wx.rd (v := .int .i64 0) (rd_move rfl) rfl ?_
    refine Wx.nil ?_
    refine W.block ?_
    have hS := hS.addNil (tI .i64) 3
    refine W.loop [10, 11, 34, 35, 36, 37, 38, 39, 40, 41, 42, 43, 44, 45, 46] (fun x : Int × Value × (List Int) => match x with | (j, lv, l) => [(34, .int .i64 j), (10, lv)]) (fun (x : Int × Value × (List Int)) w' => match x with | (j, lv, l) => St w O w' [.row (tI .i64) 3 lv l, .row (tSl (tI .i64)) 28 sv acc, Ob.v (tSl (tI .u8)) (([z0, z1, z2, z3, z4, z5, z6, z7, z8, z9] : List Int).take (mn % (b + 1)).toNat) (.slice (some ⟨g_1, 2, none⟩) (mn % (b + 1)).toNat 10), .box g_9 24 [.int .i64 (1 + ly % a), sv], .box g_5 24 [.int .i64 0, (.slice none 0 0)]] ∧ 0 ≤ j ∧ j ≤ (1 + ly % a) ∧ l ++ (up (1 + ly % a) ((1 + ly % a) - j).toNat).filter (hasS (ix 0 (([z0, z1, z2, z3, z4, z5, z6, z7, z8, z9] : List Int).take (mn % (b + 1)).toNat) k)) = (up (1 + ly % a) (1 + ly % a).toNat).filter (hasS (ix 0 (([z0, z1, z2, z3, z4, z5, z6, z7, z8, z9] : List Int).take (mn % (b + 1)).toNat) k)) ∧ (l = [] → lv = .slice none 0 0) ∧ (l.length : Int) ≤ j) (fun x : Int × Value × (List Int) => match x with | (j, lv, l) => ((1 + ly % a) - j).toNat) (0, (.slice none 0 0), []) ⟨rfl, rfl, trivial⟩ ⟨hS, (by first | omega | simp), (by first | omega | simp), (by rw [Int.sub_zero, List.nil_append]), (fun _ => rfl), (by simp)⟩ ?_
    rintro ⟨j, lv, l⟩ u_22 w_21 ⟨hS, g0, g1, g2, g3, g4⟩
    refine W.seq ?_
    refine W.reg ?_
    refine Wx.rd (v := .bool (decide (j < (1 + ly % a)))) (rd_lss rfl rfl) rfl ?_
    refine Wx.nil ?_
    refine W.seq ?_
    refine W.condD rfl (fun c1 => ?_) (fun c1 => ?_)
    · -- yes
      refine W.skip ?_
      refine W.seq ?_
      refine W.block ?_
      refine W.seq ?_
      refine W.reg ?_
      refine Wx.rd (v := .int .i64 j) (rd_move rfl) rfl ?_
      refine Wx.rd (v := .int .i64 j) (rd_assign rfl) rfl ?_
      refine Wx.nil ?_
      refine W.seq ?_
      refine W.reg ?_
      refine Wx.rd (v := .int .u8 (ix 0 (([z0, z1, z2, z3, z4, z5, z6, z7, z8, z9] : List Int).take (mn % (b + 1)).toNat) k)) (rd_move rfl) rfl ?_
      refine Wx.rd (v := .int .i64 j) (rd_move rfl) rfl ?_
      refine Wx.rd (v := .int .u8 ((ix 0 (([z0, z1, z2, z3, z4, z5, z6, z7, z8, z9] : List Int).take (mn % (b + 1)).toNat) k) / 2 ^ min j.toNat (IntKind.u8).bits)) (rd_shr rfl rfl (by omega)) rfl ?_
      refine Wx.rd (v := .int .u8 (bits .and .u8 ((ix 0 (([z0, z1, z2, z3, z4, z5, z6, z7, z8, z9] : List Int).take (mn % (b + 1)).toNat) k) / 2 ^ min j.toNat (IntKind.u8).bits) 1)) (rd_and rfl rfl) rfl ?_
      have bd_23 := bd_u8 (bits_in .and .u8 ((ix 0 (([z0, z1, z2, z3, z4, z5, z6, z7, z8, z9] : List Int).take (mn % (b + 1)).toNat) k) / 2 ^ min j.toNat (IntKind.u8).bits) 1)
      refine Wx.rd (v := .bool (decide ((bits .and .u8 ((ix 0 (([z0, z1, z2, z3, z4, z5, z6, z7, z8, z9] : List Int).take (mn % (b + 1)).toNat) k) / 2 ^ min j.toNat (IntKind.u8).bits) 1) = 1))) (rd_eql rfl rfl) rfl ?_
      refine Wx.nil ?_
      refine W.condD rfl (fun c2 => ?_) (fun c2 => ?_)
      · -- yes
        refine W.reg ?_
        refine Wx.rd (v := lv) (rd_move rfl) rfl ?_
        refine Wx.rd (v := .int .i64 j) (rd_move rfl) rfl ?_
        refine Wx.lit (t := (tI .i64)) (ys := [j]) (vs := [.int .i64 j]) elGa_28 hS rfl rfl ⟨(V.mkInt (in_i64 (by omega) (by omega))), trivial⟩ (by decide) rfl (fun v_24 w_25 hx_26 hS => ?_)
        refine Wx.append elGa_28 hS 1 rfl rfl rfl (Src.ofR hS 0 rfl) (by simp only [maxLen]; simp; omega) (by simp; omega) rfl (fun v_27 w_28 hz_29 hS => ?_)
        refine Wx.rd (v := v_27) (rd_assign rfl) rfl ?_
        refine Wx.nil ?_
        refine W.reg ?_
        refine Wx.rd (v := .int .i64 (j + 1)) (rd_add rfl rfl (in_i64 (by omega) (by omega))) rfl ?_
        refine Wx.rd (v := .int .i64 (j + 1)) (rd_move rfl) rfl ?_
        refine Wx.nil ?_
        have hb : hasS (ix 0 (([z0, z1, z2, z3, z4, z5, z6, z7, z8, z9] : List Int).take (mn % (b + 1)).toNat) k) j = true := decide_eq_true c2
        refine ⟨(j + 1, v_27, l ++ [j]), (by show ((1 + ly % a) - (j + 1)).toNat < ((1 + ly % a) - j).toNat; omega), ?_, ?_, Out.look rfl Out.self⟩
        · exact ⟨hS.tl, (by first | omega | assumption), (by first | omega | assumption), (by rw [← g2, up_next g0 c1, List.filter_cons, if_pos hb, List.append_assoc]; rfl), (fun h => by simp at h), (by simp; omega)⟩
        · exact ⟨rfl, rfl, trivial⟩
      · -- no
        refine W.skip ?_
        refine W.reg ?_
        refine Wx.rd (v := .int .i64 (j + 1)) (rd_add rfl rfl (in_i64 (by omega) (by omega))) rfl ?_
        refine Wx.rd (v := .int .i64 (j + 1)) (rd_move rfl) rfl ?_
        refine Wx.nil ?_
        have hb : ¬ hasS (ix 0 (([z0, z1, z2, z3, z4, z5, z6, z7, z8, z9] : List Int).take (mn % (b + 1)).toNat) k) j = true := by simp only [hasS, decide_eq_true_eq]; exact c2
        refine ⟨(j + 1, lv, l), (by show ((1 + ly % a) - (j + 1)).toNat < ((1 + ly % a) - j).toNat; omega), ?_, ?_, Out.look rfl Out.self⟩
        · exact ⟨hS, (by first | omega | assumption), (by first | omega | assumption), (by rw [← g2, up_next g0 c1, List.filter_cons, if_neg hb]), (g3), (by omega)⟩
        · exact ⟨rfl, rfl, trivial⟩
    · -- no
      refine W.exit rfl ?_
      refine W.seq ?_
      refine W.seq ?_
      refine W.reg ?_
      refine Wx.rd (v := lv) (rd_move rfl) rfl ?_
      refine Wx.rd (v := .bool (decide (l = []))) (rd_eqlNilR hS 0 rfl rfl rfl Try.underlying28 (by assumption) rfl) rfl ?_
      refine Wx.nil ?_
      refine W.condD rfl (fun c3 => ?_) (fun c3 => ?_)
      · -- yes
        refine W.reg ?_
        refine Wx.lit (t := (tI .i64)) (ys := [0]) (vs := [.int .i64 0]) elGa_28 hS rfl rfl ⟨(V.mkInt (in_i64 (by omega) (by omega))), trivial⟩ (by decide) rfl (fun v_30 w_31 hx_32 hS => ?_)
        have hS := hS.freeze 0 rfl
        refine Wx.callF (run_callF Try.call39 rfl) (F39 (hS.v 0 rfl) hS.fb_lt) rfl ?_
        rintro r_34 w_35 hx_36 ⟨_, rfl, hv_37⟩
        have ln_39 := hv_37.len63
        have hS := hS.ext hx_36
        have hS := hS.add hv_37
        refine Wx.rd (v := r_34) (rd_assign rfl) rfl ?_
        refine Wx.nil ?_
        refine W.reg ?_
        refine Wx.rd (v := .pointer (some ⟨g_9, 1, none⟩)) (rd_fieldAddr rfl foGa_24_1) rfl ?_
        refine Wx.rd (v := sv) (rd_loadX hS 5 rfl rfl rfl Try.isAgg22) rfl ?_
        refine Wx.rd (v := r_34) (rd_move rfl) rfl ?_
        refine Wx.lit (t := (tSl (tI .i64))) (ys := [[0]]) (vs := [r_34]) elGa_22 hS rfl rfl ⟨(hS.v 0 rfl), trivial⟩ (by decide) rfl (fun v_40 w_41 hx_42 hS => ?_)
        refine Wx.append elGa_22 hS 4 rfl rfl rfl (Src.ofR hS 0 rfl) (by simp only [maxLen]; simp; omega) (by simp; omega) rfl (fun v_43 w_44 hz_45 hS => ?_)
        refine Wx.rd (v := .pointer (some ⟨g_9, 1, none⟩)) (rd_fieldAddr rfl foGa_24_1) rfl ?_
        refine Wx.storeX (cs' := [.int .i64 (1 + ly % a), v_43]) (ds := [v_43]) hS 6 rfl rfl rfl (cells_one (hS.rowOne 4 rfl)) Try.sizeOf22 (Nat.le_of_ble_eq_true rfl) (one_cons (hS.rowOne 4 rfl) one_nil) rfl (fun w_46 hz_47 hS => ?_)
        refine Wx.nil ?_
        refine W.reg ?_
        refine Wx.rd (v := .int .i64 (k + 1)) (rd_add rfl rfl (in_i64 (by omega) (by omega))) rfl ?_
        refine Wx.rd (v := .int .i64 (k + 1)) (rd_move rfl) rfl ?_
        refine Wx.nil ?_
        have hl : l = ofBits (1 + ly % a) (ix 0 (([z0, z1, z2, z3, z4, z5, z6, z7, z8, z9] : List Int).take (mn % (b + 1)).toNat) k) := by rw [ofBits, ← g2, show ((1 + ly % a) - j).toNat = 0 by omega, up, List.filter_nil, List.append_nil]
        refine ⟨(k + 1, v_43, acc ++ [[0]]), (by show ((([z0, z1, z2, z3, z4, z5, z6, z7, z8, z9] : List Int).take (mn % (b + 1)).toNat).length - (k + 1)).toNat < ((([z0, z1, z2, z3, z4, z5, z6, z7, z8, z9] : List Int).take (mn % (b + 1)).toNat).length - k).toNat; omega), ?_, ?_, Out.look rfl (Out.hav rfl (Out.look rfl Out.self))⟩
        · exact ⟨St.tl (St.tl (St.tl (hS.tl))), (by first | omega | assumption), (by first | omega | assumption), (by rw [take_ix (d := 0) h0 c0, h2, List.map_append, List.map_singleton, formZ]; first | rw [if_pos (by rw [← hl]; exact c3)] | rw [if_neg (by rw [← hl]; exact c3), ← hl])⟩
        · exact ⟨rfl, trivial⟩
      · -- no
        refine W.skip ?_
        refine W.reg ?_
        refine Wx.rd (v := .pointer (some ⟨g_9, 1, none⟩)) (rd_fieldAddr rfl foGa_24_1) rfl ?_
        refine Wx.rd (v := sv) (rd_loadX hS 3 rfl rfl rfl Try.isAgg22) rfl ?_
        refine Wx.rd (v := lv) (rd_move rfl) rfl ?_
        have hS := hS.freeze 0 rfl
        refine Wx.lit (t := (tSl (tI .i64))) (ys := [l]) (vs := [lv]) elGa_22 hS rfl rfl ⟨(hS.v 0 rfl), trivial⟩ (by decide) rfl (fun v_49 w_50 hx_51 hS => ?_)
        refine Wx.append elGa_22 hS 2 rfl rfl rfl (Src.ofR hS 0 rfl) (by simp only [maxLen]; simp; omega) (by simp; omega) rfl (fun v_52 w_53 hz_54 hS => ?_)
        refine Wx.rd (v := .pointer (some ⟨g_9, 1, none⟩)) (rd_fieldAddr rfl foGa_24_1) rfl ?_
        refine Wx.storeX (cs' := [.int .i64 (1 + ly % a), v_52]) (ds := [v_52]) hS 4 rfl rfl rfl (cells_one (hS.rowOne 2 rfl)) Try.sizeOf22 (Nat.le_of_ble_eq_true rfl) (one_cons (hS.rowOne 2 rfl) one_nil) rfl (fun w_55 hz_56 hS => ?_)
        refine Wx.nil ?_
        refine W.reg ?_
        refine Wx.rd (v := .int .i64 (k + 1)) (rd_add rfl rfl (in_i64 (by omega) (by omega))) rfl ?_
        refine Wx.rd (v := .int .i64 (k + 1)) (rd_move rfl) rfl ?_
        refine Wx.nil ?_
        have hl : l = ofBits (1 + ly % a) (ix 0 (([z0, z1, z2, z3, z4, z5, z6, z7, z8, z9] : List Int).take (mn % (b + 1)).toNat) k) := by rw [ofBits, ← g2, show ((1 + ly % a) - j).toNat = 0 by omega, up, List.filter_nil, List.append_nil]
        refine ⟨(k + 1, v_52, acc ++ [l]), (by show ((([z0, z1, z2, z3, z4, z5, z6, z7, z8, z9] : List Int).take (mn % (b + 1)).toNat).length - (k + 1)).toNat < ((([z0, z1, z2, z3, z4, z5, z6, z7, z8, z9] : List Int).take (mn % (b + 1)).toNat).length - k).toNat; omega), ?_, ?_, Out.look rfl (Out.hav rfl (Out.look rfl Out.self))⟩
        · exact ⟨St.tl (hS.tl), (by first | omega | assumption), (by first | omega | assumption), (by rw [take_ix (d := 0) h0 c0, h2, List.map_append, List.map_singleton, formZ]; first | rw [if_pos (by rw [← hl]; exact c3)] | rw [if_neg (by rw [← hl]; exact c3), ← hl])⟩
        · exact ⟨rfl, trivial⟩
  · -- no
    refine W.exit rfl ?_
    refine W.seq ?_
    refine W.reg ?_
    refine Wx.rd (v := .agg #[.int .i64 (1 + ly % a), sv]) (rd_loadXs (ds := [.int .i64 (1 + ly % a), sv]) hS 2 rfl rfl rfl rfl Try.isAgg24 Try.sizeOf24) rfl ?_
    refine Wx.storeX (cs' := [.int .i64 (1 + ly % a), sv]) (ds := [.int .i64 (1 + ly % a), sv]) hS 3 rfl rfl rfl rfl Try.sizeOf24 (Nat.le_of_ble_eq_true rfl) (one_cons rfl (one_cons (hS.rowOne 0 rfl) one_nil)) rfl (fun w_57 hz_58 hS => ?_)
    refine Wx.nil ?_
    have e0_0 : (madeN a ly) = (1 + ly % a : Int) := by rfl
    have e0_1 : madeF a b ly mn [z0, z1, z2, z3, z4, z5, z6, z7, z8, z9] = acc := by rw [h2, take_end (by omega)]; rfl
    exact W.ret ⟨.agg #[.int .i64 (1 + ly % a), sv], (ResIs.cell1 hS 3 rfl rfl Try.isAgg24 Try.sizeOf24), hS.bel, ⟨sv, (by rw [e0_0]), (by rw [e0_1]; exact ((hS.lend 0 rfl).mv (.less (fun _ h => List.mem_append.2 (.inr h)))))⟩⟩
end Go.Proofs.Ytjmpojoimcljoaa
