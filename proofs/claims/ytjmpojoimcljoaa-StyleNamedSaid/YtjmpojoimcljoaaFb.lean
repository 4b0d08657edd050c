/-
  WHAT IS PROVED HERE: what functions of layer 3 hand back, each out of its own code; the conditions stand in each statement.
-/
import Derived.Test.YtjmpojoimcljoaaProg
import Derived.Test.YtjmpojoimcljoaaWk9
import Derived.Test.YtjmpojoimcljoaaSpec6
import Derived.Test.YtjmpojoimcljoaaFa
namespace Go.Proofs.Ytjmpojoimcljoaa
open Go.Wk Go.RowKit
set_option linter.unusedVariables false
set_option linter.unusedSimpArgs false
theorem foFb_85_1 : fldOff Try.prog 85 1 = some 1 := by kernel_rfl

theorem F90 {f : Int} {gp : Nat} {p : Int} {gn : Nat} {n : Int} {w : World} (i_f : InK .u8 f) (i_p : InK .u8 p) (x_gp : w.heap[gp]? = some (.cells #[.int .u8 p] 89 (0, 0))) (i_n : InK .i64 n) (x_gn : w.heap[gn]? = some (.cells #[.int .i64 n] 3 (0, 0))) (p_n : 0 ≤ n) : Calls Try.prog 90 #[.int .u8 f, .pointer (some ⟨gp, 0, none⟩), .pointer (some ⟨gn, 0, none⟩)] w (Ret w (fun r _ => r = .bool (badS p n f))) := by
  have b_n := bd_i64 i_n
  have b_p := bd_u8 i_p
  have b_f := bd_u8 i_f
  have hS := St.start0 w
  refine enterR Try.func90 rfl Try.ntmps90 Try.results90 rfl ?_
  refine W.seq ?_
  refine W.reg ?_
  refine Wx.rd (v := .bool false) (rd_assign rfl) rfl ?_
  refine Wx.nil ?_
  refine W.seq ?_
  refine W.reg ?_
  refine Wx.rd (v := .int .u8 f) (rd_move rfl) rfl ?_
  refine Wx.rd (v := .int .u8 p) (rd_loadO x_gp hS.bel rfl rfl Try.isAgg89) rfl ?_
  refine Wx.rd (v := .int .u8 (bits .and .u8 f p)) (rd_and rfl rfl) rfl ?_
  have bd_1 := bd_u8 (bits_in .and .u8 f p)
  refine Wx.rd (v := .bool (decide ((bits .and .u8 f p) ≠ 0))) (rd_neq rfl rfl) rfl ?_
  refine Wx.rd (v := .bool (decide ((bits .and .u8 f p) ≠ 0))) (rd_move rfl) rfl ?_
  refine Wx.cut (X := Unit) 5 [10, 11, 12, 13, 14] (fun _ => [(14, .bool (decide ((bits .and .u8 f p) ≠ 0) && decide ((bits .andNot .u8 f p) ≠ 0)))]) (fun _ w' => St w [] w' []) ?_ ?_
  · rcases Bool.eq_false_or_eq_true (decide ((bits .and .u8 f p) ≠ 0)) with g_2 | g_2
    · -- True
      have gp_3 := of_decide_eq_true g_2
      refine Wx.gyes rfl rfl (congrArg Value.bool g_2) ?_
      refine Wx.rd (v := .int .u8 f) (rd_move rfl) rfl ?_
      refine Wx.gyes rfl rfl (congrArg Value.bool g_2) ?_
      refine Wx.rd (v := .int .u8 p) (rd_loadO x_gp hS.bel rfl rfl Try.isAgg89) rfl ?_
      refine Wx.gyes rfl rfl (congrArg Value.bool g_2) ?_
      refine Wx.rd (v := .int .u8 (bits .andNot .u8 f p)) (rd_andNot rfl rfl) rfl ?_
      have bd_4 := bd_u8 (bits_in .andNot .u8 f p)
      refine Wx.gyes rfl rfl (congrArg Value.bool g_2) ?_
      refine Wx.rd (v := .bool (decide ((bits .andNot .u8 f p) ≠ 0))) (rd_neq rfl rfl) rfl ?_
      refine Wx.rd (v := .bool (decide ((bits .andNot .u8 f p) ≠ 0))) (rd_pickT (congrArg Value.bool g_2) rfl) rfl ?_
      refine Wx.nil ⟨(), hS, ⟨?_, trivial⟩, Out.look rfl Out.refl⟩
      show Value.bool (decide ((bits .andNot .u8 f p) ≠ 0)) = Value.bool (decide ((bits .and .u8 f p) ≠ 0) && decide ((bits .andNot .u8 f p) ≠ 0))
      rw [g_2]; rfl
    · -- False
      have gp_5 := of_decide_eq_false g_2
      refine Wx.gnoB rfl rfl (congrArg Value.bool g_2) rfl rfl ?_
      refine Wx.gnoB rfl rfl (congrArg Value.bool g_2) rfl rfl ?_
      refine Wx.gnoB rfl rfl (congrArg Value.bool g_2) rfl rfl ?_
      refine Wx.gnoB rfl rfl (congrArg Value.bool g_2) rfl rfl ?_
      refine Wx.rd (v := .bool false) (rd_pickF (congrArg Value.bool g_2) rfl) rfl ?_
      refine Wx.nil ⟨(), hS, ⟨?_, trivial⟩, Out.look rfl Out.refl⟩
      show Value.bool false = Value.bool (decide ((bits .and .u8 f p) ≠ 0) && decide ((bits .andNot .u8 f p) ≠ 0))
      rw [g_2]; rfl
  rintro ⟨⟩ u_7 w_6 hS
  refine Wx.rd (v := .bool (decide ((bits .and .u8 f p) ≠ 0) && decide ((bits .andNot .u8 f p) ≠ 0))) (rd_move rfl) rfl ?_
  refine Wx.cut (X := Unit) 5 [16, 17, 18, 19, 20] (fun _ => [(20, .bool ((decide ((bits .and .u8 f p) ≠ 0) && decide ((bits .andNot .u8 f p) ≠ 0)) && !(hasS f n)))]) (fun _ w' => St w [] w' []) ?_ ?_
  · rcases Bool.eq_false_or_eq_true (decide ((bits .and .u8 f p) ≠ 0) && decide ((bits .andNot .u8 f p) ≠ 0)) with g_8 | g_8
    · -- True
      have gp_9 := g_8
      try simp only [Bool.and_eq_true, Bool.or_eq_true, Bool.not_eq_true', Bool.and_eq_false_iff, Bool.or_eq_false_iff, Bool.not_eq_false', decide_eq_true_eq, decide_eq_false_iff_not, not_or, Bool.false_eq_true, Bool.true_eq_false, false_or, or_false, not_false_eq_true] at gp_9
      refine Wx.gyes rfl rfl (congrArg Value.bool g_8) ?_
      refine Wx.rd (v := .int .u8 f) (rd_move rfl) rfl ?_
      refine Wx.gyes rfl rfl (congrArg Value.bool g_8) ?_
      refine Wx.rd (v := .int .i64 n) (rd_loadO x_gn hS.bel rfl rfl Try.isAgg3) rfl ?_
      refine Wx.gyes rfl rfl (congrArg Value.bool g_8) ?_
      refine Wx.callF (run_callF Try.call88 rfl) (F88 (in_u8 (by omega) (by omega)) (in_i64 (by omega) (by omega)) (by omega)) rfl ?_
      rintro r_10 w_11 hx_12 rfl
      have hS := hS.ext hx_12
      refine Wx.gyes rfl rfl (congrArg Value.bool g_8) ?_
      refine Wx.rd (v := .bool (!(hasS f n))) (rd_not rfl) rfl ?_
      refine Wx.rd (v := .bool (!(hasS f n))) (rd_pickT (congrArg Value.bool g_8) rfl) rfl ?_
      refine Wx.nil ⟨(), hS, ⟨?_, trivial⟩, Out.look rfl Out.refl⟩
      show Value.bool (!(hasS f n)) = Value.bool ((decide ((bits .and .u8 f p) ≠ 0) && decide ((bits .andNot .u8 f p) ≠ 0)) && !(hasS f n))
      rw [g_8]; rfl
    · -- False
      have gp_13 := g_8
      try simp only [Bool.and_eq_true, Bool.or_eq_true, Bool.not_eq_true', Bool.and_eq_false_iff, Bool.or_eq_false_iff, Bool.not_eq_false', decide_eq_true_eq, decide_eq_false_iff_not, not_or, Bool.false_eq_true, Bool.true_eq_false, false_or, or_false, not_false_eq_true] at gp_13
      refine Wx.gnoB rfl rfl (congrArg Value.bool g_8) rfl rfl ?_
      refine Wx.gnoB rfl rfl (congrArg Value.bool g_8) rfl rfl ?_
      refine Wx.gnoB rfl rfl (congrArg Value.bool g_8) rfl rfl ?_
      refine Wx.gnoB rfl rfl (congrArg Value.bool g_8) rfl rfl ?_
      refine Wx.rd (v := .bool false) (rd_pickF (congrArg Value.bool g_8) rfl) rfl ?_
      refine Wx.nil ⟨(), hS, ⟨?_, trivial⟩, Out.look rfl Out.refl⟩
      show Value.bool false = Value.bool ((decide ((bits .and .u8 f p) ≠ 0) && decide ((bits .andNot .u8 f p) ≠ 0)) && !(hasS f n))
      rw [g_8]; rfl
  rintro ⟨⟩ u_15 w_14 hS
  refine Wx.rd (v := .bool ((decide ((bits .and .u8 f p) ≠ 0) && decide ((bits .andNot .u8 f p) ≠ 0)) && !(hasS f n))) (rd_assign rfl) rfl ?_
  refine Wx.nil ?_
  have e0_0 : (badS p n f) = ((decide ((bits .and .u8 f p) ≠ 0) && decide ((bits .andNot .u8 f p) ≠ 0)) && !(hasS f n)) := by rfl
  exact W.ret ⟨.bool ((decide ((bits .and .u8 f p) ≠ 0) && decide ((bits .andNot .u8 f p) ≠ 0)) && !(hasS f n)), ResIs.one, hS.bel, (by rw [e0_0])⟩

theorem F112 {fv : Value} {fs : List Int} {Fr_fv : List (Option Nat)} {gp : Nat} {p : Int} {gn : Nat} {n : Int} {w : World} (h_fv : V (tSl (tI .u8)) fs fv Fr_fv w) (i_p : InK .u8 p) (x_gp : w.heap[gp]? = some (.cells #[.int .u8 p] 89 (0, 0))) (i_n : InK .i64 n) (x_gn : w.heap[gn]? = some (.cells #[.int .i64 n] 3 (0, 0))) (p_n : 0 ≤ n) : Calls Try.prog 112 #[fv, .func (.func 90) #[] #[.pointer (some ⟨gp, 0, none⟩), .pointer (some ⟨gn, 0, none⟩)]] w (Ret w (fun r _ => r = .int .i64 (idxL (badS p n) 0 fs))) := by
  have b_n := bd_i64 i_n
  have b_p := bd_u8 i_p
  have a_fv := h_fv.any
  have l_fv := h_fv.len63
  have hS := St.start0 w
  refine enterR Try.func112 rfl Try.ntmps112 Try.results112 rfl ?_
  refine W.seq ?_
  refine W.reg ?_
  refine Wx.rd (v := .int .i64 0) (rd_assign rfl) rfl ?_
  refine Wx.nil ?_
  refine W.seq ?_
  refine W.seq ?_
  refine W.reg ?_
  refine Wx.rd (v := fv) (rd_move rfl) rfl ?_
  refine Wx.rd (v := .int .i64 (fs.length : Int)) (rd_lenV rfl (hS.arg a_fv) Try.underlying83) rfl ?_
  refine Wx.rd (v := .int .i64 0) (rd_move rfl) rfl ?_
  refine Wx.nil ?_
  refine W.block ?_
  refine W.loop [4, 5, 8, 9, 10, 11, 12, 13, 14, 15, 16, 17, 18] (fun (k : Int) => [(8, .int .i64 k)]) (fun (k : Int) w' => St w [] w' [] ∧ 0 ≤ k ∧ k ≤ fs.length ∧ idxL (badS p n) k (fs.drop k.toNat) = idxL (badS p n) 0 fs) (fun (k : Int) => (fs.length - k).toNat) 0 ⟨rfl, trivial⟩ ⟨hS, (by first | omega | simp), (by first | omega | simp), (by simp)⟩ ?_
  rintro k u_2 w_1 ⟨hS, h0, h1, h2⟩
  refine W.seq ?_
  refine W.reg ?_
  refine Wx.rd (v := .bool (decide (k < (fs.length : Int)))) (rd_lss rfl rfl) rfl ?_
  refine Wx.nil ?_
  refine W.seq ?_
  refine W.condD rfl (fun c0 => ?_) (fun c0 => ?_)
  · -- yes
    refine W.skip ?_
    refine W.seq ?_
    refine W.block ?_
    refine W.seq ?_
    refine W.reg ?_
    refine Wx.rd (v := .int .i64 k) (rd_move rfl) rfl ?_
    refine Wx.rd (v := .int .i64 k) (rd_assign rfl) rfl ?_
    refine Wx.nil ?_
    refine W.seq ?_
    refine W.reg ?_
    refine Wx.rd (v := .func (.func 90) #[] #[.pointer (some ⟨gp, 0, none⟩), .pointer (some ⟨gn, 0, none⟩)]) (rd_move rfl) rfl ?_
    refine Wx.rd (v := fv) (rd_move rfl) rfl ?_
    refine Wx.rd (v := .int .i64 k) (rd_move rfl) rfl ?_
    refine Wx.ex (rd_index 0 (hS.arg a_fv) rfl rfl Try.underlying83 Try.sizeOf89 (by first | omega | (simp only [List.length_set, List.length_append, List.length_cons, List.length_nil, List.length_replicate]; omega)) (by first | omega | (simp only [List.length_set, List.length_append, List.length_cons, List.length_nil, List.length_replicate]; omega))) rfl (fun p_3 hp_4 => ?_)
    refine Wx.rd (v := .int .u8 (ix 0 fs k)) (rd_loadI hp_4 rfl Try.isAgg89 Try.sizeOf89) rfl ?_
    have bd_5 := bd_u8 hp_4.inK
    refine Wx.callF (run_callC (fs := []) (cs := [.pointer (some ⟨gp, 0, none⟩), .pointer (some ⟨gn, 0, none⟩)]) (vs := [.int .u8 (ix 0 fs k), .pointer (some ⟨gp, 0, none⟩), .pointer (some ⟨gn, 0, none⟩)]) Try.call90 rfl rfl) (F90 (in_u8 (by omega) (by omega)) (in_u8 (by omega) (by omega)) (extAt x_gp hS.bel) (in_i64 (by omega) (by omega)) (extAt x_gn hS.bel) (by omega)) rfl ?_
    rintro r_6 w_7 hx_8 rfl
    have hS := hS.ext hx_8
    refine Wx.nil ?_
    refine W.cond rfl (fun c1 => ?_) (fun c1 => ?_)
    · -- yes
      try simp only [Bool.and_eq_true, Bool.or_eq_true, Bool.not_eq_true', Bool.and_eq_false_iff, Bool.or_eq_false_iff, Bool.not_eq_false', decide_eq_true_eq, decide_eq_false_iff_not, not_or, Bool.false_eq_true, Bool.true_eq_false, false_or, or_false, not_false_eq_true] at c1
      refine W.seq ?_
      refine W.reg ?_
      refine Wx.rd (v := .int .i64 k) (rd_move rfl) rfl ?_
      refine Wx.rd (v := .int .i64 k) (rd_assign rfl) rfl ?_
      refine Wx.nil ?_
      have e0_0 : (idxL (badS p n) 0 fs) = (k : Int) := by rw [← h2, drop_ix (d := 0) h0 c0, idxL, if_pos c1]
      exact W.ret ⟨.int .i64 k, ResIs.one, hS.bel, (by rw [e0_0])⟩
    · -- no
      try simp only [Bool.and_eq_true, Bool.or_eq_true, Bool.not_eq_true', Bool.and_eq_false_iff, Bool.or_eq_false_iff, Bool.not_eq_false', decide_eq_true_eq, decide_eq_false_iff_not, not_or, Bool.false_eq_true, Bool.true_eq_false, false_or, or_false, not_false_eq_true] at c1
      refine W.skip ?_
      refine W.reg ?_
      refine Wx.rd (v := .int .i64 (k + 1)) (rd_add rfl rfl (in_i64 (by omega) (by omega))) rfl ?_
      refine Wx.rd (v := .int .i64 (k + 1)) (rd_move rfl) rfl ?_
      refine Wx.nil ?_
      refine ⟨k + 1, (by show (fs.length - (k + 1)).toNat < (fs.length - k).toNat; omega), ?_, ?_, Out.look rfl Out.self⟩
      · exact ⟨hS, (by first | omega | assumption), (by first | omega | assumption), (by rw [← h2, drop_ix (d := 0) h0 c0, idxL, if_neg (by simp [c1])])⟩
      · exact ⟨rfl, trivial⟩
  · -- no
    refine W.exit rfl ?_
    refine W.seq ?_
    refine W.reg ?_
    refine Wx.rd (v := .int .i64 (-1)) (rd_assign rfl) rfl ?_
    refine Wx.nil ?_
    have e1_0 : (idxL (badS p n) 0 fs) = (-1 : Int) := by rw [← h2, drop_end (by omega)]; rfl
    exact W.ret ⟨.int .i64 (-1), ResIs.one, hS.bel, (by rw [e1_0])⟩

theorem F89 {fv : Value} {fs : List Int} {Fr_fv : List (Option Nat)} {gp : Nat} {p : Int} {gn : Nat} {n : Int} {w : World} (h_fv : V (tSl (tI .u8)) fs fv Fr_fv w) (i_p : InK .u8 p) (x_gp : w.heap[gp]? = some (.cells #[.int .u8 p] 89 (0, 0))) (i_n : InK .i64 n) (x_gn : w.heap[gn]? = some (.cells #[.int .i64 n] 3 (0, 0))) (p_n : 0 ≤ n) : Calls Try.prog 89 #[fv, .func (.func 90) #[] #[.pointer (some ⟨gp, 0, none⟩), .pointer (some ⟨gn, 0, none⟩)]] w (Ret w (fun r _ => r = .bool (fs.any (badS p n)))) := by
  have b_n := bd_i64 i_n
  have b_p := bd_u8 i_p
  have a_fv := h_fv.any
  have l_fv := h_fv.len63
  have hS := St.start0 w
  refine enterR Try.func89 rfl Try.ntmps89 Try.results89 rfl ?_
  refine W.seq ?_
  refine W.reg ?_
  refine Wx.rd (v := .bool false) (rd_assign rfl) rfl ?_
  refine Wx.nil ?_
  refine W.seq ?_
  refine W.reg ?_
  refine Wx.rd (v := fv) (rd_move rfl) rfl ?_
  refine Wx.rd (v := .func (.func 90) #[] #[.pointer (some ⟨gp, 0, none⟩), .pointer (some ⟨gn, 0, none⟩)]) (rd_move rfl) rfl ?_
  refine Wx.callF (run_callF Try.call112 rfl) (F112 (hS.arg a_fv) (in_u8 (by omega) (by omega)) (extAt x_gp hS.bel) (in_i64 (by omega) (by omega)) (extAt x_gn hS.bel) (by omega)) rfl ?_
  rintro r_1 w_2 hx_3 rfl
  have hS := hS.ext hx_3
  refine Wx.rd (v := .bool (decide (0 ≤ (idxL (badS p n) 0 fs)))) (rd_geq rfl rfl) rfl ?_
  refine Wx.rd (v := .bool (decide (0 ≤ (idxL (badS p n) 0 fs)))) (rd_assign rfl) rfl ?_
  refine Wx.nil ?_
  have e0_0 : (fs.any (badS p n)) = (decide (0 ≤ (idxL (badS p n) 0 fs))) := by exact (idxL_any _ _ _ (by omega)).symm
  exact W.ret ⟨.bool (decide (0 ≤ (idxL (badS p n) 0 fs))), ResIs.one, hS.bel, (by rw [e0_0])⟩

theorem F62 {L : Int} {sv : Value} {ss : List Int} {Fr_sv : List (Option Nat)} {p : Int} {n : Int} {w : World} (i_L : InK .i64 L) (h_sv : V (tSl (tI .u8)) ss sv Fr_sv w) (i_p : InK .u8 p) (i_n : InK .i64 n) (p_n : 0 ≤ n) : Calls Try.prog 62 #[.agg #[.int .i64 L, sv], .int .u8 p, .int .i64 n] w (Ret w (fun r _ => r = .bool (mayB ss p n))) := by
  have b_n := bd_i64 i_n
  have b_p := bd_u8 i_p
  have b_L := bd_i64 i_L
  have a_sv := h_sv.any
  have l_sv := h_sv.len63
  have hS := St.start0 w
  refine enterR Try.func62 rfl Try.ntmps62 Try.results62 rfl ?_
  refine W.seq ?_
  refine W.reg ?_
  refine Wx.box (cs := [.int .i64 L, sv]) hS rfl rfl rfl (fun g_1 w_2 hx_4 hb_3 hS => ?_)
  refine Wx.box (cs := [.int .u8 p]) hS rfl rfl rfl (fun g_5 w_6 hx_8 hb_7 hS => ?_)
  refine Wx.box (cs := [.int .i64 n]) hS rfl rfl rfl (fun g_9 w_10 hx_12 hb_11 hS => ?_)
  refine Wx.rd (v := .bool false) (rd_assign rfl) rfl ?_
  refine Wx.nil ?_
  refine W.seq ?_
  refine W.reg ?_
  refine Wx.rd (v := .int .u8 p) (rd_loadX hS 1 rfl rfl rfl Try.isAgg89) rfl ?_
  refine Wx.rd (v := .int .i64 n) (rd_loadX hS 0 rfl rfl rfl Try.isAgg3) rfl ?_
  refine Wx.callF (run_callF Try.call88 rfl) (F88 (in_u8 (by omega) (by omega)) (in_i64 (by omega) (by omega)) (by omega)) rfl ?_
  rintro r_13 w_14 hx_15 rfl
  have hS := hS.ext hx_15
  refine Wx.rd (v := .bool (!(hasS p n))) (rd_not rfl) rfl ?_
  refine Wx.rd (v := .bool (!(hasS p n))) (rd_move rfl) rfl ?_
  refine Wx.cut (X := Unit) 6 [12, 13, 14, 15, 16, 17] (fun _ => [(17, .bool (!(hasS p n) && !(ss.any (badS p n))))]) (fun _ w' => St w [] w' [.box g_9 3 [.int .i64 n], .box g_5 89 [.int .u8 p], .box g_1 85 [.int .i64 L, sv]]) ?_ ?_
  · rcases Bool.eq_false_or_eq_true (!(hasS p n)) with g_16 | g_16
    · -- True
      have gp_17 := g_16
      try simp only [Bool.and_eq_true, Bool.or_eq_true, Bool.not_eq_true', Bool.and_eq_false_iff, Bool.or_eq_false_iff, Bool.not_eq_false', decide_eq_true_eq, decide_eq_false_iff_not, not_or, Bool.false_eq_true, Bool.true_eq_false, false_or, or_false, not_false_eq_true] at gp_17
      refine Wx.gyes rfl rfl (congrArg Value.bool g_16) ?_
      refine Wx.rd (v := .pointer (some ⟨g_1, 1, none⟩)) (rd_fieldAddr rfl foFb_85_1) rfl ?_
      refine Wx.gyes rfl rfl (congrArg Value.bool g_16) ?_
      refine Wx.rd (v := sv) (rd_loadX hS 2 rfl rfl rfl Try.isAgg83) rfl ?_
      refine Wx.gyes rfl rfl (congrArg Value.bool g_16) ?_
      refine Wx.rd (v := .func (.func 90) #[] #[.pointer (some ⟨g_5, 0, none⟩), .pointer (some ⟨g_9, 0, none⟩)]) (rd_makeFunc (vs := []) (us := [.pointer (some ⟨g_5, 0, none⟩), .pointer (some ⟨g_9, 0, none⟩)]) rfl rfl) rfl ?_
      refine Wx.gyes rfl rfl (congrArg Value.bool g_16) ?_
      refine Wx.callF (run_callF Try.call89 rfl) (F89 (hS.arg a_sv) (in_u8 (by omega) (by omega)) (boxAt hS 1 rfl (Ext.refl _)) (in_i64 (by omega) (by omega)) (boxAt hS 0 rfl (Ext.refl _)) (by omega)) rfl ?_
      rintro r_18 w_19 hx_20 rfl
      have hS := hS.ext hx_20
      refine Wx.gyes rfl rfl (congrArg Value.bool g_16) ?_
      refine Wx.rd (v := .bool (!(ss.any (badS p n)))) (rd_not rfl) rfl ?_
      refine Wx.rd (v := .bool (!(ss.any (badS p n)))) (rd_pickT (congrArg Value.bool g_16) rfl) rfl ?_
      refine Wx.nil ⟨(), hS, ⟨?_, trivial⟩, Out.look rfl Out.refl⟩
      show Value.bool (!(ss.any (badS p n))) = Value.bool (!(hasS p n) && !(ss.any (badS p n)))
      rw [g_16]; rfl
    · -- False
      have gp_21 := g_16
      try simp only [Bool.and_eq_true, Bool.or_eq_true, Bool.not_eq_true', Bool.and_eq_false_iff, Bool.or_eq_false_iff, Bool.not_eq_false', decide_eq_true_eq, decide_eq_false_iff_not, not_or, Bool.false_eq_true, Bool.true_eq_false, false_or, or_false, not_false_eq_true] at gp_21
      refine Wx.gnoB rfl rfl (congrArg Value.bool g_16) rfl rfl ?_
      refine Wx.gnoB rfl rfl (congrArg Value.bool g_16) rfl rfl ?_
      refine Wx.gnoB rfl rfl (congrArg Value.bool g_16) rfl rfl ?_
      refine Wx.gnoB rfl rfl (congrArg Value.bool g_16) rfl rfl ?_
      refine Wx.gnoB rfl rfl (congrArg Value.bool g_16) rfl rfl ?_
      refine Wx.rd (v := .bool false) (rd_pickF (congrArg Value.bool g_16) rfl) rfl ?_
      refine Wx.nil ⟨(), hS, ⟨?_, trivial⟩, Out.look rfl Out.refl⟩
      show Value.bool false = Value.bool (!(hasS p n) && !(ss.any (badS p n)))
      rw [g_16]; rfl
  rintro ⟨⟩ u_23 w_22 hS
  refine Wx.rd (v := .bool (!(hasS p n) && !(ss.any (badS p n)))) (rd_assign rfl) rfl ?_
  refine Wx.nil ?_
  have e0_0 : (mayB ss p n) = (!(hasS p n) && !(ss.any (badS p n))) := by rfl
  exact W.ret ⟨.bool (!(hasS p n) && !(ss.any (badS p n))), ResIs.one, hS.bel, (by rw [e0_0])⟩
end Go.Proofs.Ytjmpojoimcljoaa
