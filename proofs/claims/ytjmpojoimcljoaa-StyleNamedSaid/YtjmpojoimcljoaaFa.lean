/-
  WHAT IS PROVED HERE: what functions of layer 3 hand back, each out of its own code; the conditions stand in each statement.
-/
import Derived.Test.YtjmpojoimcljoaaProg
import Derived.Test.YtjmpojoimcljoaaWk9
import Derived.Test.YtjmpojoimcljoaaSpec6
namespace Go.Proofs.Ytjmpojoimcljoaa
open Go.Wk Go.RowKit
set_option linter.unusedVariables false
set_option linter.unusedSimpArgs false
theorem foFa_27_0 : fldOff Try.prog 27 0 = some 0 := by kernel_rfl
theorem foFa_27_1 : fldOff Try.prog 27 1 = some 1 := by kernel_rfl
theorem mixedFa_ : Try.prog.follows .mixedOrders = true := by kernel_rfl
theorem foFa_24_0 : fldOff Try.prog 24 0 = some 0 := by kernel_rfl
theorem foFa_24_1 : fldOff Try.prog 24 1 = some 1 := by kernel_rfl
theorem foFa_85_1 : fldOff Try.prog 85 1 = some 1 := by kernel_rfl
theorem elFa_83 : ElemI Try.prog 83 89 (.int .u8 0) 1 1 := ElemI.of Try.underlying83 (by kernel_rfl) (by first | rfl | kernel_rfl) (by decide)

theorem F71 {n : Int} {lo : Int} {hi : Int} {w : World} (i_n : InK .i64 n) (i_lo : InK .i64 lo) (i_hi : InK .i64 hi) : Calls Try.prog 71 #[.int .i64 n, .int .i64 lo, .int .i64 hi] w (Ret w (fun r _ => r = .bool (decide (lo ≤ n) && decide (n ≤ hi)))) := by
  have b_hi := bd_i64 i_hi
  have b_lo := bd_i64 i_lo
  have b_n := bd_i64 i_n
  have hS := St.start0 w
  refine enterR Try.func71 rfl Try.ntmps71 Try.results71 rfl ?_
  refine W.seq ?_
  refine W.reg ?_
  refine Wx.rd (v := .bool false) (rd_assign rfl) rfl ?_
  refine Wx.nil ?_
  refine W.seq ?_
  refine W.reg ?_
  refine Wx.rd (v := .int .i64 n) (rd_move rfl) rfl ?_
  refine Wx.rd (v := .int .i64 lo) (rd_move rfl) rfl ?_
  refine Wx.rd (v := .bool (decide (lo ≤ n))) (rd_geq rfl rfl) rfl ?_
  refine Wx.rd (v := .bool (decide (lo ≤ n))) (rd_move rfl) rfl ?_
  refine Wx.cut (X := Unit) 4 [11, 12, 13, 14] (fun _ => [(14, .bool (decide (lo ≤ n) && decide (n ≤ hi)))]) (fun _ w' => St w [] w' []) ?_ ?_
  · rcases Bool.eq_false_or_eq_true (decide (lo ≤ n)) with g_1 | g_1
    · -- True
      have gp_2 := of_decide_eq_true g_1
      refine Wx.gyes rfl rfl (congrArg Value.bool g_1) ?_
      refine Wx.rd (v := .int .i64 n) (rd_move rfl) rfl ?_
      refine Wx.gyes rfl rfl (congrArg Value.bool g_1) ?_
      refine Wx.rd (v := .int .i64 hi) (rd_move rfl) rfl ?_
      refine Wx.gyes rfl rfl (congrArg Value.bool g_1) ?_
      refine Wx.rd (v := .bool (decide (n ≤ hi))) (rd_leq rfl rfl) rfl ?_
      refine Wx.rd (v := .bool (decide (n ≤ hi))) (rd_pickT (congrArg Value.bool g_1) rfl) rfl ?_
      refine Wx.nil ⟨(), hS, ⟨?_, trivial⟩, Out.look rfl Out.refl⟩
      show Value.bool (decide (n ≤ hi)) = Value.bool (decide (lo ≤ n) && decide (n ≤ hi))
      rw [g_1]; rfl
    · -- False
      have gp_3 := of_decide_eq_false g_1
      refine Wx.gnoB rfl rfl (congrArg Value.bool g_1) rfl rfl ?_
      refine Wx.gnoB rfl rfl (congrArg Value.bool g_1) rfl rfl ?_
      refine Wx.gnoB rfl rfl (congrArg Value.bool g_1) rfl rfl ?_
      refine Wx.rd (v := .bool false) (rd_pickF (congrArg Value.bool g_1) rfl) rfl ?_
      refine Wx.nil ⟨(), hS, ⟨?_, trivial⟩, Out.look rfl Out.refl⟩
      show Value.bool false = Value.bool (decide (lo ≤ n) && decide (n ≤ hi))
      rw [g_1]; rfl
  rintro ⟨⟩ u_5 w_4 hS
  refine Wx.rd (v := .bool (decide (lo ≤ n) && decide (n ≤ hi))) (rd_assign rfl) rfl ?_
  refine Wx.nil ?_
  exact W.ret ⟨.bool (decide (lo ≤ n) && decide (n ≤ hi)), ResIs.one, hS.bel, rfl⟩

theorem F81 {v : Value} {l : List Int} {Fr_v : List (Option Nat)} {n : Int} {w : World} (h_v : V (tSl (tI .i64)) l v Fr_v w) (i_n : InK .i64 n) : Calls Try.prog 81 #[v, .int .i64 n] w (Ret w (fun r _ => r = .bool (hasL l n))) := by
  have b_n := bd_i64 i_n
  have a_v := h_v.any
  have l_v := h_v.len63
  have hS := St.start0 w
  refine enterR Try.func81 rfl Try.ntmps81 Try.results81 rfl ?_
  refine W.seq ?_
  refine W.reg ?_
  refine Wx.rd (v := .bool false) (rd_assign rfl) rfl ?_
  refine Wx.nil ?_
  refine W.seq ?_
  refine W.seq ?_
  refine W.reg ?_
  refine Wx.rd (v := .int .i64 0) (rd_assign rfl) rfl ?_
  refine Wx.nil ?_
  refine W.block ?_
  refine W.loop [4, 5, 6, 7, 8, 9, 10, 11, 12, 13, 14, 15, 16, 17] (fun (k : Int) => [(5, .int .i64 k)]) (fun (k : Int) w' => St w [] w' [] ∧ 0 ≤ k ∧ k ≤ l.length ∧ hasL (l.drop k.toNat) n = hasL l n) (fun (k : Int) => (l.length - k).toNat) 0 ⟨rfl, trivial⟩ ⟨hS, (by first | omega | simp), (by first | omega | simp), (by simp)⟩ ?_
  rintro k u_2 w_1 ⟨hS, h0, h1, h2⟩
  refine W.seq ?_
  refine W.seq ?_
  refine W.reg ?_
  refine Wx.rd (v := .int .i64 k) (rd_move rfl) rfl ?_
  refine Wx.rd (v := v) (rd_move rfl) rfl ?_
  refine Wx.rd (v := .int .i64 (l.length : Int)) (rd_lenV rfl (hS.arg a_v) Try.underlying28) rfl ?_
  refine Wx.rd (v := .bool (decide (k < (l.length : Int)))) (rd_lss rfl rfl) rfl ?_
  refine Wx.nil ?_
  refine W.condD rfl (fun c0 => ?_) (fun c0 => ?_)
  · -- yes
    refine W.skip ?_
    refine W.seq ?_
    refine W.block ?_
    refine W.seq ?_
    refine W.reg ?_
    refine Wx.rd (v := v) (rd_move rfl) rfl ?_
    refine Wx.rd (v := .int .i64 k) (rd_move rfl) rfl ?_
    refine Wx.ex (rd_index 0 (hS.arg a_v) rfl rfl Try.underlying28 Try.sizeOf3 (by first | omega | (simp only [List.length_set, List.length_append, List.length_cons, List.length_nil, List.length_replicate]; omega)) (by first | omega | (simp only [List.length_set, List.length_append, List.length_cons, List.length_nil, List.length_replicate]; omega))) rfl (fun p_3 hp_4 => ?_)
    refine Wx.rd (v := .int .i64 (ix 0 l k)) (rd_loadI hp_4 rfl Try.isAgg3 Try.sizeOf3) rfl ?_
    have bd_5 := bd_i64 hp_4.inK
    refine Wx.rd (v := .int .i64 n) (rd_move rfl) rfl ?_
    refine Wx.rd (v := .bool (decide ((ix 0 l k) = n))) (rd_eql rfl rfl) rfl ?_
    refine Wx.nil ?_
    refine W.condD rfl (fun c1 => ?_) (fun c1 => ?_)
    · -- yes
      refine W.seq ?_
      refine W.reg ?_
      refine Wx.rd (v := .bool true) (rd_assign rfl) rfl ?_
      refine Wx.nil ?_
      have e0_0 : (hasL l n) = true := by rw [← h2, drop_ix (d := 0) h0 c0]; simp [hasL, c1]
      exact W.ret ⟨.bool true, ResIs.one, hS.bel, (by rw [e0_0])⟩
    · -- no
      refine W.skip ?_
      refine W.reg ?_
      refine Wx.rd (v := .int .i64 k) (rd_move rfl) rfl ?_
      refine Wx.rd (v := .int .i64 (k + 1)) (rd_add rfl rfl (in_i64 (by omega) (by omega))) rfl ?_
      refine Wx.rd (v := .int .i64 (k + 1)) (rd_assign rfl) rfl ?_
      refine Wx.nil ?_
      refine ⟨k + 1, (by show (l.length - (k + 1)).toNat < (l.length - k).toNat; omega), ?_, ?_, Out.look rfl Out.self⟩
      · exact ⟨hS, (by first | omega | assumption), (by first | omega | assumption), (by rw [← h2, drop_ix (d := 0) h0 c0]; simp [hasL, c1])⟩
      · exact ⟨rfl, trivial⟩
  · -- no
    refine W.exit rfl ?_
    refine W.seq ?_
    refine W.reg ?_
    refine Wx.rd (v := .bool false) (rd_assign rfl) rfl ?_
    refine Wx.nil ?_
    have e1_0 : (hasL l n) = false := by rw [← h2, drop_end (by omega)]; rfl
    exact W.ret ⟨.bool false, ResIs.one, hS.bel, (by rw [e1_0])⟩

theorem F37 {L : Int} {fv : Value} {fs : List (List Int)} {Fr_fv : List (Option Nat)} {w : World} (i_L : InK .i64 L) (h_fv : V (tSl (tSl (tI .i64))) fs fv Fr_fv w) : Calls Try.prog 37 #[.agg #[.int .i64 L, fv]] w (Ret w (fun r _ => r = .int .i64 (checkE L fs))) := by
  have b_L := bd_i64 i_L
  have a_fv := h_fv.any
  have l_fv := h_fv.len63
  have hS := St.start0 w
  refine enterR Try.func37 rfl Try.ntmps37 Try.results37 rfl ?_
  refine W.seq ?_
  refine W.reg ?_
  refine Wx.box (cs := [.int .i64 L, fv]) hS rfl rfl rfl (fun g_1 w_2 hx_4 hb_3 hS => ?_)
  refine Wx.rd (v := .int .i64 0) (rd_assign rfl) rfl ?_
  refine Wx.nil ?_
  refine W.seq ?_
  refine W.seq ?_
  refine W.reg ?_
  refine Wx.rd (v := .pointer (some ⟨g_1, 0, none⟩)) (rd_fieldAddr rfl foFa_27_0) rfl ?_
  refine Wx.rd (v := .int .i64 L) (rd_loadX hS 0 rfl rfl rfl Try.isAgg3) rfl ?_
  refine Wx.callF (run_callF Try.call71 rfl) (F71 (in_i64 (by omega) (by omega)) (in_i64 (by omega) (by omega)) (in_i64 (by omega) (by omega))) rfl ?_
  rintro r_5 w_6 hx_7 rfl
  have hS := hS.ext hx_7
  refine Wx.rd (v := .bool (!(decide (1 ≤ L) && decide (L ≤ 7)))) (rd_not rfl) rfl ?_
  refine Wx.nil ?_
  refine W.cond rfl (fun c0 => ?_) (fun c0 => ?_)
  · -- yes
    try simp only [Bool.and_eq_true, Bool.or_eq_true, Bool.not_eq_true', Bool.and_eq_false_iff, Bool.or_eq_false_iff, Bool.not_eq_false', decide_eq_true_eq, decide_eq_false_iff_not, not_or, Bool.false_eq_true, Bool.true_eq_false, false_or, or_false, not_false_eq_true] at c0
    refine W.seq ?_
    refine W.reg ?_
    refine Wx.rd (v := .int .i64 1) (rd_assign rfl) rfl ?_
    refine Wx.nil ?_
    have e0_0 : (checkE L fs) = (1 : Int) := by simp only [checkE]; rw [if_pos (by omega)]
    exact W.ret ⟨.int .i64 1, ResIs.one, hS.bel, (by rw [e0_0])⟩
  · -- no
    try simp only [Bool.and_eq_true, Bool.or_eq_true, Bool.not_eq_true', Bool.and_eq_false_iff, Bool.or_eq_false_iff, Bool.not_eq_false', decide_eq_true_eq, decide_eq_false_iff_not, not_or, Bool.false_eq_true, Bool.true_eq_false, false_or, or_false, not_false_eq_true] at c0
    refine W.skip ?_
    refine W.seq ?_
    refine W.seq ?_
    refine W.reg ?_
    refine Wx.rd (v := .pointer (some ⟨g_1, 1, none⟩)) (rd_fieldAddr rfl foFa_27_1) rfl ?_
    refine Wx.rd (v := fv) (rd_loadX hS 0 rfl rfl rfl Try.isAgg22) rfl ?_
    refine Wx.rd (v := .int .i64 (fs.length : Int)) (rd_lenV rfl (hS.arg a_fv) Try.underlying22) rfl ?_
    refine Wx.rd (v := .bool (decide (10 < (fs.length : Int)))) (rd_gtr rfl rfl) rfl ?_
    refine Wx.nil ?_
    refine W.condD rfl (fun c1 => ?_) (fun c1 => ?_)
    · -- yes
      refine W.seq ?_
      refine W.reg ?_
      refine Wx.rd (v := .int .i64 3) (rd_assign rfl) rfl ?_
      refine Wx.nil ?_
      have e1_0 : (checkE L fs) = (3 : Int) := by simp only [checkE]; rw [if_neg (by omega), if_pos (by omega)]
      exact W.ret ⟨.int .i64 3, ResIs.one, hS.bel, (by rw [e1_0])⟩
    · -- no
      refine W.skip ?_
      refine W.seq ?_
      refine W.seq ?_
      refine W.reg ?_
      refine Wx.rd (v := .int .i64 0) (rd_assign rfl) rfl ?_
      refine Wx.nil ?_
      refine W.block ?_
      have hE : checkE L fs = formsE L fs := by simp only [checkE]; rw [if_neg (by omega), if_neg (by omega)]
      refine W.loop [2, 3, 4, 5, 14, 15, 16, 17, 18, 19, 20, 21, 22, 23, 24, 25, 26, 27, 28, 29, 30, 31, 32, 33, 34, 35, 36, 37, 38, 39, 40, 41, 42, 43, 44, 45, 46, 47, 48, 49, 50, 51, 52, 53, 54, 55, 56, 57] (fun (k : Int) => [(3, .int .i64 k)]) (fun (k : Int) w' => St w [] w' [.box g_1 27 [.int .i64 L, fv]] ∧ 0 ≤ k ∧ k ≤ fs.length ∧ formsE L (fs.drop k.toNat) = formsE L fs) (fun (k : Int) => (fs.length - k).toNat) 0 ⟨rfl, trivial⟩ ⟨hS, (by first | omega | simp), (by first | omega | simp), (by simp)⟩ ?_
      rintro k u_9 w_8 ⟨hS, h0, h1, h2⟩
      refine W.seq ?_
      refine W.seq ?_
      refine W.reg ?_
      refine Wx.rd (v := .int .i64 k) (rd_move rfl) rfl ?_
      refine Wx.rd (v := .pointer (some ⟨g_1, 1, none⟩)) (rd_fieldAddr rfl foFa_27_1) rfl ?_
      refine Wx.rd (v := fv) (rd_loadX hS 0 rfl rfl rfl Try.isAgg22) rfl ?_
      refine Wx.rd (v := .int .i64 (fs.length : Int)) (rd_lenV rfl (hS.arg a_fv) Try.underlying22) rfl ?_
      refine Wx.rd (v := .bool (decide (k < (fs.length : Int)))) (rd_lss rfl rfl) rfl ?_
      refine Wx.nil ?_
      refine W.condD rfl (fun c2 => ?_) (fun c2 => ?_)
      · -- yes
        refine W.skip ?_
        refine W.seq ?_
        refine W.block ?_
        refine W.seq ?_
        refine W.reg ?_
        refine Wx.rd (v := .pointer (some ⟨g_1, 1, none⟩)) (rd_fieldAddr rfl foFa_27_1) rfl ?_
        refine Wx.rd (v := fv) (rd_loadX hS 0 rfl rfl rfl Try.isAgg22) rfl ?_
        refine Wx.rd (v := .int .i64 k) (rd_move rfl) rfl ?_
        refine Wx.ex (rd_index [] (hS.arg a_fv) rfl rfl Try.underlying22 Try.sizeOf28 (by first | omega | (simp only [List.length_set, List.length_append, List.length_cons, List.length_nil, List.length_replicate]; omega)) (by first | omega | (simp only [List.length_set, List.length_append, List.length_cons, List.length_nil, List.length_replicate]; omega))) rfl (fun p_10 hp_11 => ?_)
        refine Wx.ex (rd_load hp_11 rfl Try.isAgg28 Try.sizeOf28) rfl (fun v_12 hv_13 => ?_)
        have ln_14 := hv_13.len63
        have hS := hS.add hv_13
        refine Wx.rd (v := v_12) (rd_assign rfl) rfl ?_
        refine Wx.nil ?_
        refine W.seq ?_
        refine W.seq ?_
        refine W.reg ?_
        refine Wx.rd (v := v_12) (rd_move rfl) rfl ?_
        refine Wx.rd (v := .int .i64 ((ix [] fs k).length : Int)) (rd_lenV rfl (hS.v 0 rfl) Try.underlying28) rfl ?_
        refine Wx.rd (v := .bool (decide (((ix [] fs k).length : Int) = 0))) (rd_eql rfl rfl) rfl ?_
        refine Wx.nil ?_
        refine W.condD rfl (fun c3 => ?_) (fun c3 => ?_)
        · -- yes
          refine W.seq ?_
          refine W.reg ?_
          refine Wx.rd (v := .int .i64 4) (rd_assign rfl) rfl ?_
          refine Wx.nil ?_
          have hx := drop_ix (d := []) h0 c2
          have e2_0 : (checkE L fs) = (4 : Int) := by have h4 : formE L (ix [] fs k) = 4 := by { rw [formE, if_pos (by omega)] }; rw [hE, ← h2, hx, formsE, h4]; simp
          exact W.ret ⟨.int .i64 4, ResIs.one, hS.bel, (by rw [e2_0])⟩
        · -- no
          refine W.skip ?_
          refine W.seq ?_
          refine W.reg ?_
          refine Wx.rd (v := .int .i64 0) (rd_assign rfl) rfl ?_
          refine Wx.nil ?_
          refine W.block ?_
          refine W.loop [2, 5, 29, 30, 31, 32, 33, 34, 35, 36, 37, 38, 39, 40, 41, 42, 43, 44, 45, 46, 47, 48, 49, 50, 51, 52, 53, 54, 55, 56, 57] (fun (j : Int) => [(5, .int .i64 j)]) (fun (j : Int) w' => St w [] w' [Ob.v (tSl (tI .i64)) (ix [] fs k) v_12, .box g_1 27 [.int .i64 L, fv]] ∧ 0 ≤ j ∧ j ≤ (ix [] fs k).length ∧ numE L (if j = 0 then -1 else ix 0 (ix [] fs k) (j - 1)) ((ix [] fs k).drop j.toNat) = numE L (-1) (ix [] fs k)) (fun (j : Int) => ((ix [] fs k).length - j).toNat) 0 ⟨rfl, trivial⟩ ⟨hS, (by first | omega | simp), (by first | omega | simp), (by simp)⟩ ?_
          rintro j u_17 w_16 ⟨hS, g0, g1, g2⟩
          refine W.seq ?_
          refine W.seq ?_
          refine W.reg ?_
          refine Wx.rd (v := .int .i64 j) (rd_move rfl) rfl ?_
          refine Wx.rd (v := v_12) (rd_move rfl) rfl ?_
          refine Wx.rd (v := .int .i64 ((ix [] fs k).length : Int)) (rd_lenV rfl (hS.v 0 rfl) Try.underlying28) rfl ?_
          refine Wx.rd (v := .bool (decide (j < ((ix [] fs k).length : Int)))) (rd_lss rfl rfl) rfl ?_
          refine Wx.nil ?_
          refine W.condD rfl (fun c4 => ?_) (fun c4 => ?_)
          · -- yes
            refine W.skip ?_
            refine W.seq ?_
            refine W.block ?_
            refine W.seq ?_
            refine W.seq ?_
            refine W.regQ mixedFa_ (by kernel_rfl) ?_
            refine Wx.rd (v := v_12) (rd_move rfl) rfl ?_
            refine Wx.rd (v := .int .i64 j) (rd_move rfl) rfl ?_
            refine Wx.ex (rd_index 0 (hS.v 0 rfl) rfl rfl Try.underlying28 Try.sizeOf3 (by first | omega | (simp only [List.length_set, List.length_append, List.length_cons, List.length_nil, List.length_replicate]; omega)) (by first | omega | (simp only [List.length_set, List.length_append, List.length_cons, List.length_nil, List.length_replicate]; omega))) rfl (fun p_18 hp_19 => ?_)
            refine Wx.rd (v := .int .i64 (ix 0 (ix [] fs k) j)) (rd_loadI hp_19 rfl Try.isAgg3 Try.sizeOf3) rfl ?_
            have bd_20 := bd_i64 hp_19.inK
            refine Wx.rd (v := .pointer (some ⟨g_1, 0, none⟩)) (rd_fieldAddr rfl foFa_27_0) rfl ?_
            refine Wx.rd (v := .int .i64 L) (rd_loadX hS 1 rfl rfl rfl Try.isAgg3) rfl ?_
            refine Wx.rd (v := .int .i64 (L - 1)) (rd_sub rfl rfl (in_i64 (by omega) (by omega))) rfl ?_
            refine Wx.callV (v := .bool (decide (0 ≤ (ix 0 (ix [] fs k) j)) && decide ((ix 0 (ix [] fs k) j) ≤ (L - 1)))) (run_callF Try.call71 rfl) (fun w_21 hw_22 => (F71 (in_i64 (by omega) (by omega)) (in_i64 (by omega) (by omega)) (in_i64 (by omega) (by omega)))) rfl ?_
            refine Wx.rd (v := .bool (!(decide (0 ≤ (ix 0 (ix [] fs k) j)) && decide ((ix 0 (ix [] fs k) j) ≤ (L - 1))))) (rd_not rfl) rfl ?_
            refine Wx.nilQ (fun w_23 hx_24 => ?_)
            have hS := hS.ext hx_24
            refine W.cond rfl (fun c5 => ?_) (fun c5 => ?_)
            · -- yes
              try simp only [Bool.and_eq_true, Bool.or_eq_true, Bool.not_eq_true', Bool.and_eq_false_iff, Bool.or_eq_false_iff, Bool.not_eq_false', decide_eq_true_eq, decide_eq_false_iff_not, not_or, Bool.false_eq_true, Bool.true_eq_false, false_or, or_false, not_false_eq_true] at c5
              refine W.seq ?_
              refine W.reg ?_
              refine Wx.rd (v := .int .i64 2) (rd_assign rfl) rfl ?_
              refine Wx.nil ?_
              have hx := drop_ix (d := []) h0 c2
              have hy := drop_ix (d := 0) g0 c4
              have e3_0 : (checkE L fs) = (2 : Int) := by have h4 : formE L (ix [] fs k) = 2 := by { rw [formE, if_neg (by omega), ← g2, hy, numE, if_pos (by omega)] }; rw [hE, ← h2, hx, formsE, h4]; simp
              exact W.ret ⟨.int .i64 2, ResIs.one, hS.bel, (by rw [e3_0])⟩
            · -- no
              try simp only [Bool.and_eq_true, Bool.or_eq_true, Bool.not_eq_true', Bool.and_eq_false_iff, Bool.or_eq_false_iff, Bool.not_eq_false', decide_eq_true_eq, decide_eq_false_iff_not, not_or, Bool.false_eq_true, Bool.true_eq_false, false_or, or_false, not_false_eq_true] at c5
              refine W.skip ?_
              refine W.seq ?_
              refine W.regQ mixedFa_ (by kernel_rfl) ?_
              refine Wx.rd (v := .int .i64 j) (rd_move rfl) rfl ?_
              refine Wx.rd (v := .bool (decide (0 < j))) (rd_gtr rfl rfl) rfl ?_
              refine Wx.rd (v := .bool (decide (0 < j))) (rd_move rfl) rfl ?_
              refine Wx.cutQ (X := Unit) 11 [47, 48, 49, 50, 51, 52, 53, 54, 55, 56, 57] (fun _ => [(57, .bool (decide (0 < j) && decide ((ix 0 (ix [] fs k) j) ≤ (ix 0 (ix [] fs k) (j - 1)))))]) (fun _ => True) ?_ ?_
              · rcases Bool.eq_false_or_eq_true (decide (0 < j)) with g_25 | g_25
                · -- True
                  have gp_26 := of_decide_eq_true g_25
                  refine Wx.gyes rfl rfl (congrArg Value.bool g_25) ?_
                  refine Wx.rd (v := v_12) (rd_move rfl) rfl ?_
                  refine Wx.gyes rfl rfl (congrArg Value.bool g_25) ?_
                  refine Wx.rd (v := .int .i64 j) (rd_move rfl) rfl ?_
                  refine Wx.gyes rfl rfl (congrArg Value.bool g_25) ?_
                  refine Wx.ex (rd_index 0 (hS.v 0 rfl) rfl rfl Try.underlying28 Try.sizeOf3 (by first | omega | (simp only [List.length_set, List.length_append, List.length_cons, List.length_nil, List.length_replicate]; omega)) (by first | omega | (simp only [List.length_set, List.length_append, List.length_cons, List.length_nil, List.length_replicate]; omega))) rfl (fun p_27 hp_28 => ?_)
                  refine Wx.gyes rfl rfl (congrArg Value.bool g_25) ?_
                  refine Wx.rd (v := .int .i64 (ix 0 (ix [] fs k) j)) (rd_loadI hp_28 rfl Try.isAgg3 Try.sizeOf3) rfl ?_
                  have bd_29 := bd_i64 hp_28.inK
                  refine Wx.gyes rfl rfl (congrArg Value.bool g_25) ?_
                  refine Wx.rd (v := v_12) (rd_move rfl) rfl ?_
                  refine Wx.gyes rfl rfl (congrArg Value.bool g_25) ?_
                  refine Wx.rd (v := .int .i64 j) (rd_move rfl) rfl ?_
                  refine Wx.gyes rfl rfl (congrArg Value.bool g_25) ?_
                  refine Wx.rd (v := .int .i64 (j - 1)) (rd_sub rfl rfl (in_i64 (by omega) (by omega))) rfl ?_
                  refine Wx.gyes rfl rfl (congrArg Value.bool g_25) ?_
                  refine Wx.ex (rd_index 0 (hS.v 0 rfl) rfl rfl Try.underlying28 Try.sizeOf3 (by first | omega | (simp only [List.length_set, List.length_append, List.length_cons, List.length_nil, List.length_replicate]; omega)) (by first | omega | (simp only [List.length_set, List.length_append, List.length_cons, List.length_nil, List.length_replicate]; omega))) rfl (fun p_30 hp_31 => ?_)
                  refine Wx.gyes rfl rfl (congrArg Value.bool g_25) ?_
                  refine Wx.rd (v := .int .i64 (ix 0 (ix [] fs k) (j - 1))) (rd_loadI hp_31 rfl Try.isAgg3 Try.sizeOf3) rfl ?_
                  have bd_32 := bd_i64 hp_31.inK
                  refine Wx.gyes rfl rfl (congrArg Value.bool g_25) ?_
                  refine Wx.rd (v := .bool (decide ((ix 0 (ix [] fs k) j) ≤ (ix 0 (ix [] fs k) (j - 1))))) (rd_leq rfl rfl) rfl ?_
                  refine Wx.rd (v := .bool (decide ((ix 0 (ix [] fs k) j) ≤ (ix 0 (ix [] fs k) (j - 1))))) (rd_pickT (congrArg Value.bool g_25) rfl) rfl ?_
                  refine Wx.nilQ (fun _ _ => ⟨(), trivial, ⟨?_, trivial⟩, Out.look rfl Out.refl⟩)
                  show Value.bool (decide ((ix 0 (ix [] fs k) j) ≤ (ix 0 (ix [] fs k) (j - 1)))) = Value.bool (decide (0 < j) && decide ((ix 0 (ix [] fs k) j) ≤ (ix 0 (ix [] fs k) (j - 1))))
                  rw [g_25]; rfl
                · -- False
                  have gp_33 := of_decide_eq_false g_25
                  refine Wx.gnoB rfl rfl (congrArg Value.bool g_25) rfl rfl ?_
                  refine Wx.gnoB rfl rfl (congrArg Value.bool g_25) rfl rfl ?_
                  refine Wx.gnoB rfl rfl (congrArg Value.bool g_25) rfl rfl ?_
                  refine Wx.gnoB rfl rfl (congrArg Value.bool g_25) rfl rfl ?_
                  refine Wx.gnoB rfl rfl (congrArg Value.bool g_25) rfl rfl ?_
                  refine Wx.gnoB rfl rfl (congrArg Value.bool g_25) rfl rfl ?_
                  refine Wx.gnoB rfl rfl (congrArg Value.bool g_25) rfl rfl ?_
                  refine Wx.gnoB rfl rfl (congrArg Value.bool g_25) rfl rfl ?_
                  refine Wx.gnoB rfl rfl (congrArg Value.bool g_25) rfl rfl ?_
                  refine Wx.gnoB rfl rfl (congrArg Value.bool g_25) rfl rfl ?_
                  refine Wx.rd (v := .bool false) (rd_pickF (congrArg Value.bool g_25) rfl) rfl ?_
                  refine Wx.nilQ (fun _ _ => ⟨(), trivial, ⟨?_, trivial⟩, Out.look rfl Out.refl⟩)
                  show Value.bool false = Value.bool (decide (0 < j) && decide ((ix 0 (ix [] fs k) j) ≤ (ix 0 (ix [] fs k) (j - 1))))
                  rw [g_25]; rfl
              rintro ⟨⟩ u_35 -
              refine Wx.nilQ (fun w_36 hx_37 => ?_)
              have hS := hS.ext hx_37
              refine W.cond rfl (fun c6 => ?_) (fun c6 => ?_)
              · -- yes
                try simp only [Bool.and_eq_true, Bool.or_eq_true, Bool.not_eq_true', Bool.and_eq_false_iff, Bool.or_eq_false_iff, Bool.not_eq_false', decide_eq_true_eq, decide_eq_false_iff_not, not_or, Bool.false_eq_true, Bool.true_eq_false, false_or, or_false, not_false_eq_true] at c6
                refine W.seq ?_
                refine W.reg ?_
                refine Wx.rd (v := .int .i64 7) (rd_assign rfl) rfl ?_
                refine Wx.nil ?_
                have hx := drop_ix (d := []) h0 c2
                have hy := drop_ix (d := 0) g0 c4
                have hp : ix 0 (ix [] fs k) j ≤ (if j = 0 then -1 else ix 0 (ix [] fs k) (j - 1)) := by rw [if_neg (by omega)]; omega
                have e4_0 : (checkE L fs) = (7 : Int) := by have h4 : formE L (ix [] fs k) = 7 := by { rw [formE, if_neg (by omega), ← g2, hy, numE, if_neg (by omega), if_pos hp] }; rw [hE, ← h2, hx, formsE, h4]; simp
                exact W.ret ⟨.int .i64 7, ResIs.one, hS.bel, (by rw [e4_0])⟩
              · -- no
                try simp only [Bool.and_eq_true, Bool.or_eq_true, Bool.not_eq_true', Bool.and_eq_false_iff, Bool.or_eq_false_iff, Bool.not_eq_false', decide_eq_true_eq, decide_eq_false_iff_not, not_or, Bool.false_eq_true, Bool.true_eq_false, false_or, or_false, not_false_eq_true] at c6
                refine W.skip ?_
                refine W.reg ?_
                refine Wx.rd (v := .int .i64 j) (rd_move rfl) rfl ?_
                refine Wx.rd (v := .int .i64 (j + 1)) (rd_add rfl rfl (in_i64 (by omega) (by omega))) rfl ?_
                refine Wx.rd (v := .int .i64 (j + 1)) (rd_assign rfl) rfl ?_
                refine Wx.nil ?_
                have hp : ¬ (ix 0 (ix [] fs k) j ≤ (if j = 0 then -1 else ix 0 (ix [] fs k) (j - 1))) := by split <;> omega
                refine ⟨j + 1, (by show ((ix [] fs k).length - (j + 1)).toNat < ((ix [] fs k).length - j).toNat; omega), ?_, ?_, Out.look rfl (Out.hav rfl (Out.look rfl Out.self))⟩
                · exact ⟨hS, (by first | omega | assumption), (by first | omega | assumption), (by rw [← g2, drop_ix (d := 0) g0 c4, numE, if_neg (by omega), if_neg hp, if_neg (by omega), show j + 1 - 1 = j by omega])⟩
                · exact ⟨rfl, trivial⟩
          · -- no
            refine W.exit rfl ?_
            refine W.reg ?_
            refine Wx.rd (v := .int .i64 k) (rd_move rfl) rfl ?_
            refine Wx.rd (v := .int .i64 (k + 1)) (rd_add rfl rfl (in_i64 (by omega) (by omega))) rfl ?_
            refine Wx.rd (v := .int .i64 (k + 1)) (rd_assign rfl) rfl ?_
            refine Wx.nil ?_
            refine ⟨k + 1, (by show (fs.length - (k + 1)).toNat < (fs.length - k).toNat; omega), ?_, ?_, Out.look rfl (Out.hav rfl (Out.look rfl Out.self))⟩
            · exact ⟨hS.tl, (by first | omega | assumption), (by first | omega | assumption), (by rw [← h2, drop_ix (d := []) h0 c2]; rw [formsE, if_pos]; rw [formE, if_neg (by omega), ← g2, drop_end (by omega)]; rfl)⟩
            · exact ⟨rfl, trivial⟩
      · -- no
        refine W.exit rfl ?_
        refine W.seq ?_
        refine W.reg ?_
        refine Wx.rd (v := .int .i64 0) (rd_assign rfl) rfl ?_
        refine Wx.nil ?_
        have e5_0 : (checkE L fs) = (0 : Int) := by rw [hE, ← h2, drop_end (by omega)]; rfl
        exact W.ret ⟨.int .i64 0, ResIs.one, hS.bel, (by rw [e5_0])⟩

theorem F63 {s : Int} {n : Int} {w : World} (i_s : InK .u8 s) (i_n : InK .i64 n) (p_n : 0 ≤ n) : Calls Try.prog 63 #[.int .u8 s, .int .i64 n] w (Ret w (fun r _ => r = .int .u8 (withS s n))) := by
  have b_n := bd_i64 i_n
  have b_s := bd_u8 i_s
  have hS := St.start0 w
  refine enterR Try.func63 rfl Try.ntmps63 Try.results63 rfl ?_
  refine W.seq ?_
  refine W.reg ?_
  refine Wx.rd (v := .int .u8 0) (rd_assign rfl) rfl ?_
  refine Wx.nil ?_
  refine W.seq ?_
  refine W.reg ?_
  refine Wx.rd (v := .int .u8 s) (rd_move rfl) rfl ?_
  refine Wx.rd (v := .int .i64 n) (rd_move rfl) rfl ?_
  refine Wx.rd (v := .int .u8 (IntKind.u8.wrap (1 * 2 ^ min n.toNat (IntKind.u8).bits))) (rd_shl rfl rfl (by omega)) rfl ?_
  have bd_1 := bd_u8 (wrap_inK .u8 (1 * 2 ^ min n.toNat (IntKind.u8).bits))
  refine Wx.rd (v := .int .u8 (bits .or .u8 s (IntKind.u8.wrap (1 * 2 ^ min n.toNat (IntKind.u8).bits)))) (rd_or rfl rfl) rfl ?_
  have bd_2 := bd_u8 (bits_in .or .u8 s (IntKind.u8.wrap (1 * 2 ^ min n.toNat (IntKind.u8).bits)))
  refine Wx.rd (v := .int .u8 (bits .or .u8 s (IntKind.u8.wrap (1 * 2 ^ min n.toNat (IntKind.u8).bits)))) (rd_assign rfl) rfl ?_
  refine Wx.nil ?_
  have e0_0 : (withS s n) = (bits .or .u8 s (IntKind.u8.wrap (1 * 2 ^ min n.toNat (IntKind.u8).bits)) : Int) := by rfl
  exact W.ret ⟨.int .u8 (bits .or .u8 s (IntKind.u8.wrap (1 * 2 ^ min n.toNat (IntKind.u8).bits))), ResIs.one, hS.bel, (by rw [e0_0])⟩

theorem F88 {s : Int} {n : Int} {w : World} (i_s : InK .u8 s) (i_n : InK .i64 n) (p_n : 0 ≤ n) : Calls Try.prog 88 #[.int .u8 s, .int .i64 n] w (Ret w (fun r _ => r = .bool (hasS s n))) := by
  have b_n := bd_i64 i_n
  have b_s := bd_u8 i_s
  have hS := St.start0 w
  refine enterR Try.func88 rfl Try.ntmps88 Try.results88 rfl ?_
  refine W.seq ?_
  refine W.reg ?_
  refine Wx.rd (v := .bool false) (rd_assign rfl) rfl ?_
  refine Wx.nil ?_
  refine W.seq ?_
  refine W.reg ?_
  refine Wx.rd (v := .int .u8 s) (rd_move rfl) rfl ?_
  refine Wx.rd (v := .int .i64 n) (rd_move rfl) rfl ?_
  refine Wx.rd (v := .int .u8 (s / 2 ^ min n.toNat (IntKind.u8).bits)) (rd_shr rfl rfl (by omega)) rfl ?_
  refine Wx.rd (v := .int .u8 (bits .and .u8 (s / 2 ^ min n.toNat (IntKind.u8).bits) 1)) (rd_and rfl rfl) rfl ?_
  have bd_1 := bd_u8 (bits_in .and .u8 (s / 2 ^ min n.toNat (IntKind.u8).bits) 1)
  refine Wx.rd (v := .bool (decide ((bits .and .u8 (s / 2 ^ min n.toNat (IntKind.u8).bits) 1) = 1))) (rd_eql rfl rfl) rfl ?_
  refine Wx.rd (v := .bool (decide ((bits .and .u8 (s / 2 ^ min n.toNat (IntKind.u8).bits) 1) = 1))) (rd_assign rfl) rfl ?_
  refine Wx.nil ?_
  have e0_0 : (hasS s n) = (decide ((bits .and .u8 (s / 2 ^ min n.toNat (IntKind.u8).bits) 1) = 1)) := by rfl
  exact W.ret ⟨.bool (decide ((bits .and .u8 (s / 2 ^ min n.toNat (IntKind.u8).bits) 1) = 1)), ResIs.one, hS.bel, (by rw [e0_0])⟩

theorem F114 {s : Int} {w : World} (i_s : InK .u8 s) : Calls Try.prog 114 #[.int .u8 s] w (Ret w (fun r _ => r = .int .i64 (tabAt pop8tab s))) := by
  have b_s := bd_u8 i_s
  have hS := St.start0 w
  refine enterR Try.func114 rfl Try.ntmps114 Try.results114 rfl ?_
  refine W.seq ?_
  refine W.reg ?_
  refine Wx.rd (v := .int .i64 0) (rd_assign rfl) rfl ?_
  refine Wx.nil ?_
  refine W.seq ?_
  refine W.reg ?_
  refine Wx.rd (v := .int .u8 s) (rd_move rfl) rfl ?_
  have hsz : (pop8tab.size : Int) = 256 := by decide +kernel
  refine Wx.rd (v := .int .u8 (tabAt pop8tab s)) (rd_indexS' (by kernel_rfl) rfl Try.underlying9 (by omega) (by omega)) rfl ?_
  have bd_1 := tabAt_bd pop8tab s
  refine Wx.rd (v := .int .i64 (tabAt pop8tab s)) (rd_convIn rfl Try.underlying5 Try.underlying3 (in_i64 (by omega) (by omega))) rfl ?_
  refine Wx.rd (v := .int .i64 (tabAt pop8tab s)) (rd_assign rfl) rfl ?_
  refine Wx.nil ?_
  exact W.ret ⟨.int .i64 (tabAt pop8tab s), ResIs.one, hS.bel, rfl⟩

theorem F79 {s : Int} {w : World} (i_s : InK .u8 s) : Calls Try.prog 79 #[.int .u8 s] w (Ret w (fun r _ => r = .int .i64 (tabAt ntz8tab s))) := by
  have b_s := bd_u8 i_s
  have hS := St.start0 w
  refine enterR Try.func79 rfl Try.ntmps79 Try.results79 rfl ?_
  refine W.seq ?_
  refine W.reg ?_
  refine Wx.rd (v := .int .i64 0) (rd_assign rfl) rfl ?_
  refine Wx.nil ?_
  refine W.seq ?_
  refine W.reg ?_
  refine Wx.rd (v := .int .u8 s) (rd_move rfl) rfl ?_
  have hsz : (ntz8tab.size : Int) = 256 := by decide +kernel
  refine Wx.rd (v := .int .u8 (tabAt ntz8tab s)) (rd_indexS' (by kernel_rfl) rfl Try.underlying9 (by omega) (by omega)) rfl ?_
  have bd_1 := tabAt_bd ntz8tab s
  refine Wx.rd (v := .int .i64 (tabAt ntz8tab s)) (rd_convIn rfl Try.underlying5 Try.underlying3 (in_i64 (by omega) (by omega))) rfl ?_
  refine Wx.rd (v := .int .i64 (tabAt ntz8tab s)) (rd_assign rfl) rfl ?_
  refine Wx.nil ?_
  exact W.ret ⟨.int .i64 (tabAt ntz8tab s), ResIs.one, hS.bel, rfl⟩

theorem F80 {s : Int} {w : World} (i_s : InK .u8 s) : Calls Try.prog 80 #[.int .u8 s] w (Ret w (fun r _ => r = .int .i64 (tabAt len8tab s))) := by
  have b_s := bd_u8 i_s
  have hS := St.start0 w
  refine enterR Try.func80 rfl Try.ntmps80 Try.results80 rfl ?_
  refine W.seq ?_
  refine W.reg ?_
  refine Wx.rd (v := .int .i64 0) (rd_assign rfl) rfl ?_
  refine Wx.nil ?_
  refine W.seq ?_
  refine W.reg ?_
  refine Wx.rd (v := .int .u8 s) (rd_move rfl) rfl ?_
  have hsz : (len8tab.size : Int) = 256 := by decide +kernel
  refine Wx.rd (v := .int .u8 (tabAt len8tab s)) (rd_indexS' (by kernel_rfl) rfl Try.underlying9 (by omega) (by omega)) rfl ?_
  have bd_1 := tabAt_bd len8tab s
  refine Wx.rd (v := .int .i64 (tabAt len8tab s)) (rd_convIn rfl Try.underlying5 Try.underlying3 (in_i64 (by omega) (by omega))) rfl ?_
  refine Wx.rd (v := .int .i64 (tabAt len8tab s)) (rd_assign rfl) rfl ?_
  refine Wx.nil ?_
  exact W.ret ⟨.int .i64 (tabAt len8tab s), ResIs.one, hS.bel, rfl⟩

theorem F99 {s : Int} {w : World} (i_s : InK .u8 s) : Calls Try.prog 99 #[.int .u8 s] w (Ret w (fun r _ => r = .int .i64 (tabAt pop8tab s))) := by
  have b_s := bd_u8 i_s
  have hS := St.start0 w
  refine enterR Try.func99 rfl Try.ntmps99 Try.results99 rfl ?_
  refine W.seq ?_
  refine W.reg ?_
  refine Wx.rd (v := .int .i64 0) (rd_assign rfl) rfl ?_
  refine Wx.nil ?_
  refine W.seq ?_
  refine W.reg ?_
  refine Wx.rd (v := .int .u8 s) (rd_move rfl) rfl ?_
  refine Wx.callF (run_callF Try.call114 rfl) (F114 (in_u8 (by omega) (by omega))) rfl ?_
  rintro r_1 w_2 hx_3 rfl
  have hS := hS.ext hx_3
  have in_4 := tabAt_bd pop8tab s
  refine Wx.rd (v := .int .i64 (tabAt pop8tab s)) (rd_assign rfl) rfl ?_
  refine Wx.nil ?_
  exact W.ret ⟨.int .i64 (tabAt pop8tab s), ResIs.one, hS.bel, rfl⟩

theorem F77 {s : Int} {w : World} (i_s : InK .u8 s) : Calls Try.prog 77 #[.int .u8 s] w (Ret w (fun r _ => r = .int .i64 (gapS s))) := by
  have b_s := bd_u8 i_s
  have hS := St.start0 w
  refine enterR Try.func77 rfl Try.ntmps77 Try.results77 rfl ?_
  refine W.seq ?_
  refine W.reg ?_
  refine Wx.rd (v := .int .i64 0) (rd_assign rfl) rfl ?_
  refine Wx.nil ?_
  refine W.seq ?_
  refine W.reg ?_
  refine Wx.rd (v := .int .u8 s) (rd_move rfl) rfl ?_
  refine Wx.rd (v := .int .u8 s) (rd_move rfl) rfl ?_
  refine Wx.rd (v := .int .u8 (IntKind.u8.wrap (s * 2 ^ min (1 : Int).toNat (IntKind.u8).bits))) (rd_shl rfl rfl (by omega)) rfl ?_
  have bd_1 := bd_u8 (wrap_inK .u8 (s * 2 ^ min (1 : Int).toNat (IntKind.u8).bits))
  refine Wx.rd (v := .int .u8 (bits .andNot .u8 s (IntKind.u8.wrap (s * 2 ^ min (1 : Int).toNat (IntKind.u8).bits)))) (rd_andNot rfl rfl) rfl ?_
  have bd_2 := bd_u8 (bits_in .andNot .u8 s (IntKind.u8.wrap (s * 2 ^ min (1 : Int).toNat (IntKind.u8).bits)))
  refine Wx.callF (run_callF Try.call99 rfl) (F99 (in_u8 (by omega) (by omega))) rfl ?_
  rintro r_3 w_4 hx_5 rfl
  have hS := hS.ext hx_5
  have in_6 := tabAt_bd pop8tab (bits .andNot .u8 s (IntKind.u8.wrap (s * 2 ^ min (1 : Int).toNat (IntKind.u8).bits)))
  refine Wx.rd (v := .int .i64 ((tabAt pop8tab (bits .andNot .u8 s (IntKind.u8.wrap (s * 2 ^ min (1 : Int).toNat (IntKind.u8).bits)))) - 1)) (rd_sub rfl rfl (in_i64 (by omega) (by omega))) rfl ?_
  refine Wx.rd (v := .int .i64 ((tabAt pop8tab (bits .andNot .u8 s (IntKind.u8.wrap (s * 2 ^ min (1 : Int).toNat (IntKind.u8).bits)))) - 1)) (rd_assign rfl) rfl ?_
  refine Wx.nil ?_
  have e0_0 : (gapS s) = ((tabAt pop8tab (bits .andNot .u8 s (IntKind.u8.wrap (s * 2 ^ min (1 : Int).toNat (IntKind.u8).bits)))) - 1 : Int) := by rfl
  exact W.ret ⟨.int .i64 ((tabAt pop8tab (bits .andNot .u8 s (IntKind.u8.wrap (s * 2 ^ min (1 : Int).toNat (IntKind.u8).bits)))) - 1), ResIs.one, hS.bel, (by rw [e0_0])⟩

theorem F60 {L : Int} {fv : Value} {fs : List (List Int)} {O : List (Option Nat)} {w : World} (i_L : InK .i64 L) (h_fv : V (tSl (tSl (tI .i64))) fs fv O w) (hO : ∀ b, some b ∈ O → b < w.heap.size) : Calls Try.prog 60 #[.agg #[.int .i64 L, fv]] w (Ret w (fun r w' => ∃ sv, r = .tuple #[.agg #[.int .i64 (openL L fs), sv], .int .i64 (checkE L fs)] ∧ V (tSl (tI .u8)) (openS L fs) sv O w')) := by
  have b_L := bd_i64 i_L
  have a_fv := h_fv
  have l_fv := h_fv.len63
  have hS := St.start w O hO
  refine enterR Try.func60 rfl Try.ntmps60 Try.results60 rfl ?_
  refine W.seq ?_
  refine W.reg ?_
  refine Wx.box (cs := [.int .i64 L, fv]) hS rfl rfl rfl (fun g_1 w_2 hx_4 hb_3 hS => ?_)
  refine Wx.alloc (cs := [.int .i64 0, (.slice none 0 0)]) hS Try.zeroValue85 rfl rfl (fun g_5 w_6 hx_8 hb_7 hS => ?_)
  refine Wx.rd (v := .int .i64 0) (rd_assign rfl) rfl ?_
  refine Wx.nil ?_
  refine W.seq ?_
  refine W.block ?_
  refine W.seq ?_
  refine W.reg ?_
  refine Wx.rd (v := .pointer (some ⟨g_1, 0, none⟩)) (rd_fieldAddr rfl foFa_24_0) rfl ?_
  refine Wx.rd (v := .int .i64 L) (rd_loadX hS 1 rfl rfl rfl Try.isAgg3) rfl ?_
  refine Wx.rd (v := .bool (decide (L < 1))) (rd_lss rfl rfl) rfl ?_
  refine Wx.rd (v := .bool (decide (L < 1))) (rd_move rfl) rfl ?_
  refine Wx.cut (X := Unit) 4 [16, 17, 18, 19] (fun _ => [(19, .bool (decide (L < 1) || decide (7 < L)))]) (fun _ w' => St w O w' [.box g_5 85 [.int .i64 0, (.slice none 0 0)], .box g_1 24 [.int .i64 L, fv]]) ?_ ?_
  · rcases Bool.eq_false_or_eq_true (decide (L < 1)) with g_9 | g_9
    · -- True
      have gp_10 := of_decide_eq_true g_9
      refine Wx.gnoB rfl rfl (congrArg Value.bool g_9) rfl rfl ?_
      refine Wx.gnoB rfl rfl (congrArg Value.bool g_9) rfl rfl ?_
      refine Wx.gnoB rfl rfl (congrArg Value.bool g_9) rfl rfl ?_
      refine Wx.rd (v := .bool true) (rd_pickT (congrArg Value.bool g_9) rfl) rfl ?_
      refine Wx.nil ⟨(), hS, ⟨?_, trivial⟩, Out.look rfl Out.refl⟩
      show Value.bool true = Value.bool (decide (L < 1) || decide (7 < L))
      rw [g_9]; rfl
    · -- False
      have gp_11 := of_decide_eq_false g_9
      refine Wx.gyes rfl rfl (congrArg Value.bool g_9) ?_
      refine Wx.rd (v := .pointer (some ⟨g_1, 0, none⟩)) (rd_fieldAddr rfl foFa_24_0) rfl ?_
      refine Wx.gyes rfl rfl (congrArg Value.bool g_9) ?_
      refine Wx.rd (v := .int .i64 L) (rd_loadX hS 1 rfl rfl rfl Try.isAgg3) rfl ?_
      refine Wx.gyes rfl rfl (congrArg Value.bool g_9) ?_
      refine Wx.rd (v := .bool (decide (7 < L))) (rd_gtr rfl rfl) rfl ?_
      refine Wx.rd (v := .bool (decide (7 < L))) (rd_pickF (congrArg Value.bool g_9) rfl) rfl ?_
      refine Wx.nil ⟨(), hS, ⟨?_, trivial⟩, Out.look rfl Out.refl⟩
      show Value.bool (decide (7 < L)) = Value.bool (decide (L < 1) || decide (7 < L))
      rw [g_9]; rfl
  rintro ⟨⟩ u_13 w_12 hS
  refine Wx.rd (v := .bool (decide (L < 1) || decide (7 < L))) (rd_assign rfl) rfl ?_
  refine Wx.nil ?_
  refine W.cond rfl (fun c0 => ?_) (fun c0 => ?_)
  · -- yes
    try simp only [Bool.and_eq_true, Bool.or_eq_true, Bool.not_eq_true', Bool.and_eq_false_iff, Bool.or_eq_false_iff, Bool.not_eq_false', decide_eq_true_eq, decide_eq_false_iff_not, not_or, Bool.false_eq_true, Bool.true_eq_false, false_or, or_false, not_false_eq_true] at c0
    refine W.seq ?_
    refine W.reg ?_
    refine Wx.rd (v := .agg #[.int .i64 0, (.slice none 0 0)]) (rd_build (vs := []) rfl (by kernel_rfl)) rfl ?_
    refine Wx.storeX (cs' := [.int .i64 0, (.slice none 0 0)]) (ds := [.int .i64 0, (.slice none 0 0)]) hS 0 rfl rfl rfl rfl Try.sizeOf85 (Nat.le_of_ble_eq_true rfl) (one_cons rfl (one_cons rfl one_nil)) rfl (fun w_14 hz_15 hS => ?_)
    refine Wx.rd (v := .int .i64 1) (rd_assign rfl) rfl ?_
    refine Wx.nil ?_
    have hE : checkE L fs = 1 := by simp only [checkE]; rw [if_pos (by omega)]
    have e0_0 : (openL L fs) = (0 : Int) := by simp [openL, hE]
    have e0_1 : openS L fs = [] := by simp [openS, hE]
    have e0_2 : (checkE L fs) = (1 : Int) := by exact hE
    exact W.ret ⟨.tuple #[.agg #[.int .i64 0, (.slice none 0 0)], .int .i64 1], (ResIs.cell2 hS 0 rfl rfl Try.isAgg85 Try.sizeOf85), hS.bel, ⟨(.slice none 0 0), (by rw [e0_0, e0_2]), (by rw [e0_1]; exact (V.nil (t := (tI .u8))))⟩⟩
  · -- no
    try simp only [Bool.and_eq_true, Bool.or_eq_true, Bool.not_eq_true', Bool.and_eq_false_iff, Bool.or_eq_false_iff, Bool.not_eq_false', decide_eq_true_eq, decide_eq_false_iff_not, not_or, Bool.false_eq_true, Bool.true_eq_false, false_or, or_false, not_false_eq_true] at c0
    refine W.seq ?_
    refine W.reg ?_
    refine Wx.rd (v := .pointer (some ⟨g_1, 1, none⟩)) (rd_fieldAddr rfl foFa_24_1) rfl ?_
    refine Wx.rd (v := fv) (rd_loadX hS 1 rfl rfl rfl Try.isAgg22) rfl ?_
    refine Wx.rd (v := .int .i64 (fs.length : Int)) (rd_lenV rfl (hS.arg a_fv) Try.underlying22) rfl ?_
    refine Wx.rd (v := .bool (decide (10 < (fs.length : Int)))) (rd_gtr rfl rfl) rfl ?_
    refine Wx.rd (v := .bool (decide (10 < (fs.length : Int)))) (rd_assign rfl) rfl ?_
    refine Wx.nil ?_
    refine W.condD rfl (fun c1 => ?_) (fun c1 => ?_)
    · -- yes
      refine W.seq ?_
      refine W.reg ?_
      refine Wx.rd (v := .agg #[.int .i64 0, (.slice none 0 0)]) (rd_build (vs := []) rfl (by kernel_rfl)) rfl ?_
      refine Wx.storeX (cs' := [.int .i64 0, (.slice none 0 0)]) (ds := [.int .i64 0, (.slice none 0 0)]) hS 0 rfl rfl rfl rfl Try.sizeOf85 (Nat.le_of_ble_eq_true rfl) (one_cons rfl (one_cons rfl one_nil)) rfl (fun w_16 hz_17 hS => ?_)
      refine Wx.rd (v := .int .i64 3) (rd_assign rfl) rfl ?_
      refine Wx.nil ?_
      have hE : checkE L fs = 3 := by simp only [checkE]; rw [if_neg (by omega), if_pos (by omega)]
      have e1_0 : (openL L fs) = (0 : Int) := by simp [openL, hE]
      have e1_1 : openS L fs = [] := by simp [openS, hE]
      have e1_2 : (checkE L fs) = (3 : Int) := by exact hE
      exact W.ret ⟨.tuple #[.agg #[.int .i64 0, (.slice none 0 0)], .int .i64 3], (ResIs.cell2 hS 0 rfl rfl Try.isAgg85 Try.sizeOf85), hS.bel, ⟨(.slice none 0 0), (by rw [e1_0, e1_2]), (by rw [e1_1]; exact (V.nil (t := (tI .u8))))⟩⟩
    · -- no
      refine W.skip ?_
      refine W.seq ?_
      refine W.reg ?_
      refine Wx.rd (v := .pointer (some ⟨g_1, 0, none⟩)) (rd_fieldAddr rfl foFa_24_0) rfl ?_
      refine Wx.rd (v := .int .i64 L) (rd_loadX hS 1 rfl rfl rfl Try.isAgg3) rfl ?_
      refine Wx.rd (v := .agg #[.int .i64 L, (.slice none 0 0)]) (rd_build (vs := [(0, .int .i64 L)]) rfl (by kernel_rfl)) rfl ?_
      refine Wx.alloc (cs := [.int .i64 0, (.slice none 0 0)]) hS Try.zeroValue85 rfl rfl (fun g_18 w_19 hx_21 hb_20 hS => ?_)
      refine Wx.storeX (cs' := [.int .i64 L, (.slice none 0 0)]) (ds := [.int .i64 L, (.slice none 0 0)]) hS 0 rfl rfl rfl rfl Try.sizeOf85 (Nat.le_of_ble_eq_true rfl) (one_cons rfl (one_cons rfl one_nil)) rfl (fun w_22 hz_23 hS => ?_)
      refine Wx.nil ?_
      refine W.seq ?_
      refine W.seq ?_
      refine W.reg ?_
      refine Wx.rd (v := .pointer (some ⟨g_1, 1, none⟩)) (rd_fieldAddr rfl foFa_24_1) rfl ?_
      refine Wx.rd (v := fv) (rd_loadX hS 2 rfl rfl rfl Try.isAgg22) rfl ?_
      refine Wx.rd (v := .int .i64 (fs.length : Int)) (rd_lenV rfl (hS.arg a_fv) Try.underlying22) rfl ?_
      refine Wx.rd (v := .int .i64 0) (rd_move rfl) rfl ?_
      refine Wx.nil ?_
      refine W.block ?_
      have hE : checkE L fs = formsE L fs := by simp only [checkE]; rw [if_neg (by omega), if_neg (by omega)]
      have hS := hS.addNil (tI .u8) 89
      refine W.loop [3, 6, 7, 8, 10, 33, 34, 35, 36, 37, 38, 39, 40, 41, 42, 43, 44, 45, 46, 47, 48, 49, 50, 51, 52, 53, 54, 55, 56, 57, 58, 59, 60, 61, 62, 63, 64, 65, 66, 67, 68, 69, 70, 71, 72, 73] (fun x : Int × Value × (List Int) => match x with | (k, sv, sets) => [(33, .int .i64 k)]) (fun (x : Int × Value × (List Int)) w' => match x with | (k, sv, sets) => St w O w' [.row (tI .u8) 89 sv sets, .box g_18 85 [.int .i64 L, sv], .box g_5 85 [.int .i64 0, (.slice none 0 0)], .box g_1 24 [.int .i64 L, fv]] ∧ 0 ≤ k ∧ k ≤ fs.length ∧ formsE L (fs.drop k.toNat) = formsE L fs ∧ sets = setsF (fs.take k.toNat)) (fun x : Int × Value × (List Int) => match x with | (k, sv, sets) => (fs.length - k).toNat) (0, (.slice none 0 0), []) ⟨rfl, trivial⟩ ⟨hS, (by first | omega | simp), (by first | omega | simp), (by simp), (rfl)⟩ ?_
      rintro ⟨k, sv, sets⟩ u_25 w_24 ⟨hS, h0, h1, h2, h3⟩
      have hln : (sets.length : Int) ≤ 10 := by rw [h3]; simp [setsF]; omega
      refine W.seq ?_
      refine W.reg ?_
      refine Wx.rd (v := .bool (decide (k < (fs.length : Int)))) (rd_lss rfl rfl) rfl ?_
      refine Wx.nil ?_
      refine W.seq ?_
      refine W.condD rfl (fun c2 => ?_) (fun c2 => ?_)
      · -- yes
        refine W.skip ?_
        refine W.seq ?_
        refine W.block ?_
        refine W.seq ?_
        refine W.reg ?_
        refine Wx.ex (rd_index [] (hS.arg a_fv) rfl rfl Try.underlying22 Try.sizeOf28 (by first | omega | (simp only [List.length_set, List.length_append, List.length_cons, List.length_nil, List.length_replicate]; omega)) (by first | omega | (simp only [List.length_set, List.length_append, List.length_cons, List.length_nil, List.length_replicate]; omega))) rfl (fun p_26 hp_27 => ?_)
        refine Wx.ex (rd_load hp_27 rfl Try.isAgg28 Try.sizeOf28) rfl (fun v_28 hv_29 => ?_)
        have ln_30 := hv_29.len63
        have hS := hS.add hv_29
        refine Wx.rd (v := v_28) (rd_assign rfl) rfl ?_
        refine Wx.nil ?_
        refine W.seq ?_
        refine W.seq ?_
        refine W.reg ?_
        refine Wx.rd (v := v_28) (rd_move rfl) rfl ?_
        refine Wx.rd (v := .int .i64 ((ix [] fs k).length : Int)) (rd_lenV rfl (hS.v 0 rfl) Try.underlying28) rfl ?_
        refine Wx.rd (v := .bool (decide (((ix [] fs k).length : Int) = 0))) (rd_eql rfl rfl) rfl ?_
        refine Wx.nil ?_
        refine W.condD rfl (fun c3 => ?_) (fun c3 => ?_)
        · -- yes
          refine W.seq ?_
          refine W.reg ?_
          refine Wx.rd (v := .agg #[.int .i64 0, (.slice none 0 0)]) (rd_build (vs := []) rfl (by kernel_rfl)) rfl ?_
          refine Wx.storeX (cs' := [.int .i64 0, (.slice none 0 0)]) (ds := [.int .i64 0, (.slice none 0 0)]) hS 3 rfl rfl rfl rfl Try.sizeOf85 (Nat.le_of_ble_eq_true rfl) (one_cons rfl (one_cons rfl one_nil)) rfl (fun w_32 hz_33 hS => ?_)
          refine Wx.rd (v := .int .i64 4) (rd_assign rfl) rfl ?_
          refine Wx.nil ?_
          have hE : checkE L fs = 4 := by rw [hE, ← h2, drop_ix (d := []) h0 c2, formsE, show formE L (ix [] fs k) = 4 by rw [formE, if_pos (by omega)]]; simp
          have e2_0 : (openL L fs) = (0 : Int) := by simp [openL, hE]
          have e2_1 : openS L fs = [] := by simp [openS, hE]
          have e2_2 : (checkE L fs) = (4 : Int) := by exact hE
          exact W.ret ⟨.tuple #[.agg #[.int .i64 0, (.slice none 0 0)], .int .i64 4], (ResIs.cell2 hS 3 rfl rfl Try.isAgg85 Try.sizeOf85), hS.bel, ⟨(.slice none 0 0), (by rw [e2_0, e2_2]), (by rw [e2_1]; exact (V.nil (t := (tI .u8))))⟩⟩
        · -- no
          refine W.skip ?_
          refine W.seq ?_
          refine W.reg ?_
          refine Wx.rd (v := .int .u8 0) (rd_assign rfl) rfl ?_
          refine Wx.nil ?_
          refine W.seq ?_
          refine W.reg ?_
          refine Wx.rd (v := .int .i64 (-1)) (rd_assign rfl) rfl ?_
          refine Wx.nil ?_
          refine W.seq ?_
          refine W.seq ?_
          refine W.reg ?_
          refine Wx.rd (v := v_28) (rd_move rfl) rfl ?_
          refine Wx.rd (v := .int .i64 ((ix [] fs k).length : Int)) (rd_lenV rfl (hS.v 0 rfl) Try.underlying28) rfl ?_
          refine Wx.rd (v := .int .i64 0) (rd_move rfl) rfl ?_
          refine Wx.nil ?_
          refine W.block ?_
          refine W.loop [3, 7, 8, 10, 43, 44, 45, 46, 47, 48, 49, 50, 51, 52, 53, 54, 55, 56, 57, 58, 59, 60, 61, 62, 63, 64, 65, 66] (fun x : Int × Int × Int => match x with | (s, last, j) => [(7, .int .u8 s), (8, .int .i64 last), (43, .int .i64 j)]) (fun (x : Int × Int × Int) w' => match x with | (s, last, j) => St w O w' [Ob.v (tSl (tI .i64)) (ix [] fs k) v_28, .row (tI .u8) 89 sv sets, .box g_18 85 [.int .i64 L, sv], .box g_5 85 [.int .i64 0, (.slice none 0 0)], .box g_1 24 [.int .i64 L, fv]] ∧ 0 ≤ j ∧ j ≤ (ix [] fs k).length ∧ numE L last ((ix [] fs k).drop j.toNat) = numE L (-1) (ix [] fs k) ∧ s = setF 0 ((ix [] fs k).take j.toNat) ∧ InK .u8 s) (fun x : Int × Int × Int => match x with | (s, last, j) => ((ix [] fs k).length - j).toNat) (0, -1, 0) ⟨rfl, rfl, rfl, trivial⟩ ⟨hS, (by first | omega | simp), (by first | omega | simp), (by simp), (by simp [setF]), (⟨by decide, by decide⟩)⟩ ?_
          rintro ⟨s, last, j⟩ u_35 w_34 ⟨hS, g0, g1, g2, g3, g4⟩
          have b_s := bd_u8 g4
          refine W.seq ?_
          refine W.reg ?_
          refine Wx.rd (v := .bool (decide (j < ((ix [] fs k).length : Int)))) (rd_lss rfl rfl) rfl ?_
          refine Wx.nil ?_
          refine W.seq ?_
          refine W.condD rfl (fun c4 => ?_) (fun c4 => ?_)
          · -- yes
            refine W.skip ?_
            refine W.seq ?_
            refine W.block ?_
            refine W.seq ?_
            refine W.reg ?_
            refine Wx.ex (rd_index 0 (hS.v 0 rfl) rfl rfl Try.underlying28 Try.sizeOf3 (by first | omega | (simp only [List.length_set, List.length_append, List.length_cons, List.length_nil, List.length_replicate]; omega)) (by first | omega | (simp only [List.length_set, List.length_append, List.length_cons, List.length_nil, List.length_replicate]; omega))) rfl (fun p_36 hp_37 => ?_)
            refine Wx.rd (v := .int .i64 (ix 0 (ix [] fs k) j)) (rd_loadI hp_37 rfl Try.isAgg3 Try.sizeOf3) rfl ?_
            have bd_38 := bd_i64 hp_37.inK
            refine Wx.rd (v := .int .i64 (ix 0 (ix [] fs k) j)) (rd_assign rfl) rfl ?_
            refine Wx.nil ?_
            refine W.seq ?_
            refine W.block ?_
            refine W.seq ?_
            refine W.reg ?_
            refine Wx.rd (v := .int .i64 (ix 0 (ix [] fs k) j)) (rd_move rfl) rfl ?_
            refine Wx.rd (v := .bool (decide ((ix 0 (ix [] fs k) j) < 0))) (rd_lss rfl rfl) rfl ?_
            refine Wx.rd (v := .bool (decide ((ix 0 (ix [] fs k) j) < 0))) (rd_move rfl) rfl ?_
            refine Wx.cut (X := Unit) 5 [51, 52, 53, 54, 55] (fun _ => [(55, .bool (decide ((ix 0 (ix [] fs k) j) < 0) || decide (L ≤ (ix 0 (ix [] fs k) j))))]) (fun _ w' => St w O w' [Ob.v (tSl (tI .i64)) (ix [] fs k) v_28, .row (tI .u8) 89 sv sets, .box g_18 85 [.int .i64 L, sv], .box g_5 85 [.int .i64 0, (.slice none 0 0)], .box g_1 24 [.int .i64 L, fv]]) ?_ ?_
            · rcases Bool.eq_false_or_eq_true (decide ((ix 0 (ix [] fs k) j) < 0)) with g_39 | g_39
              · -- True
                have gp_40 := of_decide_eq_true g_39
                refine Wx.gnoB rfl rfl (congrArg Value.bool g_39) rfl rfl ?_
                refine Wx.gnoB rfl rfl (congrArg Value.bool g_39) rfl rfl ?_
                refine Wx.gnoB rfl rfl (congrArg Value.bool g_39) rfl rfl ?_
                refine Wx.gnoB rfl rfl (congrArg Value.bool g_39) rfl rfl ?_
                refine Wx.rd (v := .bool true) (rd_pickT (congrArg Value.bool g_39) rfl) rfl ?_
                refine Wx.nil ⟨(), hS, ⟨?_, trivial⟩, Out.look rfl Out.refl⟩
                show Value.bool true = Value.bool (decide ((ix 0 (ix [] fs k) j) < 0) || decide (L ≤ (ix 0 (ix [] fs k) j)))
                rw [g_39]; rfl
              · -- False
                have gp_41 := of_decide_eq_false g_39
                refine Wx.gyes rfl rfl (congrArg Value.bool g_39) ?_
                refine Wx.rd (v := .int .i64 (ix 0 (ix [] fs k) j)) (rd_move rfl) rfl ?_
                refine Wx.gyes rfl rfl (congrArg Value.bool g_39) ?_
                refine Wx.rd (v := .pointer (some ⟨g_1, 0, none⟩)) (rd_fieldAddr rfl foFa_24_0) rfl ?_
                refine Wx.gyes rfl rfl (congrArg Value.bool g_39) ?_
                refine Wx.rd (v := .int .i64 L) (rd_loadX hS 4 rfl rfl rfl Try.isAgg3) rfl ?_
                refine Wx.gyes rfl rfl (congrArg Value.bool g_39) ?_
                refine Wx.rd (v := .bool (decide (L ≤ (ix 0 (ix [] fs k) j)))) (rd_geq rfl rfl) rfl ?_
                refine Wx.rd (v := .bool (decide (L ≤ (ix 0 (ix [] fs k) j)))) (rd_pickF (congrArg Value.bool g_39) rfl) rfl ?_
                refine Wx.nil ⟨(), hS, ⟨?_, trivial⟩, Out.look rfl Out.refl⟩
                show Value.bool (decide (L ≤ (ix 0 (ix [] fs k) j))) = Value.bool (decide ((ix 0 (ix [] fs k) j) < 0) || decide (L ≤ (ix 0 (ix [] fs k) j)))
                rw [g_39]; rfl
            rintro ⟨⟩ u_43 w_42 hS
            refine Wx.rd (v := .bool (decide ((ix 0 (ix [] fs k) j) < 0) || decide (L ≤ (ix 0 (ix [] fs k) j)))) (rd_assign rfl) rfl ?_
            refine Wx.nil ?_
            refine W.cond rfl (fun c5 => ?_) (fun c5 => ?_)
            · -- yes
              try simp only [Bool.and_eq_true, Bool.or_eq_true, Bool.not_eq_true', Bool.and_eq_false_iff, Bool.or_eq_false_iff, Bool.not_eq_false', decide_eq_true_eq, decide_eq_false_iff_not, not_or, Bool.false_eq_true, Bool.true_eq_false, false_or, or_false, not_false_eq_true] at c5
              refine W.seq ?_
              refine W.reg ?_
              refine Wx.rd (v := .agg #[.int .i64 0, (.slice none 0 0)]) (rd_build (vs := []) rfl (by kernel_rfl)) rfl ?_
              refine Wx.storeX (cs' := [.int .i64 0, (.slice none 0 0)]) (ds := [.int .i64 0, (.slice none 0 0)]) hS 3 rfl rfl rfl rfl Try.sizeOf85 (Nat.le_of_ble_eq_true rfl) (one_cons rfl (one_cons rfl one_nil)) rfl (fun w_44 hz_45 hS => ?_)
              refine Wx.rd (v := .int .i64 2) (rd_assign rfl) rfl ?_
              refine Wx.nil ?_
              have hE : checkE L fs = 2 := by rw [hE, ← h2, drop_ix (d := []) h0 c2, formsE, show formE L (ix [] fs k) = 2 by rw [formE, if_neg (by omega), ← g2, drop_ix (d := 0) g0 c4, numE, if_pos (by omega)]]; simp
              have e3_0 : (openL L fs) = (0 : Int) := by simp [openL, hE]
              have e3_1 : openS L fs = [] := by simp [openS, hE]
              have e3_2 : (checkE L fs) = (2 : Int) := by exact hE
              exact W.ret ⟨.tuple #[.agg #[.int .i64 0, (.slice none 0 0)], .int .i64 2], (ResIs.cell2 hS 3 rfl rfl Try.isAgg85 Try.sizeOf85), hS.bel, ⟨(.slice none 0 0), (by rw [e3_0, e3_2]), (by rw [e3_1]; exact (V.nil (t := (tI .u8))))⟩⟩
            · -- no
              try simp only [Bool.and_eq_true, Bool.or_eq_true, Bool.not_eq_true', Bool.and_eq_false_iff, Bool.or_eq_false_iff, Bool.not_eq_false', decide_eq_true_eq, decide_eq_false_iff_not, not_or, Bool.false_eq_true, Bool.true_eq_false, false_or, or_false, not_false_eq_true] at c5
              refine W.seq ?_
              refine W.reg ?_
              refine Wx.rd (v := .int .i64 (ix 0 (ix [] fs k) j)) (rd_move rfl) rfl ?_
              refine Wx.rd (v := .int .i64 last) (rd_move rfl) rfl ?_
              refine Wx.rd (v := .bool (decide ((ix 0 (ix [] fs k) j) ≤ last))) (rd_leq rfl rfl) rfl ?_
              refine Wx.rd (v := .bool (decide ((ix 0 (ix [] fs k) j) ≤ last))) (rd_assign rfl) rfl ?_
              refine Wx.nil ?_
              refine W.condD rfl (fun c6 => ?_) (fun c6 => ?_)
              · -- yes
                refine W.seq ?_
                refine W.reg ?_
                refine Wx.rd (v := .agg #[.int .i64 0, (.slice none 0 0)]) (rd_build (vs := []) rfl (by kernel_rfl)) rfl ?_
                refine Wx.storeX (cs' := [.int .i64 0, (.slice none 0 0)]) (ds := [.int .i64 0, (.slice none 0 0)]) hS 3 rfl rfl rfl rfl Try.sizeOf85 (Nat.le_of_ble_eq_true rfl) (one_cons rfl (one_cons rfl one_nil)) rfl (fun w_46 hz_47 hS => ?_)
                refine Wx.rd (v := .int .i64 7) (rd_assign rfl) rfl ?_
                refine Wx.nil ?_
                have hE : checkE L fs = 7 := by rw [hE, ← h2, drop_ix (d := []) h0 c2, formsE, show formE L (ix [] fs k) = 7 by rw [formE, if_neg (by omega), ← g2, drop_ix (d := 0) g0 c4, numE, if_neg (by omega), if_pos (by omega)]]; simp
                have e4_0 : (openL L fs) = (0 : Int) := by simp [openL, hE]
                have e4_1 : openS L fs = [] := by simp [openS, hE]
                have e4_2 : (checkE L fs) = (7 : Int) := by exact hE
                exact W.ret ⟨.tuple #[.agg #[.int .i64 0, (.slice none 0 0)], .int .i64 7], (ResIs.cell2 hS 3 rfl rfl Try.isAgg85 Try.sizeOf85), hS.bel, ⟨(.slice none 0 0), (by rw [e4_0, e4_2]), (by rw [e4_1]; exact (V.nil (t := (tI .u8))))⟩⟩
              · -- no
                refine W.skip ?_
                refine W.reg ?_
                refine Wx.rd (v := .int .u8 s) (rd_move rfl) rfl ?_
                refine Wx.rd (v := .int .i64 (ix 0 (ix [] fs k) j)) (rd_move rfl) rfl ?_
                refine Wx.callF (run_callF Try.call63 rfl) (F63 (in_u8 (by omega) (by omega)) (in_i64 (by omega) (by omega)) (by omega)) rfl ?_
                rintro r_48 w_49 hx_50 rfl
                have hS := hS.ext hx_50
                have in_51 := bd_u8 (withS_in s (ix 0 (ix [] fs k) j))
                refine Wx.rd (v := .int .i64 (ix 0 (ix [] fs k) j)) (rd_move rfl) rfl ?_
                refine Wx.rd (v := .int .u8 (withS s (ix 0 (ix [] fs k) j))) (rd_assign rfl) rfl ?_
                refine Wx.rd (v := .int .i64 (ix 0 (ix [] fs k) j)) (rd_assign rfl) rfl ?_
                refine Wx.nil ?_
                refine W.reg ?_
                refine Wx.rd (v := .int .i64 (j + 1)) (rd_add rfl rfl (in_i64 (by omega) (by omega))) rfl ?_
                refine Wx.rd (v := .int .i64 (j + 1)) (rd_move rfl) rfl ?_
                refine Wx.nil ?_
                refine ⟨(withS s (ix 0 (ix [] fs k) j), ix 0 (ix [] fs k) j, j + 1), (by show ((ix [] fs k).length - (j + 1)).toNat < ((ix [] fs k).length - j).toNat; omega), ?_, ?_, Out.look rfl (Out.hav rfl (Out.look rfl Out.self))⟩
                · exact ⟨hS, (by first | omega | assumption), (by first | omega | assumption), (by rw [← g2, drop_ix (d := 0) g0 c4, numE, if_neg (by omega), if_neg (by omega)]), (by rw [take_ix (d := 0) g0 c4, setF_snoc, ← g3]), (withS_in _ _)⟩
                · exact ⟨rfl, rfl, rfl, trivial⟩
          · -- no
            refine W.exit rfl ?_
            refine W.reg ?_
            refine Wx.rd (v := .pointer (some ⟨g_18, 1, none⟩)) (rd_fieldAddr rfl foFa_85_1) rfl ?_
            refine Wx.rd (v := sv) (rd_loadX hS 2 rfl rfl rfl Try.isAgg83) rfl ?_
            refine Wx.rd (v := .int .u8 s) (rd_move rfl) rfl ?_
            refine Wx.lit (t := (tI .u8)) (ys := [s]) (vs := [.int .u8 s]) elFa_83 hS rfl rfl ⟨(V.mkInt (in_u8 (by omega) (by omega))), trivial⟩ (by decide) rfl (fun v_52 w_53 hx_54 hS => ?_)
            refine Wx.append elFa_83 hS 2 rfl rfl rfl (Src.ofR hS 0 rfl) (by simp only [maxLen]; simp; omega) (by simp; omega) rfl (fun v_55 w_56 hz_57 hS => ?_)
            refine Wx.rd (v := .pointer (some ⟨g_18, 1, none⟩)) (rd_fieldAddr rfl foFa_85_1) rfl ?_
            refine Wx.storeX (cs' := [.int .i64 L, v_55]) (ds := [v_55]) hS 3 rfl rfl rfl (cells_one (hS.rowOne 2 rfl)) Try.sizeOf83 (Nat.le_of_ble_eq_true rfl) (one_cons (hS.rowOne 2 rfl) one_nil) rfl (fun w_58 hz_59 hS => ?_)
            refine Wx.nil ?_
            refine W.reg ?_
            refine Wx.rd (v := .int .i64 (k + 1)) (rd_add rfl rfl (in_i64 (by omega) (by omega))) rfl ?_
            refine Wx.rd (v := .int .i64 (k + 1)) (rd_move rfl) rfl ?_
            refine Wx.nil ?_
            refine ⟨(k + 1, v_55, sets ++ [s]), (by show (fs.length - (k + 1)).toNat < (fs.length - k).toNat; omega), ?_, ?_, Out.look rfl (Out.hav rfl (Out.look rfl Out.self))⟩
            · exact ⟨St.tl (hS.tl), (by first | omega | assumption), (by first | omega | assumption), (by rw [← h2, drop_ix (d := []) h0 c2]; rw [formsE, if_pos]; rw [formE, if_neg (by omega), ← g2, drop_end (by omega)]; rfl), (by rw [take_ix (d := []) h0 c2, h3, g3, take_end (show ((ix [] fs k).length : Int) ≤ j by omega)]; simp [setsF])⟩
            · exact ⟨rfl, trivial⟩
      · -- no
        refine W.exit rfl ?_
        refine W.seq ?_
        refine W.reg ?_
        refine Wx.rd (v := .agg #[.int .i64 L, sv]) (rd_loadXs (ds := [.int .i64 L, sv]) hS 1 rfl rfl rfl rfl Try.isAgg85 Try.sizeOf85) rfl ?_
        refine Wx.storeX (cs' := [.int .i64 L, sv]) (ds := [.int .i64 L, sv]) hS 2 rfl rfl rfl rfl Try.sizeOf85 (Nat.le_of_ble_eq_true rfl) (one_cons rfl (one_cons (hS.rowOne 0 rfl) one_nil)) rfl (fun w_60 hz_61 hS => ?_)
        refine Wx.rd (v := .int .i64 0) (rd_assign rfl) rfl ?_
        refine Wx.nil ?_
        have hE : checkE L fs = 0 := by rw [hE, ← h2, drop_end (by omega)]; rfl
        have e5_0 : (openL L fs) = (L : Int) := by simp [openL, hE]
        have e5_1 : openS L fs = sets := by simp [openS, hE, h3, take_end (by omega : (fs.length : Int) ≤ k)]
        have e5_2 : (checkE L fs) = (0 : Int) := by exact hE
        exact W.ret ⟨.tuple #[.agg #[.int .i64 L, sv], .int .i64 0], (ResIs.cell2 hS 2 rfl rfl Try.isAgg85 Try.sizeOf85), hS.bel, ⟨sv, (by rw [e5_0, e5_2]), (by rw [e5_1]; exact ((hS.lend 0 rfl).mv (.less (fun _ h => List.mem_append.2 (.inr h)))))⟩⟩

theorem F36 {L : Int} {fv : Value} {fs : List (List Int)} {Fr_fv : List (Option Nat)} {w : World} (i_L : InK .i64 L) (h_fv : V (tSl (tSl (tI .i64))) fs fv Fr_fv w) : Calls Try.prog 36 #[.agg #[.int .i64 L, fv]] w (Ret w (fun r _ => r = .int .i64 (checkE L fs))) := by
  have b_L := bd_i64 i_L
  have a_fv := h_fv.any
  have l_fv := h_fv.len63
  have hS := St.start0 w
  refine enterR Try.func36 rfl Try.ntmps36 Try.results36 rfl ?_
  refine W.seq ?_
  refine W.reg ?_
  refine Wx.box (cs := [.int .i64 L, fv]) hS rfl rfl rfl (fun g_1 w_2 hx_4 hb_3 hS => ?_)
  refine Wx.rd (v := .int .i64 0) (rd_assign rfl) rfl ?_
  refine Wx.nil ?_
  refine W.seq ?_
  refine W.reg ?_
  refine Wx.rd (v := .agg #[.int .i64 L, fv]) (rd_loadXs (ds := [.int .i64 L, fv]) hS 0 rfl rfl rfl rfl Try.isAgg24 Try.sizeOf24) rfl ?_
  refine Wx.callF (run_callF Try.call60 rfl) (F60 (in_i64 (by omega) (by omega)) (hS.arg a_fv) hS.fb_lt) rfl ?_
  rintro r_5 w_6 hx_7 ⟨v_8, rfl, hv_9⟩
  have ln_11 := hv_9.len63
  have hS := hS.ext hx_7
  have hS := hS.add hv_9
  refine Wx.rd (v := .tuple #[.agg #[.int .i64 (openL L fs), v_8], .int .i64 (checkE L fs)]) (rd_move rfl) rfl ?_
  refine Wx.rd (v := .agg #[.int .i64 (openL L fs), v_8]) (rd_extract rfl rfl) rfl ?_
  refine Wx.rd (v := .int .i64 (checkE L fs)) (rd_extract rfl rfl) rfl ?_
  refine Wx.alloc (cs := [.int .i64 0, (.slice none 0 0)]) hS Try.zeroValue85 rfl rfl (fun g_12 w_13 hx_15 hb_14 hS => ?_)
  refine Wx.storeX (cs' := [.int .i64 (openL L fs), v_8]) (ds := [.int .i64 (openL L fs), v_8]) hS 0 rfl rfl rfl rfl Try.sizeOf85 (Nat.le_of_ble_eq_true rfl) (one_cons rfl (one_cons (V.oneC (hS.v 1 rfl)) one_nil)) rfl (fun w_16 hz_17 hS => ?_)
  refine Wx.rd (v := .int .i64 (checkE L fs)) (rd_assign rfl) rfl ?_
  refine Wx.nil ?_
  refine W.seq ?_
  refine W.reg ?_
  refine Wx.rd (v := .int .i64 (checkE L fs)) (rd_move rfl) rfl ?_
  refine Wx.rd (v := .int .i64 (checkE L fs)) (rd_assign rfl) rfl ?_
  refine Wx.nil ?_
  exact W.ret ⟨.int .i64 (checkE L fs), ResIs.one, hS.bel, rfl⟩
end Go.Proofs.Ytjmpojoimcljoaa
