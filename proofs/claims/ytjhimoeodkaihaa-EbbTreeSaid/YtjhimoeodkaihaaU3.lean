/-
  WHAT IS PROVED HERE, TEXT BY TEXT (several texts of one prover, joined to one file; the conditions stand in each statement):
  * WHAT IS PROVED HERE: what functions of layer 1 hand back, each out of its own code; the conditions stand in each statement.
  * WHAT IS PROVED HERE: what functions of layer 1 hand back, each out of its own code; the conditions stand in each statement.
  * WHAT IS PROVED HERE: what functions of layer 1 hand back, each out of its own code; the conditions stand in each statement.
  * WHAT IS PROVED HERE: what functions of layer 1 hand back, each out of its own code; the conditions stand in each statement.
  * WHAT IS PROVED HERE: what functions of layer 1 hand back, each out of its own code; the conditions stand in each statement.
-/
import Derived.Test.YtjhimoeodkaihaaProg
import Derived.Test.YtjhimoeodkaihaaU2

set_option linter.unusedVariables false
set_option linter.unusedSimpArgs false

namespace Go.Proofs.Ytjhimoeodkaihaa
open Go.Wk Go.RowKit Go.Lib
set_option linter.unusedVariables false
set_option linter.unusedSimpArgs false
theorem foLa_24_0 : fldOff Try.prog 24 0 = some 0 := by kernel_rfl
theorem foLa_24_1 : fldOff Try.prog 24 1 = some 1 := by kernel_rfl
theorem foLa_24_2 : fldOff Try.prog 24 2 = some 2 := by kernel_rfl

theorem F61 {lo : Int} {n : Int} {hi : Int} {w : World} (i_lo : InK .i64 lo) (i_n : InK .i64 n) (i_hi : InK .i64 hi) : Calls Try.prog 61 #[.int .i64 lo, .int .i64 n, .int .i64 hi] w (Ret w (fun r _ => r = .bool (decide (lo ≤ n) && decide (n ≤ hi)))) := by
  have b_hi := bd_i64 i_hi
  have b_n := bd_i64 i_n
  have b_lo := bd_i64 i_lo
  have hS := St.start0 w
  refine enterR Try.func61 rfl Try.ntmps61 Try.results61 rfl ?_
  refine W.seq ?_
  refine W.reg ?_
  refine Wx.rd (v := .bool false) (rd_assign rfl) rfl ?_
  refine Wx.nil ?_
  refine W.seq ?_
  refine W.reg ?_
  refine Wx.rd (v := .int .i64 lo) (rd_move rfl) rfl ?_
  refine Wx.rd (v := .int .i64 n) (rd_move rfl) rfl ?_
  refine Wx.rd (v := .bool (decide (lo ≤ n))) (rd_leq rfl rfl) rfl ?_
  refine Wx.rd (v := .bool (decide (lo ≤ n))) (rd_move rfl) rfl ?_
  refine Wx.cut (X := Unit) 4 [11, 12, 13, 14] (fun _ => [(14, .bool (decide (lo ≤ n) && decide (n ≤ hi)))]) (fun _ w' => St w [] w' []) ?_ ?_
  · rcases Bool.eq_false_or_eq_true (decide (lo ≤ n)) with g_1 | g_1
    · -- True
      have gp_2 := of_decide_eq_true g_1
      refine Wx.gyes rfl rfl (congrArg Value.bool g_1) ?_
      refine Wx.rd (v := .int .i64 n) (rd_move rfl) rfl ?_
      refine Wx.gyes rfl rfl (congrArg Value.bool g_1) ?_
      refine Wx.rd (v := .int .i64 hi) (rd_move rfl) rfl ?_
      refine Wx.gyes rfl rfl (congrArg Value.bool g_1) ?_
      refine Wx.rd (v := .bool (decide (n ≤ hi))) (rd_leq rfl rfl) rfl ?_
      refine Wx.rd (v := .bool (decide (n ≤ hi))) (rd_pickT (congrArg Value.bool g_1) rfl) rfl ?_
      refine Wx.nil ⟨(), hS, ⟨?_, trivial⟩, Out.look rfl Out.refl⟩
      show Value.bool (decide (n ≤ hi)) = Value.bool (decide (lo ≤ n) && decide (n ≤ hi))
      first | rw [g_1, Bool.true_and] | (rw [g_1]; rfl)
    · -- False
      have gp_3 := of_decide_eq_false g_1
      refine Wx.gnoB rfl rfl (congrArg Value.bool g_1) rfl rfl ?_
      refine Wx.gnoB rfl rfl (congrArg Value.bool g_1) rfl rfl ?_
      refine Wx.gnoB rfl rfl (congrArg Value.bool g_1) rfl rfl ?_
      refine Wx.rd (v := .bool false) (rd_pickF (congrArg Value.bool g_1) rfl) rfl ?_
      refine Wx.nil ⟨(), hS, ⟨?_, trivial⟩, Out.look rfl Out.refl⟩
      show Value.bool false = Value.bool (decide (lo ≤ n) && decide (n ≤ hi))
      first | rw [g_1, Bool.false_and] | (rw [g_1]; rfl)
  rintro ⟨⟩ u_5 w_4 hS
  refine Wx.rd (v := .bool (decide (lo ≤ n) && decide (n ≤ hi))) (rd_assign rfl) rfl ?_
  refine Wx.nil ?_
  exact W.ret ⟨.bool (decide (lo ≤ n) && decide (n ≤ hi)), ResIs.one, hS.bel, rfl⟩

theorem F62 {h : Int} {w : World} (i_h : InK .i64 h) : Calls Try.prog 62 #[.int .i64 h] w (Ret w (fun r _ => r = .bool (badH h))) := by
  have b_h := bd_i64 i_h
  have hS := St.start0 w
  refine enterR Try.func62 rfl Try.ntmps62 Try.results62 rfl ?_
  refine W.seq ?_
  refine W.reg ?_
  refine Wx.rd (v := .bool false) (rd_assign rfl) rfl ?_
  refine Wx.nil ?_
  refine W.seq ?_
  refine W.reg ?_
  refine Wx.rd (v := .int .i64 h) (rd_move rfl) rfl ?_
  refine Wx.callF (run_callF Try.call61 rfl) (F61 (in_i64 (by omega) (by omega)) i_h (in_i64 (by omega) (by omega))) rfl ?_
  rintro r_1 w_2 hx_3 rfl
  have hS := hS.ext hx_3
  refine Wx.rd (v := .bool (!(decide (0 ≤ h) && decide (h ≤ 30)))) (rd_not rfl) rfl ?_
  refine Wx.rd (v := .bool (!(decide (0 ≤ h) && decide (h ≤ 30)))) (rd_assign rfl) rfl ?_
  refine Wx.nil ?_
  have e0_0 : (badH h) = (!(decide (0 ≤ h) && decide (h ≤ 30))) := by rfl
  exact W.ret ⟨.bool (!(decide (0 ≤ h) && decide (h ≤ 30))), ResIs.one, hS.bel, (by rw [e0_0])⟩

theorem F69 {u : Int} {gh : Nat} {h : Int} {w : World} (i_u : InK .i64 u) (i_h : InK .i64 h) (x_gh : w.heap[gh]? = some (.cells #[.int .i64 h] 3 (0, 0))) : Calls Try.prog 69 #[.int .i64 u, .pointer (some ⟨gh, 0, none⟩)] w (Ret w (fun r _ => r = .bool (leB h u))) := by
  have b_h := bd_i64 i_h
  have b_u := bd_i64 i_u
  have hS := St.start0 w
  refine enterR Try.func69 rfl Try.ntmps69 Try.results69 rfl ?_
  refine W.seq ?_
  refine W.reg ?_
  refine Wx.rd (v := .bool false) (rd_assign rfl) rfl ?_
  refine Wx.nil ?_
  refine W.seq ?_
  refine W.reg ?_
  refine Wx.rd (v := .int .i64 u) (rd_move rfl) rfl ?_
  refine Wx.rd (v := .int .i64 h) (rd_loadO x_gh hS.bel rfl rfl Try.isAgg3) rfl ?_
  refine Wx.rd (v := .bool (decide (u ≤ h))) (rd_leq rfl rfl) rfl ?_
  refine Wx.rd (v := .bool (decide (u ≤ h))) (rd_assign rfl) rfl ?_
  refine Wx.nil ?_
  have e0_0 : (leB h u) = (decide (u ≤ h)) := by rfl
  exact W.ret ⟨.bool (decide (u ≤ h)), ResIs.one, hS.bel, (by rw [e0_0])⟩

theorem FIh {xv : Value} {xs : List Int} {Fr_xv : List (Option Nat)} {gh : Nat} {h : Int} {w : World} (h_xv : V (tSl (tI .i64)) xs xv Fr_xv w) (i_h : InK .i64 h) (x_gh : w.heap[gh]? = some (.cells #[.int .i64 h] 3 (0, 0))) : Calls Try.prog 68 #[xv, .func (.func 69) #[] #[.pointer (some ⟨gh, 0, none⟩)]] w (Ret w (fun r _ => r = .int .i64 (idxP (leB h) 0 xs))) := by
  have b_h := bd_i64 i_h
  have a_xv := h_xv.any
  have l_xv := h_xv.len63
  have hS := St.start0 w
  refine enterR Try.func68 rfl Try.ntmps68 Try.results68 rfl ?_
  refine W.seq ?_
  refine W.reg ?_
  refine Wx.rd (v := .int .i64 0) (rd_assign rfl) rfl ?_
  refine Wx.nil ?_
  refine W.seq ?_
  refine W.seq ?_
  refine W.reg ?_
  refine Wx.rd (v := xv) (rd_move rfl) rfl ?_
  refine Wx.rd (v := .int .i64 (xs.length : Int)) (rd_lenV rfl (hS.arg a_xv) Try.underlying22) rfl ?_
  refine Wx.rd (v := .int .i64 0) (rd_move rfl) rfl ?_
  refine Wx.nil ?_
  refine W.block ?_
  refine W.loop [4, 5, 8, 9, 10, 11, 12, 13, 14, 15, 16, 17, 18] (fun (k : Int) => [(8, .int .i64 k)]) (fun (k : Int) w' => St w [] w' [] ∧ 0 ≤ k ∧ k ≤ xs.length ∧ idxP (leB h) k (xs.drop k.toNat) = idxP (leB h) 0 xs) (fun (k : Int) => (xs.length - k).toNat) 0 ⟨rfl, trivial⟩ ⟨hS, (by first | omega | simp), (by first | omega | simp), (by simp)⟩ ?_
  rintro k u_2 w_1 ⟨hS, h0, h1, h2⟩
  refine W.seq ?_
  refine W.reg ?_
  refine Wx.rd (v := .bool (decide (k < (xs.length : Int)))) (rd_lss rfl rfl) rfl ?_
  refine Wx.nil ?_
  refine W.seq ?_
  refine W.condD rfl (fun c0 => ?_) (fun c0 => ?_)
  · -- yes
    refine W.skip ?_
    refine W.seq ?_
    refine W.block ?_
    refine W.seq ?_
    refine W.reg ?_
    refine Wx.rd (v := .int .i64 k) (rd_move rfl) rfl ?_
    refine Wx.rd (v := .int .i64 k) (rd_assign rfl) rfl ?_
    refine Wx.nil ?_
    refine W.seq ?_
    refine W.reg ?_
    refine Wx.rd (v := .func (.func 69) #[] #[.pointer (some ⟨gh, 0, none⟩)]) (rd_move rfl) rfl ?_
    refine Wx.rd (v := xv) (rd_move rfl) rfl ?_
    refine Wx.rd (v := .int .i64 k) (rd_move rfl) rfl ?_
    refine Wx.ex (rd_index 0 (hS.arg a_xv) rfl rfl Try.underlying22 Try.sizeOf3 (by first | omega | (simp only [List.length_set, List.length_append, List.length_cons, List.length_nil, List.length_replicate]; omega)) (by first | omega | (simp only [List.length_set, List.length_append, List.length_cons, List.length_nil, List.length_replicate]; omega))) rfl (fun p_3 hp_4 => ?_)
    refine Wx.rd (v := .int .i64 (ix 0 xs k)) (rd_loadI hp_4 rfl Try.isAgg3 Try.sizeOf3) rfl ?_
    have bd_5 := bd_i64 hp_4.inK
    refine Wx.callF (run_callC (fs := []) (cs := [.pointer (some ⟨gh, 0, none⟩)]) (vs := [.int .i64 (ix 0 xs k), .pointer (some ⟨gh, 0, none⟩)]) Try.call69 rfl rfl) (F69 (in_i64 (by omega) (by omega)) i_h (extAt x_gh hS.bel)) rfl ?_
    rintro r_6 w_7 hx_8 rfl
    have hS := hS.ext hx_8
    refine Wx.nil ?_
    refine W.cond rfl (fun c1 => ?_) (fun c1 => ?_)
    · -- yes
      try simp only [Bool.and_eq_true, Bool.or_eq_true, Bool.not_eq_true', Bool.and_eq_false_iff, Bool.or_eq_false_iff, Bool.not_eq_false', decide_eq_true_eq, decide_eq_false_iff_not, not_or, Bool.false_eq_true, Bool.true_eq_false, false_or, or_false, not_false_eq_true] at c1
      refine W.seq ?_
      refine W.reg ?_
      refine Wx.rd (v := .int .i64 k) (rd_move rfl) rfl ?_
      refine Wx.rd (v := .int .i64 k) (rd_assign rfl) rfl ?_
      refine Wx.nil ?_
      have e0_0 : (idxP (leB h) 0 xs) = (k : Int) := by exact idxP_here h0 c0 h2 c1
      exact W.ret ⟨.int .i64 k, ResIs.one, hS.bel, (by rw [e0_0])⟩
    · -- no
      try simp only [Bool.and_eq_true, Bool.or_eq_true, Bool.not_eq_true', Bool.and_eq_false_iff, Bool.or_eq_false_iff, Bool.not_eq_false', decide_eq_true_eq, decide_eq_false_iff_not, not_or, Bool.false_eq_true, Bool.true_eq_false, false_or, or_false, not_false_eq_true] at c1
      refine W.skip ?_
      refine W.reg ?_
      refine Wx.rd (v := .int .i64 (k + 1)) (rd_add rfl rfl (in_i64 (by omega) (by omega))) rfl ?_
      refine Wx.rd (v := .int .i64 (k + 1)) (rd_move rfl) rfl ?_
      refine Wx.nil ?_
      refine ⟨k + 1, (by show (xs.length - (k + 1)).toNat < (xs.length - k).toNat; omega), ?_, ?_, Out.look rfl Out.self⟩
      · exact ⟨hS, (by first | omega | assumption), (by first | omega | assumption), (idxP_step h0 c0 h2 c1)⟩
      · exact ⟨rfl, trivial⟩
  · -- no
    refine W.exit rfl ?_
    refine W.seq ?_
    refine W.reg ?_
    refine Wx.rd (v := .int .i64 (-1)) (rd_assign rfl) rfl ?_
    refine Wx.nil ?_
    have e1_0 : (idxP (leB h) 0 xs) = (-1 : Int) := by exact idxP_out (by omega) h2
    exact W.ret ⟨.int .i64 (-1), ResIs.one, hS.bel, (by rw [e1_0])⟩

theorem FIw {xv : Value} {xs : List Int} {Fr_xv : List (Option Nat)} {w : World} (h_xv : V (tSl (tI .i64)) xs xv Fr_xv w) : Calls Try.prog 68 #[xv, .func (.func 62) #[] #[]] w (Ret w (fun r _ => r = .int .i64 (idxP badH 0 xs))) := by
  have a_xv := h_xv.any
  have l_xv := h_xv.len63
  have hS := St.start0 w
  refine enterR Try.func68 rfl Try.ntmps68 Try.results68 rfl ?_
  refine W.seq ?_
  refine W.reg ?_
  refine Wx.rd (v := .int .i64 0) (rd_assign rfl) rfl ?_
  refine Wx.nil ?_
  refine W.seq ?_
  refine W.seq ?_
  refine W.reg ?_
  refine Wx.rd (v := xv) (rd_move rfl) rfl ?_
  refine Wx.rd (v := .int .i64 (xs.length : Int)) (rd_lenV rfl (hS.arg a_xv) Try.underlying22) rfl ?_
  refine Wx.rd (v := .int .i64 0) (rd_move rfl) rfl ?_
  refine Wx.nil ?_
  refine W.block ?_
  refine W.loop [4, 5, 8, 9, 10, 11, 12, 13, 14, 15, 16, 17, 18] (fun (k : Int) => [(8, .int .i64 k)]) (fun (k : Int) w' => St w [] w' [] ∧ 0 ≤ k ∧ k ≤ xs.length ∧ idxP badH k (xs.drop k.toNat) = idxP badH 0 xs) (fun (k : Int) => (xs.length - k).toNat) 0 ⟨rfl, trivial⟩ ⟨hS, (by first | omega | simp), (by first | omega | simp), (by simp)⟩ ?_
  rintro k u_2 w_1 ⟨hS, h0, h1, h2⟩
  refine W.seq ?_
  refine W.reg ?_
  refine Wx.rd (v := .bool (decide (k < (xs.length : Int)))) (rd_lss rfl rfl) rfl ?_
  refine Wx.nil ?_
  refine W.seq ?_
  refine W.condD rfl (fun c0 => ?_) (fun c0 => ?_)
  · -- yes
    refine W.skip ?_
    refine W.seq ?_
    refine W.block ?_
    refine W.seq ?_
    refine W.reg ?_
    refine Wx.rd (v := .int .i64 k) (rd_move rfl) rfl ?_
    refine Wx.rd (v := .int .i64 k) (rd_assign rfl) rfl ?_
    refine Wx.nil ?_
    refine W.seq ?_
    refine W.reg ?_
    refine Wx.rd (v := .func (.func 62) #[] #[]) (rd_move rfl) rfl ?_
    refine Wx.rd (v := xv) (rd_move rfl) rfl ?_
    refine Wx.rd (v := .int .i64 k) (rd_move rfl) rfl ?_
    refine Wx.ex (rd_index 0 (hS.arg a_xv) rfl rfl Try.underlying22 Try.sizeOf3 (by first | omega | (simp only [List.length_set, List.length_append, List.length_cons, List.length_nil, List.length_replicate]; omega)) (by first | omega | (simp only [List.length_set, List.length_append, List.length_cons, List.length_nil, List.length_replicate]; omega))) rfl (fun p_3 hp_4 => ?_)
    refine Wx.rd (v := .int .i64 (ix 0 xs k)) (rd_loadI hp_4 rfl Try.isAgg3 Try.sizeOf3) rfl ?_
    have bd_5 := bd_i64 hp_4.inK
    refine Wx.callF (run_callC (fs := []) (cs := []) (vs := [.int .i64 (ix 0 xs k)]) Try.call62 rfl rfl) (F62 (in_i64 (by omega) (by omega))) rfl ?_
    rintro r_6 w_7 hx_8 rfl
    have hS := hS.ext hx_8
    refine Wx.nil ?_
    refine W.cond rfl (fun c1 => ?_) (fun c1 => ?_)
    · -- yes
      try simp only [Bool.and_eq_true, Bool.or_eq_true, Bool.not_eq_true', Bool.and_eq_false_iff, Bool.or_eq_false_iff, Bool.not_eq_false', decide_eq_true_eq, decide_eq_false_iff_not, not_or, Bool.false_eq_true, Bool.true_eq_false, false_or, or_false, not_false_eq_true] at c1
      refine W.seq ?_
      refine W.reg ?_
      refine Wx.rd (v := .int .i64 k) (rd_move rfl) rfl ?_
      refine Wx.rd (v := .int .i64 k) (rd_assign rfl) rfl ?_
      refine Wx.nil ?_
      have e0_0 : (idxP badH 0 xs) = (k : Int) := by exact idxP_here h0 c0 h2 c1
      exact W.ret ⟨.int .i64 k, ResIs.one, hS.bel, (by rw [e0_0])⟩
    · -- no
      try simp only [Bool.and_eq_true, Bool.or_eq_true, Bool.not_eq_true', Bool.and_eq_false_iff, Bool.or_eq_false_iff, Bool.not_eq_false', decide_eq_true_eq, decide_eq_false_iff_not, not_or, Bool.false_eq_true, Bool.true_eq_false, false_or, or_false, not_false_eq_true] at c1
      refine W.skip ?_
      refine W.reg ?_
      refine Wx.rd (v := .int .i64 (k + 1)) (rd_add rfl rfl (in_i64 (by omega) (by omega))) rfl ?_
      refine Wx.rd (v := .int .i64 (k + 1)) (rd_move rfl) rfl ?_
      refine Wx.nil ?_
      refine ⟨k + 1, (by show (xs.length - (k + 1)).toNat < (xs.length - k).toNat; omega), ?_, ?_, Out.look rfl Out.self⟩
      · exact ⟨hS, (by first | omega | assumption), (by first | omega | assumption), (idxP_step h0 c0 h2 c1)⟩
      · exact ⟨rfl, trivial⟩
  · -- no
    refine W.exit rfl ?_
    refine W.seq ?_
    refine W.reg ?_
    refine Wx.rd (v := .int .i64 (-1)) (rd_assign rfl) rfl ?_
    refine Wx.nil ?_
    have e1_0 : (idxP badH 0 xs) = (-1 : Int) := by exact idxP_out (by omega) h2
    exact W.ret ⟨.int .i64 (-1), ResIs.one, hS.bel, (by rw [e1_0])⟩

theorem F53 {xv : Value} {xs : List Int} {Fr_xv : List (Option Nat)} {w : World} (h_xv : V (tSl (tI .i64)) xs xv Fr_xv w) : Calls Try.prog 53 #[xv, .func (.func 62) #[] #[]] w (Ret w (fun r _ => r = .bool (xs.any badH))) := by
  have a_xv := h_xv.any
  have l_xv := h_xv.len63
  have hS := St.start0 w
  refine enterR Try.func53 rfl Try.ntmps53 Try.results53 rfl ?_
  refine W.seq ?_
  refine W.reg ?_
  refine Wx.rd (v := .bool false) (rd_assign rfl) rfl ?_
  refine Wx.nil ?_
  refine W.seq ?_
  refine W.reg ?_
  refine Wx.rd (v := xv) (rd_move rfl) rfl ?_
  refine Wx.rd (v := .func (.func 62) #[] #[]) (rd_move rfl) rfl ?_
  refine Wx.callF (run_callF Try.call68 rfl) (FIw (hS.arg a_xv)) rfl ?_
  rintro r_1 w_2 hx_3 rfl
  have hS := hS.ext hx_3
  have ib_4 := idxP_bd badH xs 0 (Int.le_refl 0)
  refine Wx.rd (v := .bool (decide (0 ≤ (idxP badH 0 xs)))) (rd_geq rfl rfl) rfl ?_
  refine Wx.rd (v := .bool (decide (0 ≤ (idxP badH 0 xs)))) (rd_assign rfl) rfl ?_
  refine Wx.nil ?_
  have e0_0 : (xs.any badH) = (decide (0 ≤ (idxP badH 0 xs))) := by exact (idxP_any _ _ _ (by omega)).symm
  exact W.ret ⟨.bool (decide (0 ≤ (idxP badH 0 xs))), ResIs.one, hS.bel, (by rw [e0_0])⟩

set_option maxHeartbeats 1000000 in
theorem F22 {R : Int} {C : Int} {hv : Value} {H : List Int} {Fr_hv : List (Option Nat)} {w : World} (i_R : InK .i64 R) (i_C : InK .i64 C) (h_hv : V (tSl (tI .i64)) H hv Fr_hv w) : Calls Try.prog 22 #[.agg #[.int .i64 R, .int .i64 C, hv]] w (Ret w (fun r _ => r = .int .i64 (checkS R C H))) := by
  have b_C := bd_i64 i_C
  have b_R := bd_i64 i_R
  have a_hv := h_hv.any
  have l_hv := h_hv.len63
  have hS := St.start0 w
  refine enterR Try.func22 rfl Try.ntmps22 Try.results22 rfl ?_
  refine W.seq ?_
  refine W.reg ?_
  refine Wx.box (cs := [.int .i64 R, .int .i64 C, hv]) hS rfl rfl rfl (fun g_1 w_2 hx_4 hb_3 hS => ?_)
  refine Wx.rd (v := .int .i64 0) (rd_assign rfl) rfl ?_
  refine Wx.nil ?_
  refine W.seq ?_
  refine W.block ?_
  refine W.seq ?_
  refine W.reg ?_
  refine Wx.rd (v := .pointer (some ⟨g_1, 0, none⟩)) (rd_fieldAddr rfl foLa_24_0) rfl ?_
  refine Wx.rd (v := .int .i64 R) (rd_loadX hS 0 rfl rfl rfl Try.isAgg3) rfl ?_
  refine Wx.callF (run_callF Try.call61 rfl) (F61 (in_i64 (by omega) (by omega)) i_R (in_i64 (by omega) (by omega))) rfl ?_
  rintro r_5 w_6 hx_7 rfl
  have hS := hS.ext hx_7
  refine Wx.rd (v := .bool (!(decide (1 ≤ R) && decide (R ≤ 6)))) (rd_not rfl) rfl ?_
  refine Wx.rd (v := .bool (!(decide (1 ≤ R) && decide (R ≤ 6)))) (rd_move rfl) rfl ?_
  refine Wx.cut (X := Unit) 5 [9, 10, 11, 12, 13] (fun _ => [(13, .bool (!(decide (1 ≤ R) && decide (R ≤ 6)) || !(decide (1 ≤ C) && decide (C ≤ 6))))]) (fun _ w' => St w [] w' [.box g_1 24 [.int .i64 R, .int .i64 C, hv]]) ?_ ?_
  · rcases Bool.eq_false_or_eq_true (!(decide (1 ≤ R) && decide (R ≤ 6))) with g_8 | g_8
    · -- True
      have gp_9 := g_8
      try simp only [Bool.and_eq_true, Bool.or_eq_true, Bool.not_eq_true', Bool.and_eq_false_iff, Bool.or_eq_false_iff, Bool.not_eq_false', decide_eq_true_eq, decide_eq_false_iff_not, not_or, Bool.false_eq_true, Bool.true_eq_false, false_or, or_false, not_false_eq_true] at gp_9
      refine Wx.gnoB rfl rfl (congrArg Value.bool g_8) rfl rfl ?_
      refine Wx.gnoB rfl rfl (congrArg Value.bool g_8) rfl rfl ?_
      refine Wx.gnoB rfl rfl (congrArg Value.bool g_8) rfl rfl ?_
      refine Wx.gnoB rfl rfl (congrArg Value.bool g_8) rfl rfl ?_
      refine Wx.rd (v := .bool true) (rd_pickT (congrArg Value.bool g_8) rfl) rfl ?_
      refine Wx.nil ⟨(), hS, ⟨?_, trivial⟩, Out.look rfl Out.refl⟩
      show Value.bool true = Value.bool (!(decide (1 ≤ R) && decide (R ≤ 6)) || !(decide (1 ≤ C) && decide (C ≤ 6)))
      first | rw [g_8, Bool.true_or] | (rw [g_8]; rfl)
    · -- False
      have gp_10 := g_8
      try simp only [Bool.and_eq_true, Bool.or_eq_true, Bool.not_eq_true', Bool.and_eq_false_iff, Bool.or_eq_false_iff, Bool.not_eq_false', decide_eq_true_eq, decide_eq_false_iff_not, not_or, Bool.false_eq_true, Bool.true_eq_false, false_or, or_false, not_false_eq_true] at gp_10
      refine Wx.gyes rfl rfl (congrArg Value.bool g_8) ?_
      refine Wx.rd (v := .pointer (some ⟨g_1, 1, none⟩)) (rd_fieldAddr rfl foLa_24_1) rfl ?_
      refine Wx.gyes rfl rfl (congrArg Value.bool g_8) ?_
      refine Wx.rd (v := .int .i64 C) (rd_loadX hS 0 rfl rfl rfl Try.isAgg3) rfl ?_
      refine Wx.gyes rfl rfl (congrArg Value.bool g_8) ?_
      refine Wx.callF (run_callF Try.call61 rfl) (F61 (in_i64 (by omega) (by omega)) i_C (in_i64 (by omega) (by omega))) rfl ?_
      rintro r_11 w_12 hx_13 rfl
      have hS := hS.ext hx_13
      refine Wx.gyes rfl rfl (congrArg Value.bool g_8) ?_
      refine Wx.rd (v := .bool (!(decide (1 ≤ C) && decide (C ≤ 6)))) (rd_not rfl) rfl ?_
      refine Wx.rd (v := .bool (!(decide (1 ≤ C) && decide (C ≤ 6)))) (rd_pickF (congrArg Value.bool g_8) rfl) rfl ?_
      refine Wx.nil ⟨(), hS, ⟨?_, trivial⟩, Out.look rfl Out.refl⟩
      show Value.bool (!(decide (1 ≤ C) && decide (C ≤ 6))) = Value.bool (!(decide (1 ≤ R) && decide (R ≤ 6)) || !(decide (1 ≤ C) && decide (C ≤ 6)))
      first | rw [g_8, Bool.false_or] | (rw [g_8]; rfl)
  rintro ⟨⟩ u_15 w_14 hS
  refine Wx.rd (v := .bool (!(decide (1 ≤ R) && decide (R ≤ 6)) || !(decide (1 ≤ C) && decide (C ≤ 6)))) (rd_assign rfl) rfl ?_
  refine Wx.nil ?_
  refine W.cond rfl (fun c0 => ?_) (fun c0 => ?_)
  · -- yes
    try simp only [Bool.and_eq_true, Bool.or_eq_true, Bool.not_eq_true', Bool.and_eq_false_iff, Bool.or_eq_false_iff, Bool.not_eq_false', decide_eq_true_eq, decide_eq_false_iff_not, not_or, Bool.false_eq_true, Bool.true_eq_false, false_or, or_false, not_false_eq_true] at c0
    refine W.seq ?_
    refine W.reg ?_
    refine Wx.rd (v := .int .i64 1) (rd_assign rfl) rfl ?_
    refine Wx.nil ?_
    have e0_0 : (checkS R C H) = (1 : Int) := by exact check_range (by omega)
    exact W.ret ⟨.int .i64 1, ResIs.one, hS.bel, (by rw [e0_0])⟩
  · -- no
    try simp only [Bool.and_eq_true, Bool.or_eq_true, Bool.not_eq_true', Bool.and_eq_false_iff, Bool.or_eq_false_iff, Bool.not_eq_false', decide_eq_true_eq, decide_eq_false_iff_not, not_or, Bool.false_eq_true, Bool.true_eq_false, false_or, or_false, not_false_eq_true] at c0
    refine W.seq ?_
    refine W.reg ?_
    refine Wx.rd (v := .pointer (some ⟨g_1, 2, none⟩)) (rd_fieldAddr rfl foLa_24_2) rfl ?_
    refine Wx.rd (v := hv) (rd_loadX hS 0 rfl rfl rfl Try.isAgg22) rfl ?_
    refine Wx.rd (v := .int .i64 (H.length : Int)) (rd_lenV rfl (hS.arg a_hv) Try.underlying22) rfl ?_
    refine Wx.rd (v := .pointer (some ⟨g_1, 0, none⟩)) (rd_fieldAddr rfl foLa_24_0) rfl ?_
    refine Wx.rd (v := .int .i64 R) (rd_loadX hS 0 rfl rfl rfl Try.isAgg3) rfl ?_
    refine Wx.rd (v := .pointer (some ⟨g_1, 1, none⟩)) (rd_fieldAddr rfl foLa_24_1) rfl ?_
    refine Wx.rd (v := .int .i64 C) (rd_loadX hS 0 rfl rfl rfl Try.isAgg3) rfl ?_
    have hmul : 0 ≤ R * C ∧ R * C ≤ 36 := mul36 (by omega) (by omega)
    refine Wx.rd (v := .int .i64 (R * C)) (rd_mul rfl rfl (in_i64 (by omega) (by omega))) rfl ?_
    refine Wx.rd (v := .bool (decide ((H.length : Int) ≠ (R * C)))) (rd_neq rfl rfl) rfl ?_
    refine Wx.rd (v := .bool (decide ((H.length : Int) ≠ (R * C)))) (rd_assign rfl) rfl ?_
    refine Wx.nil ?_
    refine W.condD rfl (fun c1 => ?_) (fun c1 => ?_)
    · -- yes
      refine W.seq ?_
      refine W.reg ?_
      refine Wx.rd (v := .int .i64 5) (rd_assign rfl) rfl ?_
      refine Wx.nil ?_
      have e1_0 : (checkS R C H) = (5 : Int) := by exact check_shape (by omega) (by omega)
      exact W.ret ⟨.int .i64 5, ResIs.one, hS.bel, (by rw [e1_0])⟩
    · -- no
      refine W.seq ?_
      refine W.reg ?_
      refine Wx.rd (v := .pointer (some ⟨g_1, 2, none⟩)) (rd_fieldAddr rfl foLa_24_2) rfl ?_
      refine Wx.rd (v := hv) (rd_loadX hS 0 rfl rfl rfl Try.isAgg22) rfl ?_
      refine Wx.callF (run_callF Try.call53 rfl) (F53 (hS.arg a_hv)) rfl ?_
      rintro r_16 w_17 hx_18 rfl
      have hS := hS.ext hx_18
      refine Wx.rd (v := .bool (H.any badH)) (rd_assign rfl) rfl ?_
      refine Wx.nil ?_
      refine W.cond rfl (fun c2 => ?_) (fun c2 => ?_)
      · -- yes
        try simp only [Bool.and_eq_true, Bool.or_eq_true, Bool.not_eq_true', Bool.and_eq_false_iff, Bool.or_eq_false_iff, Bool.not_eq_false', decide_eq_true_eq, decide_eq_false_iff_not, not_or, Bool.false_eq_true, Bool.true_eq_false, false_or, or_false, not_false_eq_true] at c2
        have hg : (1 ≤ R ∧ R ≤ 6) ∧ (1 ≤ C ∧ C ≤ 6) := by omega
        refine W.seq ?_
        refine W.reg ?_
        refine Wx.rd (v := .int .i64 1) (rd_assign rfl) rfl ?_
        refine Wx.nil ?_
        have e2_0 : (checkS R C H) = (1 : Int) := by rw [check_any (by omega) (by omega), if_pos c2]
        exact W.ret ⟨.int .i64 1, ResIs.one, hS.bel, (by rw [e2_0])⟩
      · -- no
        try simp only [Bool.and_eq_true, Bool.or_eq_true, Bool.not_eq_true', Bool.and_eq_false_iff, Bool.or_eq_false_iff, Bool.not_eq_false', decide_eq_true_eq, decide_eq_false_iff_not, not_or, Bool.false_eq_true, Bool.true_eq_false, false_or, or_false, not_false_eq_true] at c2
        refine W.skip ?_
        refine W.seq ?_
        refine W.reg ?_
        refine Wx.rd (v := .int .i64 0) (rd_assign rfl) rfl ?_
        refine Wx.nil ?_
        have e3_0 : (checkS R C H) = (0 : Int) := by rw [check_any (by omega) (by omega), if_neg (by rw [c2]; decide)]
        exact W.ret ⟨.int .i64 0, ResIs.one, hS.bel, (by rw [e3_0])⟩

theorem F56 {R : Int} {C : Int} {hv : Value} {H : List Int} {Fr_hv : List (Option Nat)} {w : World} (i_R : InK .i64 R) (i_C : InK .i64 C) (h_hv : V (tSl (tI .i64)) H hv Fr_hv w) : Calls Try.prog 56 #[.agg #[.int .i64 R, .int .i64 C, hv]] w (Ret w (fun r _ => r = .int .i64 (H.length : Int))) := by
  have b_C := bd_i64 i_C
  have b_R := bd_i64 i_R
  have a_hv := h_hv.any
  have l_hv := h_hv.len63
  have hS := St.start0 w
  refine enterR Try.func56 rfl Try.ntmps56 Try.results56 rfl ?_
  refine W.seq ?_
  refine W.reg ?_
  refine Wx.box (cs := [.int .i64 R, .int .i64 C, hv]) hS rfl rfl rfl (fun g_1 w_2 hx_4 hb_3 hS => ?_)
  refine Wx.rd (v := .int .i64 0) (rd_assign rfl) rfl ?_
  refine Wx.nil ?_
  refine W.seq ?_
  refine W.reg ?_
  refine Wx.rd (v := .pointer (some ⟨g_1, 2, none⟩)) (rd_fieldAddr rfl foLa_24_2) rfl ?_
  refine Wx.rd (v := hv) (rd_loadX hS 0 rfl rfl rfl Try.isAgg22) rfl ?_
  refine Wx.rd (v := .int .i64 (H.length : Int)) (rd_lenV rfl (hS.arg a_hv) Try.underlying22) rfl ?_
  refine Wx.rd (v := .int .i64 (H.length : Int)) (rd_assign rfl) rfl ?_
  refine Wx.nil ?_
  exact W.ret ⟨.int .i64 (H.length : Int), ResIs.one, hS.bel, rfl⟩

theorem F71 {R : Int} {C : Int} {hv : Value} {H : List Int} {Fr_hv : List (Option Nat)} {p : Int} {w : World} (i_R : InK .i64 R) (i_C : InK .i64 C) (h_hv : V (tSl (tI .i64)) H hv Fr_hv w) (i_p : InK .i64 p) : Calls Try.prog 71 #[.agg #[.int .i64 R, .int .i64 C, hv], .int .i64 p] w (Ret w (fun r _ => r = .int .i64 (atE R C H p))) := by
  have b_p := bd_i64 i_p
  have b_C := bd_i64 i_C
  have b_R := bd_i64 i_R
  have a_hv := h_hv.any
  have l_hv := h_hv.len63
  have hS := St.start0 w
  refine enterR Try.func71 rfl Try.ntmps71 Try.results71 rfl ?_
  refine W.seq ?_
  refine W.reg ?_
  refine Wx.box (cs := [.int .i64 R, .int .i64 C, hv]) hS rfl rfl rfl (fun g_1 w_2 hx_4 hb_3 hS => ?_)
  refine Wx.rd (v := .int .i64 0) (rd_assign rfl) rfl ?_
  refine Wx.nil ?_
  refine W.seq ?_
  refine W.reg ?_
  refine Wx.rd (v := .agg #[.int .i64 R, .int .i64 C, hv]) (rd_loadXs (ds := [.int .i64 R, .int .i64 C, hv]) hS 0 rfl rfl rfl rfl Try.isAgg24 Try.sizeOf24) rfl ?_
  refine Wx.callF (run_callF Try.call22 rfl) (F22 i_R i_C (hS.arg a_hv)) rfl ?_
  rintro r_5 w_6 hx_7 rfl
  have hS := hS.ext hx_7
  refine Wx.rd (v := .int .i64 (checkS R C H)) (rd_assign rfl) rfl ?_
  refine Wx.nil ?_
  refine W.seq ?_
  refine W.seq ?_
  refine W.reg ?_
  refine Wx.rd (v := .int .i64 (checkS R C H)) (rd_move rfl) rfl ?_
  refine Wx.rd (v := .bool (decide ((checkS R C H) = 0))) (rd_eql rfl rfl) rfl ?_
  refine Wx.rd (v := .bool (decide ((checkS R C H) = 0))) (rd_move rfl) rfl ?_
  refine Wx.cut (X := Unit) 7 [11, 12, 13, 14, 15, 16, 17] (fun _ => [(17, .bool (decide ((checkS R C H) = 0) && !(decide (0 ≤ p) && decide (p ≤ ((H.length : Int) - 1)))))]) (fun _ w' => St w [] w' [.box g_1 24 [.int .i64 R, .int .i64 C, hv]]) ?_ ?_
  · rcases Bool.eq_false_or_eq_true (decide ((checkS R C H) = 0)) with g_8 | g_8
    · -- True
      have gp_9 := of_decide_eq_true g_8
      refine Wx.gyes rfl rfl (congrArg Value.bool g_8) ?_
      refine Wx.rd (v := .int .i64 p) (rd_move rfl) rfl ?_
      refine Wx.gyes rfl rfl (congrArg Value.bool g_8) ?_
      refine Wx.rd (v := .agg #[.int .i64 R, .int .i64 C, hv]) (rd_loadXs (ds := [.int .i64 R, .int .i64 C, hv]) hS 0 rfl rfl rfl rfl Try.isAgg24 Try.sizeOf24) rfl ?_
      refine Wx.gyes rfl rfl (congrArg Value.bool g_8) ?_
      refine Wx.callF (run_callF Try.call56 rfl) (F56 i_R i_C (hS.arg a_hv)) rfl ?_
      rintro r_10 w_11 hx_12 rfl
      have hS := hS.ext hx_12
      refine Wx.gyes rfl rfl (congrArg Value.bool g_8) ?_
      refine Wx.rd (v := .int .i64 ((H.length : Int) - 1)) (rd_sub rfl rfl (in_i64 (by omega) (by omega))) rfl ?_
      refine Wx.gyes rfl rfl (congrArg Value.bool g_8) ?_
      refine Wx.callF (run_callF Try.call61 rfl) (F61 (in_i64 (by omega) (by omega)) i_p (in_i64 (by omega) (by omega))) rfl ?_
      rintro r_13 w_14 hx_15 rfl
      have hS := hS.ext hx_15
      refine Wx.gyes rfl rfl (congrArg Value.bool g_8) ?_
      refine Wx.rd (v := .bool (!(decide (0 ≤ p) && decide (p ≤ ((H.length : Int) - 1))))) (rd_not rfl) rfl ?_
      refine Wx.rd (v := .bool (!(decide (0 ≤ p) && decide (p ≤ ((H.length : Int) - 1))))) (rd_pickT (congrArg Value.bool g_8) rfl) rfl ?_
      refine Wx.nil ⟨(), hS, ⟨?_, trivial⟩, Out.look rfl Out.refl⟩
      show Value.bool (!(decide (0 ≤ p) && decide (p ≤ ((H.length : Int) - 1)))) = Value.bool (decide ((checkS R C H) = 0) && !(decide (0 ≤ p) && decide (p ≤ ((H.length : Int) - 1))))
      first | rw [g_8, Bool.true_and] | (rw [g_8]; rfl)
    · -- False
      have gp_16 := of_decide_eq_false g_8
      refine Wx.gnoB rfl rfl (congrArg Value.bool g_8) rfl rfl ?_
      refine Wx.gnoB rfl rfl (congrArg Value.bool g_8) rfl rfl ?_
      refine Wx.gnoB rfl rfl (congrArg Value.bool g_8) rfl rfl ?_
      refine Wx.gnoB rfl rfl (congrArg Value.bool g_8) rfl rfl ?_
      refine Wx.gnoB rfl rfl (congrArg Value.bool g_8) rfl rfl ?_
      refine Wx.gnoB rfl rfl (congrArg Value.bool g_8) rfl rfl ?_
      refine Wx.rd (v := .bool false) (rd_pickF (congrArg Value.bool g_8) rfl) rfl ?_
      refine Wx.nil ⟨(), hS, ⟨?_, trivial⟩, Out.look rfl Out.refl⟩
      show Value.bool false = Value.bool (decide ((checkS R C H) = 0) && !(decide (0 ≤ p) && decide (p ≤ ((H.length : Int) - 1))))
      first | rw [g_8, Bool.false_and] | (rw [g_8]; rfl)
  rintro ⟨⟩ u_18 w_17 hS
  refine Wx.nil ?_
  refine W.cutK [5] (fun (e : Int) => [(5, .int .i64 e)]) (fun (e : Int) w' => St w [] w' [.box g_1 24 [.int .i64 R, .int .i64 C, hv]] ∧ e = atE R C H p) ?_ ?_
  · -- up to the cut
    refine W.cond rfl (fun c0 => ?_) (fun c0 => ?_)
    · -- yes
      try simp only [Bool.and_eq_true, Bool.or_eq_true, Bool.not_eq_true', Bool.and_eq_false_iff, Bool.or_eq_false_iff, Bool.not_eq_false', decide_eq_true_eq, decide_eq_false_iff_not, not_or, Bool.false_eq_true, Bool.true_eq_false, false_or, or_false, not_false_eq_true] at c0
      refine W.reg ?_
      refine Wx.rd (v := .int .i64 2) (rd_assign rfl) rfl ?_
      refine Wx.nil ?_
      refine ⟨2, ?_, ?_, Out.look rfl Out.refl⟩
      · exact ⟨hS, (by rw [atE, if_pos ⟨c0.1, place_no (by omega)⟩])⟩
      · exact ⟨rfl, trivial⟩
    · -- no
      try simp only [Bool.and_eq_true, Bool.or_eq_true, Bool.not_eq_true', Bool.and_eq_false_iff, Bool.or_eq_false_iff, Bool.not_eq_false', decide_eq_true_eq, decide_eq_false_iff_not, not_or, Bool.false_eq_true, Bool.true_eq_false, false_or, or_false, not_false_eq_true] at c0
      refine W.skip ?_
      refine ⟨checkS R C H, ?_, ?_, Out.look rfl Out.refl⟩
      · exact ⟨hS, (by rw [atE, if_neg (by rintro ⟨q1, q2⟩; rcases c0 with c | c; exact c q1; rw [place_iff.2 (by omega)] at q2; cases q2)])⟩
      · exact ⟨rfl, trivial⟩
  rintro e u_20 w_19 ⟨hS, he⟩
  refine W.seq ?_
  refine W.reg ?_
  refine Wx.rd (v := .int .i64 e) (rd_move rfl) rfl ?_
  refine Wx.rd (v := .int .i64 e) (rd_assign rfl) rfl ?_
  refine Wx.nil ?_
  have e0_0 : (atE R C H p) = (e : Int) := by exact he.symm
  exact W.ret ⟨.int .i64 e, ResIs.one, hS.bel, (by rw [e0_0])⟩
end Go.Proofs.Ytjhimoeodkaihaa

namespace Go.Proofs.Ytjhimoeodkaihaa
open Go.Wk Go.RowKit Go.Lib
set_option linter.unusedVariables false
set_option linter.unusedSimpArgs false
theorem foLb_24_1 : fldOff Try.prog 24 1 = some 1 := by kernel_rfl
theorem mixedLb_ : Try.prog.follows .mixedOrders = true := by kernel_rfl

set_option maxHeartbeats 2000000 in
theorem F85 {R C a : Int} {H : List Int} {hv : Value} {gn gs l : Nat} {Tl Tx : List Int → List Ob → Prop} {ob : List Ob} {w0 w : World} {O : List (Option Nat)} (p_ok : SOK R C H) (p_a : 0 ≤ a ∧ a < (H.length : Int)) (hE : EachY Try.prog l (nbW C H.length a) Tl Tx w0 O) (hT : Tl [] ob) (hS : St w0 O w (.box gn 3 [.int .i64 a] :: .box gs 24 [.int .i64 R, .int .i64 C, hv] :: Ob.v (tSl (tI .i64)) H hv :: ob)) : Calls Try.prog 85 #[(.func (.yield l) #[] #[]), (.pointer (some ⟨gn, 0, none⟩)), (.pointer (some ⟨gs, 0, none⟩))] w (Bk fun _ w' => ∃ ob', (Tl (nbW C H.length a) ob' ∨ ∃ ls, ls <+: nbW C H.length a ∧ Tx ls ob') ∧ St w0 O w' (.box gn 3 [.int .i64 a] :: .box gs 24 [.int .i64 R, .int .i64 C, hv] :: Ob.v (tSl (tI .i64)) H hv :: ob')) := by
  obtain ⟨⟨r1, r2⟩, ⟨c1_, c2_⟩, hRC, ⟨n1, n36⟩, hCn, hok⟩ := id p_ok
  have a0 := p_a.1
  have a1 := p_a.2
  refine enterB Try.func85 rfl Try.ntmps85 Try.results85 rfl ?_
  refine W.seq ?_
  refine W.seq ?_
  refine W.reg ?_
  refine Wx.rd (v := .int .i64 a) (rd_loadX hS 0 rfl rfl rfl Try.isAgg3) rfl ?_
  refine Wx.rd (v := .pointer (some ⟨gs, 1, none⟩)) (rd_fieldAddr rfl foLb_24_1) rfl ?_
  refine Wx.rd (v := .int .i64 C) (rd_loadX hS 1 rfl rfl rfl Try.isAgg3) rfl ?_
  refine Wx.rd (v := .int .i64 (a - C)) (rd_sub rfl rfl (in_i64 (by omega) (by omega))) rfl ?_
  refine Wx.rd (v := .int .i64 a) (rd_loadX hS 0 rfl rfl rfl Try.isAgg3) rfl ?_
  refine Wx.rd (v := .int .i64 (a - 1)) (rd_sub rfl rfl (in_i64 (by omega) (by omega))) rfl ?_
  refine Wx.rd (v := .int .i64 a) (rd_loadX hS 0 rfl rfl rfl Try.isAgg3) rfl ?_
  refine Wx.rd (v := .int .i64 (a + 1)) (rd_add rfl rfl (in_i64 (by omega) (by omega))) rfl ?_
  refine Wx.rd (v := .int .i64 a) (rd_loadX hS 0 rfl rfl rfl Try.isAgg3) rfl ?_
  refine Wx.rd (v := .pointer (some ⟨gs, 1, none⟩)) (rd_fieldAddr rfl foLb_24_1) rfl ?_
  refine Wx.rd (v := .int .i64 C) (rd_loadX hS 1 rfl rfl rfl Try.isAgg3) rfl ?_
  refine Wx.rd (v := .int .i64 (a + C)) (rd_add rfl rfl (in_i64 (by omega) (by omega))) rfl ?_
  refine Wx.rd (v := .agg #[.int .i64 (a - C), .int .i64 (a - 1), .int .i64 (a + 1), .int .i64 (a + C)]) (rd_build (vs := [(0, .int .i64 (a - C)), (1, .int .i64 (a - 1)), (2, .int .i64 (a + 1)), (3, .int .i64 (a + C))]) rfl (by kernel_rfl)) rfl ?_
  refine Wx.rd (v := .int .i64 0) (rd_move rfl) rfl ?_
  refine Wx.nil ?_
  refine W.block ?_
  refine W.loop [4, 5, 19, 20, 21, 22, 23, 24, 25, 26, 27, 28, 29, 30, 31, 32, 33, 34, 35, 36, 37, 38, 39, 40, 41, 42, 43, 44, 45, 46, 47, 48, 49, 50, 51, 52, 53, 54, 55, 56, 57] (fun x : Int × (List Ob) => match x with | (k, obk) => [(19, .int .i64 k)]) (fun (x : Int × (List Ob)) w' => match x with | (k, obk) => St w0 O w' (.box gn 3 [.int .i64 a] :: .box gs 24 [.int .i64 R, .int .i64 C, hv] :: Ob.v (tSl (tI .i64)) H hv :: obk) ∧ 0 ≤ k ∧ k ≤ 4 ∧ Tl (nbP C H.length a k) obk) (fun x : Int × (List Ob) => match x with | (k, obk) => (4 - k).toNat) (0, ob) ⟨rfl, trivial⟩ ⟨hS, (by first | omega | simp), (by first | omega | simp), (hT)⟩ ?_
  rintro ⟨k, obk⟩ u_2 w_1 ⟨hS, h0, h1, h2⟩
  refine W.seq ?_
  refine W.reg ?_
  refine Wx.rd (v := .bool (decide (k < 4))) (rd_lss rfl rfl) rfl ?_
  refine Wx.nil ?_
  refine W.seq ?_
  refine W.condD rfl (fun c0 => ?_) (fun c0 => ?_)
  · -- yes
    refine W.skip ?_
    refine W.seq ?_
    refine W.block ?_
    refine W.seq ?_
    refine W.reg ?_
    refine Wx.rd (v := .int .i64 k) (rd_move rfl) rfl ?_
    refine Wx.rd (v := .int .i64 (ix 0 [a - C, a - 1, a + 1, a + C] k)) (rd_indexVi (d := (0 : Int)) (f := Value.int .i64) (xs := [a - C, a - 1, a + 1, a + C]) rfl rfl Try.underlying112 Try.sizeOf3 Try.isAgg3 rfl rfl (by omega) (by simp; omega)) rfl ?_
    refine Wx.rd (v := .int .i64 k) (rd_assign rfl) rfl ?_
    refine Wx.rd (v := .int .i64 (ix 0 [a - C, a - 1, a + 1, a + C] k)) (rd_assign rfl) rfl ?_
    refine Wx.nil ?_
    refine W.seq ?_
    refine W.seq ?_
    refine W.reg ?_
    refine Wx.rd (v := .int .i64 (ix 0 [a - C, a - 1, a + 1, a + C] k)) (rd_move rfl) rfl ?_
    refine Wx.rd (v := .bool (decide ((ix 0 [a - C, a - 1, a + 1, a + C] k) < 0))) (rd_lss rfl rfl) rfl ?_
    refine Wx.rd (v := .bool (decide ((ix 0 [a - C, a - 1, a + 1, a + C] k) < 0))) (rd_move rfl) rfl ?_
    refine Wx.cut (X := Unit) 5 [26, 27, 28, 29, 30] (fun _ => [(30, .bool (decide ((ix 0 [a - C, a - 1, a + 1, a + C] k) < 0) || decide ((H.length : Int) ≤ (ix 0 [a - C, a - 1, a + 1, a + C] k))))]) (fun _ w' => St w0 O w' (.box gn 3 [.int .i64 a] :: .box gs 24 [.int .i64 R, .int .i64 C, hv] :: Ob.v (tSl (tI .i64)) H hv :: obk)) ?_ ?_
    · rcases Bool.eq_false_or_eq_true (decide ((ix 0 [a - C, a - 1, a + 1, a + C] k) < 0)) with g_3 | g_3
      · -- True
        have gp_4 := of_decide_eq_true g_3
        refine Wx.gnoB rfl rfl (congrArg Value.bool g_3) rfl rfl ?_
        refine Wx.gnoB rfl rfl (congrArg Value.bool g_3) rfl rfl ?_
        refine Wx.gnoB rfl rfl (congrArg Value.bool g_3) rfl rfl ?_
        refine Wx.gnoB rfl rfl (congrArg Value.bool g_3) rfl rfl ?_
        refine Wx.rd (v := .bool true) (rd_pickT (congrArg Value.bool g_3) rfl) rfl ?_
        refine Wx.nil ⟨(), hS, ⟨?_, trivial⟩, Out.look rfl Out.refl⟩
        show Value.bool true = Value.bool (decide ((ix 0 [a - C, a - 1, a + 1, a + C] k) < 0) || decide ((H.length : Int) ≤ (ix 0 [a - C, a - 1, a + 1, a + C] k)))
        first | rw [g_3, Bool.true_or] | (rw [g_3]; rfl)
      · -- False
        have gp_5 := of_decide_eq_false g_3
        refine Wx.gyes rfl rfl (congrArg Value.bool g_3) ?_
        refine Wx.rd (v := .int .i64 (ix 0 [a - C, a - 1, a + 1, a + C] k)) (rd_move rfl) rfl ?_
        refine Wx.gyes rfl rfl (congrArg Value.bool g_3) ?_
        refine Wx.rd (v := .agg #[.int .i64 R, .int .i64 C, hv]) (rd_loadXs (ds := [.int .i64 R, .int .i64 C, hv]) hS 1 rfl rfl rfl rfl Try.isAgg24 Try.sizeOf24) rfl ?_
        refine Wx.gyes rfl rfl (congrArg Value.bool g_3) ?_
        refine Wx.callF (run_callF Try.call56 rfl) (F56 (in_i64 (by omega) (by omega)) (in_i64 (by omega) (by omega)) (hS.v 2 rfl)) rfl ?_
        rintro r_6 w_7 hx_8 rfl
        have hS := hS.ext hx_8
        refine Wx.gyes rfl rfl (congrArg Value.bool g_3) ?_
        refine Wx.rd (v := .bool (decide ((H.length : Int) ≤ (ix 0 [a - C, a - 1, a + 1, a + C] k)))) (rd_geq rfl rfl) rfl ?_
        refine Wx.rd (v := .bool (decide ((H.length : Int) ≤ (ix 0 [a - C, a - 1, a + 1, a + C] k)))) (rd_pickF (congrArg Value.bool g_3) rfl) rfl ?_
        refine Wx.nil ⟨(), hS, ⟨?_, trivial⟩, Out.look rfl Out.refl⟩
        show Value.bool (decide ((H.length : Int) ≤ (ix 0 [a - C, a - 1, a + 1, a + C] k))) = Value.bool (decide ((ix 0 [a - C, a - 1, a + 1, a + C] k) < 0) || decide ((H.length : Int) ≤ (ix 0 [a - C, a - 1, a + 1, a + C] k)))
        first | rw [g_3, Bool.false_or] | (rw [g_3]; rfl)
    rintro ⟨⟩ u_10 w_9 hS
    refine Wx.rd (v := .bool (decide ((ix 0 [a - C, a - 1, a + 1, a + C] k) < 0) || decide ((H.length : Int) ≤ (ix 0 [a - C, a - 1, a + 1, a + C] k)))) (rd_move rfl) rfl ?_
    refine Wx.cut (X := Unit) 10 [32, 33, 34, 35, 36, 37, 38, 39, 40, 41] (fun _ => [(41, .bool ((decide ((ix 0 [a - C, a - 1, a + 1, a + C] k) < 0) || decide ((H.length : Int) ≤ (ix 0 [a - C, a - 1, a + 1, a + C] k))) || (decide (k = 1) && decide ((a % C) = 0))))]) (fun _ w' => St w0 O w' (.box gn 3 [.int .i64 a] :: .box gs 24 [.int .i64 R, .int .i64 C, hv] :: Ob.v (tSl (tI .i64)) H hv :: obk)) ?_ ?_
    · rcases Bool.eq_false_or_eq_true (decide ((ix 0 [a - C, a - 1, a + 1, a + C] k) < 0) || decide ((H.length : Int) ≤ (ix 0 [a - C, a - 1, a + 1, a + C] k))) with g_11 | g_11
      · -- True
        have gp_12 := g_11
        try simp only [Bool.and_eq_true, Bool.or_eq_true, Bool.not_eq_true', Bool.and_eq_false_iff, Bool.or_eq_false_iff, Bool.not_eq_false', decide_eq_true_eq, decide_eq_false_iff_not, not_or, Bool.false_eq_true, Bool.true_eq_false, false_or, or_false, not_false_eq_true] at gp_12
        refine Wx.gnoB rfl rfl (congrArg Value.bool g_11) rfl rfl ?_
        refine Wx.gnoB rfl rfl (congrArg Value.bool g_11) rfl rfl ?_
        refine Wx.gnoB rfl rfl (congrArg Value.bool g_11) rfl rfl ?_
        refine Wx.gno rfl rfl rfl rfl ?_
        refine Wx.gno rfl rfl rfl rfl ?_
        refine Wx.gno rfl rfl rfl rfl ?_
        refine Wx.gno rfl rfl rfl rfl ?_
        refine Wx.gno rfl rfl rfl rfl ?_
        refine Wx.gnoB rfl rfl (congrArg Value.bool g_11) rfl rfl ?_
        refine Wx.rd (v := .bool true) (rd_pickT (congrArg Value.bool g_11) rfl) rfl ?_
        refine Wx.nil ⟨(), hS, ⟨?_, trivial⟩, Out.look rfl Out.refl⟩
        show Value.bool true = Value.bool ((decide ((ix 0 [a - C, a - 1, a + 1, a + C] k) < 0) || decide ((H.length : Int) ≤ (ix 0 [a - C, a - 1, a + 1, a + C] k))) || (decide (k = 1) && decide ((a % C) = 0)))
        first | rw [g_11, Bool.true_or] | (rw [g_11]; rfl)
      · -- False
        have gp_13 := g_11
        try simp only [Bool.and_eq_true, Bool.or_eq_true, Bool.not_eq_true', Bool.and_eq_false_iff, Bool.or_eq_false_iff, Bool.not_eq_false', decide_eq_true_eq, decide_eq_false_iff_not, not_or, Bool.false_eq_true, Bool.true_eq_false, false_or, or_false, not_false_eq_true] at gp_13
        refine Wx.gyes rfl rfl (congrArg Value.bool g_11) ?_
        refine Wx.rd (v := .int .i64 k) (rd_move rfl) rfl ?_
        refine Wx.gyes rfl rfl (congrArg Value.bool g_11) ?_
        refine Wx.rd (v := .bool (decide (k = 1))) (rd_eql rfl rfl) rfl ?_
        refine Wx.gyes rfl rfl (congrArg Value.bool g_11) ?_
        refine Wx.rd (v := .bool (decide (k = 1))) (rd_move rfl) rfl ?_
        refine Wx.cut (X := Unit) 6 [35, 36, 37, 38, 39, 40] (fun _ => [(40, .bool (decide (k = 1) && decide ((a % C) = 0)))]) (fun _ w' => St w0 O w' (.box gn 3 [.int .i64 a] :: .box gs 24 [.int .i64 R, .int .i64 C, hv] :: Ob.v (tSl (tI .i64)) H hv :: obk)) ?_ ?_
        · rcases Bool.eq_false_or_eq_true (decide (k = 1)) with g_14 | g_14
          · -- True
            have gp_15 := of_decide_eq_true g_14
            refine Wx.gyes rfl rfl (congrArg Value.bool g_14) ?_
            refine Wx.rd (v := .int .i64 a) (rd_loadX hS 0 rfl rfl rfl Try.isAgg3) rfl ?_
            refine Wx.gyes rfl rfl (congrArg Value.bool g_14) ?_
            refine Wx.rd (v := .pointer (some ⟨gs, 1, none⟩)) (rd_fieldAddr rfl foLb_24_1) rfl ?_
            refine Wx.gyes rfl rfl (congrArg Value.bool g_14) ?_
            refine Wx.rd (v := .int .i64 C) (rd_loadX hS 1 rfl rfl rfl Try.isAgg3) rfl ?_
            refine Wx.gyes rfl rfl (congrArg Value.bool g_14) ?_
            refine Wx.rd (v := .int .i64 (a % C)) (rd_rem rfl rfl (by omega) (by omega)) rfl ?_
            refine Wx.gyes rfl rfl (congrArg Value.bool g_14) ?_
            refine Wx.rd (v := .bool (decide ((a % C) = 0))) (rd_eql rfl rfl) rfl ?_
            refine Wx.gyes rfl rfl (congrArg Value.bool g_11) ?_
            refine Wx.rd (v := .bool (decide ((a % C) = 0))) (rd_pickT (congrArg Value.bool g_14) rfl) rfl ?_
            refine Wx.nil ⟨(), hS, ⟨?_, trivial⟩, Out.look rfl Out.refl⟩
            show Value.bool (decide ((a % C) = 0)) = Value.bool (decide (k = 1) && decide ((a % C) = 0))
            first | rw [g_14, Bool.true_and] | (rw [g_14]; rfl)
          · -- False
            have gp_16 := of_decide_eq_false g_14
            refine Wx.gnoB rfl rfl (congrArg Value.bool g_14) rfl rfl ?_
            refine Wx.gnoB rfl rfl (congrArg Value.bool g_14) rfl rfl ?_
            refine Wx.gnoB rfl rfl (congrArg Value.bool g_14) rfl rfl ?_
            refine Wx.gnoB rfl rfl (congrArg Value.bool g_14) rfl rfl ?_
            refine Wx.gnoB rfl rfl (congrArg Value.bool g_14) rfl rfl ?_
            refine Wx.gyes rfl rfl (congrArg Value.bool g_11) ?_
            refine Wx.rd (v := .bool false) (rd_pickF (congrArg Value.bool g_14) rfl) rfl ?_
            refine Wx.nil ⟨(), hS, ⟨?_, trivial⟩, Out.look rfl Out.refl⟩
            show Value.bool false = Value.bool (decide (k = 1) && decide ((a % C) = 0))
            first | rw [g_14, Bool.false_and] | (rw [g_14]; rfl)
        rintro ⟨⟩ u_18 w_17 hS
        refine Wx.rd (v := .bool (decide (k = 1) && decide ((a % C) = 0))) (rd_pickF (congrArg Value.bool g_11) rfl) rfl ?_
        refine Wx.nil ⟨(), hS, ⟨?_, trivial⟩, Out.look rfl (Out.hav rfl (Out.look rfl Out.refl))⟩
        show Value.bool (decide (k = 1) && decide ((a % C) = 0)) = Value.bool ((decide ((ix 0 [a - C, a - 1, a + 1, a + C] k) < 0) || decide ((H.length : Int) ≤ (ix 0 [a - C, a - 1, a + 1, a + C] k))) || (decide (k = 1) && decide ((a % C) = 0)))
        first | rw [g_11, Bool.false_or] | (rw [g_11]; rfl)
    rintro ⟨⟩ u_20 w_19 hS
    refine Wx.rd (v := .bool ((decide ((ix 0 [a - C, a - 1, a + 1, a + C] k) < 0) || decide ((H.length : Int) ≤ (ix 0 [a - C, a - 1, a + 1, a + C] k))) || (decide (k = 1) && decide ((a % C) = 0)))) (rd_move rfl) rfl ?_
    refine Wx.cut (X := Unit) 10 [43, 44, 45, 46, 47, 48, 49, 50, 51, 52] (fun _ => [(52, .bool (((decide ((ix 0 [a - C, a - 1, a + 1, a + C] k) < 0) || decide ((H.length : Int) ≤ (ix 0 [a - C, a - 1, a + 1, a + C] k))) || (decide (k = 1) && decide ((a % C) = 0))) || (decide (k = 2) && decide (((ix 0 [a - C, a - 1, a + 1, a + C] k) % C) = 0))))]) (fun _ w' => St w0 O w' (.box gn 3 [.int .i64 a] :: .box gs 24 [.int .i64 R, .int .i64 C, hv] :: Ob.v (tSl (tI .i64)) H hv :: obk)) ?_ ?_
    · rcases Bool.eq_false_or_eq_true ((decide ((ix 0 [a - C, a - 1, a + 1, a + C] k) < 0) || decide ((H.length : Int) ≤ (ix 0 [a - C, a - 1, a + 1, a + C] k))) || (decide (k = 1) && decide ((a % C) = 0))) with g_21 | g_21
      · -- True
        have gp_22 := g_21
        try simp only [Bool.and_eq_true, Bool.or_eq_true, Bool.not_eq_true', Bool.and_eq_false_iff, Bool.or_eq_false_iff, Bool.not_eq_false', decide_eq_true_eq, decide_eq_false_iff_not, not_or, Bool.false_eq_true, Bool.true_eq_false, false_or, or_false, not_false_eq_true] at gp_22
        refine Wx.gnoB rfl rfl (congrArg Value.bool g_21) rfl rfl ?_
        refine Wx.gnoB rfl rfl (congrArg Value.bool g_21) rfl rfl ?_
        refine Wx.gnoB rfl rfl (congrArg Value.bool g_21) rfl rfl ?_
        refine Wx.gno rfl rfl rfl rfl ?_
        refine Wx.gno rfl rfl rfl rfl ?_
        refine Wx.gno rfl rfl rfl rfl ?_
        refine Wx.gno rfl rfl rfl rfl ?_
        refine Wx.gno rfl rfl rfl rfl ?_
        refine Wx.gnoB rfl rfl (congrArg Value.bool g_21) rfl rfl ?_
        refine Wx.rd (v := .bool true) (rd_pickT (congrArg Value.bool g_21) rfl) rfl ?_
        refine Wx.nil ⟨(), hS, ⟨?_, trivial⟩, Out.look rfl Out.refl⟩
        show Value.bool true = Value.bool (((decide ((ix 0 [a - C, a - 1, a + 1, a + C] k) < 0) || decide ((H.length : Int) ≤ (ix 0 [a - C, a - 1, a + 1, a + C] k))) || (decide (k = 1) && decide ((a % C) = 0))) || (decide (k = 2) && decide (((ix 0 [a - C, a - 1, a + 1, a + C] k) % C) = 0)))
        first | rw [g_21, Bool.true_or] | (rw [g_21]; rfl)
      · -- False
        have gp_23 := g_21
        try simp only [Bool.and_eq_true, Bool.or_eq_true, Bool.not_eq_true', Bool.and_eq_false_iff, Bool.or_eq_false_iff, Bool.not_eq_false', decide_eq_true_eq, decide_eq_false_iff_not, not_or, Bool.false_eq_true, Bool.true_eq_false, false_or, or_false, not_false_eq_true] at gp_23
        refine Wx.gyes rfl rfl (congrArg Value.bool g_21) ?_
        refine Wx.rd (v := .int .i64 k) (rd_move rfl) rfl ?_
        refine Wx.gyes rfl rfl (congrArg Value.bool g_21) ?_
        refine Wx.rd (v := .bool (decide (k = 2))) (rd_eql rfl rfl) rfl ?_
        refine Wx.gyes rfl rfl (congrArg Value.bool g_21) ?_
        refine Wx.rd (v := .bool (decide (k = 2))) (rd_move rfl) rfl ?_
        refine Wx.cut (X := Unit) 6 [46, 47, 48, 49, 50, 51] (fun _ => [(51, .bool (decide (k = 2) && decide (((ix 0 [a - C, a - 1, a + 1, a + C] k) % C) = 0)))]) (fun _ w' => St w0 O w' (.box gn 3 [.int .i64 a] :: .box gs 24 [.int .i64 R, .int .i64 C, hv] :: Ob.v (tSl (tI .i64)) H hv :: obk)) ?_ ?_
        · rcases Bool.eq_false_or_eq_true (decide (k = 2)) with g_24 | g_24
          · -- True
            have gp_25 := of_decide_eq_true g_24
            refine Wx.gyes rfl rfl (congrArg Value.bool g_24) ?_
            refine Wx.rd (v := .int .i64 (ix 0 [a - C, a - 1, a + 1, a + C] k)) (rd_move rfl) rfl ?_
            refine Wx.gyes rfl rfl (congrArg Value.bool g_24) ?_
            refine Wx.rd (v := .pointer (some ⟨gs, 1, none⟩)) (rd_fieldAddr rfl foLb_24_1) rfl ?_
            refine Wx.gyes rfl rfl (congrArg Value.bool g_24) ?_
            refine Wx.rd (v := .int .i64 C) (rd_loadX hS 1 rfl rfl rfl Try.isAgg3) rfl ?_
            refine Wx.gyes rfl rfl (congrArg Value.bool g_24) ?_
            refine Wx.rd (v := .int .i64 ((ix 0 [a - C, a - 1, a + 1, a + C] k) % C)) (rd_rem rfl rfl (by omega) (by omega)) rfl ?_
            refine Wx.gyes rfl rfl (congrArg Value.bool g_24) ?_
            refine Wx.rd (v := .bool (decide (((ix 0 [a - C, a - 1, a + 1, a + C] k) % C) = 0))) (rd_eql rfl rfl) rfl ?_
            refine Wx.gyes rfl rfl (congrArg Value.bool g_21) ?_
            refine Wx.rd (v := .bool (decide (((ix 0 [a - C, a - 1, a + 1, a + C] k) % C) = 0))) (rd_pickT (congrArg Value.bool g_24) rfl) rfl ?_
            refine Wx.nil ⟨(), hS, ⟨?_, trivial⟩, Out.look rfl Out.refl⟩
            show Value.bool (decide (((ix 0 [a - C, a - 1, a + 1, a + C] k) % C) = 0)) = Value.bool (decide (k = 2) && decide (((ix 0 [a - C, a - 1, a + 1, a + C] k) % C) = 0))
            first | rw [g_24, Bool.true_and] | (rw [g_24]; rfl)
          · -- False
            have gp_26 := of_decide_eq_false g_24
            refine Wx.gnoB rfl rfl (congrArg Value.bool g_24) rfl rfl ?_
            refine Wx.gnoB rfl rfl (congrArg Value.bool g_24) rfl rfl ?_
            refine Wx.gnoB rfl rfl (congrArg Value.bool g_24) rfl rfl ?_
            refine Wx.gnoB rfl rfl (congrArg Value.bool g_24) rfl rfl ?_
            refine Wx.gnoB rfl rfl (congrArg Value.bool g_24) rfl rfl ?_
            refine Wx.gyes rfl rfl (congrArg Value.bool g_21) ?_
            refine Wx.rd (v := .bool false) (rd_pickF (congrArg Value.bool g_24) rfl) rfl ?_
            refine Wx.nil ⟨(), hS, ⟨?_, trivial⟩, Out.look rfl Out.refl⟩
            show Value.bool false = Value.bool (decide (k = 2) && decide (((ix 0 [a - C, a - 1, a + 1, a + C] k) % C) = 0))
            first | rw [g_24, Bool.false_and] | (rw [g_24]; rfl)
        rintro ⟨⟩ u_28 w_27 hS
        refine Wx.rd (v := .bool (decide (k = 2) && decide (((ix 0 [a - C, a - 1, a + 1, a + C] k) % C) = 0))) (rd_pickF (congrArg Value.bool g_21) rfl) rfl ?_
        refine Wx.nil ⟨(), hS, ⟨?_, trivial⟩, Out.look rfl (Out.hav rfl (Out.look rfl Out.refl))⟩
        show Value.bool (decide (k = 2) && decide (((ix 0 [a - C, a - 1, a + 1, a + C] k) % C) = 0)) = Value.bool (((decide ((ix 0 [a - C, a - 1, a + 1, a + C] k) < 0) || decide ((H.length : Int) ≤ (ix 0 [a - C, a - 1, a + 1, a + C] k))) || (decide (k = 1) && decide ((a % C) = 0))) || (decide (k = 2) && decide (((ix 0 [a - C, a - 1, a + 1, a + C] k) % C) = 0)))
        first | rw [g_21, Bool.false_or] | (rw [g_21]; rfl)
    rintro ⟨⟩ u_30 w_29 hS
    refine Wx.nil ?_
    refine W.cond rfl (fun c1 => ?_) (fun c1 => ?_)
    · -- yes
      try simp only [Bool.and_eq_true, Bool.or_eq_true, Bool.not_eq_true', Bool.and_eq_false_iff, Bool.or_eq_false_iff, Bool.not_eq_false', decide_eq_true_eq, decide_eq_false_iff_not, not_or, Bool.false_eq_true, Bool.true_eq_false, false_or, or_false, not_false_eq_true] at c1
      refine W.exit rfl ?_
      refine W.reg ?_
      refine Wx.rd (v := .int .i64 (k + 1)) (rd_add rfl rfl (in_i64 (by omega) (by omega))) rfl ?_
      refine Wx.rd (v := .int .i64 (k + 1)) (rd_move rfl) rfl ?_
      refine Wx.nil ?_
      refine ⟨(k + 1, obk), (by show (4 - (k + 1)).toNat < (4 - k).toNat; omega), ?_, ?_, Out.look rfl (Out.hav rfl (Out.look rfl (Out.hav rfl (Out.look rfl (Out.hav rfl (Out.look rfl Out.self))))))⟩
      · exact ⟨hS, (by first | omega | assumption), (by first | omega | assumption), (by rw [nb_skip h0 (outB_iff.2 (by omega))]; exact h2)⟩
      · exact ⟨rfl, trivial⟩
    · -- no
      try simp only [Bool.and_eq_true, Bool.or_eq_true, Bool.not_eq_true', Bool.and_eq_false_iff, Bool.or_eq_false_iff, Bool.not_eq_false', decide_eq_true_eq, decide_eq_false_iff_not, not_or, Bool.false_eq_true, Bool.true_eq_false, false_or, or_false, not_false_eq_true] at c1
      have hout : outB C H.length a k = false := outB_no (by omega)
      have hpy := nb_pre c1_ h0 c0 hout
      refine W.skip ?_
      refine W.seq ?_
      refine W.regYi 2 rfl rfl ?_
      refine Wx.rd (v := (.func (.yield l) #[] #[])) (rd_move rfl) rfl ?_
      refine Wx.rd (v := .int .i64 (ix 0 [a - C, a - 1, a + 1, a + C] k)) (rd_move rfl) rfl ?_
      refine Wx.nil ⟨_, _, rfl, rfl, ?_⟩
      refine YieldR.mono (hE _ _ [.box gn 3 [.int .i64 a], .box gs 24 [.int .i64 R, .int .i64 C, hv], Ob.v (tSl (tI .i64)) H hv] obk _ hpy h2 (St.swap (a := [.box gn 3 [.int .i64 a], .box gs 24 [.int .i64 R, .int .i64 C, hv], Ob.v (tSl (tI .i64)) H hv]) (b := obk) hS)) ?_
      rintro bqy w_31 ⟨oby, hyy, hxy, hS⟩
      have hS : St w0 O w_31 (.box gn 3 [.int .i64 a] :: .box gs 24 [.int .i64 R, .int .i64 C, hv] :: Ob.v (tSl (tI .i64)) H hv :: oby) := St.swap (a := oby) (b := [.box gn 3 [.int .i64 a], .box gs 24 [.int .i64 R, .int .i64 C, hv], Ob.v (tSl (tI .i64)) H hv]) hS
      refine Wx.rd (v := .bool (!bqy)) (rd_not rfl) rfl ?_
      refine Wx.nil ?_
      refine W.cond rfl (fun c2 => ?_) (fun c2 => ?_)
      · -- yes
        try simp only [Bool.and_eq_true, Bool.or_eq_true, Bool.not_eq_true', Bool.and_eq_false_iff, Bool.or_eq_false_iff, Bool.not_eq_false', decide_eq_true_eq, decide_eq_false_iff_not, not_or, Bool.false_eq_true, Bool.true_eq_false, false_or, or_false, not_false_eq_true] at c2
        exact W.ret ⟨.tuple #[], ResIs.zero, _, .inr ⟨_, hpy, hxy (by cases hq : bqy with | false => rfl | true => rw [hq] at c2; cases c2)⟩, hS⟩
      · -- no
        try simp only [Bool.and_eq_true, Bool.or_eq_true, Bool.not_eq_true', Bool.and_eq_false_iff, Bool.or_eq_false_iff, Bool.not_eq_false', decide_eq_true_eq, decide_eq_false_iff_not, not_or, Bool.false_eq_true, Bool.true_eq_false, false_or, or_false, not_false_eq_true] at c2
        refine W.skip ?_
        refine W.reg ?_
        refine Wx.rd (v := .int .i64 (k + 1)) (rd_add rfl rfl (in_i64 (by omega) (by omega))) rfl ?_
        refine Wx.rd (v := .int .i64 (k + 1)) (rd_move rfl) rfl ?_
        refine Wx.nil ?_
        refine ⟨(k + 1, oby), (by show (4 - (k + 1)).toNat < (4 - k).toNat; omega), ?_, ?_, Out.look rfl (Out.look rfl (Out.hav rfl (Out.look rfl (Out.hav rfl (Out.look rfl (Out.hav rfl (Out.look rfl Out.self)))))))⟩
        · exact ⟨hS, (by first | omega | assumption), (by first | omega | assumption), (by rw [nb_take h0 hout]; exact hyy (by cases hq : bqy with | true => rfl | false => rw [hq] at c2; cases c2))⟩
        · exact ⟨rfl, trivial⟩
  · -- no
    refine W.exit rfl ?_
    refine W.seq ?_
    refine W.regQ mixedLb_ (by kernel_rfl) ?_
    refine Wx.rd (v := .int .i64 a) (rd_loadX hS 0 rfl rfl rfl Try.isAgg3) rfl ?_
    refine Wx.rd (v := .agg #[.int .i64 R, .int .i64 C, hv]) (rd_loadXs (ds := [.int .i64 R, .int .i64 C, hv]) hS 1 rfl rfl rfl rfl Try.isAgg24 Try.sizeOf24) rfl ?_
    refine Wx.callV (v := .int .i64 (H.length : Int)) (run_callF Try.call56 rfl) (fun w_32 hw_33 => (F56 (in_i64 (by omega) (by omega)) (in_i64 (by omega) (by omega)) ((hS.v 2 rfl).ext hw_33))) rfl ?_
    refine Wx.rd (v := .pointer (some ⟨gs, 1, none⟩)) (rd_fieldAddr rfl foLb_24_1) rfl ?_
    refine Wx.rd (v := .int .i64 C) (rd_loadX hS 1 rfl rfl rfl Try.isAgg3) rfl ?_
    refine Wx.rd (v := .int .i64 ((H.length : Int) - C)) (rd_sub rfl rfl (in_i64 (by omega) (by omega))) rfl ?_
    refine Wx.rd (v := .bool (decide (((H.length : Int) - C) ≤ a))) (rd_geq rfl rfl) rfl ?_
    refine Wx.nilQ (fun w_34 hx_35 => ?_)
    have hS := hS.ext hx_35
    refine W.condD rfl (fun c3 => ?_) (fun c3 => ?_)
    · -- yes
      have hpz : (nbP C H.length a k ++ [(H.length : Int)]) <+: nbW C H.length a := by rw [nb_river c1_ (by omega), show k = 4 by omega]; exact List.prefix_refl _
      refine W.regYi 3 rfl rfl ?_
      refine Wx.rd (v := (.func (.yield l) #[] #[])) (rd_move rfl) rfl ?_
      refine Wx.rd (v := .agg #[.int .i64 R, .int .i64 C, hv]) (rd_loadXs (ds := [.int .i64 R, .int .i64 C, hv]) hS 1 rfl rfl rfl rfl Try.isAgg24 Try.sizeOf24) rfl ?_
      refine Wx.callF (run_callF Try.call56 rfl) (F56 (in_i64 (by omega) (by omega)) (in_i64 (by omega) (by omega)) (hS.v 2 rfl)) rfl ?_
      rintro r_36 w_37 hx_38 rfl
      have hS := hS.ext hx_38
      refine Wx.nil ⟨_, _, rfl, rfl, ?_⟩
      refine YieldR.mono (hE _ _ [.box gn 3 [.int .i64 a], .box gs 24 [.int .i64 R, .int .i64 C, hv], Ob.v (tSl (tI .i64)) H hv] obk _ hpz h2 (St.swap (a := [.box gn 3 [.int .i64 a], .box gs 24 [.int .i64 R, .int .i64 C, hv], Ob.v (tSl (tI .i64)) H hv]) (b := obk) hS)) ?_
      rintro bqz w_39 ⟨obz, hyz, hxz, hS⟩
      have hS : St w0 O w_39 (.box gn 3 [.int .i64 a] :: .box gs 24 [.int .i64 R, .int .i64 C, hv] :: Ob.v (tSl (tI .i64)) H hv :: obz) := St.swap (a := obz) (b := [.box gn 3 [.int .i64 a], .box gs 24 [.int .i64 R, .int .i64 C, hv], Ob.v (tSl (tI .i64)) H hv]) hS
      refine Wx.nil ?_
      exact ⟨.tuple #[], ResIs.zero, _, (by cases hq : bqz with | true => exact .inl (by rw [nb_river c1_ (by omega), ← show k = 4 by omega]; exact hyz hq) | false => exact .inr ⟨_, hpz, hxz hq⟩), hS⟩
    · -- no
      refine W.skip ?_
      exact ⟨.tuple #[], ResIs.zero, _, .inl (by rw [nb_dry c1_ (by omega), ← show k = 4 by omega]; exact h2), hS⟩

theorem iter85 {R C a : Int} {H : List Int} {hv : Value} {gn gs : Nat} {w0 : World} {O : List (Option Nat)} (p_ok : SOK R C H) (p_a : 0 ≤ a ∧ a < (H.length : Int)) : Iter Try.prog 85 [(.pointer (some ⟨gn, 0, none⟩)), (.pointer (some ⟨gs, 0, none⟩))] [.box gn 3 [.int .i64 a], .box gs 24 [.int .i64 R, .int .i64 C, hv], Ob.v (tSl (tI .i64)) H hv] (nbW C H.length a) w0 O :=
  fun l Tl Tx ob w hE hT hS => F85 p_ok p_a hE hT hS


theorem F73 {R C a : Int} {H : List Int} {hv : Value} {ob : List Ob} {w0 w : World} {O : List (Option Nat)} (hS : St w0 O w ob) (h_hv : V (tSl tInt) H hv (fb ob O) w) : Calls Try.prog 73 #[.agg #[.int .i64 R, .int .i64 C, hv], .int .i64 a] w (Bk fun r w' => ∃ gn gs, r = .func (.func 85) #[] #[(.pointer (some ⟨gn, 0, none⟩)), (.pointer (some ⟨gs, 0, none⟩))] ∧ St w0 O w' (.box gn 3 [.int .i64 a] :: .box gs 24 [.int .i64 R, .int .i64 C, hv] :: ob)) := by
  refine enterB Try.func73 rfl Try.ntmps73 Try.results73 rfl ?_
  refine W.seq ?_
  refine W.reg ?_
  refine Wx.box (cs := [.int .i64 R, .int .i64 C, hv]) hS rfl rfl rfl (fun g_1 w_2 hx_4 hb_3 hS => ?_)
  refine Wx.box (cs := [.int .i64 a]) hS rfl rfl rfl (fun g_5 w_6 hx_8 hb_7 hS => ?_)
  refine Wx.rd (v := .nilFunc) (rd_assign rfl) rfl ?_
  refine Wx.nil ?_
  refine W.seq ?_
  refine W.reg ?_
  refine Wx.rd (v := .func (.func 85) #[] #[.pointer (some ⟨g_5, 0, none⟩), .pointer (some ⟨g_1, 0, none⟩)]) (rd_makeFunc (vs := []) (us := [.pointer (some ⟨g_5, 0, none⟩), .pointer (some ⟨g_1, 0, none⟩)]) rfl rfl) rfl ?_
  refine Wx.rd (v := .func (.func 85) #[] #[.pointer (some ⟨g_5, 0, none⟩), .pointer (some ⟨g_1, 0, none⟩)]) (rd_assign rfl) rfl ?_
  refine Wx.nil ?_
  exact W.ret ⟨.func (.func 85) #[] #[.pointer (some ⟨g_5, 0, none⟩), .pointer (some ⟨g_1, 0, none⟩)], ResIs.one, _, _, rfl, hS⟩
end Go.Proofs.Ytjhimoeodkaihaa

namespace Go.Proofs.Ytjhimoeodkaihaa
open Go.Wk Go.RowKit Go.Lib
set_option linter.unusedVariables false
set_option linter.unusedSimpArgs false
theorem elLc_110 : ElemI Try.prog 110 4 (.bool false) 1 1 := ElemI.of Try.underlying110 (by kernel_rfl) (by first | rfl | kernel_rfl) (by decide)
theorem mixedLc_ : Try.prog.follows .mixedOrders = true := by kernel_rfl
theorem foLc_24_1 : fldOff Try.prog 24 1 = some 1 := by kernel_rfl
theorem foLc_24_2 : fldOff Try.prog 24 2 = some 2 := by kernel_rfl

set_option maxHeartbeats 4000000 in
theorem F55z {R : Int} {C : Int} {hv : Value} {H : List Int} {O : List (Option Nat)} {w : World} (i_R : InK .i64 R) (i_C : InK .i64 C) (h_hv : V (tSl (tI .i64)) H hv O w) (p_ok : SOK R C H) (hO : ∀ b, some b ∈ O → b < w.heap.size) : Calls Try.prog 55 #[.agg #[.int .i64 R, .int .i64 C, hv]] w (Ret w (fun r _ => ∃ ys : List Int, ((ys.length = 37 ∧ ∀ x, 0 ≤ x → x < (H.length : Int) → ix 0 ys x = sillV C H x) ∧ ZT H.length ys) ∧ r = .agg (List.map (Value.int .i64) ys).toArray)) := by
  have b_C := bd_i64 i_C
  have b_R := bd_i64 i_R
  obtain ⟨⟨r1, r2⟩, ⟨c1_, c2_⟩, hRC, ⟨n1, n36⟩, hCn, hok⟩ := id p_ok
  have a_hv := h_hv
  have l_hv := h_hv.len63
  have hS := St.start w O hO
  have hS : St w O w (DOb []) := hS
  refine enterMR (O := O) Try.func55 rfl Try.ntmps55 Try.results55 rfl ?_
  refine WD.seq ?_
  refine WD.ofW ?_
  refine W.reg ?_
  refine Wx.box (cs := [.int .i64 R, .int .i64 C, hv]) hS rfl rfl rfl (fun g_1 w_2 hx_4 hb_3 hS => ?_)
  refine Wx.alloc (cs := List.map (Value.int .i64) (List.replicate 37 (0 : Int))) hS Try.zeroValue83 (by kernel_rfl) rfl (fun g_5 w_6 hx_8 hb_7 hS => ?_)
  have hS : St _ _ w_6 (.box g_5 83 (List.map (Value.int .i64) (List.replicate 37 (0 : Int))) :: .box g_1 24 [.int .i64 R, .int .i64 C, hv] :: DOb []) := hS
  refine Wx.nil ?_
  refine WD.seq ?_
  refine WD.ofW ?_
  refine W.reg ?_
  refine Wx.alloc (cs := List.map (Value.int .i64) (List.replicate 37 (0 : Int))) hS Try.zeroValue83 (by kernel_rfl) rfl (fun g_9 w_10 hx_12 hb_11 hS => ?_)
  have hS : St _ _ w_10 (.box g_9 83 (List.map (Value.int .i64) (List.replicate 37 (0 : Int))) :: .box g_5 83 (List.map (Value.int .i64) (List.replicate 37 (0 : Int))) :: .box g_1 24 [.int .i64 R, .int .i64 C, hv] :: DOb []) := hS
  refine Wx.nil ?_
  refine WD.seq ?_
  refine WD.ofW ?_
  refine W.reg ?_
  refine Wx.rd (v := .agg #[.int .i64 R, .int .i64 C, hv]) (rd_loadXs (ds := [.int .i64 R, .int .i64 C, hv]) hS 2 rfl rfl rfl rfl Try.isAgg24 Try.sizeOf24) rfl ?_
  refine Wx.callF (run_callF Try.call56 rfl) (F56 i_R i_C (hS.arg a_hv)) rfl ?_
  rintro r_13 w_14 hx_15 rfl
  have hS := hS.ext hx_15
  refine Wx.make (t := tBool) (zy := false) (m := H.length) elLc_110 rfl rfl (fun _ _ => rfl) hS (congrArg (Value.int .i64) rfl) (congrArg (Value.int .i64) rfl) (by omega) (by simp only [maxLen]; omega) rfl (fun v_16 w_17 hx_18 hS => ?_)
  refine Wx.rd (v := v_16) (rd_assign rfl) rfl ?_
  refine Wx.nil ?_
  refine WD.seq ?_
  refine WD.ofW ?_
  refine W.seq ?_
  refine W.reg ?_
  refine Wx.rd (v := v_16) (rd_move rfl) rfl ?_
  refine Wx.rd (v := .int .i64 (H.length : Int)) (Rd.to (v := .int .i64 ((List.replicate H.length false).length : Int)) (rd_lenR hS 0 rfl rfl Try.underlying110) (congrArg (Value.int .i64) (show ((H.length : Int) : Int) = (((List.replicate H.length false).length : Int) : Int) from (by simp)).symm)) rfl ?_
  refine Wx.rd (v := .int .i64 0) (rd_move rfl) rfl ?_
  refine Wx.nil ?_
  refine W.block ?_
  refine W.loop [5, 15, 16, 17, 18, 19, 20, 21, 22, 23, 24, 25, 26, 27, 28, 29, 30, 31, 32, 33, 34] (fun x : Int × (List Bool) × (List Int) => match x with | (k, dn0, y1) => [(15, .int .i64 k)]) (fun (x : Int × (List Bool) × (List Int)) w' => match x with | (k, dn0, y1) => St w O w' (.row tBool 4 v_16 dn0 :: .box g_9 83 (List.map (Value.int .i64) y1) :: .box g_5 83 (List.map (Value.int .i64) (List.replicate 37 (0 : Int))) :: .box g_1 24 [.int .i64 R, .int .i64 C, hv] :: DOb []) ∧ 0 ≤ k ∧ k ≤ H.length ∧ IniI C H k y1 ∧ y1.length = 37 ∧ (dn0.length : Int) = H.length ∧ (∀ x, DB dn0 x = false) ∧ ZT H.length y1) (fun x : Int × (List Bool) × (List Int) => match x with | (k, dn0, y1) => (H.length - k).toNat) (0, List.replicate H.length false, (List.replicate 37 (0 : Int))) ⟨rfl, trivial⟩ ⟨hS, (by first | omega | simp), (by omega), (fun x x0 x1 => by omega), (by simp), (by simp), (fun x => db_zero), (zt_zero)⟩ ?_
  rintro ⟨k, dn0, y1⟩ u_22 w_21 ⟨hS, h0, h1, h2, h3, h4, h5, h6⟩
  refine W.seq ?_
  refine W.reg ?_
  refine Wx.rd (v := .bool (decide (k < (H.length : Int)))) (rd_lss rfl rfl) rfl ?_
  refine Wx.nil ?_
  refine W.seq ?_
  refine W.condD rfl (fun c0 => ?_) (fun c0 => ?_)
  · -- yes
    refine W.skip ?_
    refine W.seq ?_
    refine W.block ?_
    refine W.seq ?_
    refine W.reg ?_
    refine Wx.rd (v := .int .i64 k) (rd_move rfl) rfl ?_
    refine Wx.rd (v := .int .i64 k) (rd_assign rfl) rfl ?_
    refine Wx.nil ?_
    refine W.seq ?_
    refine W.reg ?_
    refine Wx.rd (v := .int .i64 k) (rd_move rfl) rfl ?_
    refine Wx.rd (v := .pointer (some ⟨g_9, 0 + k.toNat * 1, none⟩)) (rd_indexArr rfl rfl Try.underlying83 Try.sizeOf3 (by omega) (by omega)) rfl ?_
    refine Wx.storeXa (j := k) (f := (Value.int .i64)) (u := 31) hS 1 rfl rfl (by omega) rfl rfl rfl Try.sizeOf3 (by omega) (by omega) (fun w_23 hz_24 hS => ?_)
    refine Wx.nil ?_
    refine W.seq ?_
    refine W.regQ mixedLc_ (by kernel_rfl) ?_
    refine Wx.rd (v := .int .i64 k) (rd_move rfl) rfl ?_
    refine Wx.rd (v := .agg #[.int .i64 R, .int .i64 C, hv]) (rd_loadXs (ds := [.int .i64 R, .int .i64 C, hv]) hS 3 rfl rfl rfl rfl Try.isAgg24 Try.sizeOf24) rfl ?_
    refine Wx.callV (v := .int .i64 (H.length : Int)) (run_callF Try.call56 rfl) (fun w_25 hw_26 => (F56 i_R i_C ((hS.arg a_hv).ext hw_26))) rfl ?_
    refine Wx.rd (v := .pointer (some ⟨g_1, 1, none⟩)) (rd_fieldAddr rfl foLc_24_1) rfl ?_
    refine Wx.rd (v := .int .i64 C) (rd_loadX hS 3 rfl rfl rfl Try.isAgg3) rfl ?_
    refine Wx.rd (v := .int .i64 ((H.length : Int) - C)) (rd_sub rfl rfl (in_i64 (by omega) (by omega))) rfl ?_
    refine Wx.rd (v := .bool (decide (((H.length : Int) - C) ≤ k))) (rd_geq rfl rfl) rfl ?_
    refine Wx.nilQ (fun w_27 hx_28 => ?_)
    have hS := hS.ext hx_28
    refine W.condD rfl (fun c1 => ?_) (fun c1 => ?_)
    · -- yes
      refine W.reg ?_
      refine Wx.rd (v := .int .i64 k) (rd_move rfl) rfl ?_
      refine Wx.rd (v := .pointer (some ⟨g_1, 2, none⟩)) (rd_fieldAddr rfl foLc_24_2) rfl ?_
      refine Wx.rd (v := hv) (rd_loadX hS 3 rfl rfl rfl Try.isAgg22) rfl ?_
      refine Wx.rd (v := .int .i64 k) (rd_move rfl) rfl ?_
      refine Wx.ex (rd_index 0 (hS.arg a_hv) rfl rfl Try.underlying22 Try.sizeOf3 (by first | omega | (simp only [List.length_set, List.length_append, List.length_cons, List.length_nil, List.length_replicate]; omega)) (by first | omega | (simp only [List.length_set, List.length_append, List.length_cons, List.length_nil, List.length_replicate]; omega))) rfl (fun p_29 hp_30 => ?_)
      refine Wx.rd (v := .int .i64 (ix 0 H k)) (rd_loadI hp_30 rfl Try.isAgg3 Try.sizeOf3) rfl ?_
      have bd_31 := bd_i64 hp_30.inK
      refine Wx.rd (v := .pointer (some ⟨g_9, 0 + k.toNat * 1, none⟩)) (rd_indexArr rfl rfl Try.underlying83 Try.sizeOf3 (by omega) (by omega)) rfl ?_
      refine Wx.storeXa (j := k) (f := (Value.int .i64)) (u := (ix 0 H k)) hS 1 rfl rfl (by omega) rfl rfl rfl Try.sizeOf3 (by omega) (by simp only [List.length_set]; omega) (fun w_32 hz_33 hS => ?_)
      refine Wx.nil ?_
      refine W.reg ?_
      refine Wx.rd (v := .int .i64 (k + 1)) (rd_add rfl rfl (in_i64 (by omega) (by omega))) rfl ?_
      refine Wx.rd (v := .int .i64 (k + 1)) (rd_move rfl) rfl ?_
      refine Wx.nil ?_
      refine ⟨(k + 1, dn0, List.set (List.set y1 k.toNat 31) k.toNat (ix 0 H k)), (by show (H.length - (k + 1)).toNat < (H.length - k).toNat; omega), ?_, ?_, Out.look rfl Out.self⟩
      · exact ⟨hS, (by first | omega | assumption), (by first | omega | assumption), (ini_step2 h2 h0 (by omega) (by rw [iniV, if_pos (show lastB C H k = true from decide_eq_true (by omega))])), (by simp only [List.length_set]; exact h3), (by first | omega | assumption), (by first | omega | assumption), (zt_set (zt_set h6 h0 (by omega)) h0 (by omega))⟩
      · exact ⟨rfl, trivial⟩
    · -- no
      refine W.skip ?_
      refine W.reg ?_
      refine Wx.rd (v := .int .i64 (k + 1)) (rd_add rfl rfl (in_i64 (by omega) (by omega))) rfl ?_
      refine Wx.rd (v := .int .i64 (k + 1)) (rd_move rfl) rfl ?_
      refine Wx.nil ?_
      refine ⟨(k + 1, dn0, List.set y1 k.toNat 31), (by show (H.length - (k + 1)).toNat < (H.length - k).toNat; omega), ?_, ?_, Out.look rfl Out.self⟩
      · exact ⟨hS, (by first | omega | assumption), (by first | omega | assumption), (ini_step h2 h0 (by omega) (by rw [iniV, if_neg (show ¬ lastB C H k = true from fun q => by have := of_decide_eq_true q; omega)])), (by simp only [List.length_set]; exact h3), (by first | omega | assumption), (by first | omega | assumption), (zt_set h6 h0 (by omega))⟩
      · exact ⟨rfl, trivial⟩
  · -- no
    refine W.exit rfl ?_
    refine WD.seq ?_
    refine WD.seq ?_
    refine WD.ofW ?_
    refine W.reg ?_
    refine Wx.rd (v := v_16) (rd_move rfl) rfl ?_
    refine Wx.rd (v := .int .i64 (H.length : Int)) (Rd.to (v := .int .i64 (dn0.length : Int)) (rd_lenR hS 0 rfl rfl Try.underlying110) (congrArg (Value.int .i64) (show ((H.length : Int) : Int) = ((dn0.length : Int) : Int) from h4.symm).symm)) rfl ?_
    refine Wx.rd (v := .int .i64 0) (rd_move rfl) rfl ?_
    refine Wx.nil ?_
    refine WD.block ?_
    refine WD.loop [6, 7, 8, 37, 38, 39, 40, 41, 42, 43, 44, 45, 46, 47, 48, 49, 50, 51, 52, 53, 54, 55, 56, 57, 58, 59, 60, 61, 62, 63, 64, 65, 66, 67, 68, 89] (fun x : Int × (List Bool) × (List Int) × (List Nat) => match x with | (i, dn, y2, Ds) => [(37, .int .i64 i)]) (fun (x : Int × (List Bool) × (List Int) × (List Nat)) w' => match x with | (i, dn, y2, Ds) => St w O w' (.row tBool 4 v_16 dn :: .box g_9 83 (List.map (Value.int .i64) y2) :: .box g_5 83 (List.map (Value.int .i64) (List.replicate 37 (0 : Int))) :: .box g_1 24 [.int .i64 R, .int .i64 C, hv] :: DOb Ds) ∧ 0 ≤ i ∧ i ≤ H.length ∧ DjI C H (DB dn) (ix 0 y2) ∧ y2.length = 37 ∧ (dn.length : Int) = H.length ∧ (cntD H dn : Int) = i ∧ ZT H.length y2) (fun x : Int × (List Bool) × (List Int) × (List Nat) => match x with | (i, dn, y2, Ds) => (H.length - i).toNat) (fun x : Int × (List Bool) × (List Int) × (List Nat) => match x with | (i, dn, y2, Ds) => Ds) (0, dn0, y1, []) ⟨rfl, trivial⟩ rfl ⟨hS, (by first | omega | simp), (by omega), (dj_ini hok (by rw [show (H.length : Int) = k by omega]; exact h2) h5), (h3), (h4), (by rw [cnt_zero h5]; rfl), (h6)⟩ ?_
    rintro ⟨i, dn, y2, Ds⟩ u_35 w_34 ⟨hS, i0, i1, i2, i3, i4, i5, i6⟩
    refine WD.seq ?_
    refine WD.ofW ?_
    refine W.reg ?_
    refine Wx.rd (v := .bool (decide (i < (H.length : Int)))) (rd_lss rfl rfl) rfl ?_
    refine Wx.nil ?_
    refine WD.seq ?_
    refine WD.ofW ?_
    refine W.condD rfl (fun c2 => ?_) (fun c2 => ?_)
    · -- yes
      refine W.skip ?_
      refine WD.seq ?_
      refine WD.block ?_
      refine WD.seq ?_
      refine WD.ofW ?_
      refine W.reg ?_
      refine Wx.alloc (cs := [.int .i64 0]) hS Try.zeroValue3 rfl rfl (fun g_36 w_37 hx_39 hb_38 hS => ?_)
      refine Wx.storeX (cs' := [.int .i64 (-1)]) (ds := [.int .i64 (-1)]) hS 0 rfl rfl rfl rfl Try.sizeOf3 (Nat.le_of_ble_eq_true rfl) (one_cons rfl one_nil) rfl (fun w_40 hz_41 hS => ?_)
      refine Wx.nil ?_
      refine WD.seq ?_
      refine WD.ofW ?_
      refine W.seq ?_
      refine W.reg ?_
      refine Wx.rd (v := v_16) (rd_move rfl) rfl ?_
      refine Wx.rd (v := .int .i64 (H.length : Int)) (Rd.to (v := .int .i64 (dn.length : Int)) (rd_lenR hS 1 rfl rfl Try.underlying110) (congrArg (Value.int .i64) (show ((H.length : Int) : Int) = ((dn.length : Int) : Int) from i4.symm).symm)) rfl ?_
      refine Wx.rd (v := .int .i64 0) (rd_move rfl) rfl ?_
      refine Wx.nil ?_
      refine W.block ?_
      refine W.loop [7, 8, 41, 42, 43, 44, 45, 46, 47, 48, 49, 50, 51, 52, 53, 54, 55, 56, 57, 58, 59, 60, 61, 62] (fun x : Int × Int => match x with | (k, nx) => [(41, .int .i64 k)]) (fun (x : Int × Int) w' => match x with | (k, nx) => St w O w' (.box g_36 3 [.int .i64 nx] :: .row tBool 4 v_16 dn :: .box g_9 83 (List.map (Value.int .i64) y2) :: .box g_5 83 (List.map (Value.int .i64) (List.replicate 37 (0 : Int))) :: .box g_1 24 [.int .i64 R, .int .i64 C, hv] :: DOb Ds) ∧ 0 ≤ k ∧ k ≤ H.length ∧ NxI dn y2 k nx ∧ nx < 37 ∧ -1 ≤ nx) (fun x : Int × Int => match x with | (k, nx) => (H.length - k).toNat) (0, -1) ⟨rfl, trivial⟩ ⟨hS, (by first | omega | simp), (by omega), (nx_start), (by first | omega | simp), (by first | omega | simp)⟩ ?_
      rintro ⟨k, nx⟩ u_43 w_42 ⟨hS, k0, k1, k2, k3, k4⟩
      refine W.seq ?_
      refine W.reg ?_
      refine Wx.rd (v := .bool (decide (k < (H.length : Int)))) (rd_lss rfl rfl) rfl ?_
      refine Wx.nil ?_
      refine W.seq ?_
      refine W.condD rfl (fun c3 => ?_) (fun c3 => ?_)
      · -- yes
        refine W.skip ?_
        refine W.seq ?_
        refine W.block ?_
        refine W.seq ?_
        refine W.reg ?_
        refine Wx.rd (v := .int .i64 k) (rd_move rfl) rfl ?_
        refine Wx.indexR hS 1 rfl rfl rfl Try.underlying110 Try.sizeOf4 (by first | omega | (simp only [List.length_set, List.length_append, List.length_cons, List.length_nil, List.length_replicate]; omega)) (by first | omega | (simp only [List.length_set, List.length_append, List.length_cons, List.length_nil, List.length_replicate]; omega)) rfl (fun g_44 hg_45 => ?_)
        refine Wx.ex (rd_loadR' false hS 1 rfl hg_45 rfl (by first | omega | (simp only [List.length_set, List.length_append, List.length_cons, List.length_nil, List.length_replicate]; omega)) (by first | omega | (simp only [List.length_set, List.length_append, List.length_cons, List.length_nil, List.length_replicate]; omega)) Try.isAgg4 Try.sizeOf4) rfl (fun v_46 hv_47 => ?_)
        obtain rfl := hv_47.bool
        refine Wx.rd (v := .int .i64 k) (rd_assign rfl) rfl ?_
        refine Wx.rd (v := .bool (ix false dn k)) (rd_assign rfl) rfl ?_
        refine Wx.nil ?_
        refine W.seq ?_
        refine W.regQ mixedLc_ (by kernel_rfl) ?_
        refine Wx.rd (v := .bool (ix false dn k)) (rd_move rfl) rfl ?_
        refine Wx.rd (v := .bool (!(ix false dn k))) (rd_not rfl) rfl ?_
        refine Wx.rd (v := .bool (!(ix false dn k))) (rd_move rfl) rfl ?_
        refine Wx.cutQ (X := Unit) 12 [49, 50, 51, 52, 53, 54, 55, 56, 57, 58, 59, 60] (fun _ => [(60, .bool (!(ix false dn k) && (decide (nx < 0) || decide ((ix 0 y2 k) < (ix 0 y2 nx)))))]) (fun _ => True) ?_ ?_
        · rcases Bool.eq_false_or_eq_true (!(ix false dn k)) with g_48 | g_48
          · -- True
            have gp_49 := g_48
            try simp only [Bool.and_eq_true, Bool.or_eq_true, Bool.not_eq_true', Bool.and_eq_false_iff, Bool.or_eq_false_iff, Bool.not_eq_false', decide_eq_true_eq, decide_eq_false_iff_not, not_or, Bool.false_eq_true, Bool.true_eq_false, false_or, or_false, not_false_eq_true] at gp_49
            refine Wx.gyes rfl rfl (congrArg Value.bool g_48) ?_
            refine Wx.rd (v := .int .i64 nx) (rd_loadX hS 0 rfl rfl rfl Try.isAgg3) rfl ?_
            refine Wx.gyes rfl rfl (congrArg Value.bool g_48) ?_
            refine Wx.rd (v := .bool (decide (nx < 0))) (rd_lss rfl rfl) rfl ?_
            refine Wx.gyes rfl rfl (congrArg Value.bool g_48) ?_
            refine Wx.rd (v := .bool (decide (nx < 0))) (rd_move rfl) rfl ?_
            refine Wx.cutQ (X := Unit) 8 [52, 53, 54, 55, 56, 57, 58, 59] (fun _ => [(59, .bool (decide (nx < 0) || decide ((ix 0 y2 k) < (ix 0 y2 nx))))]) (fun _ => True) ?_ ?_
            · rcases Bool.eq_false_or_eq_true (decide (nx < 0)) with g_50 | g_50
              · -- True
                have gp_51 := of_decide_eq_true g_50
                refine Wx.gnoB rfl rfl (congrArg Value.bool g_50) rfl rfl ?_
                refine Wx.gnoB rfl rfl (congrArg Value.bool g_50) rfl rfl ?_
                refine Wx.gnoB rfl rfl (congrArg Value.bool g_50) rfl rfl ?_
                refine Wx.gnoB rfl rfl (congrArg Value.bool g_50) rfl rfl ?_
                refine Wx.gnoB rfl rfl (congrArg Value.bool g_50) rfl rfl ?_
                refine Wx.gnoB rfl rfl (congrArg Value.bool g_50) rfl rfl ?_
                refine Wx.gnoB rfl rfl (congrArg Value.bool g_50) rfl rfl ?_
                refine Wx.gyes rfl rfl (congrArg Value.bool g_48) ?_
                refine Wx.rd (v := .bool true) (rd_pickT (congrArg Value.bool g_50) rfl) rfl ?_
                refine Wx.nilQ (fun _ _ => ⟨(), trivial, ⟨?_, trivial⟩, Out.look rfl Out.refl⟩)
                show Value.bool true = Value.bool (decide (nx < 0) || decide ((ix 0 y2 k) < (ix 0 y2 nx)))
                first | rw [g_50, Bool.true_or] | (rw [g_50]; rfl)
              · -- False
                have gp_52 := of_decide_eq_false g_50
                refine Wx.gyes rfl rfl (congrArg Value.bool g_50) ?_
                refine Wx.rd (v := .int .i64 k) (rd_move rfl) rfl ?_
                refine Wx.gyes rfl rfl (congrArg Value.bool g_50) ?_
                refine Wx.rd (v := .pointer (some ⟨g_9, 0 + k.toNat * 1, none⟩)) (rd_indexArr rfl rfl Try.underlying83 Try.sizeOf3 (by omega) (by omega)) rfl ?_
                refine Wx.gyes rfl rfl (congrArg Value.bool g_50) ?_
                refine Wx.rd (v := .int .i64 (ix 0 y2 k)) (rd_loadXa (d := 0) (f := (Value.int .i64)) (j := k) hS 2 rfl rfl (by omega) (by omega) (by omega) Try.isAgg3) rfl ?_
                refine Wx.gyes rfl rfl (congrArg Value.bool g_50) ?_
                refine Wx.rd (v := .int .i64 nx) (rd_loadX hS 0 rfl rfl rfl Try.isAgg3) rfl ?_
                refine Wx.gyes rfl rfl (congrArg Value.bool g_50) ?_
                refine Wx.rd (v := .pointer (some ⟨g_9, 0 + nx.toNat * 1, none⟩)) (rd_indexArr rfl rfl Try.underlying83 Try.sizeOf3 (by omega) (by omega)) rfl ?_
                refine Wx.gyes rfl rfl (congrArg Value.bool g_50) ?_
                refine Wx.rd (v := .int .i64 (ix 0 y2 nx)) (rd_loadXa (d := 0) (f := (Value.int .i64)) (j := nx) hS 2 rfl rfl (by omega) (by omega) (by omega) Try.isAgg3) rfl ?_
                refine Wx.gyes rfl rfl (congrArg Value.bool g_50) ?_
                refine Wx.rd (v := .bool (decide ((ix 0 y2 k) < (ix 0 y2 nx)))) (rd_lss rfl rfl) rfl ?_
                refine Wx.gyes rfl rfl (congrArg Value.bool g_48) ?_
                refine Wx.rd (v := .bool (decide ((ix 0 y2 k) < (ix 0 y2 nx)))) (rd_pickF (congrArg Value.bool g_50) rfl) rfl ?_
                refine Wx.nilQ (fun _ _ => ⟨(), trivial, ⟨?_, trivial⟩, Out.look rfl Out.refl⟩)
                show Value.bool (decide ((ix 0 y2 k) < (ix 0 y2 nx))) = Value.bool (decide (nx < 0) || decide ((ix 0 y2 k) < (ix 0 y2 nx)))
                first | rw [g_50, Bool.false_or] | (rw [g_50]; rfl)
            rintro ⟨⟩ u_54 -
            refine Wx.rd (v := .bool (decide (nx < 0) || decide ((ix 0 y2 k) < (ix 0 y2 nx)))) (rd_pickT (congrArg Value.bool g_48) rfl) rfl ?_
            refine Wx.nilQ (fun _ _ => ⟨(), trivial, ⟨?_, trivial⟩, Out.look rfl (Out.hav rfl (Out.look rfl Out.refl))⟩)
            show Value.bool (decide (nx < 0) || decide ((ix 0 y2 k) < (ix 0 y2 nx))) = Value.bool (!(ix false dn k) && (decide (nx < 0) || decide ((ix 0 y2 k) < (ix 0 y2 nx))))
            first | rw [g_48, Bool.true_and] | (rw [g_48]; rfl)
          · -- False
            have gp_55 := g_48
            try simp only [Bool.and_eq_true, Bool.or_eq_true, Bool.not_eq_true', Bool.and_eq_false_iff, Bool.or_eq_false_iff, Bool.not_eq_false', decide_eq_true_eq, decide_eq_false_iff_not, not_or, Bool.false_eq_true, Bool.true_eq_false, false_or, or_false, not_false_eq_true] at gp_55
            refine Wx.gnoB rfl rfl (congrArg Value.bool g_48) rfl rfl ?_
            refine Wx.gnoB rfl rfl (congrArg Value.bool g_48) rfl rfl ?_
            refine Wx.gnoB rfl rfl (congrArg Value.bool g_48) rfl rfl ?_
            refine Wx.gno rfl rfl rfl rfl ?_
            refine Wx.gno rfl rfl rfl rfl ?_
            refine Wx.gno rfl rfl rfl rfl ?_
            refine Wx.gno rfl rfl rfl rfl ?_
            refine Wx.gno rfl rfl rfl rfl ?_
            refine Wx.gno rfl rfl rfl rfl ?_
            refine Wx.gno rfl rfl rfl rfl ?_
            refine Wx.gnoB rfl rfl (congrArg Value.bool g_48) rfl rfl ?_
            refine Wx.rd (v := .bool false) (rd_pickF (congrArg Value.bool g_48) rfl) rfl ?_
            refine Wx.nilQ (fun _ _ => ⟨(), trivial, ⟨?_, trivial⟩, Out.look rfl Out.refl⟩)
            show Value.bool false = Value.bool (!(ix false dn k) && (decide (nx < 0) || decide ((ix 0 y2 k) < (ix 0 y2 nx))))
            first | rw [g_48, Bool.false_and] | (rw [g_48]; rfl)
        rintro ⟨⟩ u_57 -
        refine Wx.nilQ (fun w_58 hx_59 => ?_)
        have hS := hS.ext hx_59
        refine W.cond rfl (fun c4 => ?_) (fun c4 => ?_)
        · -- yes
          try simp only [Bool.and_eq_true, Bool.or_eq_true, Bool.not_eq_true', Bool.and_eq_false_iff, Bool.or_eq_false_iff, Bool.not_eq_false', decide_eq_true_eq, decide_eq_false_iff_not, not_or, Bool.false_eq_true, Bool.true_eq_false, false_or, or_false, not_false_eq_true] at c4
          refine W.reg ?_
          refine Wx.rd (v := .int .i64 k) (rd_move rfl) rfl ?_
          refine Wx.storeX (cs' := [.int .i64 k]) (ds := [.int .i64 k]) hS 0 rfl rfl rfl rfl Try.sizeOf3 (Nat.le_of_ble_eq_true rfl) (one_cons rfl one_nil) rfl (fun w_60 hz_61 hS => ?_)
          refine Wx.nil ?_
          refine W.reg ?_
          refine Wx.rd (v := .int .i64 (k + 1)) (rd_add rfl rfl (in_i64 (by omega) (by omega))) rfl ?_
          refine Wx.rd (v := .int .i64 (k + 1)) (rd_move rfl) rfl ?_
          refine Wx.nil ?_
          refine ⟨(k + 1, k), (by show (H.length - (k + 1)).toNat < (H.length - k).toNat; omega), ?_, ?_, Out.look rfl (Out.hav rfl (Out.look rfl Out.self))⟩
          · exact ⟨hS, (by first | omega | assumption), (by first | omega | assumption), (nx_new k2 k0 c4.1 c4.2), (by first | omega | assumption), (by first | omega | assumption)⟩
          · exact ⟨rfl, trivial⟩
        · -- no
          try simp only [Bool.and_eq_true, Bool.or_eq_true, Bool.not_eq_true', Bool.and_eq_false_iff, Bool.or_eq_false_iff, Bool.not_eq_false', decide_eq_true_eq, decide_eq_false_iff_not, not_or, Bool.false_eq_true, Bool.true_eq_false, false_or, or_false, not_false_eq_true] at c4
          refine W.skip ?_
          refine W.reg ?_
          refine Wx.rd (v := .int .i64 (k + 1)) (rd_add rfl rfl (in_i64 (by omega) (by omega))) rfl ?_
          refine Wx.rd (v := .int .i64 (k + 1)) (rd_move rfl) rfl ?_
          refine Wx.nil ?_
          refine ⟨(k + 1, nx), (by show (H.length - (k + 1)).toNat < (H.length - k).toNat; omega), ?_, ?_, Out.look rfl (Out.hav rfl (Out.look rfl Out.self))⟩
          · exact ⟨hS, (by first | omega | assumption), (by first | omega | assumption), (nx_old k2 k0 (by rcases c4 with c | c; exact .inl c; exact .inr (by omega))), (by first | omega | assumption), (by first | omega | assumption)⟩
          · exact ⟨rfl, trivial⟩
      · -- no
        obtain ⟨hzr, hzd, hzm⟩ := nx_end (H := H) (by rw [show (H.length : Int) = k by omega]; exact k2) (cnt_some (by omega))
        have hz0 := hzr.1
        have hz1 := hzr.2
        refine W.exit rfl ?_
        refine WD.seq ?_
        refine WD.ofW ?_
        refine W.reg ?_
        refine Wx.rd (v := v_16) (rd_move rfl) rfl ?_
        refine Wx.rd (v := .int .i64 nx) (rd_loadX hS 0 rfl rfl rfl Try.isAgg3) rfl ?_
        refine Wx.indexR hS 1 rfl rfl rfl Try.underlying110 Try.sizeOf4 (by first | omega | (simp only [List.length_set, List.length_append, List.length_cons, List.length_nil, List.length_replicate]; omega)) (by first | omega | (simp only [List.length_set, List.length_append, List.length_cons, List.length_nil, List.length_replicate]; omega)) rfl (fun g_62 hg_63 => ?_)
        refine Wx.storeR (j := nx.toNat) (z := true) hS 1 rfl hg_63 rfl (by first | omega | (simp only [List.length_set, List.length_append, List.length_cons, List.length_nil, List.length_replicate]; omega)) rfl ⟨[.bool true], rfl, rfl⟩ Try.sizeOf4 (fun w_64 hz_65 hS => ?_)
        refine Wx.nil ?_
        refine WD.seq ?_
        refine WD.ofW ?_
        refine W.reg ?_
        refine Wx.rd (v := .agg #[.int .i64 R, .int .i64 C, hv]) (rd_loadXs (ds := [.int .i64 R, .int .i64 C, hv]) hS 4 rfl rfl rfl rfl Try.isAgg24 Try.sizeOf24) rfl ?_
        refine Wx.rd (v := .int .i64 nx) (rd_loadX hS 0 rfl rfl rfl Try.isAgg3) rfl ?_
        refine Wx.callB (run_callF Try.call73 rfl) (F73 hS (hS.arg a_hv)) rfl ?_
        rintro r_66 w_67 ⟨gn_68, gs_69, rfl, hS⟩
        refine Wx.nil ?_
        refine WD.block ?_
        have hS := hS.add (hS.arg a_hv)
        have hS := hS.front 7 rfl
        have hS := hS.front 7 rfl
        have hS := hS.front 7 rfl
        have hS := hS.front 7 rfl
        have hS := hS.front 7 rfl
        have hS := hS.front 5 rfl
        have hS := hS.front 7 rfl
        have hS := hS.front 7 rfl
        have hS : St _ _ w_67 (.box gn_68 3 [.int .i64 nx] :: .box gs_69 24 [.int .i64 R, .int .i64 C, hv] :: Ob.v (tSl (tI .i64)) H hv :: .box g_36 3 [.int .i64 nx] :: .row tBool 4 v_16 (List.set dn nx.toNat true) :: .box g_9 83 (List.map (Value.int .i64) y2) :: .box g_5 83 (List.map (Value.int .i64) (List.replicate 37 (0 : Int))) :: .box g_1 24 [.int .i64 R, .int .i64 C, hv] :: DOb Ds) := hS
        refine WD.range (ob := [.box g_36 3 [.int .i64 nx], .row tBool 4 v_16 (List.set dn nx.toNat true), .box g_9 83 (List.map (Value.int .i64) y2), .box g_5 83 (List.map (Value.int .i64) (List.replicate 37 (0 : Int))), .box g_1 24 [.int .i64 R, .int .i64 C, hv]]) (nbW C H.length nx) (fun ls ob => ∃ (y3 : List Int), (DjP C H (DB dn) nx (fun x => x ∈ ls) (ix 0 y3)) ∧ (y3.length = 37) ∧ (ZT H.length y3) ∧ ob = [.box g_36 3 [.int .i64 nx], .row tBool 4 v_16 (List.set dn nx.toNat true), .box g_9 83 (List.map (Value.int .i64) y3), .box g_5 83 (List.map (Value.int .i64) (List.replicate 37 (0 : Int))), .box g_1 24 [.int .i64 R, .int .i64 C, hv]]) (fun _ _ _ => False) [] rfl Try.call85 rfl rfl (iter85 p_ok hzr) hS ⟨y2, (djl_open hok i2 hzr hzd hzm), (i3), (i6), rfl⟩ ?_ ?_ ?_
        · -- a round
          rintro ls m pre_74 _ w_73 hpx ⟨y3, m2, m3, m4, rfl⟩ hS
          have hm := mem_nbW.1 (mem_pre hpx)
          have hm0 : 0 ≤ m ∧ m ≤ (H.length : Int) := by rcases hm with ⟨q, _⟩ | q <;> omega
          refine W.block ?_
          refine W.seq ?_
          refine W.reg ?_
          refine Wx.rd (v := .int .i64 m) (rd_move rfl) rfl ?_
          refine Wx.rd (v := .agg #[.int .i64 R, .int .i64 C, hv]) (rd_loadXs (ds := [.int .i64 R, .int .i64 C, hv]) hS 4 rfl rfl rfl rfl Try.isAgg24 Try.sizeOf24) rfl ?_
          refine Wx.callF (run_callF Try.call56 rfl) (F56 i_R i_C (hS.arg a_hv)) rfl ?_
          rintro r_75 w_76 hx_77 rfl
          have hS := hS.ext hx_77
          refine Wx.rd (v := .bool (decide (m < (H.length : Int)))) (rd_lss rfl rfl) rfl ?_
          refine Wx.nil ?_
          refine W.condD rfl (fun c5 => ?_) (fun c5 => ?_)
          · -- yes
            have hma : adjB C nx m = true := by rcases hm with q | q; exact q.2; omega
            refine W.regT 15 mixedLc_ (by kernel_rfl) ?_
            refine Wx.rd (v := .int .i64 m) (rd_move rfl) rfl ?_
            refine Wx.rd (v := .int .i64 m) (rd_move rfl) rfl ?_
            refine Wx.rd (v := .pointer (some ⟨g_9, 0 + m.toNat * 1, none⟩)) (rd_indexArr rfl rfl Try.underlying83 Try.sizeOf3 (by omega) (by omega)) rfl ?_
            refine Wx.rd (v := .int .i64 (ix 0 y3 m)) (rd_loadXa (d := 0) (f := (Value.int .i64)) (j := m) hS 2 rfl rfl (by omega) (by omega) (by omega) Try.isAgg3) rfl ?_
            refine Wx.rd (v := .int .i64 nx) (rd_loadX hS 0 rfl rfl rfl Try.isAgg3) rfl ?_
            refine Wx.rd (v := .pointer (some ⟨g_9, 0 + nx.toNat * 1, none⟩)) (rd_indexArr rfl rfl Try.underlying83 Try.sizeOf3 (by omega) (by omega)) rfl ?_
            refine Wx.rd (v := .int .i64 (ix 0 y3 nx)) (rd_loadXa (d := 0) (f := (Value.int .i64)) (j := nx) hS 2 rfl rfl (by omega) (by omega) (by omega) Try.isAgg3) rfl ?_
            refine Wx.rd (v := .pointer (some ⟨g_1, 2, none⟩)) (rd_fieldAddr rfl foLc_24_2) rfl ?_
            refine Wx.rd (v := hv) (rd_loadX hS 4 rfl rfl rfl Try.isAgg22) rfl ?_
            refine Wx.rd (v := .int .i64 m) (rd_move rfl) rfl ?_
            refine Wx.ex (rd_index 0 (hS.arg a_hv) rfl rfl Try.underlying22 Try.sizeOf3 (by first | omega | (simp only [List.length_set, List.length_append, List.length_cons, List.length_nil, List.length_replicate]; omega)) (by first | omega | (simp only [List.length_set, List.length_append, List.length_cons, List.length_nil, List.length_replicate]; omega))) rfl (fun p_78 hp_79 => ?_)
            refine Wx.rd (v := .int .i64 (ix 0 H m)) (rd_loadI hp_79 rfl Try.isAgg3 Try.sizeOf3) rfl ?_
            have bd_80 := bd_i64 hp_79.inK
            refine Wx.rd (v := .int .i64 (max (ix 0 y3 nx) (ix 0 H m))) (rd_max rfl rfl) rfl ?_
            refine Wx.rd (v := .int .i64 (min (ix 0 y3 m) (max (ix 0 y3 nx) (ix 0 H m)))) (rd_min rfl rfl) rfl ?_
            refine Wx.rd (v := .pointer (some ⟨g_9, 0 + m.toNat * 1, none⟩)) (rd_indexArr rfl rfl Try.underlying83 Try.sizeOf3 (by omega) (by omega)) rfl ?_
            refine Wx.nilQ (fun w_81 hx_82 => ?_)
            have hS := hS.ext hx_82
            refine Wx.storeXa (j := m) (f := (Value.int .i64)) (u := (min (ix 0 y3 m) (max (ix 0 y3 nx) (ix 0 H m)))) hS 2 rfl rfl (by omega) rfl rfl rfl Try.sizeOf3 (by omega) (by omega) (fun w_83 hz_84 hS => ?_)
            refine Wx.nil ?_
            have hS := hS.front 4 rfl
            have hS := hS.front 4 rfl
            have hS := hS.front 4 rfl
            have hS := hS.front 4 rfl
            have hS := hS.front 4 rfl
            have hS : St _ _ w_83 (.box g_36 3 [.int .i64 nx] :: .row tBool 4 v_16 (List.set dn nx.toNat true) :: .box g_9 83 (List.map (Value.int .i64) (List.set y3 m.toNat (min (ix 0 y3 m) (max (ix 0 y3 nx) (ix 0 H m))))) :: .box g_5 83 (List.map (Value.int .i64) (List.replicate 37 (0 : Int))) :: .box g_1 24 [.int .i64 R, .int .i64 C, hv] :: pre_74) := hS
            exact ⟨_, ⟨List.set y3 m.toNat (min (ix 0 y3 m) (max (ix 0 y3 nx) (ix 0 H m))), (djl_look hok hzr m2 (by omega) ⟨hm0.1, c5⟩ hma), (by simp only [List.length_set]; exact m3), (zt_set m4 (by omega) (by omega)), rfl⟩, hS⟩
          · -- no
            refine W.skip ?_
            have hS := hS.front 4 rfl
            have hS := hS.front 4 rfl
            have hS := hS.front 4 rfl
            have hS := hS.front 4 rfl
            have hS := hS.front 4 rfl
            have hS : St _ _ w_76 (.box g_36 3 [.int .i64 nx] :: .row tBool 4 v_16 (List.set dn nx.toNat true) :: .box g_9 83 (List.map (Value.int .i64) y3) :: .box g_5 83 (List.map (Value.int .i64) (List.replicate 37 (0 : Int))) :: .box g_1 24 [.int .i64 R, .int .i64 C, hv] :: pre_74) := hS
            exact ⟨_, ⟨y3, (djl_river m2 (by omega)), (by first | omega | assumption), (by first | omega | assumption), rfl⟩, hS⟩
        · -- all have come
          rintro _ D_85 w_86 ⟨y3, m2, m3, m4, rfl⟩ hS
          have hS : St _ _ w_86 (.box g_36 3 [.int .i64 nx] :: .row tBool 4 v_16 (List.set dn nx.toNat true) :: .box g_9 83 (List.map (Value.int .i64) y3) :: .box g_5 83 (List.map (Value.int .i64) (List.replicate 37 (0 : Int))) :: .box g_1 24 [.int .i64 R, .int .i64 C, hv] :: DOb (D_85 :: Ds)) := hS
          refine WD.ofW ?_
          refine W.reg ?_
          refine Wx.rd (v := .int .i64 (i + 1)) (rd_add rfl rfl (in_i64 (by omega) (by omega))) rfl ?_
          refine Wx.rd (v := .int .i64 (i + 1)) (rd_move rfl) rfl ?_
          refine Wx.nil ?_
          refine ⟨(i + 1, List.set dn nx.toNat true, y3, (D_85 :: Ds)), (by show (H.length - (i + 1)).toNat < (H.length - i).toNat; omega), rfl, ?_, ?_, Out.look rfl (Out.hav rfl (Out.look rfl Out.self))⟩
          · exact ⟨hS.tl, (by first | omega | assumption), (by first | omega | assumption), (djl_close hzr i4 m2), (m3), (by simp only [List.length_set]; exact i4), (by rw [cnt_set hzr i4 hzd]; omega), (m4)⟩
          · exact ⟨rfl, trivial⟩
        · exact fun _ _ _ _ _ h => h.elim
    · -- no
      refine W.exit rfl ?_
      refine WD.ofW ?_
      refine W.seq ?_
      refine W.reg ?_
      refine Wx.rd (v := .agg (List.map (Value.int .i64) y2).toArray) (rd_loadXs (ds := List.map (Value.int .i64) y2) hS 1 rfl rfl (by rw [List.drop_zero, List.take_of_length_le (by simp; omega)]) (by simp; omega) Try.isAgg83 Try.sizeOf83) rfl ?_
      refine Wx.storeX (cs' := List.map (Value.int .i64) y2) (ds := List.map (Value.int .i64) y2) hS 2 rfl rfl rfl rfl (fun w' => by rw [List.length_map, show List.length y2 = 37 by first | omega | (simp; omega) | simp]; exact Try.sizeOf83 w') (by first | (simp; omega) | simp) (by intro u hu; obtain ⟨_, _, rfl⟩ := List.mem_map.1 hu; rfl) (by rw [List.take_zero, List.nil_append, List.drop_of_length_le (by first | (simp; omega) | simp), List.append_nil]) (fun w_87 hz_88 hS => ?_)
      refine Wx.nil ?_
      have hS : St _ _ w_87 (.row tBool 4 v_16 dn :: .box g_9 83 (List.map (Value.int .i64) y2) :: .box g_5 83 (List.map (Value.int .i64) y2) :: .box g_1 24 [.int .i64 R, .int .i64 C, hv] :: DOb Ds) := hS
      refine W.ret ⟨[.row tBool 4 v_16 dn, .box g_9 83 (List.map (Value.int .i64) y2), .box g_5 83 (List.map (Value.int .i64) y2), .box g_1 24 [.int .i64 R, .int .i64 C, hv]], hS, fun w_89 hS => ?_⟩
      exact ⟨.agg (List.map (Value.int .i64) y2).toArray, (ResIs.cell1 hS 2 rfl rfl Try.isAgg83 (fun w' => by rw [List.length_map, show List.length y2 = 37 by first | omega | (simp; omega) | simp]; exact Try.sizeOf83 w')), hS.bel, ⟨y2, (by exact ⟨⟨i3, fun x x0 x1 => dj_end i2 (cnt_all (by omega)) x ⟨x0, x1⟩⟩, i6⟩), rfl⟩⟩

theorem F55 {R : Int} {C : Int} {hv : Value} {H : List Int} {O : List (Option Nat)} {w : World} (i_R : InK .i64 R) (i_C : InK .i64 C) (h_hv : V (tSl (tI .i64)) H hv O w) (p_ok : SOK R C H) (hO : ∀ b, some b ∈ O → b < w.heap.size) : Calls Try.prog 55 #[.agg #[.int .i64 R, .int .i64 C, hv]] w (Ret w (fun r _ => ∃ ys : List Int, (ys.length = 37 ∧ ∀ x, 0 ≤ x → x < (H.length : Int) → ix 0 ys x = sillV C H x) ∧ r = .agg (List.map (Value.int .i64) ys).toArray)) :=
  (F55z i_R i_C h_hv p_ok hO).mono fun _ _ ⟨r, he, hx, ys, ⟨h1, _⟩, h2⟩ => ⟨r, he, hx, ys, h1, h2⟩
theorem F55v {R : Int} {C : Int} {hv : Value} {H : List Int} {Fr_hv : List (Option Nat)} {w : World} (i_R : InK .i64 R) (i_C : InK .i64 C) (h_hv : V (tSl (tI .i64)) H hv Fr_hv w) (p_ok : SOK R C H) : Calls Try.prog 55 #[.agg #[.int .i64 R, .int .i64 C, hv]] w (Ret w (fun r _ => r = .agg (List.map (Value.int .i64) (knL (sillV C H) H.length)).toArray)) :=
  (F55z i_R i_C h_hv.any p_ok (by simp)).mono fun _ _ ⟨r, he, hx, ys, ⟨⟨h1, h2⟩, h3⟩, h4⟩ => ⟨r, he, hx, by rw [h4, knL_eq h1 h2 h3]⟩

end Go.Proofs.Ytjhimoeodkaihaa

namespace Go.Proofs.Ytjhimoeodkaihaa
open Go.Wk Go.RowKit Go.Lib
set_option linter.unusedVariables false
set_option linter.unusedSimpArgs false
theorem elLd_22 : ElemI Try.prog 22 3 (.int .i64 0) 1 8 := ElemI.of Try.underlying22 (by kernel_rfl) (by first | rfl | kernel_rfl) (by decide)
theorem foLd_24_2 : fldOff Try.prog 24 2 = some 2 := by kernel_rfl

theorem F45 {xv : Value} {xs : List Int} {Fr_xv : List (Option Nat)} {w : World} (h_xv : V (tSl (tI .i64)) xs xv Fr_xv w) (p_1000 : (xs.length : Int) ≤ 1000) : Calls Try.prog 45 #[xv] w (Ret w (fun r w' => ∃ rv, r = rv ∧ Fresh (tI .i64) 3 xs rv w.heap.size w')) := by
  have a_xv := h_xv.any
  have l_xv := h_xv.len63
  have hS := St.start0 w
  refine enterR Try.func45 rfl Try.ntmps45 Try.results45 rfl ?_
  refine W.seq ?_
  refine W.reg ?_
  refine Wx.rd (v := (.slice none 0 0)) (rd_assign rfl) rfl ?_
  refine Wx.nil ?_
  refine W.seq ?_
  refine W.seq ?_
  refine W.reg ?_
  refine Wx.rd (v := xv) (rd_move rfl) rfl ?_
  refine Wx.ex (rd_eqlNilV (hS.arg a_xv) rfl rfl Try.underlying22) rfl (fun u_1 hu_u_1 => ?_)
  obtain ⟨b_2, rfl, hb_3⟩ := hu_u_1
  refine Wx.nil ?_
  refine W.cond rfl (fun c0 => ?_) (fun c0 => ?_)
  · -- yes
    try simp only [Bool.and_eq_true, Bool.or_eq_true, Bool.not_eq_true', Bool.and_eq_false_iff, Bool.or_eq_false_iff, Bool.not_eq_false', decide_eq_true_eq, decide_eq_false_iff_not, not_or, Bool.false_eq_true, Bool.true_eq_false, false_or, or_false, not_false_eq_true] at c0
    refine W.seq ?_
    refine W.reg ?_
    refine Wx.rd (v := (.slice none 0 0)) (rd_assign rfl) rfl ?_
    refine Wx.nil ?_
    have e0_0 : xs = [] := by solve_by_elim
    exact W.ret ⟨(.slice none 0 0), ResIs.one, hS.bel, ⟨(.slice none 0 0), rfl, (by rw [e0_0]; exact ((hS.addNil (tI .i64) 3).fr 0 rfl flat_int))⟩⟩
  · -- no
    try simp only [Bool.and_eq_true, Bool.or_eq_true, Bool.not_eq_true', Bool.and_eq_false_iff, Bool.or_eq_false_iff, Bool.not_eq_false', decide_eq_true_eq, decide_eq_false_iff_not, not_or, Bool.false_eq_true, Bool.true_eq_false, false_or, or_false, not_false_eq_true] at c0
    refine W.skip ?_
    refine W.seq ?_
    refine W.reg ?_
    refine Wx.lit (t := (tI .i64)) (ys := []) (vs := []) elLd_22 hS rfl rfl trivial (by decide) rfl (fun v_4 w_5 hx_6 hS => ?_)
    refine Wx.rd (v := xv) (rd_move rfl) rfl ?_
    refine Wx.append elLd_22 hS 0 rfl rfl rfl (Src.ofV (hS.arg a_xv)) (by simp only [maxLen]; first | omega | (simp; omega) | simp) (by first | omega | (simp; omega) | simp) rfl (fun v_7 w_8 hz_9 hS => ?_)
    refine Wx.rd (v := v_7) (rd_assign rfl) rfl ?_
    refine Wx.nil ?_
    have e1_0 : xs = [] ++ xs := by first | rfl | omega
    exact W.ret ⟨v_7, ResIs.one, hS.bel, ⟨v_7, rfl, (by rw [e1_0]; exact (hS.fr 0 rfl flat_int))⟩⟩

theorem F17 {R : Int} {C : Int} {hv : Value} {H : List Int} {O : List (Option Nat)} {w : World} (i_R : InK .i64 R) (i_C : InK .i64 C) (h_hv : V (tSl (tI .i64)) H hv O w) (hO : ∀ b, some b ∈ O → b < w.heap.size) : Calls Try.prog 17 #[.agg #[.int .i64 R, .int .i64 C, hv]] w (Ret w (fun r w' => ∃ rv, r = .tuple #[rv, .int .i64 (checkS R C H)] ∧ Fresh (tI .i64) 3 (sillsE R C H) rv w.heap.size w')) := by
  have b_C := bd_i64 i_C
  have b_R := bd_i64 i_R
  have a_hv := h_hv
  have l_hv := h_hv.len63
  have hS := St.start w O hO
  refine enterR Try.func17 rfl Try.ntmps17 Try.results17 rfl ?_
  refine W.seq ?_
  refine W.reg ?_
  refine Wx.box (cs := [.int .i64 R, .int .i64 C, hv]) hS rfl rfl rfl (fun g_1 w_2 hx_4 hb_3 hS => ?_)
  refine Wx.rd (v := (.slice none 0 0)) (rd_assign rfl) rfl ?_
  refine Wx.rd (v := .int .i64 0) (rd_assign rfl) rfl ?_
  refine Wx.nil ?_
  refine W.seq ?_
  refine W.seq ?_
  refine W.reg ?_
  refine Wx.rd (v := .agg #[.int .i64 R, .int .i64 C, hv]) (rd_loadXs (ds := [.int .i64 R, .int .i64 C, hv]) hS 0 rfl rfl rfl rfl Try.isAgg24 Try.sizeOf24) rfl ?_
  refine Wx.callF (run_callF Try.call22 rfl) (F22 i_R i_C (hS.arg a_hv)) rfl ?_
  rintro r_5 w_6 hx_7 rfl
  have hS := hS.ext hx_7
  refine Wx.rd (v := .int .i64 (checkS R C H)) (rd_assign rfl) rfl ?_
  refine Wx.nil ?_
  refine W.seq ?_
  refine W.reg ?_
  refine Wx.rd (v := .int .i64 (checkS R C H)) (rd_move rfl) rfl ?_
  refine Wx.rd (v := .bool (decide ((checkS R C H) ≠ 0))) (rd_neq rfl rfl) rfl ?_
  refine Wx.nil ?_
  refine W.condD rfl (fun c0 => ?_) (fun c0 => ?_)
  · -- yes
    refine W.seq ?_
    refine W.reg ?_
    refine Wx.rd (v := .int .i64 (checkS R C H)) (rd_move rfl) rfl ?_
    refine Wx.rd (v := (.slice none 0 0)) (rd_assign rfl) rfl ?_
    refine Wx.rd (v := .int .i64 (checkS R C H)) (rd_assign rfl) rfl ?_
    refine Wx.nil ?_
    have e0_0 : sillsE R C H = [] := by rw [sillsE, if_neg c0]
    exact W.ret ⟨.tuple #[(.slice none 0 0), .int .i64 (checkS R C H)], ResIs.two, hS.bel, ⟨(.slice none 0 0), rfl, (by rw [e0_0]; exact ((hS.addNil (tI .i64) 3).fr 0 rfl flat_int))⟩⟩
  · -- no
    have h0c : checkS R C H = 0 := by omega
    have p_ok := SOK.of h0c
    obtain ⟨⟨r1, r2⟩, ⟨c1_, c2_⟩, hRC, ⟨n1, n36⟩, hCn, hok⟩ := id p_ok
    refine W.skip ?_
    refine W.seq ?_
    refine W.reg ?_
    refine Wx.rd (v := .agg #[.int .i64 R, .int .i64 C, hv]) (rd_loadXs (ds := [.int .i64 R, .int .i64 C, hv]) hS 0 rfl rfl rfl rfl Try.isAgg24 Try.sizeOf24) rfl ?_
    refine Wx.callF (run_callF Try.call55 rfl) (F55 i_R i_C (hS.arg a_hv) p_ok hS.fb_lt) rfl ?_
    rintro r_9 w_10 hx_11 ⟨l_8, hex, rfl⟩
    have hS := hS.ext hx_11
    refine Wx.alloc (cs := List.map (Value.int .i64) (List.replicate 37 (0 : Int))) hS Try.zeroValue83 (by kernel_rfl) rfl (fun g_12 w_13 hx_15 hb_14 hS => ?_)
    have hS : St _ _ w_13 [.box g_12 83 (List.map (Value.int .i64) (List.replicate 37 (0 : Int))), .box g_1 24 [.int .i64 R, .int .i64 C, hv]] := hS
    refine Wx.storeX (cs' := List.map (Value.int .i64) l_8) (ds := List.map (Value.int .i64) l_8) hS 0 rfl rfl rfl rfl (fun w' => by rw [List.length_map, show List.length l_8 = 37 by first | omega | (simp; omega) | simp]; exact Try.sizeOf83 w') (by first | (simp; omega) | simp) (by intro u hu; obtain ⟨_, _, rfl⟩ := List.mem_map.1 hu; rfl) (by rw [List.take_zero, List.nil_append, List.drop_of_length_le (by first | (simp; omega) | simp), List.append_nil]) (fun w_16 hz_17 hS => ?_)
    refine Wx.nil ?_
    refine W.seq ?_
    refine W.reg ?_
    refine Wx.rd (v := .agg #[.int .i64 R, .int .i64 C, hv]) (rd_loadXs (ds := [.int .i64 R, .int .i64 C, hv]) hS 1 rfl rfl rfl rfl Try.isAgg24 Try.sizeOf24) rfl ?_
    refine Wx.callF (run_callF Try.call56 rfl) (F56 i_R i_C (hS.arg a_hv)) rfl ?_
    rintro r_18 w_19 hx_20 rfl
    have hS := hS.ext hx_20
    refine Wx.rd (v := (.slice (some ⟨g_12, 0, none⟩) (H.length : Int).toNat 37)) (rd_sliceArrH (m := 37) Try.underlying83 Try.sizeOf3 rfl rfl (by omega) (by omega)) rfl ?_
    have hS := hS.sliceBox (o := 0) (k := .i64) (m := (H.length : Int).toNat) (xs := List.take (H.length : Int).toNat l_8) (cap := 37) 0 rfl (by exact take_map_take (Value.int .i64) l_8 _) (kn_in (f := sillV C H) (by omega) hex.2 (fun x x0 x1 => by have := p_ok.sill x0 x1; omega)) (by simp; omega) (by omega) (by decide)
    have hS := hS.add (t := tSl (tI .i64)) (x := sillsL C H) (v := .slice (some ⟨g_12, 0, none⟩) (H.length : Int).toNat 37) (by have q := (hS.v 0 rfl); rw [show List.take (H.length : Int).toNat l_8 = sillsL C H from take_map (by omega) (by omega) hex.2] at q; exact q)
    refine Wx.callF (run_callF Try.call45 rfl) (F45 (hS.v 0 rfl) (by have := rng_length (i := 0) (n := H.length) (by omega); simp [sillsL]; omega)) rfl ?_
    rintro r_22 w_23 hx_24 ⟨_, rfl, hv_25⟩
    have hS := hS.pushFr hx_24 hv_25
    refine Wx.rd (v := r_22) (rd_assign rfl) rfl ?_
    refine Wx.rd (v := .int .i64 0) (rd_assign rfl) rfl ?_
    refine Wx.nil ?_
    have e1_0 : sillsE R C H = (sillsL C H) := by rw [sillsE, if_pos h0c]
    have e1_1 : (checkS R C H) = (0 : Int) := by exact h0c
    exact W.ret ⟨.tuple #[r_22, .int .i64 0], ResIs.two, hS.bel, ⟨r_22, (by rw [e1_1]), (by rw [e1_0]; exact (hS.fr 0 rfl flat_int))⟩⟩

set_option maxHeartbeats 4000000 in
theorem F58 {R : Int} {C : Int} {hv : Value} {H : List Int} {lv : Int} {O : List (Option Nat)} {w : World} (i_R : InK .i64 R) (i_C : InK .i64 C) (h_hv : V (tSl (tI .i64)) H hv O w) (i_lv : InK .i64 lv) (hO : ∀ b, some b ∈ O → b < w.heap.size) : Calls Try.prog 58 #[.agg #[.int .i64 R, .int .i64 C, hv], .int .i64 lv] w (Ret w (fun r _ => ∃ ys : List Int, (ys.length = 37 ∧ (levelE R C H lv = 0 → ∀ x, 0 ≤ x → x < (H.length : Int) → ix 0 ys x = depthV C H lv x)) ∧ r = .tuple #[.agg (List.map (Value.int .i64) ys).toArray, .int .i64 (levelE R C H lv)])) := by
  have b_lv := bd_i64 i_lv
  have b_C := bd_i64 i_C
  have b_R := bd_i64 i_R
  have a_hv := h_hv
  have l_hv := h_hv.len63
  have hS := St.start w O hO
  refine enterR Try.func58 rfl Try.ntmps58 Try.results58 rfl ?_
  refine W.seq ?_
  refine W.reg ?_
  refine Wx.box (cs := [.int .i64 R, .int .i64 C, hv]) hS rfl rfl rfl (fun g_1 w_2 hx_4 hb_3 hS => ?_)
  refine Wx.alloc (cs := List.map (Value.int .i64) (List.replicate 37 (0 : Int))) hS Try.zeroValue83 (by kernel_rfl) rfl (fun g_5 w_6 hx_8 hb_7 hS => ?_)
  have hS : St _ _ w_6 [.box g_5 83 (List.map (Value.int .i64) (List.replicate 37 (0 : Int))), .box g_1 24 [.int .i64 R, .int .i64 C, hv]] := hS
  refine Wx.rd (v := .int .i64 0) (rd_assign rfl) rfl ?_
  refine Wx.nil ?_
  refine W.seq ?_
  refine W.seq ?_
  refine W.reg ?_
  refine Wx.rd (v := .agg #[.int .i64 R, .int .i64 C, hv]) (rd_loadXs (ds := [.int .i64 R, .int .i64 C, hv]) hS 1 rfl rfl rfl rfl Try.isAgg24 Try.sizeOf24) rfl ?_
  refine Wx.callF (run_callF Try.call22 rfl) (F22 i_R i_C (hS.arg a_hv)) rfl ?_
  rintro r_9 w_10 hx_11 rfl
  have hS := hS.ext hx_11
  refine Wx.rd (v := .int .i64 (checkS R C H)) (rd_assign rfl) rfl ?_
  refine Wx.nil ?_
  refine W.seq ?_
  refine W.reg ?_
  refine Wx.rd (v := .int .i64 (checkS R C H)) (rd_move rfl) rfl ?_
  refine Wx.rd (v := .bool (decide ((checkS R C H) ≠ 0))) (rd_neq rfl rfl) rfl ?_
  refine Wx.nil ?_
  refine W.condD rfl (fun c0 => ?_) (fun c0 => ?_)
  · -- yes
    refine W.seq ?_
    refine W.reg ?_
    refine Wx.rd (v := .agg #[.int .i64 0, .int .i64 0, .int .i64 0, .int .i64 0, .int .i64 0, .int .i64 0, .int .i64 0, .int .i64 0, .int .i64 0, .int .i64 0, .int .i64 0, .int .i64 0, .int .i64 0, .int .i64 0, .int .i64 0, .int .i64 0, .int .i64 0, .int .i64 0, .int .i64 0, .int .i64 0, .int .i64 0, .int .i64 0, .int .i64 0, .int .i64 0, .int .i64 0, .int .i64 0, .int .i64 0, .int .i64 0, .int .i64 0, .int .i64 0, .int .i64 0, .int .i64 0, .int .i64 0, .int .i64 0, .int .i64 0, .int .i64 0, .int .i64 0]) (rd_build (vs := []) rfl (by kernel_rfl)) rfl ?_
    refine Wx.rd (v := .int .i64 (checkS R C H)) (rd_move rfl) rfl ?_
    refine Wx.storeX (cs' := List.map (Value.int .i64) (List.replicate 37 (0 : Int))) (ds := List.map (Value.int .i64) (List.replicate 37 (0 : Int))) hS 0 rfl rfl rfl rfl (fun w' => by rw [List.length_map, show List.length (List.replicate 37 (0 : Int)) = 37 by first | omega | (simp; omega) | simp]; exact Try.sizeOf83 w') (by first | (simp; omega) | simp) (by intro u hu; obtain ⟨_, _, rfl⟩ := List.mem_map.1 hu; rfl) (by rw [List.take_zero, List.nil_append, List.drop_of_length_le (by first | (simp; omega) | simp), List.append_nil]) (fun w_12 hz_13 hS => ?_)
    refine Wx.rd (v := .int .i64 (checkS R C H)) (rd_assign rfl) rfl ?_
    refine Wx.nil ?_
    have e0_1 : (levelE R C H lv) = (checkS R C H : Int) := by rw [levelE, if_neg c0]
    exact W.ret ⟨.tuple #[.agg (List.map (Value.int .i64) (List.replicate 37 (0 : Int))).toArray, .int .i64 (checkS R C H)], (ResIs.cell2 hS 0 rfl rfl Try.isAgg83 (fun w' => by rw [List.length_map, show List.length (List.replicate 37 (0 : Int)) = 37 by first | omega | (simp; omega) | simp]; exact Try.sizeOf83 w')), hS.bel, ⟨(List.replicate 37 (0 : Int)), (by exact ⟨by simp, fun q => by rw [levelE, if_neg c0] at q; exact absurd q c0⟩), (by rw [e0_1])⟩⟩
  · -- no
    have h0c : checkS R C H = 0 := by omega
    have p_ok := SOK.of h0c
    obtain ⟨⟨r1, r2⟩, ⟨c1_, c2_⟩, hRC, ⟨n1, n36⟩, hCn, hok⟩ := id p_ok
    refine W.skip ?_
    refine W.seq ?_
    refine W.seq ?_
    refine W.reg ?_
    refine Wx.rd (v := .int .i64 lv) (rd_move rfl) rfl ?_
    refine Wx.callF (run_callF Try.call62 rfl) (F62 i_lv) rfl ?_
    rintro r_14 w_15 hx_16 rfl
    have hS := hS.ext hx_16
    refine Wx.nil ?_
    refine W.cond rfl (fun c1 => ?_) (fun c1 => ?_)
    · -- yes
      try simp only [Bool.and_eq_true, Bool.or_eq_true, Bool.not_eq_true', Bool.and_eq_false_iff, Bool.or_eq_false_iff, Bool.not_eq_false', decide_eq_true_eq, decide_eq_false_iff_not, not_or, Bool.false_eq_true, Bool.true_eq_false, false_or, or_false, not_false_eq_true] at c1
      refine W.seq ?_
      refine W.reg ?_
      refine Wx.rd (v := .agg #[.int .i64 0, .int .i64 0, .int .i64 0, .int .i64 0, .int .i64 0, .int .i64 0, .int .i64 0, .int .i64 0, .int .i64 0, .int .i64 0, .int .i64 0, .int .i64 0, .int .i64 0, .int .i64 0, .int .i64 0, .int .i64 0, .int .i64 0, .int .i64 0, .int .i64 0, .int .i64 0, .int .i64 0, .int .i64 0, .int .i64 0, .int .i64 0, .int .i64 0, .int .i64 0, .int .i64 0, .int .i64 0, .int .i64 0, .int .i64 0, .int .i64 0, .int .i64 0, .int .i64 0, .int .i64 0, .int .i64 0, .int .i64 0, .int .i64 0]) (rd_build (vs := []) rfl (by kernel_rfl)) rfl ?_
      refine Wx.storeX (cs' := List.map (Value.int .i64) (List.replicate 37 (0 : Int))) (ds := List.map (Value.int .i64) (List.replicate 37 (0 : Int))) hS 0 rfl rfl rfl rfl (fun w' => by rw [List.length_map, show List.length (List.replicate 37 (0 : Int)) = 37 by first | omega | (simp; omega) | simp]; exact Try.sizeOf83 w') (by first | (simp; omega) | simp) (by intro u hu; obtain ⟨_, _, rfl⟩ := List.mem_map.1 hu; rfl) (by rw [List.take_zero, List.nil_append, List.drop_of_length_le (by first | (simp; omega) | simp), List.append_nil]) (fun w_17 hz_18 hS => ?_)
      refine Wx.rd (v := .int .i64 1) (rd_assign rfl) rfl ?_
      refine Wx.nil ?_
      have e1_1 : (levelE R C H lv) = (1 : Int) := by rw [levelE, if_pos h0c, if_neg (fun q => by rw [badH_iff.2 q] at c1; cases c1)]
      exact W.ret ⟨.tuple #[.agg (List.map (Value.int .i64) (List.replicate 37 (0 : Int))).toArray, .int .i64 1], (ResIs.cell2 hS 0 rfl rfl Try.isAgg83 (fun w' => by rw [List.length_map, show List.length (List.replicate 37 (0 : Int)) = 37 by first | omega | (simp; omega) | simp]; exact Try.sizeOf83 w')), hS.bel, ⟨(List.replicate 37 (0 : Int)), (by exact ⟨by simp, fun q => by obtain ⟨_, q1, q2⟩ := level_ok q; rw [badH_iff.2 ⟨q1, q2⟩] at c1; cases c1⟩), (by rw [e1_1])⟩⟩
    · -- no
      try simp only [Bool.and_eq_true, Bool.or_eq_true, Bool.not_eq_true', Bool.and_eq_false_iff, Bool.or_eq_false_iff, Bool.not_eq_false', decide_eq_true_eq, decide_eq_false_iff_not, not_or, Bool.false_eq_true, Bool.true_eq_false, false_or, or_false, not_false_eq_true] at c1
      have hlv := badH_iff.1 c1
      have h0l : levelE R C H lv = 0 := by rw [levelE, if_pos h0c, if_pos hlv]
      refine W.skip ?_
      refine W.seq ?_
      refine W.reg ?_
      refine Wx.rd (v := .agg #[.int .i64 R, .int .i64 C, hv]) (rd_loadXs (ds := [.int .i64 R, .int .i64 C, hv]) hS 1 rfl rfl rfl rfl Try.isAgg24 Try.sizeOf24) rfl ?_
      refine Wx.callF (run_callF Try.call55 rfl) (F55 i_R i_C (hS.arg a_hv) p_ok hS.fb_lt) rfl ?_
      rintro r_20 w_21 hx_22 ⟨l_19, hex, rfl⟩
      have hS := hS.ext hx_22
      refine Wx.alloc (cs := List.map (Value.int .i64) (List.replicate 37 (0 : Int))) hS Try.zeroValue83 (by kernel_rfl) rfl (fun g_23 w_24 hx_26 hb_25 hS => ?_)
      have hS : St _ _ w_24 [.box g_23 83 (List.map (Value.int .i64) (List.replicate 37 (0 : Int))), .box g_5 83 (List.map (Value.int .i64) (List.replicate 37 (0 : Int))), .box g_1 24 [.int .i64 R, .int .i64 C, hv]] := hS
      refine Wx.storeX (cs' := List.map (Value.int .i64) l_19) (ds := List.map (Value.int .i64) l_19) hS 0 rfl rfl rfl rfl (fun w' => by rw [List.length_map, show List.length l_19 = 37 by first | omega | (simp; omega) | simp]; exact Try.sizeOf83 w') (by first | (simp; omega) | simp) (by intro u hu; obtain ⟨_, _, rfl⟩ := List.mem_map.1 hu; rfl) (by rw [List.take_zero, List.nil_append, List.drop_of_length_le (by first | (simp; omega) | simp), List.append_nil]) (fun w_27 hz_28 hS => ?_)
      refine Wx.nil ?_
      refine W.seq ?_
      refine W.seq ?_
      refine W.reg ?_
      refine Wx.rd (v := .pointer (some ⟨g_1, 2, none⟩)) (rd_fieldAddr rfl foLd_24_2) rfl ?_
      refine Wx.rd (v := hv) (rd_loadX hS 2 rfl rfl rfl Try.isAgg22) rfl ?_
      refine Wx.rd (v := .int .i64 (H.length : Int)) (rd_lenV rfl (hS.arg a_hv) Try.underlying22) rfl ?_
      refine Wx.rd (v := .int .i64 0) (rd_move rfl) rfl ?_
      refine Wx.nil ?_
      refine W.block ?_
      refine W.loop [8, 9, 24, 25, 26, 27, 28, 29, 30, 31, 32, 33, 34, 35, 36, 37, 38] (fun x : Int × (List Int) => match x with | (k, y1) => [(24, .int .i64 k)]) (fun (x : Int × (List Int)) w' => match x with | (k, y1) => St w O w' [.box g_23 83 (List.map (Value.int .i64) y1), .box g_5 83 (List.map (Value.int .i64) (List.replicate 37 (0 : Int))), .box g_1 24 [.int .i64 R, .int .i64 C, hv]] ∧ 0 ≤ k ∧ k ≤ H.length ∧ (∀ x, 0 ≤ x → x < (H.length : Int) → ix 0 y1 x = if x < k then depthV C H lv x else sillV C H x) ∧ y1.length = 37) (fun x : Int × (List Int) => match x with | (k, y1) => (H.length - k).toNat) (0, l_19) ⟨rfl, trivial⟩ ⟨hS, (by first | omega | simp), (by first | omega | simp), (fun x x0 x1 => by rw [if_neg (by omega)]; exact hex.2 x x0 x1), (hex.1)⟩ ?_
      rintro ⟨k, y1⟩ u_30 w_29 ⟨hS, h0, h1, h2, h3⟩
      refine W.seq ?_
      refine W.reg ?_
      refine Wx.rd (v := .bool (decide (k < (H.length : Int)))) (rd_lss rfl rfl) rfl ?_
      refine Wx.nil ?_
      refine W.seq ?_
      refine W.condD rfl (fun c2 => ?_) (fun c2 => ?_)
      · -- yes
        have hsk := p_ok.sill h0 c2
        have hak := p_ok.at h0 c2
        have hyk := h2 k h0 c2
        rw [if_neg (by omega)] at hyk
        refine W.skip ?_
        refine W.seq ?_
        refine W.block ?_
        refine W.seq ?_
        refine W.reg ?_
        refine Wx.rd (v := .int .i64 k) (rd_move rfl) rfl ?_
        refine Wx.ex (rd_index 0 (hS.arg a_hv) rfl rfl Try.underlying22 Try.sizeOf3 (by first | omega | (simp only [List.length_set, List.length_append, List.length_cons, List.length_nil, List.length_replicate]; omega)) (by first | omega | (simp only [List.length_set, List.length_append, List.length_cons, List.length_nil, List.length_replicate]; omega))) rfl (fun p_31 hp_32 => ?_)
        refine Wx.rd (v := .int .i64 (ix 0 H k)) (rd_loadI hp_32 rfl Try.isAgg3 Try.sizeOf3) rfl ?_
        have bd_33 := bd_i64 hp_32.inK
        refine Wx.rd (v := .int .i64 k) (rd_assign rfl) rfl ?_
        refine Wx.rd (v := .int .i64 (ix 0 H k)) (rd_assign rfl) rfl ?_
        refine Wx.nil ?_
        refine W.reg ?_
        refine Wx.rd (v := .int .i64 k) (rd_move rfl) rfl ?_
        refine Wx.rd (v := .int .i64 k) (rd_move rfl) rfl ?_
        refine Wx.rd (v := .pointer (some ⟨g_23, 0 + k.toNat * 1, none⟩)) (rd_indexArr rfl rfl Try.underlying83 Try.sizeOf3 (by omega) (by omega)) rfl ?_
        refine Wx.rd (v := .int .i64 (ix 0 y1 k)) (rd_loadXa (d := 0) (f := (Value.int .i64)) (j := k) hS 0 rfl rfl (by omega) (by omega) (by omega) Try.isAgg3) rfl ?_
        refine Wx.rd (v := .int .i64 lv) (rd_move rfl) rfl ?_
        refine Wx.rd (v := .int .i64 (max (ix 0 y1 k) lv)) (rd_max rfl rfl) rfl ?_
        refine Wx.rd (v := .int .i64 (ix 0 H k)) (rd_move rfl) rfl ?_
        refine Wx.rd (v := .int .i64 ((max (ix 0 y1 k) lv) - (ix 0 H k))) (rd_sub rfl rfl (in_i64 (by omega) (by omega))) rfl ?_
        refine Wx.rd (v := .pointer (some ⟨g_23, 0 + k.toNat * 1, none⟩)) (rd_indexArr rfl rfl Try.underlying83 Try.sizeOf3 (by omega) (by omega)) rfl ?_
        refine Wx.storeXa (j := k) (f := (Value.int .i64)) (u := ((max (ix 0 y1 k) lv) - (ix 0 H k))) hS 0 rfl rfl (by omega) rfl rfl rfl Try.sizeOf3 (by omega) (by omega) (fun w_34 hz_35 hS => ?_)
        refine Wx.nil ?_
        refine W.reg ?_
        refine Wx.rd (v := .int .i64 (k + 1)) (rd_add rfl rfl (in_i64 (by omega) (by omega))) rfl ?_
        refine Wx.rd (v := .int .i64 (k + 1)) (rd_move rfl) rfl ?_
        refine Wx.nil ?_
        refine ⟨(k + 1, List.set y1 k.toNat ((max (ix 0 y1 k) lv) - (ix 0 H k))), (by show (H.length - (k + 1)).toNat < (H.length - k).toNat; omega), ?_, ?_, Out.look rfl Out.self⟩
        · exact ⟨hS, (by first | omega | assumption), (by first | omega | assumption), (dep_step p_ok h2 h0 c2 h3), (by simp only [List.length_set]; exact h3)⟩
        · exact ⟨rfl, trivial⟩
      · -- no
        refine W.exit rfl ?_
        refine W.seq ?_
        refine W.reg ?_
        refine Wx.rd (v := .agg (List.map (Value.int .i64) y1).toArray) (rd_loadXs (ds := List.map (Value.int .i64) y1) hS 0 rfl rfl (by rw [List.drop_zero, List.take_of_length_le (by simp; omega)]) (by simp; omega) Try.isAgg83 Try.sizeOf83) rfl ?_
        refine Wx.storeX (cs' := List.map (Value.int .i64) y1) (ds := List.map (Value.int .i64) y1) hS 1 rfl rfl rfl rfl (fun w' => by rw [List.length_map, show List.length y1 = 37 by first | omega | (simp; omega) | simp]; exact Try.sizeOf83 w') (by first | (simp; omega) | simp) (by intro u hu; obtain ⟨_, _, rfl⟩ := List.mem_map.1 hu; rfl) (by rw [List.take_zero, List.nil_append, List.drop_of_length_le (by first | (simp; omega) | simp), List.append_nil]) (fun w_36 hz_37 hS => ?_)
        refine Wx.rd (v := .int .i64 0) (rd_assign rfl) rfl ?_
        refine Wx.nil ?_
        have e2_1 : (levelE R C H lv) = (0 : Int) := by exact h0l
        exact W.ret ⟨.tuple #[.agg (List.map (Value.int .i64) y1).toArray, .int .i64 0], (ResIs.cell2 hS 1 rfl rfl Try.isAgg83 (fun w' => by rw [List.length_map, show List.length y1 = 37 by first | omega | (simp; omega) | simp]; exact Try.sizeOf83 w')), hS.bel, ⟨y1, (by exact ⟨h3, fun _ x x0 x1 => by rw [h2 x x0 x1, if_pos (by omega)]⟩), (by rw [e2_1])⟩⟩

theorem F19 {R : Int} {C : Int} {hv : Value} {H : List Int} {lv : Int} {O : List (Option Nat)} {w : World} (i_R : InK .i64 R) (i_C : InK .i64 C) (h_hv : V (tSl (tI .i64)) H hv O w) (i_lv : InK .i64 lv) (hO : ∀ b, some b ∈ O → b < w.heap.size) : Calls Try.prog 19 #[.agg #[.int .i64 R, .int .i64 C, hv], .int .i64 lv] w (Ret w (fun r w' => ∃ rv, r = .tuple #[rv, .int .i64 (levelE R C H lv)] ∧ Fresh (tI .i64) 3 (depthsE R C H lv) rv w.heap.size w')) := by
  have b_lv := bd_i64 i_lv
  have b_C := bd_i64 i_C
  have b_R := bd_i64 i_R
  have a_hv := h_hv
  have l_hv := h_hv.len63
  have hS := St.start w O hO
  refine enterR Try.func19 rfl Try.ntmps19 Try.results19 rfl ?_
  refine W.seq ?_
  refine W.reg ?_
  refine Wx.box (cs := [.int .i64 R, .int .i64 C, hv]) hS rfl rfl rfl (fun g_1 w_2 hx_4 hb_3 hS => ?_)
  refine Wx.rd (v := (.slice none 0 0)) (rd_assign rfl) rfl ?_
  refine Wx.rd (v := .int .i64 0) (rd_assign rfl) rfl ?_
  refine Wx.nil ?_
  refine W.seq ?_
  refine W.reg ?_
  refine Wx.rd (v := .agg #[.int .i64 R, .int .i64 C, hv]) (rd_loadXs (ds := [.int .i64 R, .int .i64 C, hv]) hS 0 rfl rfl rfl rfl Try.isAgg24 Try.sizeOf24) rfl ?_
  refine Wx.rd (v := .int .i64 lv) (rd_move rfl) rfl ?_
  refine Wx.callF (run_callF Try.call58 rfl) (F58 i_R i_C (hS.arg a_hv) i_lv hS.fb_lt) rfl ?_
  rintro r_6 w_7 hx_8 ⟨l_5, hex, rfl⟩
  have hS := hS.ext hx_8
  refine Wx.rd (v := .tuple #[.agg (List.map (Value.int .i64) l_5).toArray, .int .i64 (levelE R C H lv)]) (rd_move rfl) rfl ?_
  refine Wx.rd (v := .agg (List.map (Value.int .i64) l_5).toArray) (rd_extract rfl rfl) rfl ?_
  refine Wx.rd (v := .int .i64 (levelE R C H lv)) (rd_extract rfl rfl) rfl ?_
  refine Wx.alloc (cs := List.map (Value.int .i64) (List.replicate 37 (0 : Int))) hS Try.zeroValue83 (by kernel_rfl) rfl (fun g_9 w_10 hx_12 hb_11 hS => ?_)
  have hS : St _ _ w_10 [.box g_9 83 (List.map (Value.int .i64) (List.replicate 37 (0 : Int))), .box g_1 24 [.int .i64 R, .int .i64 C, hv]] := hS
  refine Wx.storeX (cs' := List.map (Value.int .i64) l_5) (ds := List.map (Value.int .i64) l_5) hS 0 rfl rfl rfl rfl (fun w' => by rw [List.length_map, show List.length l_5 = 37 by first | omega | (simp; omega) | simp]; exact Try.sizeOf83 w') (by first | (simp; omega) | simp) (by intro u hu; obtain ⟨_, _, rfl⟩ := List.mem_map.1 hu; rfl) (by rw [List.take_zero, List.nil_append, List.drop_of_length_le (by first | (simp; omega) | simp), List.append_nil]) (fun w_13 hz_14 hS => ?_)
  refine Wx.rd (v := .int .i64 (levelE R C H lv)) (rd_assign rfl) rfl ?_
  refine Wx.nil ?_
  refine W.seq ?_
  refine W.seq ?_
  refine W.reg ?_
  refine Wx.rd (v := .int .i64 (levelE R C H lv)) (rd_move rfl) rfl ?_
  refine Wx.rd (v := .bool (decide ((levelE R C H lv) ≠ 0))) (rd_neq rfl rfl) rfl ?_
  refine Wx.nil ?_
  refine W.condD rfl (fun c0 => ?_) (fun c0 => ?_)
  · -- yes
    refine W.seq ?_
    refine W.reg ?_
    refine Wx.rd (v := .int .i64 (levelE R C H lv)) (rd_move rfl) rfl ?_
    refine Wx.rd (v := (.slice none 0 0)) (rd_assign rfl) rfl ?_
    refine Wx.rd (v := .int .i64 (levelE R C H lv)) (rd_assign rfl) rfl ?_
    refine Wx.nil ?_
    have e0_0 : depthsE R C H lv = [] := by rw [depthsE, if_neg c0]
    exact W.ret ⟨.tuple #[(.slice none 0 0), .int .i64 (levelE R C H lv)], ResIs.two, hS.bel, ⟨(.slice none 0 0), rfl, (by rw [e0_0]; exact ((hS.addNil (tI .i64) 3).fr 0 rfl flat_int))⟩⟩
  · -- no
    have h0l : levelE R C H lv = 0 := by omega
    obtain ⟨h0c, hw0, hw1⟩ := level_ok h0l
    have p_ok := SOK.of h0c
    obtain ⟨⟨r1, r2⟩, ⟨c1_, c2_⟩, hRC, ⟨n1, n36⟩, hCn, hok⟩ := id p_ok
    refine W.skip ?_
    refine W.seq ?_
    refine W.reg ?_
    refine Wx.rd (v := .agg #[.int .i64 R, .int .i64 C, hv]) (rd_loadXs (ds := [.int .i64 R, .int .i64 C, hv]) hS 1 rfl rfl rfl rfl Try.isAgg24 Try.sizeOf24) rfl ?_
    refine Wx.callF (run_callF Try.call56 rfl) (F56 i_R i_C (hS.arg a_hv)) rfl ?_
    rintro r_15 w_16 hx_17 rfl
    have hS := hS.ext hx_17
    refine Wx.rd (v := (.slice (some ⟨g_9, 0, none⟩) (H.length : Int).toNat 37)) (rd_sliceArrH (m := 37) Try.underlying83 Try.sizeOf3 rfl rfl (by omega) (by omega)) rfl ?_
    have hS := hS.sliceBox (o := 0) (k := .i64) (m := (H.length : Int).toNat) (xs := List.take (H.length : Int).toNat l_5) (cap := 37) 0 rfl (by exact take_map_take (Value.int .i64) l_5 _) (kn_in (f := depthV C H lv) (by omega) (hex.2 h0l) (fun x x0 x1 => by have := depth_nn p_ok (w := lv) x0 x1; omega)) (by simp; omega) (by omega) (by decide)
    have hS := hS.add (t := tSl (tI .i64)) (x := depthsL C H lv) (v := .slice (some ⟨g_9, 0, none⟩) (H.length : Int).toNat 37) (by have q := (hS.v 0 rfl); rw [show List.take (H.length : Int).toNat l_5 = depthsL C H lv from take_map (by omega) (by omega) (hex.2 h0l)] at q; exact q)
    refine Wx.callF (run_callF Try.call45 rfl) (F45 (hS.v 0 rfl) (by have := rng_length (i := 0) (n := H.length) (by omega); simp [depthsL]; omega)) rfl ?_
    rintro r_19 w_20 hx_21 ⟨_, rfl, hv_22⟩
    have hS := hS.pushFr hx_21 hv_22
    refine Wx.rd (v := r_19) (rd_assign rfl) rfl ?_
    refine Wx.rd (v := .int .i64 0) (rd_assign rfl) rfl ?_
    refine Wx.nil ?_
    have e1_0 : depthsE R C H lv = (depthsL C H lv) := by rw [depthsE, if_pos h0l]
    have e1_1 : (levelE R C H lv) = (0 : Int) := by exact h0l
    exact W.ret ⟨.tuple #[r_19, .int .i64 0], ResIs.two, hS.bel, ⟨r_19, (by rw [e1_1]), (by rw [e1_0]; exact (hS.fr 0 rfl flat_int))⟩⟩

set_option maxHeartbeats 1000000 in
theorem F24 {R : Int} {C : Int} {hv : Value} {H : List Int} {lv : Int} {O : List (Option Nat)} {w : World} (i_R : InK .i64 R) (i_C : InK .i64 C) (h_hv : V (tSl (tI .i64)) H hv O w) (i_lv : InK .i64 lv) (hO : ∀ b, some b ∈ O → b < w.heap.size) : Calls Try.prog 24 #[.agg #[.int .i64 R, .int .i64 C, hv], .int .i64 lv] w (Ret w (fun r w' => ∃ rv, r = .tuple #[rv, .int .i64 (levelE R C H lv)] ∧ Fresh (tI .i64) 3 (bareE R C H lv) rv w.heap.size w')) := by
  have b_lv := bd_i64 i_lv
  have b_C := bd_i64 i_C
  have b_R := bd_i64 i_R
  have a_hv := h_hv
  have l_hv := h_hv.len63
  have hS := St.start w O hO
  refine enterR Try.func24 rfl Try.ntmps24 Try.results24 rfl ?_
  refine W.seq ?_
  refine W.reg ?_
  refine Wx.box (cs := [.int .i64 R, .int .i64 C, hv]) hS rfl rfl rfl (fun g_1 w_2 hx_4 hb_3 hS => ?_)
  refine Wx.rd (v := (.slice none 0 0)) (rd_assign rfl) rfl ?_
  refine Wx.rd (v := .int .i64 0) (rd_assign rfl) rfl ?_
  refine Wx.nil ?_
  refine W.seq ?_
  refine W.reg ?_
  refine Wx.rd (v := .agg #[.int .i64 R, .int .i64 C, hv]) (rd_loadXs (ds := [.int .i64 R, .int .i64 C, hv]) hS 0 rfl rfl rfl rfl Try.isAgg24 Try.sizeOf24) rfl ?_
  refine Wx.rd (v := .int .i64 lv) (rd_move rfl) rfl ?_
  refine Wx.callF (run_callF Try.call58 rfl) (F58 i_R i_C (hS.arg a_hv) i_lv hS.fb_lt) rfl ?_
  rintro r_6 w_7 hx_8 ⟨l_5, hex, rfl⟩
  have hS := hS.ext hx_8
  refine Wx.rd (v := .tuple #[.agg (List.map (Value.int .i64) l_5).toArray, .int .i64 (levelE R C H lv)]) (rd_move rfl) rfl ?_
  refine Wx.rd (v := .agg (List.map (Value.int .i64) l_5).toArray) (rd_extract rfl rfl) rfl ?_
  refine Wx.rd (v := .int .i64 (levelE R C H lv)) (rd_extract rfl rfl) rfl ?_
  refine Wx.alloc (cs := List.map (Value.int .i64) (List.replicate 37 (0 : Int))) hS Try.zeroValue83 (by kernel_rfl) rfl (fun g_9 w_10 hx_12 hb_11 hS => ?_)
  have hS : St _ _ w_10 [.box g_9 83 (List.map (Value.int .i64) (List.replicate 37 (0 : Int))), .box g_1 24 [.int .i64 R, .int .i64 C, hv]] := hS
  refine Wx.storeX (cs' := List.map (Value.int .i64) l_5) (ds := List.map (Value.int .i64) l_5) hS 0 rfl rfl rfl rfl (fun w' => by rw [List.length_map, show List.length l_5 = 37 by first | omega | (simp; omega) | simp]; exact Try.sizeOf83 w') (by first | (simp; omega) | simp) (by intro u hu; obtain ⟨_, _, rfl⟩ := List.mem_map.1 hu; rfl) (by rw [List.take_zero, List.nil_append, List.drop_of_length_le (by first | (simp; omega) | simp), List.append_nil]) (fun w_13 hz_14 hS => ?_)
  refine Wx.rd (v := .int .i64 (levelE R C H lv)) (rd_assign rfl) rfl ?_
  refine Wx.nil ?_
  refine W.seq ?_
  refine W.reg ?_
  refine Wx.rd (v := (.slice none 0 0)) (rd_assign rfl) rfl ?_
  refine Wx.nil ?_
  refine W.seq ?_
  refine W.seq ?_
  refine W.reg ?_
  refine Wx.rd (v := .pointer (some ⟨g_1, 2, none⟩)) (rd_fieldAddr rfl foLd_24_2) rfl ?_
  refine Wx.rd (v := hv) (rd_loadX hS 1 rfl rfl rfl Try.isAgg22) rfl ?_
  refine Wx.rd (v := .int .i64 (H.length : Int)) (rd_lenV rfl (hS.arg a_hv) Try.underlying22) rfl ?_
  refine Wx.rd (v := .int .i64 0) (rd_move rfl) rfl ?_
  refine Wx.nil ?_
  refine W.block ?_
  have hS := hS.addNil (tI .i64) 3
  refine W.loop [8, 9, 19, 20, 21, 22, 23, 24, 25, 26, 27, 28, 29, 30, 31, 32, 33, 34] (fun x : Int × Value × (List Int) => match x with | (k, ov, out) => [(19, .int .i64 k), (8, ov)]) (fun (x : Int × Value × (List Int)) w' => match x with | (k, ov, out) => St w O w' [.row (tI .i64) 3 ov out, .box g_9 83 (List.map (Value.int .i64) l_5), .box g_1 24 [.int .i64 R, .int .i64 C, hv]] ∧ 0 ≤ k ∧ k ≤ H.length ∧ out = bareK R C H lv k ∧ (out.length : Int) ≤ k) (fun x : Int × Value × (List Int) => match x with | (k, ov, out) => (H.length - k).toNat) (0, (.slice none 0 0), []) ⟨rfl, rfl, trivial⟩ ⟨hS, (by first | omega | simp), (by first | omega | simp), (by rw [bareK]; split <;> rfl), (by decide)⟩ ?_
  rintro ⟨k, ov, out⟩ u_16 w_15 ⟨hS, h0, h1, h2, h3⟩
  refine W.seq ?_
  refine W.reg ?_
  refine Wx.rd (v := .bool (decide (k < (H.length : Int)))) (rd_lss rfl rfl) rfl ?_
  refine Wx.nil ?_
  refine W.seq ?_
  refine W.condD rfl (fun c0 => ?_) (fun c0 => ?_)
  · -- yes
    have hgn : levelE R C H lv = 0 → (H.length : Int) ≤ 36 := fun q => (SOK.of (level_ok q).1).n.2
    refine W.skip ?_
    refine W.seq ?_
    refine W.block ?_
    refine W.seq ?_
    refine W.reg ?_
    refine Wx.rd (v := .int .i64 k) (rd_move rfl) rfl ?_
    refine Wx.rd (v := .int .i64 k) (rd_assign rfl) rfl ?_
    refine Wx.nil ?_
    refine W.seq ?_
    refine W.reg ?_
    refine Wx.rd (v := .int .i64 (levelE R C H lv)) (rd_move rfl) rfl ?_
    refine Wx.rd (v := .bool (decide ((levelE R C H lv) = 0))) (rd_eql rfl rfl) rfl ?_
    refine Wx.rd (v := .bool (decide ((levelE R C H lv) = 0))) (rd_move rfl) rfl ?_
    refine Wx.cut (X := Unit) 5 [25, 26, 27, 28, 29] (fun _ => [(29, .bool (decide ((levelE R C H lv) = 0) && decide ((ix 0 l_5 k) = 0)))]) (fun _ w' => St w O w' [.row (tI .i64) 3 ov out, .box g_9 83 (List.map (Value.int .i64) l_5), .box g_1 24 [.int .i64 R, .int .i64 C, hv]]) ?_ ?_
    · rcases Bool.eq_false_or_eq_true (decide ((levelE R C H lv) = 0)) with g_17 | g_17
      · -- True
        have gp_18 := of_decide_eq_true g_17
        refine Wx.gyes rfl rfl (congrArg Value.bool g_17) ?_
        refine Wx.rd (v := .int .i64 k) (rd_move rfl) rfl ?_
        refine Wx.gyes rfl rfl (congrArg Value.bool g_17) ?_
        refine Wx.rd (v := .pointer (some ⟨g_9, 0 + k.toNat * 1, none⟩)) (rd_indexArr rfl rfl Try.underlying83 Try.sizeOf3 (by omega) (by omega)) rfl ?_
        refine Wx.gyes rfl rfl (congrArg Value.bool g_17) ?_
        refine Wx.rd (v := .int .i64 (ix 0 l_5 k)) (rd_loadXa (d := 0) (f := (Value.int .i64)) (j := k) hS 1 rfl rfl (by omega) (by omega) (by omega) Try.isAgg3) rfl ?_
        refine Wx.gyes rfl rfl (congrArg Value.bool g_17) ?_
        refine Wx.rd (v := .bool (decide ((ix 0 l_5 k) = 0))) (rd_eql rfl rfl) rfl ?_
        refine Wx.rd (v := .bool (decide ((ix 0 l_5 k) = 0))) (rd_pickT (congrArg Value.bool g_17) rfl) rfl ?_
        refine Wx.nil ⟨(), hS, ⟨?_, trivial⟩, Out.look rfl Out.refl⟩
        show Value.bool (decide ((ix 0 l_5 k) = 0)) = Value.bool (decide ((levelE R C H lv) = 0) && decide ((ix 0 l_5 k) = 0))
        first | rw [g_17, Bool.true_and] | (rw [g_17]; rfl)
      · -- False
        have gp_19 := of_decide_eq_false g_17
        refine Wx.gnoB rfl rfl (congrArg Value.bool g_17) rfl rfl ?_
        refine Wx.gnoB rfl rfl (congrArg Value.bool g_17) rfl rfl ?_
        refine Wx.gnoB rfl rfl (congrArg Value.bool g_17) rfl rfl ?_
        refine Wx.gnoB rfl rfl (congrArg Value.bool g_17) rfl rfl ?_
        refine Wx.rd (v := .bool false) (rd_pickF (congrArg Value.bool g_17) rfl) rfl ?_
        refine Wx.nil ⟨(), hS, ⟨?_, trivial⟩, Out.look rfl Out.refl⟩
        show Value.bool false = Value.bool (decide ((levelE R C H lv) = 0) && decide ((ix 0 l_5 k) = 0))
        first | rw [g_17, Bool.false_and] | (rw [g_17]; rfl)
    rintro ⟨⟩ u_21 w_20 hS
    refine Wx.nil ?_
    refine W.cond rfl (fun c1 => ?_) (fun c1 => ?_)
    · -- yes
      try simp only [Bool.and_eq_true, Bool.or_eq_true, Bool.not_eq_true', Bool.and_eq_false_iff, Bool.or_eq_false_iff, Bool.not_eq_false', decide_eq_true_eq, decide_eq_false_iff_not, not_or, Bool.false_eq_true, Bool.true_eq_false, false_or, or_false, not_false_eq_true] at c1
      refine W.reg ?_
      refine Wx.rd (v := ov) (rd_move rfl) rfl ?_
      refine Wx.rd (v := .int .i64 k) (rd_move rfl) rfl ?_
      refine Wx.lit (t := (tI .i64)) (ys := [k]) (vs := [.int .i64 k]) elLd_22 hS rfl rfl ⟨(V.mkInt (in_i64 (by omega) (by omega))), trivial⟩ (by decide) rfl (fun v_22 w_23 hx_24 hS => ?_)
      refine Wx.append elLd_22 hS 1 rfl rfl rfl (Src.ofR hS 0 rfl) (by simp only [maxLen]; first | omega | (simp; omega) | simp) (by first | omega | (simp; omega) | simp) rfl (fun v_25 w_26 hz_27 hS => ?_)
      refine Wx.rd (v := v_25) (rd_assign rfl) rfl ?_
      refine Wx.nil ?_
      refine W.reg ?_
      refine Wx.rd (v := .int .i64 (k + 1)) (rd_add rfl rfl (in_i64 (by omega) (by omega))) rfl ?_
      refine Wx.rd (v := .int .i64 (k + 1)) (rd_move rfl) rfl ?_
      refine Wx.nil ?_
      refine ⟨(k + 1, v_25, out ++ [k]), (by show (H.length - (k + 1)).toNat < (H.length - k).toNat; omega), ?_, ?_, Out.look rfl (Out.hav rfl (Out.look rfl Out.self))⟩
      · exact ⟨hS.tl, (by first | omega | assumption), (by first | omega | assumption), (by rw [bareK_yes h0 c0 c1.1 c1.2 (hex.2 c1.1 k h0 c0), ← h2]), (by simp only [List.length_append, List.length_cons, List.length_nil]; omega)⟩
      · exact ⟨rfl, rfl, trivial⟩
    · -- no
      try simp only [Bool.and_eq_true, Bool.or_eq_true, Bool.not_eq_true', Bool.and_eq_false_iff, Bool.or_eq_false_iff, Bool.not_eq_false', decide_eq_true_eq, decide_eq_false_iff_not, not_or, Bool.false_eq_true, Bool.true_eq_false, false_or, or_false, not_false_eq_true] at c1
      refine W.skip ?_
      refine W.reg ?_
      refine Wx.rd (v := .int .i64 (k + 1)) (rd_add rfl rfl (in_i64 (by omega) (by omega))) rfl ?_
      refine Wx.rd (v := .int .i64 (k + 1)) (rd_move rfl) rfl ?_
      refine Wx.nil ?_
      refine ⟨(k + 1, ov, out), (by show (H.length - (k + 1)).toNat < (H.length - k).toNat; omega), ?_, ?_, Out.look rfl (Out.hav rfl (Out.look rfl Out.self))⟩
      · exact ⟨hS, (by first | omega | assumption), (by first | omega | assumption), (by rw [bareK_no h0 c0 (fun q => by rcases c1 with c | c; exact absurd q c; exact c) (fun q => hex.2 q k h0 c0)]; exact h2), (by first | omega | assumption)⟩
      · exact ⟨rfl, rfl, trivial⟩
  · -- no
    refine W.exit rfl ?_
    refine W.seq ?_
    refine W.reg ?_
    refine Wx.rd (v := ov) (rd_move rfl) rfl ?_
    refine Wx.rd (v := .int .i64 (levelE R C H lv)) (rd_move rfl) rfl ?_
    refine Wx.rd (v := ov) (rd_assign rfl) rfl ?_
    refine Wx.rd (v := .int .i64 (levelE R C H lv)) (rd_assign rfl) rfl ?_
    refine Wx.nil ?_
    have e0_0 : bareE R C H lv = out := by rw [h2]; exact (bareK_end (by omega)).symm
    exact W.ret ⟨.tuple #[ov, .int .i64 (levelE R C H lv)], ResIs.two, hS.bel, ⟨ov, rfl, (by rw [e0_0]; exact (hS.fr 0 rfl flat_int))⟩⟩
end Go.Proofs.Ytjhimoeodkaihaa

namespace Go.Proofs.Ytjhimoeodkaihaa
open Go.Wk Go.RowKit Go.Lib
set_option linter.unusedVariables false
set_option linter.unusedSimpArgs false


theorem X113 {x : Int} {w : World} (i_x : InK .i64 x) : Calls Try.prog 113 #[.int .i64 x] w (Bk fun r w' => r = .bool false ∧ w' = w) := by
  have b_x := bd_i64 i_x
  have hS := St.start0 w
  refine enterB Try.func113 rfl Try.ntmps113 Try.results113 rfl ?_
  refine W.seq ?_
  refine W.reg ?_
  refine Wx.rd (v := .bool false) (rd_assign rfl) rfl ?_
  refine Wx.nil ?_
  refine W.seq ?_
  refine W.reg ?_
  refine Wx.rd (v := .int .i64 x) (rd_move rfl) rfl ?_
  refine Wx.rd (v := .int .i64 x) (rd_move rfl) rfl ?_
  refine Wx.rd (v := .bool (decide (x ≠ x))) (rd_neq rfl rfl) rfl ?_
  refine Wx.rd (v := .bool (decide (x ≠ x))) (rd_assign rfl) rfl ?_
  refine Wx.nil ?_
  have e0_0 : (decide (x ≠ x)) = false := by simp
  exact W.ret ⟨.bool (decide (x ≠ x)), ResIs.one, (by rw [e0_0]), rfl⟩

theorem X107 {x : Int} {y : Int} {w : World} (i_x : InK .i64 x) (i_y : InK .i64 y) : Calls Try.prog 107 #[.int .i64 x, .int .i64 y] w (Bk fun r w' => r = .int .i64 (cmpI x y) ∧ w' = w) := by
  have b_y := bd_i64 i_y
  have b_x := bd_i64 i_x
  have hS := St.start0 w
  refine enterB Try.func107 rfl Try.ntmps107 Try.results107 rfl ?_
  refine W.seq ?_
  refine W.reg ?_
  refine Wx.rd (v := .int .i64 0) (rd_assign rfl) rfl ?_
  refine Wx.nil ?_
  refine W.seq ?_
  refine W.reg ?_
  refine Wx.rd (v := .int .i64 x) (rd_move rfl) rfl ?_
  refine Wx.callB (run_callF Try.call113 rfl) (X113 i_x) rfl ?_
  rintro r_1 w_2 ⟨rfl, hw⟩; subst w_2
  refine Wx.rd (v := .bool false) (rd_assign rfl) rfl ?_
  refine Wx.nil ?_
  refine W.seq ?_
  refine W.reg ?_
  refine Wx.rd (v := .int .i64 y) (rd_move rfl) rfl ?_
  refine Wx.callB (run_callF Try.call113 rfl) (X113 i_y) rfl ?_
  rintro r_4 w_5 ⟨rfl, hw⟩; subst w_5
  refine Wx.rd (v := .bool false) (rd_assign rfl) rfl ?_
  refine Wx.nil ?_
  refine W.seq ?_
  refine W.seq ?_
  refine W.reg ?_
  refine Wx.rd (v := .bool false) (rd_move rfl) rfl ?_
  refine Wx.nil ?_
  refine W.condF rfl rfl ?_
  refine W.skip ?_
  refine W.seq ?_
  refine W.seq ?_
  refine W.reg ?_
  refine Wx.rd (v := .bool false) (rd_move rfl) rfl ?_
  refine Wx.nil ?_
  refine W.condF rfl rfl ?_
  refine W.skip ?_
  refine W.seq ?_
  refine W.seq ?_
  refine W.reg ?_
  refine Wx.rd (v := .int .i64 x) (rd_move rfl) rfl ?_
  refine Wx.rd (v := .int .i64 y) (rd_move rfl) rfl ?_
  refine Wx.rd (v := .bool (decide (x < y))) (rd_lss rfl rfl) rfl ?_
  refine Wx.nil ?_
  refine W.condD rfl (fun c2 => ?_) (fun c2 => ?_)
  · -- yes
    refine W.seq ?_
    refine W.reg ?_
    refine Wx.rd (v := .int .i64 (-1)) (rd_assign rfl) rfl ?_
    refine Wx.nil ?_
    have e0_0 : (cmpI x y) = (-1 : Int) := by rw [cmpI]; (repeat' split) <;> omega
    exact W.ret ⟨.int .i64 (-1), ResIs.one, (by rw [e0_0]), rfl⟩
  · -- no
    refine W.skip ?_
    refine W.seq ?_
    refine W.seq ?_
    refine W.reg ?_
    refine Wx.rd (v := .int .i64 x) (rd_move rfl) rfl ?_
    refine Wx.rd (v := .int .i64 y) (rd_move rfl) rfl ?_
    refine Wx.rd (v := .bool (decide (y < x))) (rd_gtr rfl rfl) rfl ?_
    refine Wx.nil ?_
    refine W.condD rfl (fun c3 => ?_) (fun c3 => ?_)
    · -- yes
      refine W.seq ?_
      refine W.reg ?_
      refine Wx.rd (v := .int .i64 1) (rd_assign rfl) rfl ?_
      refine Wx.nil ?_
      have e1_0 : (cmpI x y) = (1 : Int) := by rw [cmpI]; (repeat' split) <;> omega
      exact W.ret ⟨.int .i64 1, ResIs.one, (by rw [e1_0]), rfl⟩
    · -- no
      refine W.skip ?_
      refine W.seq ?_
      refine W.reg ?_
      refine Wx.rd (v := .int .i64 0) (rd_assign rfl) rfl ?_
      refine Wx.nil ?_
      have e2_0 : (cmpI x y) = (0 : Int) := by rw [cmpI]; (repeat' split) <;> omega
      exact W.ret ⟨.int .i64 0, ResIs.one, (by rw [e2_0]), rfl⟩

theorem X94 {xv : Value} {xs : List Int} {Fr_xv : List (Option Nat)} {yv : Value} {ys : List Int} {Fr_yv : List (Option Nat)} {w : World} (h_xv : V (tSl (tI .i64)) xs xv Fr_xv w) (h_yv : V (tSl (tI .i64)) ys yv Fr_yv w) : Calls Try.prog 94 #[xv, yv] w (Bk fun r w' => r = .int .i64 (cmpL xs ys) ∧ w' = w) := by
  have a_xv := h_xv.any
  have l_xv := h_xv.len63
  have a_yv := h_yv.any
  have l_yv := h_yv.len63
  have hS := St.start0 w
  refine enterB Try.func94 rfl Try.ntmps94 Try.results94 rfl ?_
  refine W.seq ?_
  refine W.reg ?_
  refine Wx.rd (v := .int .i64 0) (rd_assign rfl) rfl ?_
  refine Wx.nil ?_
  refine W.seq ?_
  refine W.seq ?_
  refine W.reg ?_
  refine Wx.rd (v := xv) (rd_move rfl) rfl ?_
  refine Wx.rd (v := .int .i64 (xs.length : Int)) (rd_lenV rfl (hS.arg a_xv) Try.underlying22) rfl ?_
  refine Wx.rd (v := .int .i64 0) (rd_move rfl) rfl ?_
  refine Wx.nil ?_
  refine W.block ?_
  refine W.loop [4, 5, 6, 7, 8, 11, 12, 13, 14, 15, 16, 17, 18, 19, 20, 21, 22, 23, 24, 25, 26, 27, 28, 29, 30] (fun (k : Int) => [(11, .int .i64 k)]) (fun (k : Int) w' => w' = w ∧ 0 ≤ k ∧ k ≤ xs.length ∧ cmpL (xs.drop k.toNat) (ys.drop k.toNat) = cmpL xs ys) (fun (k : Int) => (xs.length - k).toNat) 0 ⟨rfl, trivial⟩ ⟨rfl, (by first | omega | simp), (by first | omega | simp), (by simp)⟩ ?_
  rintro k u_2 w_1 ⟨hw, h0, h1, h2⟩; subst w_1
  refine W.seq ?_
  refine W.reg ?_
  refine Wx.rd (v := .bool (decide (k < (xs.length : Int)))) (rd_lss rfl rfl) rfl ?_
  refine Wx.nil ?_
  refine W.seq ?_
  refine W.condD rfl (fun c0 => ?_) (fun c0 => ?_)
  · -- yes
    refine W.skip ?_
    refine W.seq ?_
    refine W.block ?_
    refine W.seq ?_
    refine W.reg ?_
    refine Wx.rd (v := .int .i64 k) (rd_move rfl) rfl ?_
    refine Wx.ex (rd_index 0 (hS.arg a_xv) rfl rfl Try.underlying22 Try.sizeOf3 (by first | omega | (simp only [List.length_set, List.length_append, List.length_cons, List.length_nil, List.length_replicate]; omega)) (by first | omega | (simp only [List.length_set, List.length_append, List.length_cons, List.length_nil, List.length_replicate]; omega))) rfl (fun p_3 hp_4 => ?_)
    refine Wx.rd (v := .int .i64 (ix 0 xs k)) (rd_loadI hp_4 rfl Try.isAgg3 Try.sizeOf3) rfl ?_
    have bd_5 := bd_i64 hp_4.inK
    refine Wx.rd (v := .int .i64 k) (rd_assign rfl) rfl ?_
    refine Wx.rd (v := .int .i64 (ix 0 xs k)) (rd_assign rfl) rfl ?_
    refine Wx.nil ?_
    refine W.seq ?_
    refine W.seq ?_
    refine W.reg ?_
    refine Wx.rd (v := .int .i64 k) (rd_move rfl) rfl ?_
    refine Wx.rd (v := yv) (rd_move rfl) rfl ?_
    refine Wx.rd (v := .int .i64 (ys.length : Int)) (rd_lenV rfl (hS.arg a_yv) Try.underlying22) rfl ?_
    refine Wx.rd (v := .bool (decide ((ys.length : Int) ≤ k))) (rd_geq rfl rfl) rfl ?_
    refine Wx.nil ?_
    refine W.condD rfl (fun c1 => ?_) (fun c1 => ?_)
    · -- yes
      refine W.seq ?_
      refine W.reg ?_
      refine Wx.rd (v := .int .i64 1) (rd_assign rfl) rfl ?_
      refine Wx.nil ?_
      have e0_0 : (cmpL xs ys) = (1 : Int) := by exact cmpl_long h0 c0 (by omega) h2
      exact W.ret ⟨.int .i64 1, ResIs.one, (by rw [e0_0]), rfl⟩
    · -- no
      refine W.skip ?_
      refine W.seq ?_
      refine W.reg ?_
      refine Wx.rd (v := yv) (rd_move rfl) rfl ?_
      refine Wx.rd (v := .int .i64 k) (rd_move rfl) rfl ?_
      refine Wx.ex (rd_index 0 (hS.arg a_yv) rfl rfl Try.underlying22 Try.sizeOf3 (by first | omega | (simp only [List.length_set, List.length_append, List.length_cons, List.length_nil, List.length_replicate]; omega)) (by first | omega | (simp only [List.length_set, List.length_append, List.length_cons, List.length_nil, List.length_replicate]; omega))) rfl (fun p_6 hp_7 => ?_)
      refine Wx.rd (v := .int .i64 (ix 0 ys k)) (rd_loadI hp_7 rfl Try.isAgg3 Try.sizeOf3) rfl ?_
      have bd_8 := bd_i64 hp_7.inK
      refine Wx.rd (v := .int .i64 (ix 0 ys k)) (rd_assign rfl) rfl ?_
      refine Wx.nil ?_
      refine W.seq ?_
      refine W.reg ?_
      refine Wx.rd (v := .int .i64 (ix 0 xs k)) (rd_move rfl) rfl ?_
      refine Wx.rd (v := .int .i64 (ix 0 ys k)) (rd_move rfl) rfl ?_
      refine Wx.callB (run_callF Try.call107 rfl) (X107 (in_i64 (by omega) (by omega)) (in_i64 (by omega) (by omega))) rfl ?_
      rintro r_9 w_10 ⟨rfl, hw⟩; subst w_10
      have hcb : -1 ≤ cmpI (ix 0 xs k) (ix 0 ys k) ∧ cmpI (ix 0 xs k) (ix 0 ys k) ≤ 1 := by rw [cmpI]; (repeat' split) <;> omega
      refine Wx.rd (v := .int .i64 (cmpI (ix 0 xs k) (ix 0 ys k))) (rd_assign rfl) rfl ?_
      refine Wx.nil ?_
      refine W.seq ?_
      refine W.reg ?_
      refine Wx.rd (v := .int .i64 (cmpI (ix 0 xs k) (ix 0 ys k))) (rd_move rfl) rfl ?_
      refine Wx.rd (v := .bool (decide ((cmpI (ix 0 xs k) (ix 0 ys k)) ≠ 0))) (rd_neq rfl rfl) rfl ?_
      refine Wx.nil ?_
      refine W.condD rfl (fun c2 => ?_) (fun c2 => ?_)
      · -- yes
        refine W.seq ?_
        refine W.reg ?_
        refine Wx.rd (v := .int .i64 (cmpI (ix 0 xs k) (ix 0 ys k))) (rd_move rfl) rfl ?_
        refine Wx.rd (v := .int .i64 (cmpI (ix 0 xs k) (ix 0 ys k))) (rd_assign rfl) rfl ?_
        refine Wx.nil ?_
        have e1_0 : (cmpL xs ys) = (cmpI (ix 0 xs k) (ix 0 ys k) : Int) := by exact cmpl_here h0 c0 (by omega) h2 c2
        exact W.ret ⟨.int .i64 (cmpI (ix 0 xs k) (ix 0 ys k)), ResIs.one, (by rw [e1_0]), rfl⟩
      · -- no
        refine W.skip ?_
        refine W.reg ?_
        refine Wx.rd (v := .int .i64 (k + 1)) (rd_add rfl rfl (in_i64 (by omega) (by omega))) rfl ?_
        refine Wx.rd (v := .int .i64 (k + 1)) (rd_move rfl) rfl ?_
        refine Wx.nil ?_
        refine ⟨k + 1, (by show (xs.length - (k + 1)).toNat < (xs.length - k).toNat; omega), ?_, ?_, Out.look rfl Out.self⟩
        · exact ⟨rfl, (by first | omega | assumption), (by first | omega | assumption), (cmpl_next h0 c0 (by omega) h2 (by omega))⟩
        · exact ⟨rfl, trivial⟩
  · -- no
    refine W.exit rfl ?_
    refine W.seq ?_
    refine W.seq ?_
    refine W.reg ?_
    refine Wx.rd (v := xv) (rd_move rfl) rfl ?_
    refine Wx.rd (v := .int .i64 (xs.length : Int)) (rd_lenV rfl (hS.arg a_xv) Try.underlying22) rfl ?_
    refine Wx.rd (v := yv) (rd_move rfl) rfl ?_
    refine Wx.rd (v := .int .i64 (ys.length : Int)) (rd_lenV rfl (hS.arg a_yv) Try.underlying22) rfl ?_
    refine Wx.rd (v := .bool (decide ((xs.length : Int) < (ys.length : Int)))) (rd_lss rfl rfl) rfl ?_
    refine Wx.nil ?_
    refine W.condD rfl (fun c3 => ?_) (fun c3 => ?_)
    · -- yes
      refine W.seq ?_
      refine W.reg ?_
      refine Wx.rd (v := .int .i64 (-1)) (rd_assign rfl) rfl ?_
      refine Wx.nil ?_
      have e2_0 : (cmpL xs ys) = (-1 : Int) := by exact cmpl_short h0 (by omega) h2 (by omega)
      exact W.ret ⟨.int .i64 (-1), ResIs.one, (by rw [e2_0]), rfl⟩
    · -- no
      refine W.skip ?_
      refine W.seq ?_
      refine W.reg ?_
      refine Wx.rd (v := .int .i64 0) (rd_assign rfl) rfl ?_
      refine Wx.nil ?_
      have e3_0 : (cmpL xs ys) = (0 : Int) := by exact cmpl_same h0 (by omega) h2 (by omega)
      exact W.ret ⟨.int .i64 0, ResIs.one, (by rw [e3_0]), rfl⟩

theorem X93 {x y : (Int × Int) × Int} {w : World} (hx : jnB x) (hy : jnB y) : Calls Try.prog 93 #[.agg (encJ x).toArray, .agg (encJ y).toArray] w (Bk fun r w' => r = .int .i64 (cmpJ x y) ∧ ∃ q os', w' = Go.Sort.grow (w.drewN q) os') := by
  obtain ⟨⟨x0, x1⟩, xh⟩ := x
  obtain ⟨⟨y0, y1⟩, yh⟩ := y
  obtain ⟨⟨hx0, hx0'⟩, ⟨hx1, hx1'⟩, hx2, hx2'⟩ := hx
  obtain ⟨⟨hy0, hy0'⟩, ⟨hy1, hy1'⟩, hy2, hy2'⟩ := hy
  simp only at hx0 hx0' hx1 hx1' hx2 hx2' hy0 hy0' hy1 hy1' hy2 hy2'
  have hS := St.start0 w
  refine enterB (vs := [.agg (encJ ((x0, x1), xh)).toArray, .agg (encJ ((y0, y1), yh)).toArray]) Try.func93 rfl Try.ntmps93 Try.results93 rfl ?_
  refine W.seq ?_
  refine W.reg ?_
  refine Wo.boxX (cs := encJ ((x0, x1), xh)) hS rfl rfl rfl (fun hS => ?_)
  refine Wo.boxX (cs := encJ ((y0, y1), yh)) hS rfl rfl rfl (fun hS => ?_)
  rw [Go.Sort.grow_grow] at hS ⊢
  have hg : ∃ os : Array Obj, Go.Sort.grow w (#[.cells (encJ ((x0, x1), xh)).toArray 105] ++ #[.cells (encJ ((y0, y1), yh)).toArray 105]) = Go.Sort.grow w os := ⟨_, rfl⟩
  generalize hw2 : Go.Sort.grow w (#[.cells (encJ ((x0, x1), xh)).toArray 105] ++ #[.cells (encJ ((y0, y1), yh)).toArray 105]) = w2 at hS hg ⊢
  generalize hg2 : (Go.Sort.grow w #[.cells (encJ ((x0, x1), xh)).toArray 105]).heap.size = g2 at hS ⊢
  generalize hg1 : w.heap.size = g1 at hS ⊢
  simp only [encJ] at hS
  obtain ⟨os, hos⟩ := hg
  refine Wx.rd (v := .int .i64 0) (rd_assign rfl) rfl ?_
  refine Wx.nil ?_
  refine W.seq ?_
  refine W.seq ?_
  refine W.reg ?_
  refine Wx.rd (v := .pointer (some ⟨g1, 2, none⟩)) (rd_fieldAddr (o := 0) (j := 2) rfl (by kernel_rfl)) rfl ?_
  refine Wx.rd (v := .int .i64 xh) (rd_loadX hS 1 rfl rfl rfl Try.isAgg3) rfl ?_
  refine Wx.rd (v := .pointer (some ⟨g2, 2, none⟩)) (rd_fieldAddr (o := 0) (j := 2) rfl (by kernel_rfl)) rfl ?_
  refine Wx.rd (v := .int .i64 yh) (rd_loadX hS 0 rfl rfl rfl Try.isAgg3) rfl ?_
  refine Wx.rd (v := .bool (decide (xh ≠ yh))) (rd_neq rfl rfl) rfl ?_
  refine Wx.nil ?_
  refine W.condD rfl (fun c0 => ?_) (fun c0 => ?_)
  · refine W.seq ?_
    refine W.reg ?_
    refine Wx.rd (v := .pointer (some ⟨g1, 2, none⟩)) (rd_fieldAddr (o := 0) (j := 2) rfl (by kernel_rfl)) rfl ?_
    refine Wx.rd (v := .int .i64 xh) (rd_loadX hS 1 rfl rfl rfl Try.isAgg3) rfl ?_
    refine Wx.rd (v := .pointer (some ⟨g2, 2, none⟩)) (rd_fieldAddr (o := 0) (j := 2) rfl (by kernel_rfl)) rfl ?_
    refine Wx.rd (v := .int .i64 yh) (rd_loadX hS 0 rfl rfl rfl Try.isAgg3) rfl ?_
    refine Wx.rd (v := .int .i64 (xh - yh)) (rd_sub rfl rfl (in_i64 (by omega) (by omega))) rfl ?_
    refine Wx.rd (v := .int .i64 (xh - yh)) (rd_assign rfl) rfl ?_
    refine Wx.nil ?_
    exact W.ret ⟨.int .i64 (xh - yh), ResIs.one, (by rw [cmpJ, if_pos c0]), 0, os, hos⟩
  · have s1 := hS.sliceBox (o := 0) (k := .i64) (m := 2) (xs := [x0, x1]) (cap := 2) 1 rfl rfl (fun x hx => by simp only [List.mem_cons, List.not_mem_nil, or_false] at hx; rcases hx with rfl | rfl <;> exact in_i64 (by omega) (by omega)) rfl (Nat.le_refl _) (by decide)
    have s2 := hS.sliceBox (o := 0) (k := .i64) (m := 2) (xs := [y0, y1]) (cap := 2) 0 rfl rfl (fun x hx => by simp only [List.mem_cons, List.not_mem_nil, or_false] at hx; rcases hx with rfl | rfl <;> exact in_i64 (by omega) (by omega)) rfl (Nat.le_refl _) (by decide)
    have v1 := s1.v 0 rfl
    have v2 := s2.v 0 rfl
    refine W.skip ?_
    refine W.seq ?_
    refine W.regionC (by kernel_rfl) rfl (by kernel_rfl) Drew.one ?_
    refine Wc.rd (v := .pointer (some ⟨g1, 0, none⟩)) (rd_fieldAddr (o := 0) (j := 0) rfl (by kernel_rfl)) rfl ?_
    refine Wc.rd (v := .slice (some ⟨g1, 0, none⟩) 2 2) (rd_sliceArrB (m := 2) Try.underlying74 Try.sizeOf3 rfl) rfl ?_
    refine Wc.rd (v := .pointer (some ⟨g2, 0, none⟩)) (rd_fieldAddr (o := 0) (j := 0) rfl (by kernel_rfl)) rfl ?_
    refine Wc.rd (v := .slice (some ⟨g2, 0, none⟩) 2 2) (rd_sliceArrB (m := 2) Try.underlying74 Try.sizeOf3 rfl) rfl ?_
    refine Wc.call (run_callF Try.call94 rfl) (v := .int .i64 (cmpL [x0, x1] [y0, y1])) (fun w' hw' => (X94 (v1.ext hw'.ext) (v2.ext hw'.ext)).mono ?_) rfl ?_
    · rintro e w3 ⟨r, rfl, rfl, rfl⟩; exact ⟨_, rfl, rfl, hw'⟩
    refine Wc.rd (v := .int .i64 (cmpL [x0, x1] [y0, y1])) (rd_assign rfl) rfl ?_
    refine Wc.nil ?_
    rintro w' ⟨q, rfl⟩
    refine W.ret ⟨.int .i64 (cmpL [x0, x1] [y0, y1]), ResIs.one, (by rw [cmpJ, if_neg c0]), q, os, by rw [hos]; rfl⟩


abbrev JB := {x : (Int × Int) × Int // jnB x}
instance : Inhabited JB := ⟨⟨((0, 0), 0), by unfold jnB; decide⟩⟩
abbrev tJ : Ty ((Int × Int) × Int) := tP (tP (tI .i64) (tI .i64)) (tI .i64)
theorem tJ_enc : ∀ (F : List (Option Nat)) (w : World) (x : (Int × Int) × Int) (cs : List Value), tJ.rep F w x cs → cs = encJ x := by
  rintro F w x cs ⟨c, d, rfl, ⟨c1, c2, rfl, ⟨rfl, _⟩, rfl, _⟩, rfl, _⟩; rfl
theorem ltOf_J {x y : JB} : Go.Proofs.ltOf (fun x y : JB => cmpJ x.1 y.1) x y = true ↔ jLt x.1 y.1 := by
  rw [Go.Proofs.ltOf, decide_eq_true_eq, cmpJ_lt]
theorem ltOf_Jf {x y : JB} : Go.Proofs.ltOf (fun x y : JB => cmpJ x.1 y.1) x y = false ↔ ¬ jLt x.1 y.1 := by
  rw [← Bool.not_eq_true, ltOf_J]
theorem swo_J : Go.Sort.SWO (Go.Proofs.ltOf fun x y : JB => cmpJ x.1 y.1) where
  irrefl := fun x => ltOf_Jf.2 (by unfold jLt; omega)
  trans := fun x y z h k => ltOf_J.2 (by have := ltOf_J.1 h; have := ltOf_J.1 k; unfold jLt at *; omega)
  ntrans := fun x y z h k => ltOf_Jf.2 (by have := ltOf_Jf.1 h; have := ltOf_Jf.1 k; unfold jLt at *; omega)
theorem tot_J (x y : JB) (h : Go.Proofs.ltOf (fun x y : JB => cmpJ x.1 y.1) x y = false) (k : Go.Proofs.ltOf (fun x y : JB => cmpJ x.1 y.1) y x = false) : x = y := by
  have h := ltOf_Jf.1 h
  have k := ltOf_Jf.1 k
  obtain ⟨⟨⟨a, b⟩, c⟩, hx⟩ := x
  obtain ⟨⟨⟨a', b'⟩, c'⟩, hy⟩ := y
  unfold jLt at h k
  simp only at h k
  have h1 : a = a' := by omega
  have h2 : b = b' := by omega
  have h3 : c = c' := by omega
  subst h1 h2 h3; rfl
theorem X92 {w0 w : World} {O : List (Option Nat)} {obs : List Ob} {v : Value} {ys : List ((Int × Int) × Int)} (hS : St w0 O w obs) (i : Nat) (hi : obs[i]? = some (.row tJ 105 v ys)) (hne : 0 < ys.length) (hB : ∀ y ∈ ys, jnB y) (hlen : ys.length < 4611686018427387904) :
    Calls Try.prog 92 #[v, .func (.func 93) #[] #[]] w (Bk fun r w' => ∃ ys' : List ((Int × Int) × Int), ys'.Perm ys ∧ ys'.Pairwise (fun x y => ¬ jLt y x) ∧ St w0 O w' (obs.set i (.row tJ 105 v ys'))) := by
  obtain ⟨l, hl⟩ : ∃ l : List JB, l.map (·.1) = ys := ⟨ys.pmap Subtype.mk hB, by rw [List.map_pmap]; simp⟩
  obtain ⟨b, cap, hv, hH, hb, hnew⟩ := hS.holdsK (g := fun x : JB => x.1) (enc := encJ) tJ_enc (by decide) (fun _ => rfl) i hi hne hl
  have hls : l.length = ys.length := by rw [← hl]; simp
  subst hv
  refine (Go.Proofs.AnyQ.slices_SortFunc_total Try.laysSlF06_f92 3 Try.isAgg105 Try.sizeOf105 (fun x : JB => encJ x.1) (fun _ => rfl) (fun x v hv => ?_) (fun x y : JB => cmpJ x.1 y.1) swo_J 93 #[] b 0 cap l.toArray w (fun _ _ => ?_) (fun m os dk _ x y => ?_) hH hb (by simpa [hls] using hlen) tot_J).mono ?_
  · simp only [encJ, List.mem_cons, List.not_mem_nil, or_false] at hv
    rcases hv with rfl | rfl | rfl <;> rfl
  · exact Go.Proofs.enters_of Try.func93 (by kernel_rfl) rfl _ _
  · exact (X93 x.2 y.2).mono fun e w' ⟨r, he, hr, hw⟩ => ⟨by rw [he, hr], hw⟩
  · rintro e w' ⟨rfl, n, os, rfl⟩
    have hp := List.mergeSort_perm l (fun x y => !(Go.Proofs.ltOf fun x y : JB => cmpJ x.1 y.1) y x)
    refine ⟨_, rfl, _, ?_, ?_, hnew _ n os hp⟩
    · rw [← hl]; exact hp.map _
    · rw [List.pairwise_map]
      refine (List.pairwise_mergeSort (fun x y z h k => ?_) (fun x y => ?_) l).imp fun {x y} h => ?_
      · rw [Bool.not_eq_true'] at h k ⊢; exact swo_J.ntrans _ _ _ k h
      · rw [Bool.or_eq_true, Bool.not_eq_true', Bool.not_eq_true', ltOf_Jf, ltOf_Jf]; unfold jLt; omega
      · rw [Bool.not_eq_true'] at h; exact ltOf_Jf.1 h


theorem X84 {w0 w : World} {O : List (Option Nat)} {obs : List Ob} {v : Value} {e : TypeId} {ys : List Int} (hS : St w0 O w obs) (i : Nat) (hi : obs[i]? = some (.row (tI .i64) e v ys)) (hne : 0 < ys.length) (hlen : ys.length < 4611686018427387904) :
    Calls Try.prog 84 #[v] w (Bk fun r w' => St w0 O w' (obs.set i (.row (tI .i64) e v (ys.mergeSort fun x y => decide (x ≤ y))))) := by
  obtain ⟨g, cap, hv, hH, hb⟩ := hS.holdsI i hi hne
  subst hv
  refine (Go.Proofs.Any.slices_Sort_int Try.lays189 g 0 cap ys w hH hb hlen).mono ?_
  rintro e w' ⟨rfl, n, os, rfl⟩
  exact ⟨_, rfl, hS.sortI i hi hne (List.mergeSort_perm _ _) rfl⟩

end Go.Proofs.Ytjhimoeodkaihaa
