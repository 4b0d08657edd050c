/-
  WHAT IS PROVED HERE, TEXT BY TEXT (several texts of one prover, joined to one file; the conditions stand in each statement):
  * WHAT IS PROVED HERE: what functions of layer 1 hand back, each out of its own code; the conditions stand in each statement.
  * WHAT IS PROVED HERE: what functions of layer 1 hand back, each out of its own code; the conditions stand in each statement.
  * WHAT IS PROVED HERE: what functions of layer 1 hand back, each out of its own code; the conditions stand in each statement.
  * WHAT IS PROVED HERE: what functions of layer 1 hand back, each out of its own code; the conditions stand in each statement.
  * WHAT IS PROVED HERE: what functions of layer 1 hand back, each out of its own code; the conditions stand in each statement.
  * WHAT IS PROVED HERE: what functions of layer 1 hand back, each out of its own code; the conditions stand in each statement.
  * WHAT IS PROVED HERE: an argument that reads as data is, in the world at the start, a value that stands for a plain list, number, or pair (V of Wk2). Conditions: the types' closed facts, as hypotheses.
  * WHAT IS PROVED HERE: arrays of arrays of numbers as they are read at the start. Conditions: the types' closed facts, as hypotheses.
  * WHAT IS PROVED HERE: structs of two slices as they are read at the start, and where their fields lie. Conditions: the types' closed facts, as hypotheses.
  * WHAT IS PROVED HERE: structs of five parts, integers of one kind all, as they are read at the start. Conditions: the types' closed facts, as hypotheses.
-/
import Derived.Test.YtjhimoeodkaihaaProg
import Derived.Test.YtjhimoeodkaihaaU2
import Derived.Test.YtjhimoeodkaihaaU4
import Derived.Test.YtjhimoeodkaihaaU1
import Derived.Deep.Slices
import Derived.Deep.Strs
import Derived.Lib.SmallJoins
import Derived.OpenShut
import Derived.Carry
import Derived.ProofKit

set_option linter.unusedVariables false
set_option linter.unusedSimpArgs false

namespace Go.Proofs.Ytjhimoeodkaihaa
open Go.Wk Go.RowKit Go.Lib
set_option linter.unusedVariables false
set_option linter.unusedSimpArgs false
theorem mixedMa_ : Try.prog.follows .mixedOrders = true := by kernel_rfl
theorem elMa_22 : ElemI Try.prog 22 3 (.int .i64 0) 1 8 := ElemI.of Try.underlying22 (by kernel_rfl) (by first | rfl | kernel_rfl) (by decide)

theorem F21 {xv : Value} {xs : List Int} {Fr_xv : List (Option Nat)} {yv : Value} {ys : List Int} {Fr_yv : List (Option Nat)} {w : World} (h_xv : V (tSl (tI .i64)) xs xv Fr_xv w) (h_yv : V (tSl (tI .i64)) ys yv Fr_yv w) : Calls Try.prog 21 #[xv, yv] w (Ret w (fun r _ => r = .bool (decide (xs = ys)))) := by
  have a_xv := h_xv.any
  have l_xv := h_xv.len63
  have a_yv := h_yv.any
  have l_yv := h_yv.len63
  have hS := St.start0 w
  refine enterR Try.func21 rfl Try.ntmps21 Try.results21 rfl ?_
  refine W.seq ?_
  refine W.reg ?_
  refine Wx.rd (v := .bool false) (rd_assign rfl) rfl ?_
  refine Wx.nil ?_
  refine W.seq ?_
  refine W.seq ?_
  refine W.reg ?_
  refine Wx.rd (v := xv) (rd_move rfl) rfl ?_
  refine Wx.rd (v := .int .i64 (xs.length : Int)) (rd_lenV rfl (hS.arg a_xv) Try.underlying22) rfl ?_
  refine Wx.rd (v := yv) (rd_move rfl) rfl ?_
  refine Wx.rd (v := .int .i64 (ys.length : Int)) (rd_lenV rfl (hS.arg a_yv) Try.underlying22) rfl ?_
  refine Wx.rd (v := .bool (decide ((xs.length : Int) ≠ (ys.length : Int)))) (rd_neq rfl rfl) rfl ?_
  refine Wx.nil ?_
  refine W.condD rfl (fun c0 => ?_) (fun c0 => ?_)
  · -- yes
    refine W.seq ?_
    refine W.reg ?_
    refine Wx.rd (v := .bool false) (rd_assign rfl) rfl ?_
    refine Wx.nil ?_
    have e0_0 : (decide (xs = ys)) = false := by exact decide_eq_false (fun h : xs = ys => c0 (by rw [h]))
    exact W.ret ⟨.bool false, ResIs.one, hS.bel, (by rw [e0_0])⟩
  · -- no
    refine W.skip ?_
    refine W.seq ?_
    refine W.seq ?_
    refine W.reg ?_
    refine Wx.rd (v := .int .i64 0) (rd_assign rfl) rfl ?_
    refine Wx.nil ?_
    refine W.block ?_
    refine W.loop [4, 5, 11, 12, 13, 14, 15, 16, 17, 18, 19, 20, 21, 22, 23, 24, 25] (fun (k : Int) => [(5, .int .i64 k)]) (fun (k : Int) w' => St w [] w' [] ∧ 0 ≤ k ∧ k ≤ xs.length ∧ decide (xs.drop k.toNat = ys.drop k.toNat) = decide (xs = ys)) (fun (k : Int) => (xs.length - k).toNat) 0 ⟨rfl, trivial⟩ ⟨hS, (by first | omega | simp), (by first | omega | simp), (by simp)⟩ ?_
    rintro k u_2 w_1 ⟨hS, h0, h1, h2⟩
    refine W.seq ?_
    refine W.seq ?_
    refine W.reg ?_
    refine Wx.rd (v := .int .i64 k) (rd_move rfl) rfl ?_
    refine Wx.rd (v := xv) (rd_move rfl) rfl ?_
    refine Wx.rd (v := .int .i64 (xs.length : Int)) (rd_lenV rfl (hS.arg a_xv) Try.underlying22) rfl ?_
    refine Wx.rd (v := .bool (decide (k < (xs.length : Int)))) (rd_lss rfl rfl) rfl ?_
    refine Wx.nil ?_
    refine W.condD rfl (fun c1 => ?_) (fun c1 => ?_)
    · -- yes
      refine W.skip ?_
      refine W.seq ?_
      refine W.block ?_
      refine W.seq ?_
      refine W.regQ mixedMa_ (by kernel_rfl) ?_
      refine Wx.rd (v := xv) (rd_move rfl) rfl ?_
      refine Wx.rd (v := .int .i64 k) (rd_move rfl) rfl ?_
      refine Wx.ex (rd_index 0 (hS.arg a_xv) rfl rfl Try.underlying22 Try.sizeOf3 (by first | omega | (simp only [List.length_set, List.length_append, List.length_cons, List.length_nil, List.length_replicate]; omega)) (by first | omega | (simp only [List.length_set, List.length_append, List.length_cons, List.length_nil, List.length_replicate]; omega))) rfl (fun p_3 hp_4 => ?_)
      refine Wx.rd (v := .int .i64 (ix 0 xs k)) (rd_loadI hp_4 rfl Try.isAgg3 Try.sizeOf3) rfl ?_
      have bd_5 := bd_i64 hp_4.inK
      refine Wx.rd (v := yv) (rd_move rfl) rfl ?_
      refine Wx.rd (v := .int .i64 k) (rd_move rfl) rfl ?_
      refine Wx.ex (rd_index 0 (hS.arg a_yv) rfl rfl Try.underlying22 Try.sizeOf3 (by first | omega | (simp only [List.length_set, List.length_append, List.length_cons, List.length_nil, List.length_replicate]; omega)) (by first | omega | (simp only [List.length_set, List.length_append, List.length_cons, List.length_nil, List.length_replicate]; omega))) rfl (fun p_6 hp_7 => ?_)
      refine Wx.rd (v := .int .i64 (ix 0 ys k)) (rd_loadI hp_7 rfl Try.isAgg3 Try.sizeOf3) rfl ?_
      have bd_8 := bd_i64 hp_7.inK
      refine Wx.rd (v := .bool (decide ((ix 0 xs k) ≠ (ix 0 ys k)))) (rd_neq rfl rfl) rfl ?_
      refine Wx.nilQ (fun w_9 hx_10 => ?_)
      have hS := hS.ext hx_10
      refine W.condD rfl (fun c2 => ?_) (fun c2 => ?_)
      · -- yes
        refine W.seq ?_
        refine W.reg ?_
        refine Wx.rd (v := .bool false) (rd_assign rfl) rfl ?_
        refine Wx.nil ?_
        have he : ¬ ix 0 xs k = ix 0 ys k := fun hh => by rw [hh] at c2; omega
        have e1_0 : (decide (xs = ys)) = false := by rw [← h2, drop_ix (d := 0) h0 c1, drop_ix (d := 0) (xs := ys) h0 (by omega)]; simp [he]
        exact W.ret ⟨.bool false, ResIs.one, hS.bel, (by rw [e1_0])⟩
      · -- no
        refine W.skip ?_
        refine W.reg ?_
        refine Wx.rd (v := .int .i64 k) (rd_move rfl) rfl ?_
        refine Wx.rd (v := .int .i64 (k + 1)) (rd_add rfl rfl (in_i64 (by omega) (by omega))) rfl ?_
        refine Wx.rd (v := .int .i64 (k + 1)) (rd_assign rfl) rfl ?_
        refine Wx.nil ?_
        have he : ix 0 xs k = ix 0 ys k := by omega
        refine ⟨k + 1, (by show (xs.length - (k + 1)).toNat < (xs.length - k).toNat; omega), ?_, ?_, Out.look rfl Out.self⟩
        · exact ⟨hS, (by first | omega | assumption), (by first | omega | assumption), (by rw [← h2, drop_ix (d := 0) h0 c1, drop_ix (d := 0) (xs := ys) h0 (by omega)]; simp [he])⟩
        · exact ⟨rfl, trivial⟩
    · -- no
      refine W.exit rfl ?_
      refine W.seq ?_
      refine W.reg ?_
      refine Wx.rd (v := .bool true) (rd_assign rfl) rfl ?_
      refine Wx.nil ?_
      have e2_0 : (decide (xs = ys)) = true := by rw [← h2, drop_end (by omega), drop_end (xs := ys) (by omega)]; simp
      exact W.ret ⟨.bool true, ResIs.one, hS.bel, (by rw [e2_0])⟩

theorem F28 {xv : Value} {xs : List (List Int)} {Fr_xv : List (Option Nat)} {yv : Value} {ys : List (List Int)} {Fr_yv : List (Option Nat)} {w : World} (h_xv : V (tSl (tSl (tI .i64))) xs xv Fr_xv w) (h_yv : V (tSl (tSl (tI .i64))) ys yv Fr_yv w) : Calls Try.prog 28 #[xv, yv] w (Ret w (fun r _ => r = .bool (decide (xs = ys)))) := by
  have a_xv := h_xv.any
  have l_xv := h_xv.len63
  have a_yv := h_yv.any
  have l_yv := h_yv.len63
  have hS := St.start0 w
  refine enterR Try.func28 rfl Try.ntmps28 Try.results28 rfl ?_
  refine W.seq ?_
  refine W.reg ?_
  refine Wx.rd (v := .bool false) (rd_assign rfl) rfl ?_
  refine Wx.nil ?_
  refine W.seq ?_
  refine W.seq ?_
  refine W.reg ?_
  refine Wx.rd (v := xv) (rd_move rfl) rfl ?_
  refine Wx.rd (v := .int .i64 (xs.length : Int)) (rd_lenV rfl (hS.arg a_xv) Try.underlying37) rfl ?_
  refine Wx.rd (v := yv) (rd_move rfl) rfl ?_
  refine Wx.rd (v := .int .i64 (ys.length : Int)) (rd_lenV rfl (hS.arg a_yv) Try.underlying37) rfl ?_
  refine Wx.rd (v := .bool (decide ((xs.length : Int) ≠ (ys.length : Int)))) (rd_neq rfl rfl) rfl ?_
  refine Wx.nil ?_
  refine W.condD rfl (fun c0 => ?_) (fun c0 => ?_)
  · -- yes
    refine W.seq ?_
    refine W.reg ?_
    refine Wx.rd (v := .bool false) (rd_assign rfl) rfl ?_
    refine Wx.nil ?_
    have e0_0 : (decide (xs = ys)) = false := by exact decide_eq_false (fun h : xs = ys => c0 (by rw [h]))
    exact W.ret ⟨.bool false, ResIs.one, hS.bel, (by rw [e0_0])⟩
  · -- no
    refine W.skip ?_
    refine W.seq ?_
    refine W.seq ?_
    refine W.reg ?_
    refine Wx.rd (v := .int .i64 0) (rd_assign rfl) rfl ?_
    refine Wx.nil ?_
    refine W.block ?_
    refine W.loop [4, 5, 11, 12, 13, 14, 15, 16, 17, 18, 19, 20, 21, 22, 23, 24, 25, 26] (fun (k : Int) => [(5, .int .i64 k)]) (fun (k : Int) w' => St w [] w' [] ∧ 0 ≤ k ∧ k ≤ xs.length ∧ decide (xs.drop k.toNat = ys.drop k.toNat) = decide (xs = ys)) (fun (k : Int) => (xs.length - k).toNat) 0 ⟨rfl, trivial⟩ ⟨hS, (by first | omega | simp), (by first | omega | simp), (by simp)⟩ ?_
    rintro k u_2 w_1 ⟨hS, h0, h1, h2⟩
    refine W.seq ?_
    refine W.seq ?_
    refine W.reg ?_
    refine Wx.rd (v := .int .i64 k) (rd_move rfl) rfl ?_
    refine Wx.rd (v := xv) (rd_move rfl) rfl ?_
    refine Wx.rd (v := .int .i64 (xs.length : Int)) (rd_lenV rfl (hS.arg a_xv) Try.underlying37) rfl ?_
    refine Wx.rd (v := .bool (decide (k < (xs.length : Int)))) (rd_lss rfl rfl) rfl ?_
    refine Wx.nil ?_
    refine W.condD rfl (fun c1 => ?_) (fun c1 => ?_)
    · -- yes
      refine W.skip ?_
      refine W.seq ?_
      refine W.block ?_
      refine W.seq ?_
      refine W.regQ mixedMa_ (by kernel_rfl) ?_
      refine Wx.rd (v := xv) (rd_move rfl) rfl ?_
      refine Wx.rd (v := .int .i64 k) (rd_move rfl) rfl ?_
      refine Wx.ex (rd_index [] (hS.arg a_xv) rfl rfl Try.underlying37 Try.sizeOf22 (by first | omega | (simp only [List.length_set, List.length_append, List.length_cons, List.length_nil, List.length_replicate]; omega)) (by first | omega | (simp only [List.length_set, List.length_append, List.length_cons, List.length_nil, List.length_replicate]; omega))) rfl (fun p_3 hp_4 => ?_)
      refine Wx.ex (rd_load hp_4 rfl Try.isAgg22 Try.sizeOf22) rfl (fun v_5 hv_6 => ?_)
      have ln_7 := hv_6.len63
      have hS := hS.add hv_6
      refine Wx.rd (v := yv) (rd_move rfl) rfl ?_
      refine Wx.rd (v := .int .i64 k) (rd_move rfl) rfl ?_
      refine Wx.ex (rd_index [] (hS.arg a_yv) rfl rfl Try.underlying37 Try.sizeOf22 (by first | omega | (simp only [List.length_set, List.length_append, List.length_cons, List.length_nil, List.length_replicate]; omega)) (by first | omega | (simp only [List.length_set, List.length_append, List.length_cons, List.length_nil, List.length_replicate]; omega))) rfl (fun p_9 hp_10 => ?_)
      refine Wx.ex (rd_load hp_10 rfl Try.isAgg22 Try.sizeOf22) rfl (fun v_11 hv_12 => ?_)
      have ln_13 := hv_12.len63
      have hS := hS.add hv_12
      refine Wx.callV (v := .bool (decide ((ix [] xs k) = (ix [] ys k)))) (run_callF Try.call21 rfl) (fun w_15 hw_16 => (F21 ((hS.v 1 rfl).ext hw_16) ((hS.v 0 rfl).ext hw_16))) rfl ?_
      refine Wx.rd (v := .bool (!(decide ((ix [] xs k) = (ix [] ys k))))) (rd_not rfl) rfl ?_
      refine Wx.nilQ (fun w_17 hx_18 => ?_)
      have hS := hS.ext hx_18
      refine W.cond rfl (fun c2 => ?_) (fun c2 => ?_)
      · -- yes
        try simp only [Bool.and_eq_true, Bool.or_eq_true, Bool.not_eq_true', Bool.and_eq_false_iff, Bool.or_eq_false_iff, Bool.not_eq_false', decide_eq_true_eq, decide_eq_false_iff_not, not_or, Bool.false_eq_true, Bool.true_eq_false, false_or, or_false, not_false_eq_true] at c2
        refine W.seq ?_
        refine W.reg ?_
        refine Wx.rd (v := .bool false) (rd_assign rfl) rfl ?_
        refine Wx.nil ?_
        have he : ¬ ix [] xs k = ix [] ys k := c2
        have e1_0 : (decide (xs = ys)) = false := by rw [← h2, drop_ix (d := []) h0 c1, drop_ix (d := []) (xs := ys) h0 (by omega)]; simp [he]
        exact W.ret ⟨.bool false, ResIs.one, hS.bel, (by rw [e1_0])⟩
      · -- no
        try simp only [Bool.and_eq_true, Bool.or_eq_true, Bool.not_eq_true', Bool.and_eq_false_iff, Bool.or_eq_false_iff, Bool.not_eq_false', decide_eq_true_eq, decide_eq_false_iff_not, not_or, Bool.false_eq_true, Bool.true_eq_false, false_or, or_false, not_false_eq_true] at c2
        refine W.skip ?_
        refine W.reg ?_
        refine Wx.rd (v := .int .i64 k) (rd_move rfl) rfl ?_
        refine Wx.rd (v := .int .i64 (k + 1)) (rd_add rfl rfl (in_i64 (by omega) (by omega))) rfl ?_
        refine Wx.rd (v := .int .i64 (k + 1)) (rd_assign rfl) rfl ?_
        refine Wx.nil ?_
        have he : ix [] xs k = ix [] ys k := c2
        refine ⟨k + 1, (by show (xs.length - (k + 1)).toNat < (xs.length - k).toNat; omega), ?_, ?_, Out.look rfl Out.self⟩
        · exact ⟨St.tl (hS.tl), (by first | omega | assumption), (by first | omega | assumption), (by rw [← h2, drop_ix (d := []) h0 c1, drop_ix (d := []) (xs := ys) h0 (by omega)]; simp [he])⟩
        · exact ⟨rfl, trivial⟩
    · -- no
      refine W.exit rfl ?_
      refine W.seq ?_
      refine W.reg ?_
      refine Wx.rd (v := .bool true) (rd_assign rfl) rfl ?_
      refine Wx.nil ?_
      have e2_0 : (decide (xs = ys)) = true := by rw [← h2, drop_end (by omega), drop_end (xs := ys) (by omega)]; simp
      exact W.ret ⟨.bool true, ResIs.one, hS.bel, (by rw [e2_0])⟩

theorem F41 {xv : Value} {xs : List (Int × Int)} {Fr_xv : List (Option Nat)} {yv : Value} {ys : List (Int × Int)} {Fr_yv : List (Option Nat)} {w : World} (h_xv : V (tSl (tP (tI .i64) (tI .i64))) xs xv Fr_xv w) (h_yv : V (tSl (tP (tI .i64) (tI .i64))) ys yv Fr_yv w) : Calls Try.prog 41 #[xv, yv] w (Ret w (fun r _ => r = .bool (decide (xs = ys)))) := by
  have a_xv := h_xv.any
  have l_xv := h_xv.len63
  have a_yv := h_yv.any
  have l_yv := h_yv.len63
  have hS := St.start0 w
  refine enterR Try.func41 rfl Try.ntmps41 Try.results41 rfl ?_
  refine W.seq ?_
  refine W.reg ?_
  refine Wx.rd (v := .bool false) (rd_assign rfl) rfl ?_
  refine Wx.nil ?_
  refine W.seq ?_
  refine W.seq ?_
  refine W.reg ?_
  refine Wx.rd (v := xv) (rd_move rfl) rfl ?_
  refine Wx.rd (v := .int .i64 (xs.length : Int)) (rd_lenV rfl (hS.arg a_xv) Try.underlying52) rfl ?_
  refine Wx.rd (v := yv) (rd_move rfl) rfl ?_
  refine Wx.rd (v := .int .i64 (ys.length : Int)) (rd_lenV rfl (hS.arg a_yv) Try.underlying52) rfl ?_
  refine Wx.rd (v := .bool (decide ((xs.length : Int) ≠ (ys.length : Int)))) (rd_neq rfl rfl) rfl ?_
  refine Wx.nil ?_
  refine W.condD rfl (fun c0 => ?_) (fun c0 => ?_)
  · -- yes
    refine W.seq ?_
    refine W.reg ?_
    refine Wx.rd (v := .bool false) (rd_assign rfl) rfl ?_
    refine Wx.nil ?_
    have e0_0 : (decide (xs = ys)) = false := by exact decide_eq_false (fun h : xs = ys => c0 (by rw [h]))
    exact W.ret ⟨.bool false, ResIs.one, hS.bel, (by rw [e0_0])⟩
  · -- no
    refine W.skip ?_
    refine W.seq ?_
    refine W.seq ?_
    refine W.reg ?_
    refine Wx.rd (v := .int .i64 0) (rd_assign rfl) rfl ?_
    refine Wx.nil ?_
    refine W.block ?_
    refine W.loop [4, 5, 11, 12, 13, 14, 15, 16, 17, 18, 19, 20, 21, 22, 23, 24, 25] (fun (k : Int) => [(5, .int .i64 k)]) (fun (k : Int) w' => St w [] w' [] ∧ 0 ≤ k ∧ k ≤ xs.length ∧ decide (xs.drop k.toNat = ys.drop k.toNat) = decide (xs = ys)) (fun (k : Int) => (xs.length - k).toNat) 0 ⟨rfl, trivial⟩ ⟨hS, (by first | omega | simp), (by first | omega | simp), (by simp)⟩ ?_
    rintro k u_2 w_1 ⟨hS, h0, h1, h2⟩
    refine W.seq ?_
    refine W.seq ?_
    refine W.reg ?_
    refine Wx.rd (v := .int .i64 k) (rd_move rfl) rfl ?_
    refine Wx.rd (v := xv) (rd_move rfl) rfl ?_
    refine Wx.rd (v := .int .i64 (xs.length : Int)) (rd_lenV rfl (hS.arg a_xv) Try.underlying52) rfl ?_
    refine Wx.rd (v := .bool (decide (k < (xs.length : Int)))) (rd_lss rfl rfl) rfl ?_
    refine Wx.nil ?_
    refine W.condD rfl (fun c1 => ?_) (fun c1 => ?_)
    · -- yes
      refine W.skip ?_
      refine W.seq ?_
      refine W.block ?_
      refine W.seq ?_
      refine W.regQ mixedMa_ (by kernel_rfl) ?_
      refine Wx.rd (v := xv) (rd_move rfl) rfl ?_
      refine Wx.rd (v := .int .i64 k) (rd_move rfl) rfl ?_
      refine Wx.ex (rd_index (0, 0) (hS.arg a_xv) rfl rfl Try.underlying52 Try.sizeOf74 (by first | omega | (simp only [List.length_set, List.length_append, List.length_cons, List.length_nil, List.length_replicate]; omega)) (by first | omega | (simp only [List.length_set, List.length_append, List.length_cons, List.length_nil, List.length_replicate]; omega))) rfl (fun p_3 hp_4 => ?_)
      refine Wx.ex (rd_load hp_4 rfl Try.isAgg74 Try.sizeOf74) rfl (fun v_5 hv_6 => ?_)
      obtain ⟨rfl, bd_7, bd_8⟩ := hv_6.i2
      have bd_7 := bd_i64 bd_7
      have bd_8 := bd_i64 bd_8
      refine Wx.rd (v := yv) (rd_move rfl) rfl ?_
      refine Wx.rd (v := .int .i64 k) (rd_move rfl) rfl ?_
      refine Wx.ex (rd_index (0, 0) (hS.arg a_yv) rfl rfl Try.underlying52 Try.sizeOf74 (by first | omega | (simp only [List.length_set, List.length_append, List.length_cons, List.length_nil, List.length_replicate]; omega)) (by first | omega | (simp only [List.length_set, List.length_append, List.length_cons, List.length_nil, List.length_replicate]; omega))) rfl (fun p_9 hp_10 => ?_)
      refine Wx.ex (rd_load hp_10 rfl Try.isAgg74 Try.sizeOf74) rfl (fun v_11 hv_12 => ?_)
      obtain ⟨rfl, bd_13, bd_14⟩ := hv_12.i2
      have bd_13 := bd_i64 bd_13
      have bd_14 := bd_i64 bd_14
      refine Wx.rd (v := .bool (!(decide ((ix (0, 0) xs k).1 = (ix (0, 0) ys k).1) && decide ((ix (0, 0) xs k).2 = (ix (0, 0) ys k).2)))) (rd_neqA2 rfl rfl Try.underlying74 Try.underlying3 Try.sizeOf3 Try.eqGuardType74) rfl ?_
      refine Wx.nilQ (fun w_15 hx_16 => ?_)
      have hS := hS.ext hx_16
      refine W.cond rfl (fun c2 => ?_) (fun c2 => ?_)
      · -- yes
        try simp only [Bool.and_eq_true, Bool.or_eq_true, Bool.not_eq_true', Bool.and_eq_false_iff, Bool.or_eq_false_iff, Bool.not_eq_false', decide_eq_true_eq, decide_eq_false_iff_not, not_or, Bool.false_eq_true, Bool.true_eq_false, false_or, or_false, not_false_eq_true] at c2
        refine W.seq ?_
        refine W.reg ?_
        refine Wx.rd (v := .bool false) (rd_assign rfl) rfl ?_
        refine Wx.nil ?_
        have he : ¬ ix (0, 0) xs k = ix (0, 0) ys k := fun hh => by rw [hh] at c2; omega
        have e1_0 : (decide (xs = ys)) = false := by rw [← h2, drop_ix (d := (0, 0)) h0 c1, drop_ix (d := (0, 0)) (xs := ys) h0 (by omega)]; simp [he]
        exact W.ret ⟨.bool false, ResIs.one, hS.bel, (by rw [e1_0])⟩
      · -- no
        try simp only [Bool.and_eq_true, Bool.or_eq_true, Bool.not_eq_true', Bool.and_eq_false_iff, Bool.or_eq_false_iff, Bool.not_eq_false', decide_eq_true_eq, decide_eq_false_iff_not, not_or, Bool.false_eq_true, Bool.true_eq_false, false_or, or_false, not_false_eq_true] at c2
        refine W.skip ?_
        refine W.reg ?_
        refine Wx.rd (v := .int .i64 k) (rd_move rfl) rfl ?_
        refine Wx.rd (v := .int .i64 (k + 1)) (rd_add rfl rfl (in_i64 (by omega) (by omega))) rfl ?_
        refine Wx.rd (v := .int .i64 (k + 1)) (rd_assign rfl) rfl ?_
        refine Wx.nil ?_
        have he : ix (0, 0) xs k = ix (0, 0) ys k := Prod.ext (by omega) (by omega)
        refine ⟨k + 1, (by show (xs.length - (k + 1)).toNat < (xs.length - k).toNat; omega), ?_, ?_, Out.look rfl Out.self⟩
        · exact ⟨hS, (by first | omega | assumption), (by first | omega | assumption), (by rw [← h2, drop_ix (d := (0, 0)) h0 c1, drop_ix (d := (0, 0)) (xs := ys) h0 (by omega)]; simp [he])⟩
        · exact ⟨rfl, trivial⟩
    · -- no
      refine W.exit rfl ?_
      refine W.seq ?_
      refine W.reg ?_
      refine Wx.rd (v := .bool true) (rd_assign rfl) rfl ?_
      refine Wx.nil ?_
      have e2_0 : (decide (xs = ys)) = true := by rw [← h2, drop_end (by omega), drop_end (xs := ys) (by omega)]; simp
      exact W.ret ⟨.bool true, ResIs.one, hS.bel, (by rw [e2_0])⟩

theorem F49 {lv : Value} {l : List Int} {O : List (Option Nat)} {w : World} (h_lv : V (tSl (tI .i64)) l lv O w) (hO : ∀ b, some b ∈ O → b < w.heap.size) : Calls Try.prog 49 #[lv] w (Ret w (fun r w' => ∃ rv, r = rv ∧ V (tSl (tI .i64)) l rv O w')) := by
  have a_lv := h_lv
  have l_lv := h_lv.len63
  have hS := St.start w O hO
  refine enterR Try.func49 rfl Try.ntmps49 Try.results49 rfl ?_
  refine W.seq ?_
  refine W.reg ?_
  refine Wx.rd (v := (.slice none 0 0)) (rd_assign rfl) rfl ?_
  refine Wx.nil ?_
  refine W.seq ?_
  refine W.reg ?_
  refine Wx.rd (v := lv) (rd_move rfl) rfl ?_
  refine Wx.rd (v := lv) (rd_assign rfl) rfl ?_
  refine Wx.nil ?_
  exact W.ret ⟨lv, ResIs.one, hS.bel, ⟨lv, rfl, (V.mv (hS.arg a_lv) (.less (fun _ h => List.mem_append.2 (.inr h))))⟩⟩

theorem F48 {O : List (Option Nat)} {w : World} (hO : ∀ b, some b ∈ O → b < w.heap.size) : Calls Try.prog 48 #[] w (Ret w (fun r w' => ∃ rv, r = .agg #[.int .i64 3, .int .i64 3, rv] ∧ V (tSl (tI .i64)) sS rv O w')) := by
  have hS := St.start w O hO
  refine enterR Try.func48 rfl Try.ntmps48 Try.results48 rfl ?_
  refine W.seq ?_
  refine W.reg ?_
  refine Wx.alloc (cs := [.int .i64 0, .int .i64 0, (.slice none 0 0)]) hS Try.zeroValue24 rfl rfl (fun g_1 w_2 hx_4 hb_3 hS => ?_)
  refine Wx.nil ?_
  refine W.seq ?_
  refine W.reg ?_
  refine Wx.lit (t := (tI .i64)) (ys := [5, 5, 5, 5, 2, 5, 5, 4, 5]) (vs := [.int .i64 5, .int .i64 5, .int .i64 5, .int .i64 5, .int .i64 2, .int .i64 5, .int .i64 5, .int .i64 4, .int .i64 5]) elMa_22 hS rfl rfl ⟨(V.mkInt (in_i64 (by omega) (by omega))), ⟨(V.mkInt (in_i64 (by omega) (by omega))), ⟨(V.mkInt (in_i64 (by omega) (by omega))), ⟨(V.mkInt (in_i64 (by omega) (by omega))), ⟨(V.mkInt (in_i64 (by omega) (by omega))), ⟨(V.mkInt (in_i64 (by omega) (by omega))), ⟨(V.mkInt (in_i64 (by omega) (by omega))), ⟨(V.mkInt (in_i64 (by omega) (by omega))), ⟨(V.mkInt (in_i64 (by omega) (by omega))), trivial⟩⟩⟩⟩⟩⟩⟩⟩⟩ (by decide) rfl (fun v_5 w_6 hx_7 hS => ?_)
  have hS := hS.freeze 0 rfl
  refine Wx.callF (run_callF Try.call49 rfl) (F49 (hS.v 0 rfl) hS.fb_lt) rfl ?_
  rintro r_9 w_10 hx_11 ⟨_, rfl, hv_12⟩
  have ln_14 := hv_12.len63
  have hS := hS.ext hx_11
  have hS := hS.add hv_12
  refine Wx.rd (v := .agg #[.int .i64 3, .int .i64 3, r_9]) (rd_buildC (vs := [(0, .int .i64 3), (1, .int .i64 3), (2, r_9)]) (us := [(0, .agg #[.int .i64 3]), (1, .agg #[.int .i64 3]), (2, .agg #[r_9])]) rfl (parts_cons rfl (parts_cons rfl (parts_cons (Go.Wk.cells_one (V.oneC (hS.v 0 rfl))) parts_nil))) (by kernel_rfl)) rfl ?_
  refine Wx.storeX (cs' := [.int .i64 3, .int .i64 3, r_9]) (ds := [.int .i64 3, .int .i64 3, r_9]) hS 2 rfl rfl rfl rfl Try.sizeOf24 (Nat.le_of_ble_eq_true rfl) (one_cons rfl (one_cons rfl (one_cons (V.oneC (hS.v 0 rfl)) one_nil))) rfl (fun w_15 hz_16 hS => ?_)
  refine Wx.nil ?_
  have e0_2 : sS = [5, 5, 5, 5, 2, 5, 5, 4, 5] := by rfl
  exact W.ret ⟨.agg #[.int .i64 3, .int .i64 3, r_9], (ResIs.cell1 hS 2 rfl rfl Try.isAgg24 Try.sizeOf24), hS.bel, ⟨r_9, rfl, (by rw [e0_2]; exact (V.mv (hS.v 0 rfl) (.less (fun _ h => List.mem_append.2 (.inr h)))))⟩⟩

theorem F47 {O : List (Option Nat)} {w : World} (hO : ∀ b, some b ∈ O → b < w.heap.size) : Calls Try.prog 47 #[] w (Ret w (fun r w' => ∃ rv, r = .agg #[.int .i64 4, .int .i64 1, rv] ∧ V (tSl (tI .i64)) sT rv O w')) := by
  have hS := St.start w O hO
  refine enterR Try.func47 rfl Try.ntmps47 Try.results47 rfl ?_
  refine W.seq ?_
  refine W.reg ?_
  refine Wx.alloc (cs := [.int .i64 0, .int .i64 0, (.slice none 0 0)]) hS Try.zeroValue24 rfl rfl (fun g_1 w_2 hx_4 hb_3 hS => ?_)
  refine Wx.nil ?_
  refine W.seq ?_
  refine W.reg ?_
  refine Wx.lit (t := (tI .i64)) (ys := [9, 3, 6, 1]) (vs := [.int .i64 9, .int .i64 3, .int .i64 6, .int .i64 1]) elMa_22 hS rfl rfl ⟨(V.mkInt (in_i64 (by omega) (by omega))), ⟨(V.mkInt (in_i64 (by omega) (by omega))), ⟨(V.mkInt (in_i64 (by omega) (by omega))), ⟨(V.mkInt (in_i64 (by omega) (by omega))), trivial⟩⟩⟩⟩ (by decide) rfl (fun v_5 w_6 hx_7 hS => ?_)
  have hS := hS.freeze 0 rfl
  refine Wx.callF (run_callF Try.call49 rfl) (F49 (hS.v 0 rfl) hS.fb_lt) rfl ?_
  rintro r_9 w_10 hx_11 ⟨_, rfl, hv_12⟩
  have ln_14 := hv_12.len63
  have hS := hS.ext hx_11
  have hS := hS.add hv_12
  refine Wx.rd (v := .agg #[.int .i64 4, .int .i64 1, r_9]) (rd_buildC (vs := [(0, .int .i64 4), (1, .int .i64 1), (2, r_9)]) (us := [(0, .agg #[.int .i64 4]), (1, .agg #[.int .i64 1]), (2, .agg #[r_9])]) rfl (parts_cons rfl (parts_cons rfl (parts_cons (Go.Wk.cells_one (V.oneC (hS.v 0 rfl))) parts_nil))) (by kernel_rfl)) rfl ?_
  refine Wx.storeX (cs' := [.int .i64 4, .int .i64 1, r_9]) (ds := [.int .i64 4, .int .i64 1, r_9]) hS 2 rfl rfl rfl rfl Try.sizeOf24 (Nat.le_of_ble_eq_true rfl) (one_cons rfl (one_cons rfl (one_cons (V.oneC (hS.v 0 rfl)) one_nil))) rfl (fun w_15 hz_16 hS => ?_)
  refine Wx.nil ?_
  have e0_2 : sT = [9, 3, 6, 1] := by rfl
  exact W.ret ⟨.agg #[.int .i64 4, .int .i64 1, r_9], (ResIs.cell1 hS 2 rfl rfl Try.isAgg24 Try.sizeOf24), hS.bel, ⟨r_9, rfl, (by rw [e0_2]; exact (V.mv (hS.v 0 rfl) (.less (fun _ h => List.mem_append.2 (.inr h)))))⟩⟩

end Go.Proofs.Ytjhimoeodkaihaa

namespace Go.Proofs.Ytjhimoeodkaihaa
open Go.Wk Go.RowKit Go.Lib
set_option linter.unusedVariables false
set_option linter.unusedSimpArgs false
theorem elMb_22 : ElemI Try.prog 22 3 (.int .i64 0) 1 8 := ElemI.of Try.underlying22 (by kernel_rfl) (by first | rfl | kernel_rfl) (by decide)
theorem elMb_37 : ElemI Try.prog 37 22 ((.slice none 0 0)) 1 24 := ElemI.of Try.underlying37 (by kernel_rfl) (by first | rfl | kernel_rfl) (by decide)
theorem elMb_52 : ElemI Try.prog 52 74 (.agg #[.int .i64 0, .int .i64 0]) 2 16 := ElemI.of Try.underlying52 (by kernel_rfl) (by first | rfl | kernel_rfl) (by decide)

set_option maxHeartbeats 4000000 in
set_option maxRecDepth 10000 in
theorem F16  {w : World}  : Calls Try.prog 16 #[] w (Ret w (fun r _ => r = .bool true)) := by
  have hS := St.start0 w
  refine enterR Try.func16 rfl Try.ntmps16 Try.results16 rfl ?_
  refine W.seq ?_
  refine W.reg ?_
  refine Wx.rd (v := .bool false) (rd_assign rfl) rfl ?_
  refine Wx.nil ?_
  refine W.seq ?_
  refine W.reg ?_
  refine Wx.callF (run_callF Try.call48 rfl) (F48 hS.fb_lt) rfl ?_
  rintro r_1 w_2 hx_3 ⟨v_4, rfl, hv_5⟩
  have ln_7 := hv_5.len63
  have hS := hS.ext hx_3
  have hS := hS.add hv_5
  refine Wx.callF (run_callF Try.call17 rfl) (F17 (in_i64 (by omega) (by omega)) (in_i64 (by omega) (by omega)) (hS.v 0 rfl) hS.fb_lt) rfl ?_
  rintro r_8 w_9 hx_10 ⟨v_11, rfl, hv_12⟩
  have hS := hS.pushFr hx_10 hv_12
  refine Wx.rd (v := .tuple #[v_11, .int .i64 (checkS 3 3 sS)]) (rd_move rfl) rfl ?_
  refine Wx.rd (v := v_11) (rd_extract rfl rfl) rfl ?_
  refine Wx.rd (v := .int .i64 (checkS 3 3 sS)) (rd_extract rfl rfl) rfl ?_
  refine Wx.rd (v := v_11) (rd_assign rfl) rfl ?_
  refine Wx.rd (v := .int .i64 0) (Rd.to (v := .int .i64 (checkS 3 3 sS)) (rd_assign rfl) (congrArg (Value.int .i64) (show (0 : Int) = (checkS 3 3 sS : Int) from (by decide +kernel)).symm)) rfl ?_
  refine Wx.nil ?_
  refine W.seq ?_
  refine W.reg ?_
  refine Wx.callF (run_callF Try.call48 rfl) (F48 hS.fb_lt) rfl ?_
  rintro r_14 w_15 hx_16 ⟨v_17, rfl, hv_18⟩
  have ln_20 := hv_18.len63
  have hS := hS.ext hx_16
  have hS := hS.add hv_18
  refine Wx.callF (run_callF Try.call19 rfl) (F19 (in_i64 (by omega) (by omega)) (in_i64 (by omega) (by omega)) (hS.v 0 rfl) (in_i64 (by omega) (by omega)) hS.fb_lt) rfl ?_
  rintro r_21 w_22 hx_23 ⟨v_24, rfl, hv_25⟩
  have hS := hS.pushFr hx_23 hv_25
  refine Wx.rd (v := .tuple #[v_24, .int .i64 (levelE 3 3 sS 5)]) (rd_move rfl) rfl ?_
  refine Wx.rd (v := v_24) (rd_extract rfl rfl) rfl ?_
  refine Wx.rd (v := .int .i64 (levelE 3 3 sS 5)) (rd_extract rfl rfl) rfl ?_
  refine Wx.rd (v := v_24) (rd_assign rfl) rfl ?_
  refine Wx.rd (v := .int .i64 0) (Rd.to (v := .int .i64 (levelE 3 3 sS 5)) (rd_assign rfl) (congrArg (Value.int .i64) (show (0 : Int) = (levelE 3 3 sS 5 : Int) from (by decide +kernel)).symm)) rfl ?_
  refine Wx.nil ?_
  refine W.seq ?_
  refine W.reg ?_
  refine Wx.callF (run_callF Try.call48 rfl) (F48 hS.fb_lt) rfl ?_
  rintro r_27 w_28 hx_29 ⟨v_30, rfl, hv_31⟩
  have ln_33 := hv_31.len63
  have hS := hS.ext hx_29
  have hS := hS.add hv_31
  refine Wx.callF (run_callF Try.call24 rfl) (F24 (in_i64 (by omega) (by omega)) (in_i64 (by omega) (by omega)) (hS.v 0 rfl) (in_i64 (by omega) (by omega)) hS.fb_lt) rfl ?_
  rintro r_34 w_35 hx_36 ⟨v_37, rfl, hv_38⟩
  have hS := hS.pushFr hx_36 hv_38
  refine Wx.rd (v := .tuple #[v_37, .int .i64 (levelE 3 3 sS 0)]) (rd_move rfl) rfl ?_
  refine Wx.rd (v := v_37) (rd_extract rfl rfl) rfl ?_
  refine Wx.rd (v := .int .i64 (levelE 3 3 sS 0)) (rd_extract rfl rfl) rfl ?_
  refine Wx.rd (v := v_37) (rd_assign rfl) rfl ?_
  refine Wx.rd (v := .int .i64 0) (Rd.to (v := .int .i64 (levelE 3 3 sS 0)) (rd_assign rfl) (congrArg (Value.int .i64) (show (0 : Int) = (levelE 3 3 sS 0 : Int) from (by decide +kernel)).symm)) rfl ?_
  refine Wx.nil ?_
  refine W.seq ?_
  refine W.reg ?_
  refine Wx.callF (run_callF Try.call47 rfl) (F47 hS.fb_lt) rfl ?_
  rintro r_40 w_41 hx_42 ⟨v_43, rfl, hv_44⟩
  have ln_46 := hv_44.len63
  have hS := hS.ext hx_42
  have hS := hS.add hv_44
  refine Wx.callF (run_callF Try.call26 rfl) (F26 (in_i64 (by omega) (by omega)) (in_i64 (by omega) (by omega)) (hS.v 0 rfl) (in_i64 (by omega) (by omega)) hS.fb_lt) rfl ?_
  rintro r_47 w_48 hx_49 ⟨v_50, rfl, hv_51⟩
  have hS := hS.pushFrO hx_49 hv_51
  refine Wx.rd (v := .tuple #[v_50, .int .i64 (levelE 4 1 sT 2)]) (rd_move rfl) rfl ?_
  refine Wx.rd (v := v_50) (rd_extract rfl rfl) rfl ?_
  refine Wx.rd (v := .int .i64 (levelE 4 1 sT 2)) (rd_extract rfl rfl) rfl ?_
  refine Wx.rd (v := v_50) (rd_assign rfl) rfl ?_
  refine Wx.rd (v := .int .i64 0) (Rd.to (v := .int .i64 (levelE 4 1 sT 2)) (rd_assign rfl) (congrArg (Value.int .i64) (show (0 : Int) = (levelE 4 1 sT 2 : Int) from (by decide +kernel)).symm)) rfl ?_
  refine Wx.nil ?_
  refine W.seq ?_
  refine W.reg ?_
  refine Wx.callF (run_callF Try.call48 rfl) (F48 hS.fb_lt) rfl ?_
  rintro r_53 w_54 hx_55 ⟨v_56, rfl, hv_57⟩
  have ln_59 := hv_57.len63
  have hS := hS.ext hx_55
  have hS := hS.add hv_57
  refine Wx.lit (t := (tI .i64)) (ys := [6, 5, 4, 3]) (vs := [.int .i64 6, .int .i64 5, .int .i64 4, .int .i64 3]) elMb_22 hS rfl rfl ⟨(V.mkInt (in_i64 (by omega) (by omega))), ⟨(V.mkInt (in_i64 (by omega) (by omega))), ⟨(V.mkInt (in_i64 (by omega) (by omega))), ⟨(V.mkInt (in_i64 (by omega) (by omega))), trivial⟩⟩⟩⟩ (by decide) rfl (fun v_60 w_61 hx_62 hS => ?_)
  have hS := hS.freeze 0 rfl
  refine Wx.callF (run_callF Try.call49 rfl) (F49 (hS.v 0 rfl) hS.fb_lt) rfl ?_
  rintro r_64 w_65 hx_66 ⟨_, rfl, hv_67⟩
  have ln_69 := hv_67.len63
  have hS := hS.ext hx_66
  have hS := hS.add hv_67
  refine Wx.callF (run_callF Try.call29 rfl) (F29 (in_i64 (by omega) (by omega)) (in_i64 (by omega) (by omega)) (hS.v 2 rfl) (hS.v 0 rfl) (in_i64 (by omega) (by omega))) rfl ?_
  rintro r_70 w_71 hx_72 rfl
  have hS := hS.ext hx_72
  refine Wx.rd (v := .tuple #[.int .i64 (hourV 3 3 sS [6, 5, 4, 3] 7), .int .i64 (hourX 3 3 sS [6, 5, 4, 3] 7)]) (rd_move rfl) rfl ?_
  refine Wx.rd (v := .int .i64 (hourV 3 3 sS [6, 5, 4, 3] 7)) (rd_extract rfl rfl) rfl ?_
  refine Wx.rd (v := .int .i64 (hourX 3 3 sS [6, 5, 4, 3] 7)) (rd_extract rfl rfl) rfl ?_
  refine Wx.rd (v := .int .i64 2) (Rd.to (v := .int .i64 (hourV 3 3 sS [6, 5, 4, 3] 7)) (rd_assign rfl) (congrArg (Value.int .i64) (show (2 : Int) = (hourV 3 3 sS [6, 5, 4, 3] 7 : Int) from (by decide +kernel)).symm)) rfl ?_
  refine Wx.rd (v := .int .i64 0) (Rd.to (v := .int .i64 (hourX 3 3 sS [6, 5, 4, 3] 7)) (rd_assign rfl) (congrArg (Value.int .i64) (show (0 : Int) = (hourX 3 3 sS [6, 5, 4, 3] 7 : Int) from (by decide +kernel)).symm)) rfl ?_
  refine Wx.nil ?_
  refine W.seq ?_
  refine W.reg ?_
  refine Wx.callF (run_callF Try.call48 rfl) (F48 hS.fb_lt) rfl ?_
  rintro r_73 w_74 hx_75 ⟨v_76, rfl, hv_77⟩
  have ln_79 := hv_77.len63
  have hS := hS.ext hx_75
  have hS := hS.add hv_77
  refine Wx.callF (run_callF Try.call31 rfl) (F31 (in_i64 (by omega) (by omega)) (in_i64 (by omega) (by omega)) (hS.v 0 rfl) (in_i64 (by omega) (by omega)) hS.fb_lt) rfl ?_
  rintro r_80 w_81 hx_82 ⟨v_83, rfl, hv_84⟩
  have hS := hS.pushFr hx_82 hv_84
  refine Wx.rd (v := .tuple #[v_83, .int .i64 (atE 3 3 sS 0)]) (rd_move rfl) rfl ?_
  refine Wx.rd (v := v_83) (rd_extract rfl rfl) rfl ?_
  refine Wx.rd (v := .int .i64 (atE 3 3 sS 0)) (rd_extract rfl rfl) rfl ?_
  refine Wx.rd (v := v_83) (rd_assign rfl) rfl ?_
  refine Wx.rd (v := .int .i64 0) (Rd.to (v := .int .i64 (atE 3 3 sS 0)) (rd_assign rfl) (congrArg (Value.int .i64) (show (0 : Int) = (atE 3 3 sS 0 : Int) from (by decide +kernel)).symm)) rfl ?_
  refine Wx.nil ?_
  refine W.seq ?_
  refine W.seq ?_
  refine W.reg ?_
  refine Wx.rd (v := .int .i64 0) (rd_move rfl) rfl ?_
  refine Wx.rd (v := .bool false) (Rd.to (v := .bool (decide ((0 : Int) ≠ 0))) (rd_neq rfl rfl) rfl) rfl ?_
  refine Wx.rd (v := .bool false) (rd_move rfl) rfl ?_
  refine Wx.gyes rfl rfl rfl ?_
  refine Wx.rd (v := .int .i64 0) (rd_move rfl) rfl ?_
  refine Wx.gyes rfl rfl rfl ?_
  refine Wx.rd (v := .bool false) (Rd.to (v := .bool (decide ((0 : Int) ≠ 0))) (rd_neq rfl rfl) rfl) rfl ?_
  refine Wx.rd (v := .bool false) (rd_pickF rfl rfl) rfl ?_
  refine Wx.rd (v := .bool false) (rd_move rfl) rfl ?_
  refine Wx.gyes rfl rfl rfl ?_
  refine Wx.rd (v := .int .i64 0) (rd_move rfl) rfl ?_
  refine Wx.gyes rfl rfl rfl ?_
  refine Wx.rd (v := .bool false) (Rd.to (v := .bool (decide ((0 : Int) ≠ 0))) (rd_neq rfl rfl) rfl) rfl ?_
  refine Wx.rd (v := .bool false) (rd_pickF rfl rfl) rfl ?_
  refine Wx.rd (v := .bool false) (rd_move rfl) rfl ?_
  refine Wx.gyes rfl rfl rfl ?_
  refine Wx.rd (v := .int .i64 0) (rd_move rfl) rfl ?_
  refine Wx.gyes rfl rfl rfl ?_
  refine Wx.rd (v := .bool false) (Rd.to (v := .bool (decide ((0 : Int) ≠ 0))) (rd_neq rfl rfl) rfl) rfl ?_
  refine Wx.rd (v := .bool false) (rd_pickF rfl rfl) rfl ?_
  refine Wx.rd (v := .bool false) (rd_move rfl) rfl ?_
  refine Wx.gyes rfl rfl rfl ?_
  refine Wx.rd (v := .int .i64 0) (rd_move rfl) rfl ?_
  refine Wx.gyes rfl rfl rfl ?_
  refine Wx.rd (v := .bool false) (Rd.to (v := .bool (decide ((0 : Int) ≠ 0))) (rd_neq rfl rfl) rfl) rfl ?_
  refine Wx.rd (v := .bool false) (rd_pickF rfl rfl) rfl ?_
  refine Wx.rd (v := .bool false) (rd_move rfl) rfl ?_
  refine Wx.gyes rfl rfl rfl ?_
  refine Wx.rd (v := .int .i64 0) (rd_move rfl) rfl ?_
  refine Wx.gyes rfl rfl rfl ?_
  refine Wx.rd (v := .bool false) (Rd.to (v := .bool (decide ((0 : Int) ≠ 0))) (rd_neq rfl rfl) rfl) rfl ?_
  refine Wx.rd (v := .bool false) (rd_pickF rfl rfl) rfl ?_
  refine Wx.nil ?_
  refine W.condF rfl rfl ?_
  refine W.skip ?_
  refine W.seq ?_
  refine W.reg ?_
  refine Wx.callF (run_callF Try.call48 rfl) (F48 hS.fb_lt) rfl ?_
  rintro r_86 w_87 hx_88 ⟨v_89, rfl, hv_90⟩
  have ln_92 := hv_90.len63
  have hS := hS.ext hx_88
  have hS := hS.add hv_90
  refine Wx.callF (run_callF Try.call33 rfl) (F33 (in_i64 (by omega) (by omega)) (in_i64 (by omega) (by omega)) (hS.v 0 rfl) (in_i64 (by omega) (by omega)) hS.fb_lt) rfl ?_
  rintro r_93 w_94 hx_95 ⟨v_96, rfl, hv_97⟩
  have hS := hS.pushFr hx_95 hv_97
  refine Wx.rd (v := .tuple #[v_96, .int .i64 (atE 3 3 sS 4)]) (rd_move rfl) rfl ?_
  refine Wx.rd (v := v_96) (rd_extract rfl rfl) rfl ?_
  refine Wx.rd (v := .int .i64 (atE 3 3 sS 4)) (rd_extract rfl rfl) rfl ?_
  refine Wx.rd (v := v_96) (rd_assign rfl) rfl ?_
  refine Wx.rd (v := .int .i64 0) (Rd.to (v := .int .i64 (atE 3 3 sS 4)) (rd_assign rfl) (congrArg (Value.int .i64) (show (0 : Int) = (atE 3 3 sS 4 : Int) from (by decide +kernel)).symm)) rfl ?_
  refine Wx.nil ?_
  refine W.seq ?_
  refine W.reg ?_
  refine Wx.callF (run_callF Try.call48 rfl) (F48 hS.fb_lt) rfl ?_
  rintro r_99 w_100 hx_101 ⟨v_102, rfl, hv_103⟩
  have ln_105 := hv_103.len63
  have hS := hS.ext hx_101
  have hS := hS.add hv_103
  refine Wx.callF (run_callF Try.call37 rfl) (F37 (in_i64 (by omega) (by omega)) (in_i64 (by omega) (by omega)) (hS.v 0 rfl) (in_i64 (by omega) (by omega)) (in_i64 (by omega) (by omega)) hS.fb_lt) rfl ?_
  rintro r_106 w_107 hx_108 rfl
  have hS := hS.ext hx_108
  refine Wx.rd (v := .tuple #[.int .i64 (betwE 3 3 sS 4 0), .int .i64 (betwX 3 3 sS 4 0)]) (rd_move rfl) rfl ?_
  refine Wx.rd (v := .int .i64 (betwE 3 3 sS 4 0)) (rd_extract rfl rfl) rfl ?_
  refine Wx.rd (v := .int .i64 (betwX 3 3 sS 4 0)) (rd_extract rfl rfl) rfl ?_
  refine Wx.rd (v := .int .i64 5) (Rd.to (v := .int .i64 (betwE 3 3 sS 4 0)) (rd_assign rfl) (congrArg (Value.int .i64) (show (5 : Int) = (betwE 3 3 sS 4 0 : Int) from (by decide +kernel)).symm)) rfl ?_
  refine Wx.rd (v := .int .i64 0) (Rd.to (v := .int .i64 (betwX 3 3 sS 4 0)) (rd_assign rfl) (congrArg (Value.int .i64) (show (0 : Int) = (betwX 3 3 sS 4 0 : Int) from (by decide +kernel)).symm)) rfl ?_
  refine Wx.nil ?_
  refine W.seq ?_
  refine W.reg ?_
  refine Wx.callF (run_callF Try.call48 rfl) (F48 hS.fb_lt) rfl ?_
  rintro r_109 w_110 hx_111 ⟨v_112, rfl, hv_113⟩
  have ln_115 := hv_113.len63
  have hS := hS.ext hx_111
  have hS := hS.add hv_113
  refine Wx.callF (run_callF Try.call37 rfl) (F37 (in_i64 (by omega) (by omega)) (in_i64 (by omega) (by omega)) (hS.v 0 rfl) (in_i64 (by omega) (by omega)) (in_i64 (by omega) (by omega)) hS.fb_lt) rfl ?_
  rintro r_116 w_117 hx_118 rfl
  have hS := hS.ext hx_118
  refine Wx.rd (v := .tuple #[.int .i64 (betwE 3 3 sS 4 9), .int .i64 (betwX 3 3 sS 4 9)]) (rd_move rfl) rfl ?_
  refine Wx.rd (v := .int .i64 (betwE 3 3 sS 4 9)) (rd_extract rfl rfl) rfl ?_
  refine Wx.rd (v := .int .i64 (betwX 3 3 sS 4 9)) (rd_extract rfl rfl) rfl ?_
  refine Wx.rd (v := .int .i64 4) (Rd.to (v := .int .i64 (betwE 3 3 sS 4 9)) (rd_assign rfl) (congrArg (Value.int .i64) (show (4 : Int) = (betwE 3 3 sS 4 9 : Int) from (by decide +kernel)).symm)) rfl ?_
  refine Wx.rd (v := .int .i64 0) (Rd.to (v := .int .i64 (betwX 3 3 sS 4 9)) (rd_assign rfl) (congrArg (Value.int .i64) (show (0 : Int) = (betwX 3 3 sS 4 9 : Int) from (by decide +kernel)).symm)) rfl ?_
  refine Wx.nil ?_
  refine W.seq ?_
  refine W.reg ?_
  refine Wx.callF (run_callF Try.call47 rfl) (F47 hS.fb_lt) rfl ?_
  rintro r_119 w_120 hx_121 ⟨v_122, rfl, hv_123⟩
  have ln_125 := hv_123.len63
  have hS := hS.ext hx_121
  have hS := hS.add hv_123
  refine Wx.callF (run_callF Try.call39 rfl) (F39 (in_i64 (by omega) (by omega)) (in_i64 (by omega) (by omega)) (hS.v 0 rfl) hS.fb_lt) rfl ?_
  rintro r_126 w_127 hx_128 ⟨v_129, rfl, hv_130⟩
  have hS := hS.pushFr hx_128 hv_130
  refine Wx.rd (v := .tuple #[v_129, .int .i64 (checkS 4 1 sT)]) (rd_move rfl) rfl ?_
  refine Wx.rd (v := v_129) (rd_extract rfl rfl) rfl ?_
  refine Wx.rd (v := .int .i64 (checkS 4 1 sT)) (rd_extract rfl rfl) rfl ?_
  refine Wx.rd (v := v_129) (rd_assign rfl) rfl ?_
  refine Wx.rd (v := .int .i64 0) (Rd.to (v := .int .i64 (checkS 4 1 sT)) (rd_assign rfl) (congrArg (Value.int .i64) (show (0 : Int) = (checkS 4 1 sT : Int) from (by decide +kernel)).symm)) rfl ?_
  refine Wx.nil ?_
  refine W.seq ?_
  refine W.reg ?_
  refine Wx.callF (run_callF Try.call48 rfl) (F48 hS.fb_lt) rfl ?_
  rintro r_132 w_133 hx_134 ⟨v_135, rfl, hv_136⟩
  have ln_138 := hv_136.len63
  have hS := hS.ext hx_134
  have hS := hS.add hv_136
  refine Wx.lit (t := (tI .i64)) (ys := [6, 5, 4, 3]) (vs := [.int .i64 6, .int .i64 5, .int .i64 4, .int .i64 3]) elMb_22 hS rfl rfl ⟨(V.mkInt (in_i64 (by omega) (by omega))), ⟨(V.mkInt (in_i64 (by omega) (by omega))), ⟨(V.mkInt (in_i64 (by omega) (by omega))), ⟨(V.mkInt (in_i64 (by omega) (by omega))), trivial⟩⟩⟩⟩ (by decide) rfl (fun v_139 w_140 hx_141 hS => ?_)
  have hS := hS.freeze 0 rfl
  refine Wx.callF (run_callF Try.call49 rfl) (F49 (hS.v 0 rfl) hS.fb_lt) rfl ?_
  rintro r_143 w_144 hx_145 ⟨_, rfl, hv_146⟩
  have ln_148 := hv_146.len63
  have hS := hS.ext hx_145
  have hS := hS.add hv_146
  refine Wx.callF (run_callF Try.call29 rfl) (F29 (in_i64 (by omega) (by omega)) (in_i64 (by omega) (by omega)) (hS.v 2 rfl) (hS.v 0 rfl) (in_i64 (by omega) (by omega))) rfl ?_
  rintro r_149 w_150 hx_151 rfl
  have hS := hS.ext hx_151
  refine Wx.rd (v := .tuple #[.int .i64 (hourV 3 3 sS [6, 5, 4, 3] 4), .int .i64 (hourX 3 3 sS [6, 5, 4, 3] 4)]) (rd_move rfl) rfl ?_
  refine Wx.rd (v := .int .i64 (hourV 3 3 sS [6, 5, 4, 3] 4)) (rd_extract rfl rfl) rfl ?_
  refine Wx.rd (v := .int .i64 (hourX 3 3 sS [6, 5, 4, 3] 4)) (rd_extract rfl rfl) rfl ?_
  refine Wx.rd (v := .int .i64 12) (Rd.to (v := .int .i64 (hourX 3 3 sS [6, 5, 4, 3] 4)) (rd_assign rfl) (congrArg (Value.int .i64) (show (12 : Int) = (hourX 3 3 sS [6, 5, 4, 3] 4 : Int) from (by decide +kernel)).symm)) rfl ?_
  refine Wx.nil ?_
  refine W.seq ?_
  refine W.reg ?_
  refine Wx.callF (run_callF Try.call48 rfl) (F48 hS.fb_lt) rfl ?_
  rintro r_152 w_153 hx_154 ⟨v_155, rfl, hv_156⟩
  have ln_158 := hv_156.len63
  have hS := hS.ext hx_154
  have hS := hS.add hv_156
  refine Wx.callF (run_callF Try.call37 rfl) (F37 (in_i64 (by omega) (by omega)) (in_i64 (by omega) (by omega)) (hS.v 0 rfl) (in_i64 (by omega) (by omega)) (in_i64 (by omega) (by omega)) hS.fb_lt) rfl ?_
  rintro r_159 w_160 hx_161 rfl
  have hS := hS.ext hx_161
  refine Wx.rd (v := .tuple #[.int .i64 (betwE 3 3 sS 4 10), .int .i64 (betwX 3 3 sS 4 10)]) (rd_move rfl) rfl ?_
  refine Wx.rd (v := .int .i64 (betwE 3 3 sS 4 10)) (rd_extract rfl rfl) rfl ?_
  refine Wx.rd (v := .int .i64 (betwX 3 3 sS 4 10)) (rd_extract rfl rfl) rfl ?_
  refine Wx.rd (v := .int .i64 (betwX 3 3 sS 4 10)) (rd_assign rfl) rfl ?_
  refine Wx.nil ?_
  refine W.seq ?_
  refine W.reg ?_
  refine Wx.rd (v := .int .i64 0) (rd_move rfl) rfl ?_
  refine Wx.rd (v := .bool true) (Rd.to (v := .bool (decide ((0 : Int) = 0))) (rd_eql rfl rfl) rfl) rfl ?_
  refine Wx.rd (v := .bool true) (rd_move rfl) rfl ?_
  refine Wx.gyes rfl rfl rfl ?_
  refine Wx.rd (v := .int .i64 0) (rd_move rfl) rfl ?_
  refine Wx.gyes rfl rfl rfl ?_
  refine Wx.rd (v := .bool true) (Rd.to (v := .bool (decide ((0 : Int) = 0))) (rd_eql rfl rfl) rfl) rfl ?_
  refine Wx.rd (v := .bool true) (rd_pickT rfl rfl) rfl ?_
  refine Wx.rd (v := .bool true) (rd_move rfl) rfl ?_
  refine Wx.gyes rfl rfl rfl ?_
  refine Wx.rd (v := .int .i64 0) (rd_move rfl) rfl ?_
  refine Wx.gyes rfl rfl rfl ?_
  refine Wx.rd (v := .bool true) (Rd.to (v := .bool (decide ((0 : Int) = 0))) (rd_eql rfl rfl) rfl) rfl ?_
  refine Wx.rd (v := .bool true) (rd_pickT rfl rfl) rfl ?_
  refine Wx.rd (v := .bool true) (rd_move rfl) rfl ?_
  refine Wx.gyes rfl rfl rfl ?_
  refine Wx.rd (v := .int .i64 0) (rd_move rfl) rfl ?_
  refine Wx.gyes rfl rfl rfl ?_
  refine Wx.rd (v := .bool true) (Rd.to (v := .bool (decide ((0 : Int) = 0))) (rd_eql rfl rfl) rfl) rfl ?_
  refine Wx.rd (v := .bool true) (rd_pickT rfl rfl) rfl ?_
  refine Wx.rd (v := .bool true) (rd_move rfl) rfl ?_
  refine Wx.gyes rfl rfl rfl ?_
  refine Wx.rd (v := .int .i64 12) (rd_move rfl) rfl ?_
  refine Wx.gyes rfl rfl rfl ?_
  refine Wx.rd (v := .bool true) (Rd.to (v := .bool (decide ((12 : Int) = 12))) (rd_eql rfl rfl) rfl) rfl ?_
  refine Wx.rd (v := .bool true) (rd_pickT rfl rfl) rfl ?_
  refine Wx.rd (v := .bool true) (rd_move rfl) rfl ?_
  refine Wx.gyes rfl rfl rfl ?_
  refine Wx.rd (v := .int .i64 (betwX 3 3 sS 4 10)) (rd_move rfl) rfl ?_
  refine Wx.gyes rfl rfl rfl ?_
  refine Wx.rd (v := .bool (decide ((betwX 3 3 sS 4 10) = 2))) (rd_eql rfl rfl) rfl ?_
  refine Wx.rd (v := .bool (decide ((betwX 3 3 sS 4 10) = 2))) (rd_pickT rfl rfl) rfl ?_
  refine Wx.rd (v := .bool (decide ((betwX 3 3 sS 4 10) = 2))) (rd_move rfl) rfl ?_
  refine Wx.cut (X := Unit) 5 [126, 127, 128, 129, 130] (fun _ => [(130, .bool (decide ((betwX 3 3 sS 4 10) = 2) && true))]) (fun _ w' => St w [] w' [Ob.v (tSl (tI .i64)) sS v_155, Ob.v (tSl (tI .i64)) [6, 5, 4, 3] r_143, Ob.v (tSl (tI .i64)) [6, 5, 4, 3] v_139, Ob.v (tSl (tI .i64)) sS v_135, .row (tP (tI .i64) (tI .i64)) 74 v_129 (treeE 4 1 sT), Ob.v (tSl (tI .i64)) sT v_122, Ob.v (tSl (tI .i64)) sS v_112, Ob.v (tSl (tI .i64)) sS v_102, .row (tI .i64) 3 v_96 (basinE 3 3 sS 4), Ob.v (tSl (tI .i64)) sS v_89, .row (tI .i64) 3 v_83 (wayE 3 3 sS 0), Ob.v (tSl (tI .i64)) sS v_76, Ob.v (tSl (tI .i64)) [6, 5, 4, 3] r_64, Ob.v (tSl (tI .i64)) [6, 5, 4, 3] v_60, Ob.v (tSl (tI .i64)) sS v_56, .row (tSl (tI .i64)) 22 v_50 (poolsE 4 1 sT 2), Ob.v (tSl (tI .i64)) sT v_43, .row (tI .i64) 3 v_37 (bareE 3 3 sS 0), Ob.v (tSl (tI .i64)) sS v_30, .row (tI .i64) 3 v_24 (depthsE 3 3 sS 5), Ob.v (tSl (tI .i64)) sS v_17, .row (tI .i64) 3 v_11 (sillsE 3 3 sS), Ob.v (tSl (tI .i64)) sS v_4]) ?_ ?_
  · rcases Bool.eq_false_or_eq_true (decide ((betwX 3 3 sS 4 10) = 2)) with g_162 | g_162
    · -- True
      have gp_163 := of_decide_eq_true g_162
      refine Wx.gyes rfl rfl (congrArg Value.bool g_162) ?_
      refine Wx.rd (v := v_11) (rd_move rfl) rfl ?_
      refine Wx.gyes rfl rfl (congrArg Value.bool g_162) ?_
      refine Wx.lit (t := (tI .i64)) (ys := [5, 5, 5, 5, 4, 5, 5, 4, 5]) (vs := [.int .i64 5, .int .i64 5, .int .i64 5, .int .i64 5, .int .i64 4, .int .i64 5, .int .i64 5, .int .i64 4, .int .i64 5]) elMb_22 hS rfl rfl ⟨(V.mkInt (in_i64 (by omega) (by omega))), ⟨(V.mkInt (in_i64 (by omega) (by omega))), ⟨(V.mkInt (in_i64 (by omega) (by omega))), ⟨(V.mkInt (in_i64 (by omega) (by omega))), ⟨(V.mkInt (in_i64 (by omega) (by omega))), ⟨(V.mkInt (in_i64 (by omega) (by omega))), ⟨(V.mkInt (in_i64 (by omega) (by omega))), ⟨(V.mkInt (in_i64 (by omega) (by omega))), ⟨(V.mkInt (in_i64 (by omega) (by omega))), trivial⟩⟩⟩⟩⟩⟩⟩⟩⟩ (by decide) rfl (fun v_164 w_165 hx_166 hS => ?_)
      refine Wx.gyes rfl rfl (congrArg Value.bool g_162) ?_
      have hS := hS.freeze 0 rfl
      refine Wx.callF (run_callF Try.call49 rfl) (F49 (hS.v 0 rfl) hS.fb_lt) rfl ?_
      rintro r_168 w_169 hx_170 ⟨_, rfl, hv_171⟩
      have ln_173 := hv_171.len63
      have hS := hS.ext hx_170
      have hS := hS.add hv_171
      refine Wx.gyes rfl rfl (congrArg Value.bool g_162) ?_
      refine Wx.callF (run_callF Try.call21 rfl) (F21 (hS.lend 23 rfl) (hS.v 0 rfl)) rfl ?_
      rintro r_174 w_175 hx_176 rfl
      have hS := hS.ext hx_176
      rw [show (decide ((sillsE 3 3 sS) = [5, 5, 5, 5, 4, 5, 5, 4, 5]) : Bool) = true from (by decide +kernel)]
      refine Wx.rd (v := .bool true) (rd_pickT (congrArg Value.bool g_162) rfl) rfl ?_
      refine Wx.nil ⟨(), St.tl (hS.tl), ⟨?_, trivial⟩, Out.look rfl Out.refl⟩
      show Value.bool true = Value.bool (decide ((betwX 3 3 sS 4 10) = 2) && true)
      first | rw [g_162, Bool.true_and] | (rw [g_162]; rfl)
    · -- False
      have gp_177 := of_decide_eq_false g_162
      refine Wx.gnoB rfl rfl (congrArg Value.bool g_162) rfl rfl ?_
      refine Wx.gnoB rfl rfl (congrArg Value.bool g_162) rfl rfl ?_
      refine Wx.gnoB rfl rfl (congrArg Value.bool g_162) rfl rfl ?_
      refine Wx.gnoB rfl rfl (congrArg Value.bool g_162) rfl rfl ?_
      refine Wx.rd (v := .bool false) (rd_pickF (congrArg Value.bool g_162) rfl) rfl ?_
      refine Wx.nil ⟨(), hS, ⟨?_, trivial⟩, Out.look rfl Out.refl⟩
      show Value.bool false = Value.bool (decide ((betwX 3 3 sS 4 10) = 2) && true)
      first | rw [g_162, Bool.false_and] | (rw [g_162]; rfl)
  rintro ⟨⟩ u_179 w_178 hS
  refine Wx.rd (v := .bool (decide ((betwX 3 3 sS 4 10) = 2) && true)) (rd_move rfl) rfl ?_
  refine Wx.cut (X := Unit) 5 [132, 133, 134, 135, 136] (fun _ => [(136, .bool ((decide ((betwX 3 3 sS 4 10) = 2) && true) && true))]) (fun _ w' => St w [] w' [Ob.v (tSl (tI .i64)) sS v_155, Ob.v (tSl (tI .i64)) [6, 5, 4, 3] r_143, Ob.v (tSl (tI .i64)) [6, 5, 4, 3] v_139, Ob.v (tSl (tI .i64)) sS v_135, .row (tP (tI .i64) (tI .i64)) 74 v_129 (treeE 4 1 sT), Ob.v (tSl (tI .i64)) sT v_122, Ob.v (tSl (tI .i64)) sS v_112, Ob.v (tSl (tI .i64)) sS v_102, .row (tI .i64) 3 v_96 (basinE 3 3 sS 4), Ob.v (tSl (tI .i64)) sS v_89, .row (tI .i64) 3 v_83 (wayE 3 3 sS 0), Ob.v (tSl (tI .i64)) sS v_76, Ob.v (tSl (tI .i64)) [6, 5, 4, 3] r_64, Ob.v (tSl (tI .i64)) [6, 5, 4, 3] v_60, Ob.v (tSl (tI .i64)) sS v_56, .row (tSl (tI .i64)) 22 v_50 (poolsE 4 1 sT 2), Ob.v (tSl (tI .i64)) sT v_43, .row (tI .i64) 3 v_37 (bareE 3 3 sS 0), Ob.v (tSl (tI .i64)) sS v_30, .row (tI .i64) 3 v_24 (depthsE 3 3 sS 5), Ob.v (tSl (tI .i64)) sS v_17, .row (tI .i64) 3 v_11 (sillsE 3 3 sS), Ob.v (tSl (tI .i64)) sS v_4]) ?_ ?_
  · rcases Bool.eq_false_or_eq_true (decide ((betwX 3 3 sS 4 10) = 2) && true) with g_180 | g_180
    · -- True
      have gp_181 := g_180
      try simp only [Bool.and_eq_true, Bool.or_eq_true, Bool.not_eq_true', Bool.and_eq_false_iff, Bool.or_eq_false_iff, Bool.not_eq_false', decide_eq_true_eq, decide_eq_false_iff_not, not_or, Bool.false_eq_true, Bool.true_eq_false, false_or, or_false, not_false_eq_true] at gp_181
      refine Wx.gyes rfl rfl (congrArg Value.bool g_180) ?_
      refine Wx.rd (v := v_24) (rd_move rfl) rfl ?_
      refine Wx.gyes rfl rfl (congrArg Value.bool g_180) ?_
      refine Wx.lit (t := (tI .i64)) (ys := [0, 0, 0, 0, 3, 0, 0, 1, 0]) (vs := [.int .i64 0, .int .i64 0, .int .i64 0, .int .i64 0, .int .i64 3, .int .i64 0, .int .i64 0, .int .i64 1, .int .i64 0]) elMb_22 hS rfl rfl ⟨(V.mkInt (in_i64 (by omega) (by omega))), ⟨(V.mkInt (in_i64 (by omega) (by omega))), ⟨(V.mkInt (in_i64 (by omega) (by omega))), ⟨(V.mkInt (in_i64 (by omega) (by omega))), ⟨(V.mkInt (in_i64 (by omega) (by omega))), ⟨(V.mkInt (in_i64 (by omega) (by omega))), ⟨(V.mkInt (in_i64 (by omega) (by omega))), ⟨(V.mkInt (in_i64 (by omega) (by omega))), ⟨(V.mkInt (in_i64 (by omega) (by omega))), trivial⟩⟩⟩⟩⟩⟩⟩⟩⟩ (by decide) rfl (fun v_182 w_183 hx_184 hS => ?_)
      refine Wx.gyes rfl rfl (congrArg Value.bool g_180) ?_
      have hS := hS.freeze 0 rfl
      refine Wx.callF (run_callF Try.call49 rfl) (F49 (hS.v 0 rfl) hS.fb_lt) rfl ?_
      rintro r_186 w_187 hx_188 ⟨_, rfl, hv_189⟩
      have ln_191 := hv_189.len63
      have hS := hS.ext hx_188
      have hS := hS.add hv_189
      refine Wx.gyes rfl rfl (congrArg Value.bool g_180) ?_
      refine Wx.callF (run_callF Try.call21 rfl) (F21 (hS.lend 21 rfl) (hS.v 0 rfl)) rfl ?_
      rintro r_192 w_193 hx_194 rfl
      have hS := hS.ext hx_194
      rw [show (decide ((depthsE 3 3 sS 5) = [0, 0, 0, 0, 3, 0, 0, 1, 0]) : Bool) = true from (by decide +kernel)]
      refine Wx.rd (v := .bool true) (rd_pickT (congrArg Value.bool g_180) rfl) rfl ?_
      refine Wx.nil ⟨(), St.tl (hS.tl), ⟨?_, trivial⟩, Out.look rfl Out.refl⟩
      show Value.bool true = Value.bool ((decide ((betwX 3 3 sS 4 10) = 2) && true) && true)
      first | rw [g_180, Bool.true_and] | (rw [g_180]; rfl)
    · -- False
      have gp_195 := g_180
      try simp only [Bool.and_eq_true, Bool.or_eq_true, Bool.not_eq_true', Bool.and_eq_false_iff, Bool.or_eq_false_iff, Bool.not_eq_false', decide_eq_true_eq, decide_eq_false_iff_not, not_or, Bool.false_eq_true, Bool.true_eq_false, false_or, or_false, not_false_eq_true] at gp_195
      refine Wx.gnoB rfl rfl (congrArg Value.bool g_180) rfl rfl ?_
      refine Wx.gnoB rfl rfl (congrArg Value.bool g_180) rfl rfl ?_
      refine Wx.gnoB rfl rfl (congrArg Value.bool g_180) rfl rfl ?_
      refine Wx.gnoB rfl rfl (congrArg Value.bool g_180) rfl rfl ?_
      refine Wx.rd (v := .bool false) (rd_pickF (congrArg Value.bool g_180) rfl) rfl ?_
      refine Wx.nil ⟨(), hS, ⟨?_, trivial⟩, Out.look rfl Out.refl⟩
      show Value.bool false = Value.bool ((decide ((betwX 3 3 sS 4 10) = 2) && true) && true)
      first | rw [g_180, Bool.false_and] | (rw [g_180]; rfl)
  rintro ⟨⟩ u_197 w_196 hS
  refine Wx.rd (v := .bool ((decide ((betwX 3 3 sS 4 10) = 2) && true) && true)) (rd_move rfl) rfl ?_
  refine Wx.cut (X := Unit) 5 [138, 139, 140, 141, 142] (fun _ => [(142, .bool (((decide ((betwX 3 3 sS 4 10) = 2) && true) && true) && true))]) (fun _ w' => St w [] w' [Ob.v (tSl (tI .i64)) sS v_155, Ob.v (tSl (tI .i64)) [6, 5, 4, 3] r_143, Ob.v (tSl (tI .i64)) [6, 5, 4, 3] v_139, Ob.v (tSl (tI .i64)) sS v_135, .row (tP (tI .i64) (tI .i64)) 74 v_129 (treeE 4 1 sT), Ob.v (tSl (tI .i64)) sT v_122, Ob.v (tSl (tI .i64)) sS v_112, Ob.v (tSl (tI .i64)) sS v_102, .row (tI .i64) 3 v_96 (basinE 3 3 sS 4), Ob.v (tSl (tI .i64)) sS v_89, .row (tI .i64) 3 v_83 (wayE 3 3 sS 0), Ob.v (tSl (tI .i64)) sS v_76, Ob.v (tSl (tI .i64)) [6, 5, 4, 3] r_64, Ob.v (tSl (tI .i64)) [6, 5, 4, 3] v_60, Ob.v (tSl (tI .i64)) sS v_56, .row (tSl (tI .i64)) 22 v_50 (poolsE 4 1 sT 2), Ob.v (tSl (tI .i64)) sT v_43, .row (tI .i64) 3 v_37 (bareE 3 3 sS 0), Ob.v (tSl (tI .i64)) sS v_30, .row (tI .i64) 3 v_24 (depthsE 3 3 sS 5), Ob.v (tSl (tI .i64)) sS v_17, .row (tI .i64) 3 v_11 (sillsE 3 3 sS), Ob.v (tSl (tI .i64)) sS v_4]) ?_ ?_
  · rcases Bool.eq_false_or_eq_true ((decide ((betwX 3 3 sS 4 10) = 2) && true) && true) with g_198 | g_198
    · -- True
      have gp_199 := g_198
      try simp only [Bool.and_eq_true, Bool.or_eq_true, Bool.not_eq_true', Bool.and_eq_false_iff, Bool.or_eq_false_iff, Bool.not_eq_false', decide_eq_true_eq, decide_eq_false_iff_not, not_or, Bool.false_eq_true, Bool.true_eq_false, false_or, or_false, not_false_eq_true] at gp_199
      refine Wx.gyes rfl rfl (congrArg Value.bool g_198) ?_
      refine Wx.rd (v := v_37) (rd_move rfl) rfl ?_
      refine Wx.gyes rfl rfl (congrArg Value.bool g_198) ?_
      refine Wx.lit (t := (tI .i64)) (ys := [0, 1, 2, 3, 5, 6, 7, 8]) (vs := [.int .i64 0, .int .i64 1, .int .i64 2, .int .i64 3, .int .i64 5, .int .i64 6, .int .i64 7, .int .i64 8]) elMb_22 hS rfl rfl ⟨(V.mkInt (in_i64 (by omega) (by omega))), ⟨(V.mkInt (in_i64 (by omega) (by omega))), ⟨(V.mkInt (in_i64 (by omega) (by omega))), ⟨(V.mkInt (in_i64 (by omega) (by omega))), ⟨(V.mkInt (in_i64 (by omega) (by omega))), ⟨(V.mkInt (in_i64 (by omega) (by omega))), ⟨(V.mkInt (in_i64 (by omega) (by omega))), ⟨(V.mkInt (in_i64 (by omega) (by omega))), trivial⟩⟩⟩⟩⟩⟩⟩⟩ (by decide) rfl (fun v_200 w_201 hx_202 hS => ?_)
      refine Wx.gyes rfl rfl (congrArg Value.bool g_198) ?_
      have hS := hS.freeze 0 rfl
      refine Wx.callF (run_callF Try.call49 rfl) (F49 (hS.v 0 rfl) hS.fb_lt) rfl ?_
      rintro r_204 w_205 hx_206 ⟨_, rfl, hv_207⟩
      have ln_209 := hv_207.len63
      have hS := hS.ext hx_206
      have hS := hS.add hv_207
      refine Wx.gyes rfl rfl (congrArg Value.bool g_198) ?_
      refine Wx.callF (run_callF Try.call21 rfl) (F21 (hS.lend 19 rfl) (hS.v 0 rfl)) rfl ?_
      rintro r_210 w_211 hx_212 rfl
      have hS := hS.ext hx_212
      rw [show (decide ((bareE 3 3 sS 0) = [0, 1, 2, 3, 5, 6, 7, 8]) : Bool) = true from (by decide +kernel)]
      refine Wx.rd (v := .bool true) (rd_pickT (congrArg Value.bool g_198) rfl) rfl ?_
      refine Wx.nil ⟨(), St.tl (hS.tl), ⟨?_, trivial⟩, Out.look rfl Out.refl⟩
      show Value.bool true = Value.bool (((decide ((betwX 3 3 sS 4 10) = 2) && true) && true) && true)
      first | rw [g_198, Bool.true_and] | (rw [g_198]; rfl)
    · -- False
      have gp_213 := g_198
      try simp only [Bool.and_eq_true, Bool.or_eq_true, Bool.not_eq_true', Bool.and_eq_false_iff, Bool.or_eq_false_iff, Bool.not_eq_false', decide_eq_true_eq, decide_eq_false_iff_not, not_or, Bool.false_eq_true, Bool.true_eq_false, false_or, or_false, not_false_eq_true] at gp_213
      refine Wx.gnoB rfl rfl (congrArg Value.bool g_198) rfl rfl ?_
      refine Wx.gnoB rfl rfl (congrArg Value.bool g_198) rfl rfl ?_
      refine Wx.gnoB rfl rfl (congrArg Value.bool g_198) rfl rfl ?_
      refine Wx.gnoB rfl rfl (congrArg Value.bool g_198) rfl rfl ?_
      refine Wx.rd (v := .bool false) (rd_pickF (congrArg Value.bool g_198) rfl) rfl ?_
      refine Wx.nil ⟨(), hS, ⟨?_, trivial⟩, Out.look rfl Out.refl⟩
      show Value.bool false = Value.bool (((decide ((betwX 3 3 sS 4 10) = 2) && true) && true) && true)
      first | rw [g_198, Bool.false_and] | (rw [g_198]; rfl)
  rintro ⟨⟩ u_215 w_214 hS
  refine Wx.rd (v := .bool (((decide ((betwX 3 3 sS 4 10) = 2) && true) && true) && true)) (rd_move rfl) rfl ?_
  refine Wx.cut (X := Unit) 5 [144, 145, 146, 147, 148] (fun _ => [(148, .bool ((((decide ((betwX 3 3 sS 4 10) = 2) && true) && true) && true) && true))]) (fun _ w' => St w [] w' [Ob.v (tSl (tI .i64)) sS v_155, Ob.v (tSl (tI .i64)) [6, 5, 4, 3] r_143, Ob.v (tSl (tI .i64)) [6, 5, 4, 3] v_139, Ob.v (tSl (tI .i64)) sS v_135, .row (tP (tI .i64) (tI .i64)) 74 v_129 (treeE 4 1 sT), Ob.v (tSl (tI .i64)) sT v_122, Ob.v (tSl (tI .i64)) sS v_112, Ob.v (tSl (tI .i64)) sS v_102, .row (tI .i64) 3 v_96 (basinE 3 3 sS 4), Ob.v (tSl (tI .i64)) sS v_89, .row (tI .i64) 3 v_83 (wayE 3 3 sS 0), Ob.v (tSl (tI .i64)) sS v_76, Ob.v (tSl (tI .i64)) [6, 5, 4, 3] r_64, Ob.v (tSl (tI .i64)) [6, 5, 4, 3] v_60, Ob.v (tSl (tI .i64)) sS v_56, .row (tSl (tI .i64)) 22 v_50 (poolsE 4 1 sT 2), Ob.v (tSl (tI .i64)) sT v_43, .row (tI .i64) 3 v_37 (bareE 3 3 sS 0), Ob.v (tSl (tI .i64)) sS v_30, .row (tI .i64) 3 v_24 (depthsE 3 3 sS 5), Ob.v (tSl (tI .i64)) sS v_17, .row (tI .i64) 3 v_11 (sillsE 3 3 sS), Ob.v (tSl (tI .i64)) sS v_4]) ?_ ?_
  · rcases Bool.eq_false_or_eq_true (((decide ((betwX 3 3 sS 4 10) = 2) && true) && true) && true) with g_216 | g_216
    · -- True
      have gp_217 := g_216
      try simp only [Bool.and_eq_true, Bool.or_eq_true, Bool.not_eq_true', Bool.and_eq_false_iff, Bool.or_eq_false_iff, Bool.not_eq_false', decide_eq_true_eq, decide_eq_false_iff_not, not_or, Bool.false_eq_true, Bool.true_eq_false, false_or, or_false, not_false_eq_true] at gp_217
      refine Wx.gyes rfl rfl (congrArg Value.bool g_216) ?_
      refine Wx.rd (v := v_50) (rd_move rfl) rfl ?_
      refine Wx.gyes rfl rfl (congrArg Value.bool g_216) ?_
      refine Wx.lit (t := (tI .i64)) (ys := [1]) (vs := [.int .i64 1]) elMb_22 hS rfl rfl ⟨(V.mkInt (in_i64 (by omega) (by omega))), trivial⟩ (by decide) rfl (fun v_218 w_219 hx_220 hS => ?_)
      refine Wx.gyes rfl rfl (congrArg Value.bool g_216) ?_
      have hS := hS.freeze 0 rfl
      refine Wx.lit (t := (tSl (tI .i64))) (ys := [[1]]) (vs := [v_218]) elMb_37 hS rfl rfl ⟨(hS.v 0 rfl), trivial⟩ (by decide) rfl (fun v_222 w_223 hx_224 hS => ?_)
      refine Wx.gyes rfl rfl (congrArg Value.bool g_216) ?_
      refine Wx.callF (run_callF Try.call28 rfl) (F28 (hS.lend 17 rfl) (hS.lend 0 rfl)) rfl ?_
      rintro r_225 w_226 hx_227 rfl
      have hS := hS.ext hx_227
      rw [show (decide ((poolsE 4 1 sT 2) = [[1]]) : Bool) = true from (by decide +kernel)]
      refine Wx.rd (v := .bool true) (rd_pickT (congrArg Value.bool g_216) rfl) rfl ?_
      refine Wx.nil ⟨(), St.tl (hS.tl), ⟨?_, trivial⟩, Out.look rfl Out.refl⟩
      show Value.bool true = Value.bool ((((decide ((betwX 3 3 sS 4 10) = 2) && true) && true) && true) && true)
      first | rw [g_216, Bool.true_and] | (rw [g_216]; rfl)
    · -- False
      have gp_228 := g_216
      try simp only [Bool.and_eq_true, Bool.or_eq_true, Bool.not_eq_true', Bool.and_eq_false_iff, Bool.or_eq_false_iff, Bool.not_eq_false', decide_eq_true_eq, decide_eq_false_iff_not, not_or, Bool.false_eq_true, Bool.true_eq_false, false_or, or_false, not_false_eq_true] at gp_228
      refine Wx.gnoB rfl rfl (congrArg Value.bool g_216) rfl rfl ?_
      refine Wx.gnoB rfl rfl (congrArg Value.bool g_216) rfl rfl ?_
      refine Wx.gnoB rfl rfl (congrArg Value.bool g_216) rfl rfl ?_
      refine Wx.gnoB rfl rfl (congrArg Value.bool g_216) rfl rfl ?_
      refine Wx.rd (v := .bool false) (rd_pickF (congrArg Value.bool g_216) rfl) rfl ?_
      refine Wx.nil ⟨(), hS, ⟨?_, trivial⟩, Out.look rfl Out.refl⟩
      show Value.bool false = Value.bool ((((decide ((betwX 3 3 sS 4 10) = 2) && true) && true) && true) && true)
      first | rw [g_216, Bool.false_and] | (rw [g_216]; rfl)
  rintro ⟨⟩ u_230 w_229 hS
  refine Wx.rd (v := .bool ((((decide ((betwX 3 3 sS 4 10) = 2) && true) && true) && true) && true)) (rd_move rfl) rfl ?_
  refine Wx.cut (X := Unit) 3 [150, 151, 152] (fun _ => [(152, .bool (((((decide ((betwX 3 3 sS 4 10) = 2) && true) && true) && true) && true) && true))]) (fun _ w' => St w [] w' [Ob.v (tSl (tI .i64)) sS v_155, Ob.v (tSl (tI .i64)) [6, 5, 4, 3] r_143, Ob.v (tSl (tI .i64)) [6, 5, 4, 3] v_139, Ob.v (tSl (tI .i64)) sS v_135, .row (tP (tI .i64) (tI .i64)) 74 v_129 (treeE 4 1 sT), Ob.v (tSl (tI .i64)) sT v_122, Ob.v (tSl (tI .i64)) sS v_112, Ob.v (tSl (tI .i64)) sS v_102, .row (tI .i64) 3 v_96 (basinE 3 3 sS 4), Ob.v (tSl (tI .i64)) sS v_89, .row (tI .i64) 3 v_83 (wayE 3 3 sS 0), Ob.v (tSl (tI .i64)) sS v_76, Ob.v (tSl (tI .i64)) [6, 5, 4, 3] r_64, Ob.v (tSl (tI .i64)) [6, 5, 4, 3] v_60, Ob.v (tSl (tI .i64)) sS v_56, .row (tSl (tI .i64)) 22 v_50 (poolsE 4 1 sT 2), Ob.v (tSl (tI .i64)) sT v_43, .row (tI .i64) 3 v_37 (bareE 3 3 sS 0), Ob.v (tSl (tI .i64)) sS v_30, .row (tI .i64) 3 v_24 (depthsE 3 3 sS 5), Ob.v (tSl (tI .i64)) sS v_17, .row (tI .i64) 3 v_11 (sillsE 3 3 sS), Ob.v (tSl (tI .i64)) sS v_4]) ?_ ?_
  · rcases Bool.eq_false_or_eq_true ((((decide ((betwX 3 3 sS 4 10) = 2) && true) && true) && true) && true) with g_231 | g_231
    · -- True
      have gp_232 := g_231
      try simp only [Bool.and_eq_true, Bool.or_eq_true, Bool.not_eq_true', Bool.and_eq_false_iff, Bool.or_eq_false_iff, Bool.not_eq_false', decide_eq_true_eq, decide_eq_false_iff_not, not_or, Bool.false_eq_true, Bool.true_eq_false, false_or, or_false, not_false_eq_true] at gp_232
      refine Wx.gyes rfl rfl (congrArg Value.bool g_231) ?_
      refine Wx.rd (v := .int .i64 2) (rd_move rfl) rfl ?_
      refine Wx.gyes rfl rfl (congrArg Value.bool g_231) ?_
      refine Wx.rd (v := .bool true) (Rd.to (v := .bool (decide ((2 : Int) = 2))) (rd_eql rfl rfl) rfl) rfl ?_
      refine Wx.rd (v := .bool true) (rd_pickT (congrArg Value.bool g_231) rfl) rfl ?_
      refine Wx.nil ⟨(), hS, ⟨?_, trivial⟩, Out.look rfl Out.refl⟩
      show Value.bool true = Value.bool (((((decide ((betwX 3 3 sS 4 10) = 2) && true) && true) && true) && true) && true)
      first | rw [g_231, Bool.true_and] | (rw [g_231]; rfl)
    · -- False
      have gp_233 := g_231
      try simp only [Bool.and_eq_true, Bool.or_eq_true, Bool.not_eq_true', Bool.and_eq_false_iff, Bool.or_eq_false_iff, Bool.not_eq_false', decide_eq_true_eq, decide_eq_false_iff_not, not_or, Bool.false_eq_true, Bool.true_eq_false, false_or, or_false, not_false_eq_true] at gp_233
      refine Wx.gnoB rfl rfl (congrArg Value.bool g_231) rfl rfl ?_
      refine Wx.gnoB rfl rfl (congrArg Value.bool g_231) rfl rfl ?_
      refine Wx.rd (v := .bool false) (rd_pickF (congrArg Value.bool g_231) rfl) rfl ?_
      refine Wx.nil ⟨(), hS, ⟨?_, trivial⟩, Out.look rfl Out.refl⟩
      show Value.bool false = Value.bool (((((decide ((betwX 3 3 sS 4 10) = 2) && true) && true) && true) && true) && true)
      first | rw [g_231, Bool.false_and] | (rw [g_231]; rfl)
  rintro ⟨⟩ u_235 w_234 hS
  refine Wx.rd (v := .bool (((((decide ((betwX 3 3 sS 4 10) = 2) && true) && true) && true) && true) && true)) (rd_move rfl) rfl ?_
  refine Wx.cut (X := Unit) 5 [154, 155, 156, 157, 158] (fun _ => [(158, .bool ((((((decide ((betwX 3 3 sS 4 10) = 2) && true) && true) && true) && true) && true) && true))]) (fun _ w' => St w [] w' [Ob.v (tSl (tI .i64)) sS v_155, Ob.v (tSl (tI .i64)) [6, 5, 4, 3] r_143, Ob.v (tSl (tI .i64)) [6, 5, 4, 3] v_139, Ob.v (tSl (tI .i64)) sS v_135, .row (tP (tI .i64) (tI .i64)) 74 v_129 (treeE 4 1 sT), Ob.v (tSl (tI .i64)) sT v_122, Ob.v (tSl (tI .i64)) sS v_112, Ob.v (tSl (tI .i64)) sS v_102, .row (tI .i64) 3 v_96 (basinE 3 3 sS 4), Ob.v (tSl (tI .i64)) sS v_89, .row (tI .i64) 3 v_83 (wayE 3 3 sS 0), Ob.v (tSl (tI .i64)) sS v_76, Ob.v (tSl (tI .i64)) [6, 5, 4, 3] r_64, Ob.v (tSl (tI .i64)) [6, 5, 4, 3] v_60, Ob.v (tSl (tI .i64)) sS v_56, .row (tSl (tI .i64)) 22 v_50 (poolsE 4 1 sT 2), Ob.v (tSl (tI .i64)) sT v_43, .row (tI .i64) 3 v_37 (bareE 3 3 sS 0), Ob.v (tSl (tI .i64)) sS v_30, .row (tI .i64) 3 v_24 (depthsE 3 3 sS 5), Ob.v (tSl (tI .i64)) sS v_17, .row (tI .i64) 3 v_11 (sillsE 3 3 sS), Ob.v (tSl (tI .i64)) sS v_4]) ?_ ?_
  · rcases Bool.eq_false_or_eq_true (((((decide ((betwX 3 3 sS 4 10) = 2) && true) && true) && true) && true) && true) with g_236 | g_236
    · -- True
      have gp_237 := g_236
      try simp only [Bool.and_eq_true, Bool.or_eq_true, Bool.not_eq_true', Bool.and_eq_false_iff, Bool.or_eq_false_iff, Bool.not_eq_false', decide_eq_true_eq, decide_eq_false_iff_not, not_or, Bool.false_eq_true, Bool.true_eq_false, false_or, or_false, not_false_eq_true] at gp_237
      refine Wx.gyes rfl rfl (congrArg Value.bool g_236) ?_
      refine Wx.rd (v := v_83) (rd_move rfl) rfl ?_
      refine Wx.gyes rfl rfl (congrArg Value.bool g_236) ?_
      refine Wx.lit (t := (tI .i64)) (ys := [0, 3, 6]) (vs := [.int .i64 0, .int .i64 3, .int .i64 6]) elMb_22 hS rfl rfl ⟨(V.mkInt (in_i64 (by omega) (by omega))), ⟨(V.mkInt (in_i64 (by omega) (by omega))), ⟨(V.mkInt (in_i64 (by omega) (by omega))), trivial⟩⟩⟩ (by decide) rfl (fun v_238 w_239 hx_240 hS => ?_)
      refine Wx.gyes rfl rfl (congrArg Value.bool g_236) ?_
      have hS := hS.freeze 0 rfl
      refine Wx.callF (run_callF Try.call49 rfl) (F49 (hS.v 0 rfl) hS.fb_lt) rfl ?_
      rintro r_242 w_243 hx_244 ⟨_, rfl, hv_245⟩
      have ln_247 := hv_245.len63
      have hS := hS.ext hx_244
      have hS := hS.add hv_245
      refine Wx.gyes rfl rfl (congrArg Value.bool g_236) ?_
      refine Wx.callF (run_callF Try.call21 rfl) (F21 (hS.lend 12 rfl) (hS.v 0 rfl)) rfl ?_
      rintro r_248 w_249 hx_250 rfl
      have hS := hS.ext hx_250
      rw [show (decide ((wayE 3 3 sS 0) = [0, 3, 6]) : Bool) = true from (by decide +kernel)]
      refine Wx.rd (v := .bool true) (rd_pickT (congrArg Value.bool g_236) rfl) rfl ?_
      refine Wx.nil ⟨(), St.tl (hS.tl), ⟨?_, trivial⟩, Out.look rfl Out.refl⟩
      show Value.bool true = Value.bool ((((((decide ((betwX 3 3 sS 4 10) = 2) && true) && true) && true) && true) && true) && true)
      first | rw [g_236, Bool.true_and] | (rw [g_236]; rfl)
    · -- False
      have gp_251 := g_236
      try simp only [Bool.and_eq_true, Bool.or_eq_true, Bool.not_eq_true', Bool.and_eq_false_iff, Bool.or_eq_false_iff, Bool.not_eq_false', decide_eq_true_eq, decide_eq_false_iff_not, not_or, Bool.false_eq_true, Bool.true_eq_false, false_or, or_false, not_false_eq_true] at gp_251
      refine Wx.gnoB rfl rfl (congrArg Value.bool g_236) rfl rfl ?_
      refine Wx.gnoB rfl rfl (congrArg Value.bool g_236) rfl rfl ?_
      refine Wx.gnoB rfl rfl (congrArg Value.bool g_236) rfl rfl ?_
      refine Wx.gnoB rfl rfl (congrArg Value.bool g_236) rfl rfl ?_
      refine Wx.rd (v := .bool false) (rd_pickF (congrArg Value.bool g_236) rfl) rfl ?_
      refine Wx.nil ⟨(), hS, ⟨?_, trivial⟩, Out.look rfl Out.refl⟩
      show Value.bool false = Value.bool ((((((decide ((betwX 3 3 sS 4 10) = 2) && true) && true) && true) && true) && true) && true)
      first | rw [g_236, Bool.false_and] | (rw [g_236]; rfl)
  rintro ⟨⟩ u_253 w_252 hS
  refine Wx.rd (v := .bool ((((((decide ((betwX 3 3 sS 4 10) = 2) && true) && true) && true) && true) && true) && true)) (rd_move rfl) rfl ?_
  refine Wx.cut (X := Unit) 5 [160, 161, 162, 163, 164] (fun _ => [(164, .bool (((((((decide ((betwX 3 3 sS 4 10) = 2) && true) && true) && true) && true) && true) && true) && true))]) (fun _ w' => St w [] w' [Ob.v (tSl (tI .i64)) sS v_155, Ob.v (tSl (tI .i64)) [6, 5, 4, 3] r_143, Ob.v (tSl (tI .i64)) [6, 5, 4, 3] v_139, Ob.v (tSl (tI .i64)) sS v_135, .row (tP (tI .i64) (tI .i64)) 74 v_129 (treeE 4 1 sT), Ob.v (tSl (tI .i64)) sT v_122, Ob.v (tSl (tI .i64)) sS v_112, Ob.v (tSl (tI .i64)) sS v_102, .row (tI .i64) 3 v_96 (basinE 3 3 sS 4), Ob.v (tSl (tI .i64)) sS v_89, .row (tI .i64) 3 v_83 (wayE 3 3 sS 0), Ob.v (tSl (tI .i64)) sS v_76, Ob.v (tSl (tI .i64)) [6, 5, 4, 3] r_64, Ob.v (tSl (tI .i64)) [6, 5, 4, 3] v_60, Ob.v (tSl (tI .i64)) sS v_56, .row (tSl (tI .i64)) 22 v_50 (poolsE 4 1 sT 2), Ob.v (tSl (tI .i64)) sT v_43, .row (tI .i64) 3 v_37 (bareE 3 3 sS 0), Ob.v (tSl (tI .i64)) sS v_30, .row (tI .i64) 3 v_24 (depthsE 3 3 sS 5), Ob.v (tSl (tI .i64)) sS v_17, .row (tI .i64) 3 v_11 (sillsE 3 3 sS), Ob.v (tSl (tI .i64)) sS v_4]) ?_ ?_
  · rcases Bool.eq_false_or_eq_true ((((((decide ((betwX 3 3 sS 4 10) = 2) && true) && true) && true) && true) && true) && true) with g_254 | g_254
    · -- True
      have gp_255 := g_254
      try simp only [Bool.and_eq_true, Bool.or_eq_true, Bool.not_eq_true', Bool.and_eq_false_iff, Bool.or_eq_false_iff, Bool.not_eq_false', decide_eq_true_eq, decide_eq_false_iff_not, not_or, Bool.false_eq_true, Bool.true_eq_false, false_or, or_false, not_false_eq_true] at gp_255
      refine Wx.gyes rfl rfl (congrArg Value.bool g_254) ?_
      refine Wx.rd (v := v_96) (rd_move rfl) rfl ?_
      refine Wx.gyes rfl rfl (congrArg Value.bool g_254) ?_
      refine Wx.lit (t := (tI .i64)) (ys := [4]) (vs := [.int .i64 4]) elMb_22 hS rfl rfl ⟨(V.mkInt (in_i64 (by omega) (by omega))), trivial⟩ (by decide) rfl (fun v_256 w_257 hx_258 hS => ?_)
      refine Wx.gyes rfl rfl (congrArg Value.bool g_254) ?_
      have hS := hS.freeze 0 rfl
      refine Wx.callF (run_callF Try.call49 rfl) (F49 (hS.v 0 rfl) hS.fb_lt) rfl ?_
      rintro r_260 w_261 hx_262 ⟨_, rfl, hv_263⟩
      have ln_265 := hv_263.len63
      have hS := hS.ext hx_262
      have hS := hS.add hv_263
      refine Wx.gyes rfl rfl (congrArg Value.bool g_254) ?_
      refine Wx.callF (run_callF Try.call21 rfl) (F21 (hS.lend 10 rfl) (hS.v 0 rfl)) rfl ?_
      rintro r_266 w_267 hx_268 rfl
      have hS := hS.ext hx_268
      rw [show (decide ((basinE 3 3 sS 4) = [4]) : Bool) = true from (by decide +kernel)]
      refine Wx.rd (v := .bool true) (rd_pickT (congrArg Value.bool g_254) rfl) rfl ?_
      refine Wx.nil ⟨(), St.tl (hS.tl), ⟨?_, trivial⟩, Out.look rfl Out.refl⟩
      show Value.bool true = Value.bool (((((((decide ((betwX 3 3 sS 4 10) = 2) && true) && true) && true) && true) && true) && true) && true)
      first | rw [g_254, Bool.true_and] | (rw [g_254]; rfl)
    · -- False
      have gp_269 := g_254
      try simp only [Bool.and_eq_true, Bool.or_eq_true, Bool.not_eq_true', Bool.and_eq_false_iff, Bool.or_eq_false_iff, Bool.not_eq_false', decide_eq_true_eq, decide_eq_false_iff_not, not_or, Bool.false_eq_true, Bool.true_eq_false, false_or, or_false, not_false_eq_true] at gp_269
      refine Wx.gnoB rfl rfl (congrArg Value.bool g_254) rfl rfl ?_
      refine Wx.gnoB rfl rfl (congrArg Value.bool g_254) rfl rfl ?_
      refine Wx.gnoB rfl rfl (congrArg Value.bool g_254) rfl rfl ?_
      refine Wx.gnoB rfl rfl (congrArg Value.bool g_254) rfl rfl ?_
      refine Wx.rd (v := .bool false) (rd_pickF (congrArg Value.bool g_254) rfl) rfl ?_
      refine Wx.nil ⟨(), hS, ⟨?_, trivial⟩, Out.look rfl Out.refl⟩
      show Value.bool false = Value.bool (((((((decide ((betwX 3 3 sS 4 10) = 2) && true) && true) && true) && true) && true) && true) && true)
      first | rw [g_254, Bool.false_and] | (rw [g_254]; rfl)
  rintro ⟨⟩ u_271 w_270 hS
  refine Wx.rd (v := .bool (((((((decide ((betwX 3 3 sS 4 10) = 2) && true) && true) && true) && true) && true) && true) && true)) (rd_move rfl) rfl ?_
  refine Wx.cut (X := Unit) 3 [166, 167, 168] (fun _ => [(168, .bool ((((((((decide ((betwX 3 3 sS 4 10) = 2) && true) && true) && true) && true) && true) && true) && true) && true))]) (fun _ w' => St w [] w' [Ob.v (tSl (tI .i64)) sS v_155, Ob.v (tSl (tI .i64)) [6, 5, 4, 3] r_143, Ob.v (tSl (tI .i64)) [6, 5, 4, 3] v_139, Ob.v (tSl (tI .i64)) sS v_135, .row (tP (tI .i64) (tI .i64)) 74 v_129 (treeE 4 1 sT), Ob.v (tSl (tI .i64)) sT v_122, Ob.v (tSl (tI .i64)) sS v_112, Ob.v (tSl (tI .i64)) sS v_102, .row (tI .i64) 3 v_96 (basinE 3 3 sS 4), Ob.v (tSl (tI .i64)) sS v_89, .row (tI .i64) 3 v_83 (wayE 3 3 sS 0), Ob.v (tSl (tI .i64)) sS v_76, Ob.v (tSl (tI .i64)) [6, 5, 4, 3] r_64, Ob.v (tSl (tI .i64)) [6, 5, 4, 3] v_60, Ob.v (tSl (tI .i64)) sS v_56, .row (tSl (tI .i64)) 22 v_50 (poolsE 4 1 sT 2), Ob.v (tSl (tI .i64)) sT v_43, .row (tI .i64) 3 v_37 (bareE 3 3 sS 0), Ob.v (tSl (tI .i64)) sS v_30, .row (tI .i64) 3 v_24 (depthsE 3 3 sS 5), Ob.v (tSl (tI .i64)) sS v_17, .row (tI .i64) 3 v_11 (sillsE 3 3 sS), Ob.v (tSl (tI .i64)) sS v_4]) ?_ ?_
  · rcases Bool.eq_false_or_eq_true (((((((decide ((betwX 3 3 sS 4 10) = 2) && true) && true) && true) && true) && true) && true) && true) with g_272 | g_272
    · -- True
      have gp_273 := g_272
      try simp only [Bool.and_eq_true, Bool.or_eq_true, Bool.not_eq_true', Bool.and_eq_false_iff, Bool.or_eq_false_iff, Bool.not_eq_false', decide_eq_true_eq, decide_eq_false_iff_not, not_or, Bool.false_eq_true, Bool.true_eq_false, false_or, or_false, not_false_eq_true] at gp_273
      refine Wx.gyes rfl rfl (congrArg Value.bool g_272) ?_
      refine Wx.rd (v := .int .i64 5) (rd_move rfl) rfl ?_
      refine Wx.gyes rfl rfl (congrArg Value.bool g_272) ?_
      refine Wx.rd (v := .bool true) (Rd.to (v := .bool (decide ((5 : Int) = 5))) (rd_eql rfl rfl) rfl) rfl ?_
      refine Wx.rd (v := .bool true) (rd_pickT (congrArg Value.bool g_272) rfl) rfl ?_
      refine Wx.nil ⟨(), hS, ⟨?_, trivial⟩, Out.look rfl Out.refl⟩
      show Value.bool true = Value.bool ((((((((decide ((betwX 3 3 sS 4 10) = 2) && true) && true) && true) && true) && true) && true) && true) && true)
      first | rw [g_272, Bool.true_and] | (rw [g_272]; rfl)
    · -- False
      have gp_274 := g_272
      try simp only [Bool.and_eq_true, Bool.or_eq_true, Bool.not_eq_true', Bool.and_eq_false_iff, Bool.or_eq_false_iff, Bool.not_eq_false', decide_eq_true_eq, decide_eq_false_iff_not, not_or, Bool.false_eq_true, Bool.true_eq_false, false_or, or_false, not_false_eq_true] at gp_274
      refine Wx.gnoB rfl rfl (congrArg Value.bool g_272) rfl rfl ?_
      refine Wx.gnoB rfl rfl (congrArg Value.bool g_272) rfl rfl ?_
      refine Wx.rd (v := .bool false) (rd_pickF (congrArg Value.bool g_272) rfl) rfl ?_
      refine Wx.nil ⟨(), hS, ⟨?_, trivial⟩, Out.look rfl Out.refl⟩
      show Value.bool false = Value.bool ((((((((decide ((betwX 3 3 sS 4 10) = 2) && true) && true) && true) && true) && true) && true) && true) && true)
      first | rw [g_272, Bool.false_and] | (rw [g_272]; rfl)
  rintro ⟨⟩ u_276 w_275 hS
  refine Wx.rd (v := .bool ((((((((decide ((betwX 3 3 sS 4 10) = 2) && true) && true) && true) && true) && true) && true) && true) && true)) (rd_move rfl) rfl ?_
  refine Wx.cut (X := Unit) 3 [170, 171, 172] (fun _ => [(172, .bool (((((((((decide ((betwX 3 3 sS 4 10) = 2) && true) && true) && true) && true) && true) && true) && true) && true) && true))]) (fun _ w' => St w [] w' [Ob.v (tSl (tI .i64)) sS v_155, Ob.v (tSl (tI .i64)) [6, 5, 4, 3] r_143, Ob.v (tSl (tI .i64)) [6, 5, 4, 3] v_139, Ob.v (tSl (tI .i64)) sS v_135, .row (tP (tI .i64) (tI .i64)) 74 v_129 (treeE 4 1 sT), Ob.v (tSl (tI .i64)) sT v_122, Ob.v (tSl (tI .i64)) sS v_112, Ob.v (tSl (tI .i64)) sS v_102, .row (tI .i64) 3 v_96 (basinE 3 3 sS 4), Ob.v (tSl (tI .i64)) sS v_89, .row (tI .i64) 3 v_83 (wayE 3 3 sS 0), Ob.v (tSl (tI .i64)) sS v_76, Ob.v (tSl (tI .i64)) [6, 5, 4, 3] r_64, Ob.v (tSl (tI .i64)) [6, 5, 4, 3] v_60, Ob.v (tSl (tI .i64)) sS v_56, .row (tSl (tI .i64)) 22 v_50 (poolsE 4 1 sT 2), Ob.v (tSl (tI .i64)) sT v_43, .row (tI .i64) 3 v_37 (bareE 3 3 sS 0), Ob.v (tSl (tI .i64)) sS v_30, .row (tI .i64) 3 v_24 (depthsE 3 3 sS 5), Ob.v (tSl (tI .i64)) sS v_17, .row (tI .i64) 3 v_11 (sillsE 3 3 sS), Ob.v (tSl (tI .i64)) sS v_4]) ?_ ?_
  · rcases Bool.eq_false_or_eq_true ((((((((decide ((betwX 3 3 sS 4 10) = 2) && true) && true) && true) && true) && true) && true) && true) && true) with g_277 | g_277
    · -- True
      have gp_278 := g_277
      try simp only [Bool.and_eq_true, Bool.or_eq_true, Bool.not_eq_true', Bool.and_eq_false_iff, Bool.or_eq_false_iff, Bool.not_eq_false', decide_eq_true_eq, decide_eq_false_iff_not, not_or, Bool.false_eq_true, Bool.true_eq_false, false_or, or_false, not_false_eq_true] at gp_278
      refine Wx.gyes rfl rfl (congrArg Value.bool g_277) ?_
      refine Wx.rd (v := .int .i64 4) (rd_move rfl) rfl ?_
      refine Wx.gyes rfl rfl (congrArg Value.bool g_277) ?_
      refine Wx.rd (v := .bool true) (Rd.to (v := .bool (decide ((4 : Int) = 4))) (rd_eql rfl rfl) rfl) rfl ?_
      refine Wx.rd (v := .bool true) (rd_pickT (congrArg Value.bool g_277) rfl) rfl ?_
      refine Wx.nil ⟨(), hS, ⟨?_, trivial⟩, Out.look rfl Out.refl⟩
      show Value.bool true = Value.bool (((((((((decide ((betwX 3 3 sS 4 10) = 2) && true) && true) && true) && true) && true) && true) && true) && true) && true)
      first | rw [g_277, Bool.true_and] | (rw [g_277]; rfl)
    · -- False
      have gp_279 := g_277
      try simp only [Bool.and_eq_true, Bool.or_eq_true, Bool.not_eq_true', Bool.and_eq_false_iff, Bool.or_eq_false_iff, Bool.not_eq_false', decide_eq_true_eq, decide_eq_false_iff_not, not_or, Bool.false_eq_true, Bool.true_eq_false, false_or, or_false, not_false_eq_true] at gp_279
      refine Wx.gnoB rfl rfl (congrArg Value.bool g_277) rfl rfl ?_
      refine Wx.gnoB rfl rfl (congrArg Value.bool g_277) rfl rfl ?_
      refine Wx.rd (v := .bool false) (rd_pickF (congrArg Value.bool g_277) rfl) rfl ?_
      refine Wx.nil ⟨(), hS, ⟨?_, trivial⟩, Out.look rfl Out.refl⟩
      show Value.bool false = Value.bool (((((((((decide ((betwX 3 3 sS 4 10) = 2) && true) && true) && true) && true) && true) && true) && true) && true) && true)
      first | rw [g_277, Bool.false_and] | (rw [g_277]; rfl)
  rintro ⟨⟩ u_281 w_280 hS
  refine Wx.rd (v := .bool (((((((((decide ((betwX 3 3 sS 4 10) = 2) && true) && true) && true) && true) && true) && true) && true) && true) && true)) (rd_move rfl) rfl ?_
  refine Wx.cut (X := Unit) 8 [174, 175, 176, 177, 178, 179, 180, 181] (fun _ => [(181, .bool ((((((((((decide ((betwX 3 3 sS 4 10) = 2) && true) && true) && true) && true) && true) && true) && true) && true) && true) && true))]) (fun _ w' => St w [] w' [Ob.v (tSl (tI .i64)) sS v_155, Ob.v (tSl (tI .i64)) [6, 5, 4, 3] r_143, Ob.v (tSl (tI .i64)) [6, 5, 4, 3] v_139, Ob.v (tSl (tI .i64)) sS v_135, .row (tP (tI .i64) (tI .i64)) 74 v_129 (treeE 4 1 sT), Ob.v (tSl (tI .i64)) sT v_122, Ob.v (tSl (tI .i64)) sS v_112, Ob.v (tSl (tI .i64)) sS v_102, .row (tI .i64) 3 v_96 (basinE 3 3 sS 4), Ob.v (tSl (tI .i64)) sS v_89, .row (tI .i64) 3 v_83 (wayE 3 3 sS 0), Ob.v (tSl (tI .i64)) sS v_76, Ob.v (tSl (tI .i64)) [6, 5, 4, 3] r_64, Ob.v (tSl (tI .i64)) [6, 5, 4, 3] v_60, Ob.v (tSl (tI .i64)) sS v_56, .row (tSl (tI .i64)) 22 v_50 (poolsE 4 1 sT 2), Ob.v (tSl (tI .i64)) sT v_43, .row (tI .i64) 3 v_37 (bareE 3 3 sS 0), Ob.v (tSl (tI .i64)) sS v_30, .row (tI .i64) 3 v_24 (depthsE 3 3 sS 5), Ob.v (tSl (tI .i64)) sS v_17, .row (tI .i64) 3 v_11 (sillsE 3 3 sS), Ob.v (tSl (tI .i64)) sS v_4]) ?_ ?_
  · rcases Bool.eq_false_or_eq_true (((((((((decide ((betwX 3 3 sS 4 10) = 2) && true) && true) && true) && true) && true) && true) && true) && true) && true) with g_282 | g_282
    · -- True
      have gp_283 := g_282
      try simp only [Bool.and_eq_true, Bool.or_eq_true, Bool.not_eq_true', Bool.and_eq_false_iff, Bool.or_eq_false_iff, Bool.not_eq_false', decide_eq_true_eq, decide_eq_false_iff_not, not_or, Bool.false_eq_true, Bool.true_eq_false, false_or, or_false, not_false_eq_true] at gp_283
      refine Wx.gyes rfl rfl (congrArg Value.bool g_282) ?_
      refine Wx.rd (v := v_129) (rd_move rfl) rfl ?_
      refine Wx.gyes rfl rfl (congrArg Value.bool g_282) ?_
      refine Wx.rd (v := .agg #[.int .i64 3, .int .i64 4]) (rd_build (vs := [(0, .int .i64 3), (1, .int .i64 4)]) rfl (by kernel_rfl)) rfl ?_
      refine Wx.gyes rfl rfl (congrArg Value.bool g_282) ?_
      refine Wx.rd (v := .agg #[.int .i64 1, .int .i64 2]) (rd_build (vs := [(0, .int .i64 1), (1, .int .i64 2)]) rfl (by kernel_rfl)) rfl ?_
      refine Wx.gyes rfl rfl (congrArg Value.bool g_282) ?_
      refine Wx.rd (v := .agg #[.int .i64 2, .int .i64 3]) (rd_build (vs := [(0, .int .i64 2), (1, .int .i64 3)]) rfl (by kernel_rfl)) rfl ?_
      refine Wx.gyes rfl rfl (congrArg Value.bool g_282) ?_
      refine Wx.rd (v := .agg #[.int .i64 0, .int .i64 1]) (rd_build (vs := [(0, .int .i64 0), (1, .int .i64 1)]) rfl (by kernel_rfl)) rfl ?_
      refine Wx.gyes rfl rfl (congrArg Value.bool g_282) ?_
      refine Wx.lit (t := (tP (tI .i64) (tI .i64))) (ys := [(3, 4), (1, 2), (2, 3), (0, 1)]) (vs := [.agg #[.int .i64 3, .int .i64 4], .agg #[.int .i64 1, .int .i64 2], .agg #[.int .i64 2, .int .i64 3], .agg #[.int .i64 0, .int .i64 1]]) elMb_52 hS rfl rfl ⟨(V.mk2 (in_i64 (by omega) (by omega)) (in_i64 (by omega) (by omega))), ⟨(V.mk2 (in_i64 (by omega) (by omega)) (in_i64 (by omega) (by omega))), ⟨(V.mk2 (in_i64 (by omega) (by omega)) (in_i64 (by omega) (by omega))), ⟨(V.mk2 (in_i64 (by omega) (by omega)) (in_i64 (by omega) (by omega))), trivial⟩⟩⟩⟩ (by decide) rfl (fun v_284 w_285 hx_286 hS => ?_)
      refine Wx.gyes rfl rfl (congrArg Value.bool g_282) ?_
      refine Wx.callF (run_callF Try.call41 rfl) (F41 (hS.lend 5 rfl) (hS.lend 0 rfl)) rfl ?_
      rintro r_287 w_288 hx_289 rfl
      have hS := hS.ext hx_289
      rw [show (decide ((treeE 4 1 sT) = [(3, 4), (1, 2), (2, 3), (0, 1)]) : Bool) = true from (by decide +kernel)]
      refine Wx.rd (v := .bool true) (rd_pickT (congrArg Value.bool g_282) rfl) rfl ?_
      refine Wx.nil ⟨(), hS.tl, ⟨?_, trivial⟩, Out.look rfl Out.refl⟩
      show Value.bool true = Value.bool ((((((((((decide ((betwX 3 3 sS 4 10) = 2) && true) && true) && true) && true) && true) && true) && true) && true) && true) && true)
      first | rw [g_282, Bool.true_and] | (rw [g_282]; rfl)
    · -- False
      have gp_290 := g_282
      try simp only [Bool.and_eq_true, Bool.or_eq_true, Bool.not_eq_true', Bool.and_eq_false_iff, Bool.or_eq_false_iff, Bool.not_eq_false', decide_eq_true_eq, decide_eq_false_iff_not, not_or, Bool.false_eq_true, Bool.true_eq_false, false_or, or_false, not_false_eq_true] at gp_290
      refine Wx.gnoB rfl rfl (congrArg Value.bool g_282) rfl rfl ?_
      refine Wx.gnoB rfl rfl (congrArg Value.bool g_282) rfl rfl ?_
      refine Wx.gnoB rfl rfl (congrArg Value.bool g_282) rfl rfl ?_
      refine Wx.gnoB rfl rfl (congrArg Value.bool g_282) rfl rfl ?_
      refine Wx.gnoB rfl rfl (congrArg Value.bool g_282) rfl rfl ?_
      refine Wx.gnoB rfl rfl (congrArg Value.bool g_282) rfl rfl ?_
      refine Wx.gnoB rfl rfl (congrArg Value.bool g_282) rfl rfl ?_
      refine Wx.rd (v := .bool false) (rd_pickF (congrArg Value.bool g_282) rfl) rfl ?_
      refine Wx.nil ⟨(), hS, ⟨?_, trivial⟩, Out.look rfl Out.refl⟩
      show Value.bool false = Value.bool ((((((((((decide ((betwX 3 3 sS 4 10) = 2) && true) && true) && true) && true) && true) && true) && true) && true) && true) && true)
      first | rw [g_282, Bool.false_and] | (rw [g_282]; rfl)
  rintro ⟨⟩ u_292 w_291 hS
  refine Wx.rd (v := .bool ((((((((((decide ((betwX 3 3 sS 4 10) = 2) && true) && true) && true) && true) && true) && true) && true) && true) && true) && true)) (rd_move rfl) rfl ?_
  refine Wx.cut (X := Unit) 6 [183, 184, 185, 186, 187, 188] (fun _ => [(188, .bool (((((((((((decide ((betwX 3 3 sS 4 10) = 2) && true) && true) && true) && true) && true) && true) && true) && true) && true) && true) && true))]) (fun _ w' => St w [] w' [Ob.v (tSl (tI .i64)) sS v_155, Ob.v (tSl (tI .i64)) [6, 5, 4, 3] r_143, Ob.v (tSl (tI .i64)) [6, 5, 4, 3] v_139, Ob.v (tSl (tI .i64)) sS v_135, .row (tP (tI .i64) (tI .i64)) 74 v_129 (treeE 4 1 sT), Ob.v (tSl (tI .i64)) sT v_122, Ob.v (tSl (tI .i64)) sS v_112, Ob.v (tSl (tI .i64)) sS v_102, .row (tI .i64) 3 v_96 (basinE 3 3 sS 4), Ob.v (tSl (tI .i64)) sS v_89, .row (tI .i64) 3 v_83 (wayE 3 3 sS 0), Ob.v (tSl (tI .i64)) sS v_76, Ob.v (tSl (tI .i64)) [6, 5, 4, 3] r_64, Ob.v (tSl (tI .i64)) [6, 5, 4, 3] v_60, Ob.v (tSl (tI .i64)) sS v_56, .row (tSl (tI .i64)) 22 v_50 (poolsE 4 1 sT 2), Ob.v (tSl (tI .i64)) sT v_43, .row (tI .i64) 3 v_37 (bareE 3 3 sS 0), Ob.v (tSl (tI .i64)) sS v_30, .row (tI .i64) 3 v_24 (depthsE 3 3 sS 5), Ob.v (tSl (tI .i64)) sS v_17, .row (tI .i64) 3 v_11 (sillsE 3 3 sS), Ob.v (tSl (tI .i64)) sS v_4]) ?_ ?_
  · rcases Bool.eq_false_or_eq_true ((((((((((decide ((betwX 3 3 sS 4 10) = 2) && true) && true) && true) && true) && true) && true) && true) && true) && true) && true) with g_293 | g_293
    · -- True
      have gp_294 := g_293
      try simp only [Bool.and_eq_true, Bool.or_eq_true, Bool.not_eq_true', Bool.and_eq_false_iff, Bool.or_eq_false_iff, Bool.not_eq_false', decide_eq_true_eq, decide_eq_false_iff_not, not_or, Bool.false_eq_true, Bool.true_eq_false, false_or, or_false, not_false_eq_true] at gp_294
      refine Wx.gyes rfl rfl (congrArg Value.bool g_293) ?_
      refine Wx.callF (run_callF Try.call48 rfl) (F48 hS.fb_lt) rfl ?_
      rintro r_295 w_296 hx_297 ⟨v_298, rfl, hv_299⟩
      have ln_301 := hv_299.len63
      have hS := hS.ext hx_297
      have hS := hS.add hv_299
      refine Wx.gyes rfl rfl (congrArg Value.bool g_293) ?_
      refine Wx.lit (t := (tI .i64)) (ys := [4]) (vs := [.int .i64 4]) elMb_22 hS rfl rfl ⟨(V.mkInt (in_i64 (by omega) (by omega))), trivial⟩ (by decide) rfl (fun v_302 w_303 hx_304 hS => ?_)
      refine Wx.gyes rfl rfl (congrArg Value.bool g_293) ?_
      have hS := hS.freeze 0 rfl
      refine Wx.callF (run_callF Try.call49 rfl) (F49 (hS.v 0 rfl) hS.fb_lt) rfl ?_
      rintro r_306 w_307 hx_308 ⟨_, rfl, hv_309⟩
      have ln_311 := hv_309.len63
      have hS := hS.ext hx_308
      have hS := hS.add hv_309
      refine Wx.gyes rfl rfl (congrArg Value.bool g_293) ?_
      refine Wx.callF (run_callF Try.call35 rfl) (F35 (in_i64 (by omega) (by omega)) (in_i64 (by omega) (by omega)) (hS.v 2 rfl) (hS.v 0 rfl) (in_i64 (by omega) (by omega))) rfl ?_
      rintro r_312 w_313 hx_314 rfl
      have hS := hS.ext hx_314
      rw [show (provesE 3 3 sS [4] 4 : Int) = 0 from (by decide +kernel)]
      refine Wx.gyes rfl rfl (congrArg Value.bool g_293) ?_
      refine Wx.rd (v := .bool true) (Rd.to (v := .bool (decide ((0 : Int) = 0))) (rd_eql rfl rfl) rfl) rfl ?_
      refine Wx.rd (v := .bool true) (rd_pickT (congrArg Value.bool g_293) rfl) rfl ?_
      refine Wx.nil ⟨(), St.tl (St.tl (hS.tl)), ⟨?_, trivial⟩, Out.look rfl Out.refl⟩
      show Value.bool true = Value.bool (((((((((((decide ((betwX 3 3 sS 4 10) = 2) && true) && true) && true) && true) && true) && true) && true) && true) && true) && true) && true)
      first | rw [g_293, Bool.true_and] | (rw [g_293]; rfl)
    · -- False
      have gp_315 := g_293
      try simp only [Bool.and_eq_true, Bool.or_eq_true, Bool.not_eq_true', Bool.and_eq_false_iff, Bool.or_eq_false_iff, Bool.not_eq_false', decide_eq_true_eq, decide_eq_false_iff_not, not_or, Bool.false_eq_true, Bool.true_eq_false, false_or, or_false, not_false_eq_true] at gp_315
      refine Wx.gnoB rfl rfl (congrArg Value.bool g_293) rfl rfl ?_
      refine Wx.gnoB rfl rfl (congrArg Value.bool g_293) rfl rfl ?_
      refine Wx.gnoB rfl rfl (congrArg Value.bool g_293) rfl rfl ?_
      refine Wx.gnoB rfl rfl (congrArg Value.bool g_293) rfl rfl ?_
      refine Wx.gnoB rfl rfl (congrArg Value.bool g_293) rfl rfl ?_
      refine Wx.rd (v := .bool false) (rd_pickF (congrArg Value.bool g_293) rfl) rfl ?_
      refine Wx.nil ⟨(), hS, ⟨?_, trivial⟩, Out.look rfl Out.refl⟩
      show Value.bool false = Value.bool (((((((((((decide ((betwX 3 3 sS 4 10) = 2) && true) && true) && true) && true) && true) && true) && true) && true) && true) && true) && true)
      first | rw [g_293, Bool.false_and] | (rw [g_293]; rfl)
  rintro ⟨⟩ u_317 w_316 hS
  refine Wx.rd (v := .bool (((((((((((decide ((betwX 3 3 sS 4 10) = 2) && true) && true) && true) && true) && true) && true) && true) && true) && true) && true) && true)) (rd_move rfl) rfl ?_
  refine Wx.cut (X := Unit) 6 [190, 191, 192, 193, 194, 195] (fun _ => [(195, .bool ((((((((((((decide ((betwX 3 3 sS 4 10) = 2) && true) && true) && true) && true) && true) && true) && true) && true) && true) && true) && true) && true))]) (fun _ w' => St w [] w' [Ob.v (tSl (tI .i64)) sS v_155, Ob.v (tSl (tI .i64)) [6, 5, 4, 3] r_143, Ob.v (tSl (tI .i64)) [6, 5, 4, 3] v_139, Ob.v (tSl (tI .i64)) sS v_135, .row (tP (tI .i64) (tI .i64)) 74 v_129 (treeE 4 1 sT), Ob.v (tSl (tI .i64)) sT v_122, Ob.v (tSl (tI .i64)) sS v_112, Ob.v (tSl (tI .i64)) sS v_102, .row (tI .i64) 3 v_96 (basinE 3 3 sS 4), Ob.v (tSl (tI .i64)) sS v_89, .row (tI .i64) 3 v_83 (wayE 3 3 sS 0), Ob.v (tSl (tI .i64)) sS v_76, Ob.v (tSl (tI .i64)) [6, 5, 4, 3] r_64, Ob.v (tSl (tI .i64)) [6, 5, 4, 3] v_60, Ob.v (tSl (tI .i64)) sS v_56, .row (tSl (tI .i64)) 22 v_50 (poolsE 4 1 sT 2), Ob.v (tSl (tI .i64)) sT v_43, .row (tI .i64) 3 v_37 (bareE 3 3 sS 0), Ob.v (tSl (tI .i64)) sS v_30, .row (tI .i64) 3 v_24 (depthsE 3 3 sS 5), Ob.v (tSl (tI .i64)) sS v_17, .row (tI .i64) 3 v_11 (sillsE 3 3 sS), Ob.v (tSl (tI .i64)) sS v_4]) ?_ ?_
  · rcases Bool.eq_false_or_eq_true (((((((((((decide ((betwX 3 3 sS 4 10) = 2) && true) && true) && true) && true) && true) && true) && true) && true) && true) && true) && true) with g_318 | g_318
    · -- True
      have gp_319 := g_318
      try simp only [Bool.and_eq_true, Bool.or_eq_true, Bool.not_eq_true', Bool.and_eq_false_iff, Bool.or_eq_false_iff, Bool.not_eq_false', decide_eq_true_eq, decide_eq_false_iff_not, not_or, Bool.false_eq_true, Bool.true_eq_false, false_or, or_false, not_false_eq_true] at gp_319
      refine Wx.gyes rfl rfl (congrArg Value.bool g_318) ?_
      refine Wx.callF (run_callF Try.call48 rfl) (F48 hS.fb_lt) rfl ?_
      rintro r_320 w_321 hx_322 ⟨v_323, rfl, hv_324⟩
      have ln_326 := hv_324.len63
      have hS := hS.ext hx_322
      have hS := hS.add hv_324
      refine Wx.gyes rfl rfl (congrArg Value.bool g_318) ?_
      refine Wx.lit (t := (tI .i64)) (ys := [4]) (vs := [.int .i64 4]) elMb_22 hS rfl rfl ⟨(V.mkInt (in_i64 (by omega) (by omega))), trivial⟩ (by decide) rfl (fun v_327 w_328 hx_329 hS => ?_)
      refine Wx.gyes rfl rfl (congrArg Value.bool g_318) ?_
      have hS := hS.freeze 0 rfl
      refine Wx.callF (run_callF Try.call49 rfl) (F49 (hS.v 0 rfl) hS.fb_lt) rfl ?_
      rintro r_331 w_332 hx_333 ⟨_, rfl, hv_334⟩
      have ln_336 := hv_334.len63
      have hS := hS.ext hx_333
      have hS := hS.add hv_334
      refine Wx.gyes rfl rfl (congrArg Value.bool g_318) ?_
      refine Wx.callF (run_callF Try.call35 rfl) (F35 (in_i64 (by omega) (by omega)) (in_i64 (by omega) (by omega)) (hS.v 2 rfl) (hS.v 0 rfl) (in_i64 (by omega) (by omega))) rfl ?_
      rintro r_337 w_338 hx_339 rfl
      have hS := hS.ext hx_339
      rw [show (provesE 3 3 sS [4] 5 : Int) = 14 from (by decide +kernel)]
      refine Wx.gyes rfl rfl (congrArg Value.bool g_318) ?_
      refine Wx.rd (v := .bool true) (Rd.to (v := .bool (decide ((14 : Int) = 14))) (rd_eql rfl rfl) rfl) rfl ?_
      refine Wx.rd (v := .bool true) (rd_pickT (congrArg Value.bool g_318) rfl) rfl ?_
      refine Wx.nil ⟨(), St.tl (St.tl (hS.tl)), ⟨?_, trivial⟩, Out.look rfl Out.refl⟩
      show Value.bool true = Value.bool ((((((((((((decide ((betwX 3 3 sS 4 10) = 2) && true) && true) && true) && true) && true) && true) && true) && true) && true) && true) && true) && true)
      first | rw [g_318, Bool.true_and] | (rw [g_318]; rfl)
    · -- False
      have gp_340 := g_318
      try simp only [Bool.and_eq_true, Bool.or_eq_true, Bool.not_eq_true', Bool.and_eq_false_iff, Bool.or_eq_false_iff, Bool.not_eq_false', decide_eq_true_eq, decide_eq_false_iff_not, not_or, Bool.false_eq_true, Bool.true_eq_false, false_or, or_false, not_false_eq_true] at gp_340
      refine Wx.gnoB rfl rfl (congrArg Value.bool g_318) rfl rfl ?_
      refine Wx.gnoB rfl rfl (congrArg Value.bool g_318) rfl rfl ?_
      refine Wx.gnoB rfl rfl (congrArg Value.bool g_318) rfl rfl ?_
      refine Wx.gnoB rfl rfl (congrArg Value.bool g_318) rfl rfl ?_
      refine Wx.gnoB rfl rfl (congrArg Value.bool g_318) rfl rfl ?_
      refine Wx.rd (v := .bool false) (rd_pickF (congrArg Value.bool g_318) rfl) rfl ?_
      refine Wx.nil ⟨(), hS, ⟨?_, trivial⟩, Out.look rfl Out.refl⟩
      show Value.bool false = Value.bool ((((((((((((decide ((betwX 3 3 sS 4 10) = 2) && true) && true) && true) && true) && true) && true) && true) && true) && true) && true) && true) && true)
      first | rw [g_318, Bool.false_and] | (rw [g_318]; rfl)
  rintro ⟨⟩ u_342 w_341 hS
  refine Wx.rd (v := .bool ((((((((((((decide ((betwX 3 3 sS 4 10) = 2) && true) && true) && true) && true) && true) && true) && true) && true) && true) && true) && true) && true)) (rd_assign rfl) rfl ?_
  refine Wx.nil ?_
  have e0_0 : ((((((((((((decide ((betwX 3 3 sS 4 10) = 2) && true) && true) && true) && true) && true) && true) && true) && true) && true) && true) && true) && true) = true := by first | rfl | omega
  exact W.ret ⟨.bool ((((((((((((decide ((betwX 3 3 sS 4 10) = 2) && true) && true) && true) && true) && true) && true) && true) && true) && true) && true) && true) && true), ResIs.one, hS.bel, (by rw [e0_0])⟩
end Go.Proofs.Ytjhimoeodkaihaa

namespace Go.Proofs.Ytjhimoeodkaihaa
open Go.Wk Go.RowKit Go.Lib
set_option linter.unusedVariables false
set_option linter.unusedSimpArgs false
theorem mixedMh_ : Try.prog.follows .mixedOrders = true := by kernel_rfl
theorem foMh_60_0 : fldOff Try.prog 60 0 = some 0 := by kernel_rfl
theorem foMh_60_1 : fldOff Try.prog 60 1 = some 1 := by kernel_rfl
theorem foMh_60_2 : fldOff Try.prog 60 2 = some 2 := by kernel_rfl
theorem foMh_24_0 : fldOff Try.prog 24 0 = some 0 := by kernel_rfl
theorem foMh_24_1 : fldOff Try.prog 24 1 = some 1 := by kernel_rfl
theorem foMh_24_2 : fldOff Try.prog 24 2 = some 2 := by kernel_rfl
theorem elMh_22 : ElemI Try.prog 22 3 (.int .i64 0) 1 8 := ElemI.of Try.underlying22 (by kernel_rfl) (by first | rfl | kernel_rfl) (by decide)

set_option maxHeartbeats 2000000 in
set_option maxRecDepth 10000 in
theorem F42 {zs : List Int} {most : Int} {O : List (Option Nat)} {w : World} (n_zs : zs.length = 38) (i_zs : ∀ z ∈ zs, InK .u8 z) (i_most : InK .i64 most) (p_1 : 1 ≤ most) (p_6 : most ≤ 6) (hO : ∀ b, some b ∈ O → b < w.heap.size) : Calls Try.prog 42 #[.agg (List.map (Value.int .u8) zs).toArray, .int .i64 most] w (Ret w (fun r w' => ∃ rv, r = .agg #[.int .i64 (sdR most zs), .int .i64 (sdC most zs), rv] ∧ Fresh (tI .i64) 3 (sdH most zs) rv w.heap.size w')) := by
  have b_most := bd_i64 i_most
  have hz0 := ix_u8 i_zs 0
  have hz1 := ix_u8 i_zs 1
  have hmul := sd_mul (zs := zs) p_1 p_6
  have hsb := sd_bd (zs := zs) p_1 p_6
  have hxl := sdX_len p_1 p_6 n_zs
  have hN0 := Int.emod_nonneg (ix 0 zs 0) (show most ≠ 0 by omega)
  have hN1 := Int.emod_lt_of_pos (ix 0 zs 0) (show 0 < most by omega)
  have hN2 := Int.emod_nonneg (ix 0 zs 1) (show most ≠ 0 by omega)
  have hN3 := Int.emod_lt_of_pos (ix 0 zs 1) (show 0 < most by omega)
  have hS := St.start w O hO
  refine enterR Try.func42 rfl Try.ntmps42 Try.results42 rfl ?_
  refine W.seq ?_
  refine W.reg ?_
  refine Wx.box (cs := List.map (Value.int .u8) zs) hS rfl rfl rfl (fun g_1 w_2 hx_4 hb_3 hS => ?_)
  refine Wx.alloc (cs := [.int .i64 0, .int .i64 0, (.slice none 0 0)]) hS Try.zeroValue24 rfl rfl (fun g_5 w_6 hx_8 hb_7 hS => ?_)
  refine Wx.nil ?_
  refine W.seq ?_
  refine W.regZ (fun _ w' => St w O w' [.box g_1 60 (List.map (Value.int .u8) zs)]) mixedMh_ (fun w_9 hx_10 => ?_)
  have hS := hS.ext hx_10
  refine Wz.rd (v := .pointer (some ⟨g_1, 0 + 0, none⟩)) 0 rfl (by kernel_rfl) (St.sub hS (.cons _ (List.Sublist.cons_cons _ (List.nil_sublist _)))) (fun _ hS => (rd_fieldAddr (o := 0) rfl foMh_60_0)) rfl ?_
  have bz_11 := ix_u8 i_zs 0
  refine Wz.rd (v := .int .u8 (ix 0 zs 0)) 1 rfl (by kernel_rfl) (St.sub hS (.cons _ (List.Sublist.cons_cons _ (List.nil_sublist _)))) (fun _ hS => (rd_loadXa (d := 0) (f := (Value.int .u8)) (j := 0) hS 0 rfl rfl (by omega) (by omega) (by omega) Try.isAgg5)) rfl ?_
  refine Wz.rd (v := .int .i64 (ix 0 zs 0)) 2 rfl (by kernel_rfl) (St.sub hS (.cons _ (List.Sublist.cons_cons _ (List.nil_sublist _)))) (fun _ hS => (rd_convIn rfl Try.underlying5 Try.underlying3 (in_i64 (by omega) (by omega)))) rfl ?_
  refine Wz.rd (v := .int .i64 most) 3 rfl (by kernel_rfl) (St.sub hS (.cons _ (List.Sublist.cons_cons _ (List.nil_sublist _)))) (fun _ hS => (rd_move rfl)) rfl ?_
  refine Wz.rd (v := .int .i64 ((ix 0 zs 0) % most)) 4 rfl (by kernel_rfl) (St.sub hS (.cons _ (List.Sublist.cons_cons _ (List.nil_sublist _)))) (fun _ hS => (rd_rem rfl rfl (by omega) (by omega))) rfl ?_
  refine Wz.rd (v := .int .i64 (sdR most zs)) 5 rfl (by kernel_rfl) (St.sub hS (.cons _ (List.Sublist.cons_cons _ (List.nil_sublist _)))) (fun _ hS => (Rd.to (v := .int .i64 (1 + ((ix 0 zs 0) % most))) (rd_add rfl rfl (in_i64 (by omega) (by omega))) (congrArg (Value.int .i64) (show (sdR most zs : Int) = (1 + ((ix 0 zs 0) % most) : Int) from rfl).symm))) rfl ?_
  refine Wz.rd (v := .pointer (some ⟨g_1, 0 + 1, none⟩)) 6 rfl (by kernel_rfl) (St.sub hS (.cons _ (List.Sublist.cons_cons _ (List.nil_sublist _)))) (fun _ hS => (rd_fieldAddr (o := 0) rfl foMh_60_1)) rfl ?_
  have bz_12 := ix_u8 i_zs 1
  refine Wz.rd (v := .int .u8 (ix 0 zs 1)) 7 rfl (by kernel_rfl) (St.sub hS (.cons _ (List.Sublist.cons_cons _ (List.nil_sublist _)))) (fun _ hS => (rd_loadXa (d := 0) (f := (Value.int .u8)) (j := 1) hS 0 rfl rfl (by omega) (by omega) (by omega) Try.isAgg5)) rfl ?_
  refine Wz.rd (v := .int .i64 (ix 0 zs 1)) 8 rfl (by kernel_rfl) (St.sub hS (.cons _ (List.Sublist.cons_cons _ (List.nil_sublist _)))) (fun _ hS => (rd_convIn rfl Try.underlying5 Try.underlying3 (in_i64 (by omega) (by omega)))) rfl ?_
  refine Wz.rd (v := .int .i64 most) 9 rfl (by kernel_rfl) (St.sub hS (.cons _ (List.Sublist.cons_cons _ (List.nil_sublist _)))) (fun _ hS => (rd_move rfl)) rfl ?_
  refine Wz.rd (v := .int .i64 ((ix 0 zs 1) % most)) 10 rfl (by kernel_rfl) (St.sub hS (.cons _ (List.Sublist.cons_cons _ (List.nil_sublist _)))) (fun _ hS => (rd_rem rfl rfl (by omega) (by omega))) rfl ?_
  refine Wz.rd (v := .int .i64 (sdC most zs)) 11 rfl (by kernel_rfl) (St.sub hS (.cons _ (List.Sublist.cons_cons _ (List.nil_sublist _)))) (fun _ hS => (Rd.to (v := .int .i64 (1 + ((ix 0 zs 1) % most))) (rd_add rfl rfl (in_i64 (by omega) (by omega))) (congrArg (Value.int .i64) (show (sdC most zs : Int) = (1 + ((ix 0 zs 1) % most) : Int) from rfl).symm))) rfl ?_
  refine Wz.rd (v := .agg #[.int .i64 (sdR most zs), .int .i64 (sdC most zs), (.slice none 0 0)]) 12 rfl (by kernel_rfl) (St.sub hS (.cons _ (List.Sublist.cons_cons _ (List.nil_sublist _)))) (fun _ hS => (rd_build (vs := [(0, .int .i64 (sdR most zs)), (1, .int .i64 (sdC most zs))]) rfl (by kernel_rfl))) rfl ?_
  refine Wz.br [13] (by kernel_rfl) (by decide) ⟨⟨_, rfl, ?_⟩, trivial⟩
  refine Wx.alloc (cs := [.int .i64 0, .int .i64 0, (.slice none 0 0)]) hS Try.zeroValue24 rfl rfl (fun g_13 w_14 hx_16 hb_15 hS => ?_)
  refine Wx.nil ⟨(St.sub hS (.cons _ (.cons _ (List.Sublist.cons_cons _ (List.nil_sublist _))))), ?_⟩
  refine Wz.br [14] (by kernel_rfl) (by decide) ⟨⟨_, rfl, ?_⟩, trivial⟩
  refine Wx.storeX (cs' := [.int .i64 (sdR most zs), .int .i64 (sdC most zs), (.slice none 0 0)]) (ds := [.int .i64 (sdR most zs), .int .i64 (sdC most zs), (.slice none 0 0)]) hS 0 rfl rfl rfl rfl Try.sizeOf24 (Nat.le_of_ble_eq_true rfl) (one_cons rfl (one_cons rfl (one_cons rfl one_nil))) rfl (fun w_17 hz_18 hS => ?_)
  refine Wx.nil ⟨(St.sub hS (.cons _ (.cons _ (List.Sublist.cons_cons _ (List.nil_sublist _))))), ?_⟩
  refine Wz.done (by kernel_rfl) ?_
  refine W.seq ?_
  refine W.seq ?_
  refine W.reg ?_
  refine Wx.rd (v := .pointer (some ⟨g_1, 0 + 2, none⟩)) (rd_fieldAddr (o := 0) rfl foMh_60_2) rfl ?_
  refine Wx.rd (v := .pointer (some ⟨g_13, 0, none⟩)) (rd_fieldAddr rfl foMh_24_0) rfl ?_
  refine Wx.rd (v := .int .i64 (sdR most zs)) (rd_loadX hS 0 rfl rfl rfl Try.isAgg3) rfl ?_
  refine Wx.rd (v := .pointer (some ⟨g_13, 1, none⟩)) (rd_fieldAddr rfl foMh_24_1) rfl ?_
  refine Wx.rd (v := .int .i64 (sdC most zs)) (rd_loadX hS 0 rfl rfl rfl Try.isAgg3) rfl ?_
  refine Wx.rd (v := .int .i64 ((sdR most zs) * (sdC most zs))) (rd_mul rfl rfl (in_i64 (by omega) (by omega))) rfl ?_
  refine Wx.rd (v := (.slice (some ⟨g_1, 0 + 2, none⟩) ((sdR most zs) * (sdC most zs)).toNat 36)) (rd_sliceArrH (m := 36) Try.underlying58 Try.sizeOf5 rfl rfl (by omega) (by omega)) rfl ?_
  have hS := hS.sliceBox (o := 0 + 2) (k := .u8) (m := ((sdR most zs) * (sdC most zs)).toNat) (xs := List.take ((sdR most zs) * (sdC most zs)).toNat (List.drop 2 zs)) (cap := 36) 2 rfl (by exact drop_map_take (Value.int .u8) zs 2 _) (fun x hx => by have hx := List.mem_of_mem_drop (List.mem_of_mem_take hx); exact i_zs x hx) (by simp; omega) (by omega) (by decide)
  have hS : St _ _ _ (Ob.v (tSl (tI .u8)) (sdX most zs) (.slice (some ⟨g_1, 0 + 2, none⟩) ((sdR most zs) * (sdC most zs)).toNat 36) :: [.box g_13 24 [.int .i64 (sdR most zs), .int .i64 (sdC most zs), (.slice none 0 0)], .box g_5 24 [.int .i64 0, .int .i64 0, (.slice none 0 0)]]) := hS
  refine Wx.rd (v := .int .i64 ((sdX most zs).length : Int)) (rd_lenV rfl (hS.v 0 rfl) Try.underlying70) rfl ?_
  refine Wx.rd (v := .int .i64 0) (rd_move rfl) rfl ?_
  refine Wx.nil ?_
  refine W.block ?_
  have hS := hS.addNil (tI .i64) 3
  refine W.loop [7, 29, 30, 31, 32, 33, 34, 35, 36, 37, 38, 39, 40, 41] (fun x : Int × Value × (List Int) => match x with | (k, hv, hs) => [(29, .int .i64 k)]) (fun (x : Int × Value × (List Int)) w' => match x with | (k, hv, hs) => St w O w' [.row (tI .i64) 3 hv hs, Ob.v (tSl (tI .u8)) (sdX most zs) (.slice (some ⟨g_1, 0 + 2, none⟩) ((sdR most zs) * (sdC most zs)).toNat 36), .box g_13 24 [.int .i64 (sdR most zs), .int .i64 (sdC most zs), hv], .box g_5 24 [.int .i64 0, .int .i64 0, (.slice none 0 0)]] ∧ 0 ≤ k ∧ k ≤ (sdX most zs).length ∧ hs = ((sdX most zs).take k.toNat).map (fun x => x % 31) ∧ (hs.length : Int) = k) (fun x : Int × Value × (List Int) => match x with | (k, hv, hs) => ((sdX most zs).length - k).toNat) (0, (.slice none 0 0), []) ⟨rfl, trivial⟩ ⟨hS, (by first | omega | simp), (by first | omega | simp), (rfl), (rfl)⟩ ?_
  rintro ⟨k, hv, hs⟩ u_21 w_20 ⟨hS, h0, h1, h2, h3⟩
  refine W.seq ?_
  refine W.reg ?_
  refine Wx.rd (v := .bool (decide (k < ((sdX most zs).length : Int)))) (rd_lss rfl rfl) rfl ?_
  refine Wx.nil ?_
  refine W.seq ?_
  refine W.condD rfl (fun c0 => ?_) (fun c0 => ?_)
  · -- yes
    refine W.skip ?_
    refine W.seq ?_
    refine W.block ?_
    refine W.seq ?_
    refine W.reg ?_
    refine Wx.ex (rd_index 0 (hS.v 1 rfl) rfl rfl Try.underlying70 Try.sizeOf5 (by first | omega | (simp only [List.length_set, List.length_append, List.length_cons, List.length_nil, List.length_replicate]; omega)) (by first | omega | (simp only [List.length_set, List.length_append, List.length_cons, List.length_nil, List.length_replicate]; omega))) rfl (fun p_22 hp_23 => ?_)
    refine Wx.rd (v := .int .u8 (ix 0 (sdX most zs) k)) (rd_loadI hp_23 rfl Try.isAgg5 Try.sizeOf5) rfl ?_
    have bd_24 := bd_u8 hp_23.inK
    refine Wx.rd (v := .int .u8 (ix 0 (sdX most zs) k)) (rd_assign rfl) rfl ?_
    refine Wx.nil ?_
    refine W.reg ?_
    refine Wx.rd (v := .pointer (some ⟨g_13, 2, none⟩)) (rd_fieldAddr rfl foMh_24_2) rfl ?_
    refine Wx.rd (v := hv) (rd_loadX hS 2 rfl rfl rfl Try.isAgg22) rfl ?_
    refine Wx.rd (v := .int .u8 (ix 0 (sdX most zs) k)) (rd_move rfl) rfl ?_
    refine Wx.rd (v := .int .i64 (ix 0 (sdX most zs) k)) (rd_convIn rfl Try.underlying5 Try.underlying3 (in_i64 (by omega) (by omega))) rfl ?_
    refine Wx.rd (v := .int .i64 ((ix 0 (sdX most zs) k) % 31)) (rd_rem rfl rfl (by omega) (by omega)) rfl ?_
    refine Wx.lit (t := (tI .i64)) (ys := [(ix 0 (sdX most zs) k) % 31]) (vs := [.int .i64 ((ix 0 (sdX most zs) k) % 31)]) elMh_22 hS rfl rfl ⟨(V.mkInt (in_i64 (by omega) (by omega))), trivial⟩ (by decide) rfl (fun v_25 w_26 hx_27 hS => ?_)
    refine Wx.append elMh_22 hS 1 rfl rfl rfl (Src.ofR hS 0 rfl) (by simp only [maxLen]; first | omega | (simp; omega) | simp) (by first | omega | (simp; omega) | simp) rfl (fun v_28 w_29 hz_30 hS => ?_)
    refine Wx.rd (v := .pointer (some ⟨g_13, 2, none⟩)) (rd_fieldAddr rfl foMh_24_2) rfl ?_
    refine Wx.storeX (cs' := [.int .i64 (sdR most zs), .int .i64 (sdC most zs), v_28]) (ds := [v_28]) hS 3 rfl rfl rfl (Go.Wk.cells_one (hS.rowOne 1 rfl)) Try.sizeOf22 (Nat.le_of_ble_eq_true rfl) (one_cons (hS.rowOne 1 rfl) one_nil) rfl (fun w_31 hz_32 hS => ?_)
    refine Wx.nil ?_
    refine W.reg ?_
    refine Wx.rd (v := .int .i64 (k + 1)) (rd_add rfl rfl (in_i64 (by omega) (by omega))) rfl ?_
    refine Wx.rd (v := .int .i64 (k + 1)) (rd_move rfl) rfl ?_
    refine Wx.nil ?_
    refine ⟨(k + 1, v_28, hs ++ [(ix 0 (sdX most zs) k) % 31]), (by show ((sdX most zs).length - (k + 1)).toNat < ((sdX most zs).length - k).toNat; omega), ?_, ?_, Out.look rfl Out.self⟩
    · exact ⟨hS.tl, (by first | omega | assumption), (by first | omega | assumption), (sd_snoc h2 h0 c0), (by simp only [List.length_append, List.length_cons, List.length_nil]; omega)⟩
    · exact ⟨rfl, trivial⟩
  · -- no
    refine W.exit rfl ?_
    refine W.seq ?_
    refine W.reg ?_
    refine Wx.rd (v := .agg #[.int .i64 (sdR most zs), .int .i64 (sdC most zs), hv]) (rd_loadXs (ds := [.int .i64 (sdR most zs), .int .i64 (sdC most zs), hv]) hS 2 rfl rfl rfl rfl Try.isAgg24 Try.sizeOf24) rfl ?_
    refine Wx.storeX (cs' := [.int .i64 (sdR most zs), .int .i64 (sdC most zs), hv]) (ds := [.int .i64 (sdR most zs), .int .i64 (sdC most zs), hv]) hS 3 rfl rfl rfl rfl Try.sizeOf24 (Nat.le_of_ble_eq_true rfl) (one_cons rfl (one_cons rfl (one_cons (hS.rowOne 0 rfl) one_nil))) rfl (fun w_33 hz_34 hS => ?_)
    refine Wx.nil ?_
    have e0_2 : sdH most zs = hs := by rw [h2]; exact (sd_full (by omega)).symm
    exact W.ret ⟨.agg #[.int .i64 (sdR most zs), .int .i64 (sdC most zs), hv], (ResIs.cell1 hS 3 rfl rfl Try.isAgg24 Try.sizeOf24), hS.bel, ⟨hv, rfl, (by rw [e0_2]; exact (hS.fr 0 rfl flat_int))⟩⟩
end Go.Proofs.Ytjhimoeodkaihaa

namespace Go.Proofs.Ytjhimoeodkaihaa
open Go.Wk Go.RowKit Go.Lib
set_option linter.unusedVariables false
set_option linter.unusedSimpArgs false
theorem foMi_24_2 : fldOff Try.prog 24 2 = some 2 := by kernel_rfl
theorem foMi_24_1 : fldOff Try.prog 24 1 = some 1 := by kernel_rfl
theorem mixedMi_ : Try.prog.follows .mixedOrders = true := by kernel_rfl

theorem F43 {R : Int} {C : Int} {hv : Value} {H : List Int} {Fr_hv : List (Option Nat)} {a : Int} {b : Int} {w : World} (i_R : InK .i64 R) (i_C : InK .i64 C) (h_hv : V (tSl (tI .i64)) H hv Fr_hv w) (i_a : InK .i64 a) (i_b : InK .i64 b) (p_a : 0 ≤ a ∧ a ≤ (H.length : Int)) (p_b : 0 ≤ b ∧ b ≤ (H.length : Int)) (p_c : 1 ≤ C ∧ C ≤ 6) (p_n : (H.length : Int) ≤ 36) : Calls Try.prog 43 #[.agg #[.int .i64 R, .int .i64 C, hv], .int .i64 a, .int .i64 b] w (Ret w (fun r _ => r = .bool (nearB C H.length a b))) := by
  have b_b := bd_i64 i_b
  have b_a := bd_i64 i_a
  have b_C := bd_i64 i_C
  have b_R := bd_i64 i_R
  have dv_a := div_bd p_a.1 p_c.1
  have dv_b := div_bd p_b.1 p_c.1
  have a_hv := h_hv.any
  have l_hv := h_hv.len63
  have hS := St.start0 w
  refine enterR Try.func43 rfl Try.ntmps43 Try.results43 rfl ?_
  refine W.seq ?_
  refine W.reg ?_
  refine Wx.box (cs := [.int .i64 R, .int .i64 C, hv]) hS rfl rfl rfl (fun g_1 w_2 hx_4 hb_3 hS => ?_)
  refine Wx.rd (v := .bool false) (rd_assign rfl) rfl ?_
  refine Wx.nil ?_
  refine W.seq ?_
  refine W.reg ?_
  refine Wx.rd (v := .pointer (some ⟨g_1, 2, none⟩)) (rd_fieldAddr rfl foMi_24_2) rfl ?_
  refine Wx.rd (v := hv) (rd_loadX hS 0 rfl rfl rfl Try.isAgg22) rfl ?_
  refine Wx.rd (v := .int .i64 (H.length : Int)) (rd_lenV rfl (hS.arg a_hv) Try.underlying22) rfl ?_
  refine Wx.rd (v := .int .i64 (H.length : Int)) (rd_assign rfl) rfl ?_
  refine Wx.nil ?_
  refine W.seq ?_
  refine W.seq ?_
  refine W.reg ?_
  refine Wx.rd (v := .int .i64 a) (rd_move rfl) rfl ?_
  refine Wx.rd (v := .int .i64 b) (rd_move rfl) rfl ?_
  refine Wx.rd (v := .int .i64 (max a b)) (rd_max rfl rfl) rfl ?_
  refine Wx.rd (v := .int .i64 (H.length : Int)) (rd_move rfl) rfl ?_
  refine Wx.rd (v := .bool (decide ((max a b) = (H.length : Int)))) (rd_eql rfl rfl) rfl ?_
  refine Wx.nil ?_
  refine W.condD rfl (fun c0 => ?_) (fun c0 => ?_)
  · -- yes
    refine W.seq ?_
    refine W.reg ?_
    refine Wx.rd (v := .int .i64 a) (rd_move rfl) rfl ?_
    refine Wx.rd (v := .int .i64 b) (rd_move rfl) rfl ?_
    refine Wx.rd (v := .bool (decide (a ≠ b))) (rd_neq rfl rfl) rfl ?_
    refine Wx.rd (v := .bool (decide (a ≠ b))) (rd_move rfl) rfl ?_
    refine Wx.cut (X := Unit) 9 [20, 21, 22, 23, 24, 25, 26, 27, 28] (fun _ => [(28, .bool (decide (a ≠ b) && decide (((H.length : Int) - C) ≤ (min a b))))]) (fun _ w' => St w [] w' [.box g_1 24 [.int .i64 R, .int .i64 C, hv]]) ?_ ?_
    · rcases Bool.eq_false_or_eq_true (decide (a ≠ b)) with g_5 | g_5
      · -- True
        have gp_6 := of_decide_eq_true g_5
        refine Wx.gyes rfl rfl (congrArg Value.bool g_5) ?_
        refine Wx.rd (v := .int .i64 a) (rd_move rfl) rfl ?_
        refine Wx.gyes rfl rfl (congrArg Value.bool g_5) ?_
        refine Wx.rd (v := .int .i64 b) (rd_move rfl) rfl ?_
        refine Wx.gyes rfl rfl (congrArg Value.bool g_5) ?_
        refine Wx.rd (v := .int .i64 (min a b)) (rd_min rfl rfl) rfl ?_
        refine Wx.gyes rfl rfl (congrArg Value.bool g_5) ?_
        refine Wx.rd (v := .int .i64 (H.length : Int)) (rd_move rfl) rfl ?_
        refine Wx.gyes rfl rfl (congrArg Value.bool g_5) ?_
        refine Wx.rd (v := .pointer (some ⟨g_1, 1, none⟩)) (rd_fieldAddr rfl foMi_24_1) rfl ?_
        refine Wx.gyes rfl rfl (congrArg Value.bool g_5) ?_
        refine Wx.rd (v := .int .i64 C) (rd_loadX hS 0 rfl rfl rfl Try.isAgg3) rfl ?_
        refine Wx.gyes rfl rfl (congrArg Value.bool g_5) ?_
        refine Wx.rd (v := .int .i64 ((H.length : Int) - C)) (rd_sub rfl rfl (in_i64 (by omega) (by omega))) rfl ?_
        refine Wx.gyes rfl rfl (congrArg Value.bool g_5) ?_
        refine Wx.rd (v := .bool (decide (((H.length : Int) - C) ≤ (min a b)))) (rd_geq rfl rfl) rfl ?_
        refine Wx.rd (v := .bool (decide (((H.length : Int) - C) ≤ (min a b)))) (rd_pickT (congrArg Value.bool g_5) rfl) rfl ?_
        refine Wx.nil ⟨(), hS, ⟨?_, trivial⟩, Out.look rfl Out.refl⟩
        show Value.bool (decide (((H.length : Int) - C) ≤ (min a b))) = Value.bool (decide (a ≠ b) && decide (((H.length : Int) - C) ≤ (min a b)))
        first | rw [g_5, Bool.true_and] | (rw [g_5]; rfl)
      · -- False
        have gp_7 := of_decide_eq_false g_5
        refine Wx.gnoB rfl rfl (congrArg Value.bool g_5) rfl rfl ?_
        refine Wx.gnoB rfl rfl (congrArg Value.bool g_5) rfl rfl ?_
        refine Wx.gnoB rfl rfl (congrArg Value.bool g_5) rfl rfl ?_
        refine Wx.gnoB rfl rfl (congrArg Value.bool g_5) rfl rfl ?_
        refine Wx.gnoB rfl rfl (congrArg Value.bool g_5) rfl rfl ?_
        refine Wx.gnoB rfl rfl (congrArg Value.bool g_5) rfl rfl ?_
        refine Wx.gnoB rfl rfl (congrArg Value.bool g_5) rfl rfl ?_
        refine Wx.gnoB rfl rfl (congrArg Value.bool g_5) rfl rfl ?_
        refine Wx.rd (v := .bool false) (rd_pickF (congrArg Value.bool g_5) rfl) rfl ?_
        refine Wx.nil ⟨(), hS, ⟨?_, trivial⟩, Out.look rfl Out.refl⟩
        show Value.bool false = Value.bool (decide (a ≠ b) && decide (((H.length : Int) - C) ≤ (min a b)))
        first | rw [g_5, Bool.false_and] | (rw [g_5]; rfl)
    rintro ⟨⟩ u_9 w_8 hS
    refine Wx.rd (v := .bool (decide (a ≠ b) && decide (((H.length : Int) - C) ≤ (min a b)))) (rd_assign rfl) rfl ?_
    refine Wx.nil ?_
    have e0_0 : (nearB C H.length a b) = (decide (a ≠ b) && decide (((H.length : Int) - C) ≤ (min a b))) := by rw [nearB, if_pos (by omega)]
    exact W.ret ⟨.bool (decide (a ≠ b) && decide (((H.length : Int) - C) ≤ (min a b))), ResIs.one, hS.bel, (by rw [e0_0])⟩
  · -- no
    refine W.skip ?_
    refine W.seq ?_
    refine W.seq ?_
    refine W.regQ mixedMi_ (by kernel_rfl) ?_
    refine Wx.rd (v := .int .i64 a) (rd_move rfl) rfl ?_
    refine Wx.rd (v := .pointer (some ⟨g_1, 1, none⟩)) (rd_fieldAddr rfl foMi_24_1) rfl ?_
    refine Wx.rd (v := .int .i64 C) (rd_loadX hS 0 rfl rfl rfl Try.isAgg3) rfl ?_
    refine Wx.rd (v := .int .i64 (a / C)) (rd_quo rfl rfl (by omega) (by omega) (in_i64 (by omega) (by omega))) rfl ?_
    refine Wx.rd (v := .int .i64 b) (rd_move rfl) rfl ?_
    refine Wx.rd (v := .pointer (some ⟨g_1, 1, none⟩)) (rd_fieldAddr rfl foMi_24_1) rfl ?_
    refine Wx.rd (v := .int .i64 C) (rd_loadX hS 0 rfl rfl rfl Try.isAgg3) rfl ?_
    refine Wx.rd (v := .int .i64 (b / C)) (rd_quo rfl rfl (by omega) (by omega) (in_i64 (by omega) (by omega))) rfl ?_
    refine Wx.rd (v := .bool (decide ((a / C) = (b / C)))) (rd_eql rfl rfl) rfl ?_
    refine Wx.nilQ (fun w_10 hx_11 => ?_)
    have hS := hS.ext hx_11
    refine W.condD rfl (fun c1 => ?_) (fun c1 => ?_)
    · -- yes
      refine W.seq ?_
      refine W.reg ?_
      refine Wx.rd (v := .int .i64 a) (rd_move rfl) rfl ?_
      refine Wx.rd (v := .int .i64 b) (rd_move rfl) rfl ?_
      refine Wx.rd (v := .int .i64 (a - b)) (rd_sub rfl rfl (in_i64 (by omega) (by omega))) rfl ?_
      refine Wx.rd (v := .int .i64 b) (rd_move rfl) rfl ?_
      refine Wx.rd (v := .int .i64 a) (rd_move rfl) rfl ?_
      refine Wx.rd (v := .int .i64 (b - a)) (rd_sub rfl rfl (in_i64 (by omega) (by omega))) rfl ?_
      refine Wx.rd (v := .int .i64 (max (a - b) (b - a))) (rd_max rfl rfl) rfl ?_
      refine Wx.rd (v := .bool (decide ((max (a - b) (b - a)) = 1))) (rd_eql rfl rfl) rfl ?_
      refine Wx.rd (v := .bool (decide ((max (a - b) (b - a)) = 1))) (rd_assign rfl) rfl ?_
      refine Wx.nil ?_
      have e1_0 : (nearB C H.length a b) = (decide ((max (a - b) (b - a)) = 1)) := by rw [nearB, if_neg (by omega), adjB, if_pos c1]; exact max_dec (by omega)
      exact W.ret ⟨.bool (decide ((max (a - b) (b - a)) = 1)), ResIs.one, hS.bel, (by rw [e1_0])⟩
    · -- no
      refine W.skip ?_
      refine W.seq ?_
      refine W.reg ?_
      refine Wx.rd (v := .int .i64 a) (rd_move rfl) rfl ?_
      refine Wx.rd (v := .int .i64 b) (rd_move rfl) rfl ?_
      refine Wx.rd (v := .int .i64 (a - b)) (rd_sub rfl rfl (in_i64 (by omega) (by omega))) rfl ?_
      refine Wx.rd (v := .int .i64 b) (rd_move rfl) rfl ?_
      refine Wx.rd (v := .int .i64 a) (rd_move rfl) rfl ?_
      refine Wx.rd (v := .int .i64 (b - a)) (rd_sub rfl rfl (in_i64 (by omega) (by omega))) rfl ?_
      refine Wx.rd (v := .int .i64 (max (a - b) (b - a))) (rd_max rfl rfl) rfl ?_
      refine Wx.rd (v := .pointer (some ⟨g_1, 1, none⟩)) (rd_fieldAddr rfl foMi_24_1) rfl ?_
      refine Wx.rd (v := .int .i64 C) (rd_loadX hS 0 rfl rfl rfl Try.isAgg3) rfl ?_
      refine Wx.rd (v := .bool (decide ((max (a - b) (b - a)) = C))) (rd_eql rfl rfl) rfl ?_
      refine Wx.rd (v := .bool (decide ((max (a - b) (b - a)) = C))) (rd_assign rfl) rfl ?_
      refine Wx.nil ?_
      have e2_0 : (nearB C H.length a b) = (decide ((max (a - b) (b - a)) = C)) := by rw [nearB, if_neg (by omega), adjB, if_neg c1]; exact max_dec p_c.1
      exact W.ret ⟨.bool (decide ((max (a - b) (b - a)) = C)), ResIs.one, hS.bel, (by rw [e2_0])⟩
end Go.Proofs.Ytjhimoeodkaihaa

namespace Go.Proofs.Ytjhimoeodkaihaa
open Go.Wk Go.RowKit Go.Lib
set_option linter.unusedVariables false
set_option linter.unusedSimpArgs false
theorem elMq_22 : ElemI Try.prog 22 3 (.int .i64 0) 1 8 := ElemI.of Try.underlying22 (by kernel_rfl) (by first | rfl | kernel_rfl) (by decide)
theorem mixedMq_ : Try.prog.follows .mixedOrders = true := by kernel_rfl

theorem F89 {y : Int} {w : World} (i_y : InK .u64 y) (q1 : 1 ≤ y) (q7 : y ≤ 40) : Calls Try.prog 89 #[.int .u64 1, .int .u64 y] w (Ret w (fun r _ => r = .tuple #[.int .u64 0, .int .u64 y])) := by
  have b_y := bd_u64 i_y
  have hm := and_mask q1 q7
  have hS := St.start0 w
  refine enterR Try.func89 rfl Try.ntmps89 Try.results89 rfl ?_
  refine W.seq ?_
  refine W.reg ?_
  refine Wx.rd (v := .int .u64 0) (rd_assign rfl) rfl ?_
  refine Wx.rd (v := .int .u64 0) (rd_assign rfl) rfl ?_
  refine Wx.nil ?_
  refine W.seq ?_
  refine W.reg ?_
  refine Wx.rd (v := .int .u64 1) (rd_move rfl) rfl ?_
  refine Wx.rd (v := .int .u64 1) (Rd.to (v := .int .u64 (bits .and .u64 1 4294967295)) (rd_and rfl rfl) (congrArg (Value.int .u64) (show (1 : Int) = (bits .and .u64 1 4294967295 : Int) from (by decide +kernel)).symm)) rfl ?_
  have bd_1 := bd_u64 (bits_in .and .u64 1 4294967295)
  refine Wx.rd (v := .int .u64 1) (rd_assign rfl) rfl ?_
  refine Wx.nil ?_
  refine W.seq ?_
  refine W.reg ?_
  refine Wx.rd (v := .int .u64 1) (rd_move rfl) rfl ?_
  refine Wx.rd (v := .int .u64 0) (Rd.to (v := .int .u64 (1 / 2 ^ min (32 : Int).toNat (IntKind.u64).bits)) (rd_shr rfl rfl (by omega)) (congrArg (Value.int .u64) (show (0 : Int) = (1 / 2 ^ min (32 : Int).toNat (IntKind.u64).bits : Int) from (by decide +kernel)).symm)) rfl ?_
  refine Wx.rd (v := .int .u64 0) (rd_assign rfl) rfl ?_
  refine Wx.nil ?_
  refine W.seq ?_
  refine W.reg ?_
  refine Wx.rd (v := .int .u64 y) (rd_move rfl) rfl ?_
  refine Wx.rd (v := .int .u64 y) (Rd.to (v := .int .u64 (bits .and .u64 y 4294967295)) (rd_and rfl rfl) (congrArg (Value.int .u64) (show (y : Int) = (bits .and .u64 y 4294967295 : Int) from hm.1.symm).symm)) rfl ?_
  have bd_2 := bd_u64 (bits_in .and .u64 y 4294967295)
  refine Wx.rd (v := .int .u64 y) (rd_assign rfl) rfl ?_
  refine Wx.nil ?_
  refine W.seq ?_
  refine W.reg ?_
  refine Wx.rd (v := .int .u64 y) (rd_move rfl) rfl ?_
  refine Wx.rd (v := .int .u64 0) (Rd.to (v := .int .u64 (y / 2 ^ min (32 : Int).toNat (IntKind.u64).bits)) (rd_shr rfl rfl (by omega)) (congrArg (Value.int .u64) (show (0 : Int) = (y / 2 ^ min (32 : Int).toNat (IntKind.u64).bits : Int) from hm.2.symm).symm)) rfl ?_
  refine Wx.rd (v := .int .u64 0) (rd_assign rfl) rfl ?_
  refine Wx.nil ?_
  refine W.seq ?_
  refine W.reg ?_
  refine Wx.rd (v := .int .u64 1) (rd_move rfl) rfl ?_
  refine Wx.rd (v := .int .u64 y) (rd_move rfl) rfl ?_
  refine Wx.rd (v := .int .u64 y) (Rd.to (v := .int .u64 (1 * y)) (rd_mul rfl rfl (in_u64 (by omega) (by omega))) (congrArg (Value.int .u64) (show (y : Int) = (1 * y : Int) from (by omega)).symm)) rfl ?_
  refine Wx.rd (v := .int .u64 y) (rd_assign rfl) rfl ?_
  refine Wx.nil ?_
  refine W.seq ?_
  refine W.reg ?_
  refine Wx.rd (v := .int .u64 0) (rd_move rfl) rfl ?_
  refine Wx.rd (v := .int .u64 y) (rd_move rfl) rfl ?_
  refine Wx.rd (v := .int .u64 0) (Rd.to (v := .int .u64 (0 * y)) (rd_mul rfl rfl (in_u64 (by omega) (by omega))) (congrArg (Value.int .u64) (show (0 : Int) = (0 * y : Int) from (by omega)).symm)) rfl ?_
  refine Wx.rd (v := .int .u64 y) (rd_move rfl) rfl ?_
  refine Wx.rd (v := .int .u64 0) (Rd.to (v := .int .u64 (y / 2 ^ min (32 : Int).toNat (IntKind.u64).bits)) (rd_shr rfl rfl (by omega)) (congrArg (Value.int .u64) (show (0 : Int) = (y / 2 ^ min (32 : Int).toNat (IntKind.u64).bits : Int) from hm.2.symm).symm)) rfl ?_
  refine Wx.rd (v := .int .u64 0) (rd_add (a := 0) (b := 0) rfl rfl (in_u64 (by omega) (by omega))) rfl ?_
  refine Wx.rd (v := .int .u64 0) (rd_assign rfl) rfl ?_
  refine Wx.nil ?_
  refine W.seq ?_
  refine W.reg ?_
  refine Wx.rd (v := .int .u64 0) (rd_move rfl) rfl ?_
  refine Wx.rd (v := .int .u64 0) (Rd.to (v := .int .u64 (bits .and .u64 0 4294967295)) (rd_and rfl rfl) (congrArg (Value.int .u64) (show (0 : Int) = (bits .and .u64 0 4294967295 : Int) from (by decide +kernel)).symm)) rfl ?_
  have bd_3 := bd_u64 (bits_in .and .u64 0 4294967295)
  refine Wx.rd (v := .int .u64 0) (rd_assign rfl) rfl ?_
  refine Wx.nil ?_
  refine W.seq ?_
  refine W.reg ?_
  refine Wx.rd (v := .int .u64 0) (rd_move rfl) rfl ?_
  refine Wx.rd (v := .int .u64 0) (Rd.to (v := .int .u64 (0 / 2 ^ min (32 : Int).toNat (IntKind.u64).bits)) (rd_shr rfl rfl (by omega)) (congrArg (Value.int .u64) (show (0 : Int) = (0 / 2 ^ min (32 : Int).toNat (IntKind.u64).bits : Int) from (by decide +kernel)).symm)) rfl ?_
  refine Wx.rd (v := .int .u64 0) (rd_assign rfl) rfl ?_
  refine Wx.nil ?_
  refine W.seq ?_
  refine W.reg ?_
  refine Wx.rd (v := .int .u64 0) (rd_move rfl) rfl ?_
  refine Wx.rd (v := .int .u64 1) (rd_move rfl) rfl ?_
  refine Wx.rd (v := .int .u64 0) (rd_move rfl) rfl ?_
  refine Wx.rd (v := .int .u64 0) (rd_mul (a := 1) (b := 0) rfl rfl (in_u64 (by omega) (by omega))) rfl ?_
  refine Wx.rd (v := .int .u64 0) (rd_add (a := 0) (b := 0) rfl rfl (in_u64 (by omega) (by omega))) rfl ?_
  refine Wx.rd (v := .int .u64 0) (rd_assign rfl) rfl ?_
  refine Wx.nil ?_
  refine W.seq ?_
  refine W.reg ?_
  refine Wx.rd (v := .int .u64 0) (rd_move rfl) rfl ?_
  refine Wx.rd (v := .int .u64 0) (rd_move rfl) rfl ?_
  refine Wx.rd (v := .int .u64 0) (rd_mul (a := 0) (b := 0) rfl rfl (in_u64 (by omega) (by omega))) rfl ?_
  refine Wx.rd (v := .int .u64 0) (rd_move rfl) rfl ?_
  refine Wx.rd (v := .int .u64 0) (rd_add (a := 0) (b := 0) rfl rfl (in_u64 (by omega) (by omega))) rfl ?_
  refine Wx.rd (v := .int .u64 0) (rd_move rfl) rfl ?_
  refine Wx.rd (v := .int .u64 0) (Rd.to (v := .int .u64 (0 / 2 ^ min (32 : Int).toNat (IntKind.u64).bits)) (rd_shr rfl rfl (by omega)) (congrArg (Value.int .u64) (show (0 : Int) = (0 / 2 ^ min (32 : Int).toNat (IntKind.u64).bits : Int) from (by decide +kernel)).symm)) rfl ?_
  refine Wx.rd (v := .int .u64 0) (rd_add (a := 0) (b := 0) rfl rfl (in_u64 (by omega) (by omega))) rfl ?_
  refine Wx.rd (v := .int .u64 0) (rd_assign rfl) rfl ?_
  refine Wx.nil ?_
  refine W.seq ?_
  refine W.reg ?_
  refine Wx.rd (v := .int .u64 1) (rd_move rfl) rfl ?_
  refine Wx.rd (v := .int .u64 y) (rd_move rfl) rfl ?_
  refine Wx.rd (v := .int .u64 y) (Rd.to (v := .int .u64 (1 * y)) (rd_mul rfl rfl (in_u64 (by omega) (by omega))) (congrArg (Value.int .u64) (show (y : Int) = (1 * y : Int) from (by omega)).symm)) rfl ?_
  refine Wx.rd (v := .int .u64 y) (rd_assign rfl) rfl ?_
  refine Wx.nil ?_
  exact W.ret ⟨.tuple #[.int .u64 0, .int .u64 y], ResIs.two, hS.bel, rfl⟩

theorem F83 {y : Int} {w : World} (i_y : InK .u64 y) (q1 : 1 ≤ y) (q7 : y ≤ 40) : Calls Try.prog 83 #[.int .u64 1, .int .u64 y] w (Ret w (fun r _ => r = .tuple #[.int .u64 0, .int .u64 y])) := by
  have b_y := bd_u64 i_y
  have hS := St.start0 w
  refine enterR Try.func83 rfl Try.ntmps83 Try.results83 rfl ?_
  refine W.seq ?_
  refine W.reg ?_
  refine Wx.rd (v := .int .u64 0) (rd_assign rfl) rfl ?_
  refine Wx.rd (v := .int .u64 0) (rd_assign rfl) rfl ?_
  refine Wx.nil ?_
  refine W.seq ?_
  refine W.condF rfl rfl ?_
  refine W.skip ?_
  refine W.seq ?_
  refine W.reg ?_
  refine Wx.rd (v := .int .u64 1) (rd_move rfl) rfl ?_
  refine Wx.rd (v := .int .u64 y) (rd_move rfl) rfl ?_
  refine Wx.callF (run_callF Try.call89 rfl) (F89 i_y (by omega) (by omega)) rfl ?_
  rintro r_1 w_2 hx_3 rfl
  have hS := hS.ext hx_3
  refine Wx.rd (v := .tuple #[.int .u64 0, .int .u64 y]) (rd_move rfl) rfl ?_
  refine Wx.rd (v := .int .u64 0) (rd_extract rfl rfl) rfl ?_
  refine Wx.rd (v := .int .u64 y) (rd_extract rfl rfl) rfl ?_
  refine Wx.rd (v := .int .u64 0) (rd_assign rfl) rfl ?_
  refine Wx.rd (v := .int .u64 y) (rd_assign rfl) rfl ?_
  refine Wx.nil ?_
  refine W.seq ?_
  refine W.reg ?_
  refine Wx.rd (v := .int .u64 0) (rd_move rfl) rfl ?_
  refine Wx.rd (v := .int .u64 y) (rd_move rfl) rfl ?_
  refine Wx.rd (v := .int .u64 0) (rd_assign rfl) rfl ?_
  refine Wx.rd (v := .int .u64 y) (rd_assign rfl) rfl ?_
  refine Wx.nil ?_
  exact W.ret ⟨.tuple #[.int .u64 0, .int .u64 y], ResIs.two, hS.bel, rfl⟩

theorem F51 {xv : Value} {Fr_xv : List (Option Nat)} {n : Int} {a : Int} {w : World} (h_xv : V (tSl (tI .i64)) [a] xv Fr_xv w) (i_n : InK .i64 n) (q1 : 1 ≤ n) (q7 : n ≤ 40) : Calls Try.prog 51 #[xv, .int .i64 n] w (Ret w (fun r w' => ∃ rv, r = rv ∧ Fresh (tI .i64) 3 (List.replicate n.toNat a) rv w.heap.size w')) := by
  have b_n := bd_i64 i_n
  have a_xv := h_xv.any
  have l_xv := h_xv.len63
  have hS := St.start0 w
  refine enterR Try.func51 rfl Try.ntmps51 Try.results51 rfl ?_
  refine W.seq ?_
  refine W.reg ?_
  refine Wx.rd (v := (.slice none 0 0)) (rd_assign rfl) rfl ?_
  refine Wx.nil ?_
  refine W.seq ?_
  refine W.seq ?_
  refine W.reg ?_
  refine Wx.rd (v := .int .i64 n) (rd_move rfl) rfl ?_
  refine Wx.rd (v := .bool (decide (n < 0))) (rd_lss rfl rfl) rfl ?_
  refine Wx.nil ?_
  refine W.condF rfl (decide_eq_false (by omega)) ?_
  refine W.skip ?_
  refine W.seq ?_
  refine W.reg ?_
  refine Wx.rd (v := xv) (rd_move rfl) rfl ?_
  refine Wx.rd (v := .int .i64 1) (Rd.to (v := .int .i64 ([a].length : Int)) (rd_lenV rfl (hS.arg a_xv) Try.underlying22) (congrArg (Value.int .i64) (show (1 : Int) = (([a].length : Int) : Int) from rfl).symm)) rfl ?_
  refine Wx.rd (v := .int .u64 1) (rd_convIn rfl Try.underlying3 Try.underlying107 (in_u64 (by omega) (by omega))) rfl ?_
  refine Wx.rd (v := .int .i64 n) (rd_move rfl) rfl ?_
  refine Wx.rd (v := .int .u64 n) (rd_convIn rfl Try.underlying3 Try.underlying107 (in_u64 (by omega) (by omega))) rfl ?_
  refine Wx.callF (run_callF Try.call83 rfl) (F83 (in_u64 (by omega) (by omega)) (by omega) (by omega)) rfl ?_
  rintro r_1 w_2 hx_3 rfl
  have hS := hS.ext hx_3
  refine Wx.rd (v := .tuple #[.int .u64 0, .int .u64 n]) (rd_move rfl) rfl ?_
  refine Wx.rd (v := .int .u64 0) (rd_extract rfl rfl) rfl ?_
  refine Wx.rd (v := .int .u64 n) (rd_extract rfl rfl) rfl ?_
  refine Wx.rd (v := .int .u64 0) (rd_assign rfl) rfl ?_
  refine Wx.rd (v := .int .u64 n) (rd_assign rfl) rfl ?_
  refine Wx.nil ?_
  refine W.seq ?_
  refine W.seq ?_
  refine W.reg ?_
  refine Wx.rd (v := .int .u64 0) (rd_move rfl) rfl ?_
  refine Wx.rd (v := .bool false) (Rd.to (v := .bool (decide ((0 : Int) < 0))) (rd_gtr rfl rfl) rfl) rfl ?_
  refine Wx.rd (v := .bool false) (rd_move rfl) rfl ?_
  refine Wx.gyes rfl rfl rfl ?_
  refine Wx.rd (v := .int .u64 n) (rd_move rfl) rfl ?_
  refine Wx.gyes rfl rfl rfl ?_
  refine Wx.rd (v := .bool (decide (9223372036854775807 < n))) (rd_gtr rfl rfl) rfl ?_
  refine Wx.rd (v := .bool (decide (9223372036854775807 < n))) (rd_pickF rfl rfl) rfl ?_
  refine Wx.nil ?_
  refine W.condF rfl (by simp; omega) ?_
  refine W.skip ?_
  refine W.seq ?_
  refine W.reg ?_
  refine Wx.rd (v := .int .u64 n) (rd_move rfl) rfl ?_
  refine Wx.rd (v := .int .i64 n) (rd_convIn rfl Try.underlying107 Try.underlying3 (in_i64 (by omega) (by omega))) rfl ?_
  refine Wx.make (t := (tI .i64)) (zy := 0) (m := n.toNat) elMq_22 rfl rfl (fun _ _ => ⟨rfl, by decide, by decide⟩) hS (congrArg (Value.int .i64) (by omega)) (congrArg (Value.int .i64) (by omega)) (by omega) (by simp only [maxLen]; omega) rfl (fun v_4 w_5 hx_6 hS => ?_)
  refine Wx.rd (v := v_4) (rd_assign rfl) rfl ?_
  refine Wx.nil ?_
  refine W.seq ?_
  refine W.reg ?_
  refine Wx.rd (v := v_4) (rd_move rfl) rfl ?_
  refine Wx.rd (v := xv) (rd_move rfl) rfl ?_
  have hrl : (List.replicate n.toNat (0 : Int)).length = n.toNat := by simp
  refine Wx.copyW (c := 1) (yn := List.replicate 1 a ++ List.replicate (n.toNat - 1) 0) rfl Try.underlying22 Try.sizeOf3 hS 0 rfl rfl (by simp; omega) rfl (Src.ofV (hS.arg a_xv)) rfl (by simp; omega) (rep_first (by omega)) (fun w_9 hz_10 hS => ?_)
  refine Wx.rd (v := .int .i64 1) (rd_assign rfl) rfl ?_
  refine Wx.nil ?_
  refine W.seq ?_
  refine W.block ?_
  refine W.loop [8, 34, 35, 36, 37, 38, 39, 40, 41, 42, 43, 44, 45, 46] (fun x : Int × (List Int) => match x with | (b, out) => [(8, .int .i64 b)]) (fun (x : Int × (List Int)) w' => match x with | (b, out) => St w [] w' [.row (tI .i64) 3 v_4 out] ∧ 1 ≤ b ∧ b ≤ n ∧ out = List.replicate b.toNat a ++ List.replicate (n.toNat - b.toNat) 0 ∧ (out.length : Int) = n) (fun x : Int × (List Int) => match x with | (b, out) => (n - b).toNat) (1, List.replicate 1 a ++ List.replicate (n.toNat - 1) 0) ⟨rfl, trivial⟩ ⟨hS, (by first | omega | simp), (by first | omega | simp), (rfl), (by simp; omega)⟩ ?_
  rintro ⟨b, out⟩ u_12 w_11 ⟨hS, h0, h1, h2, h3⟩
  refine W.seq ?_
  refine W.seq ?_
  refine W.reg ?_
  refine Wx.rd (v := .int .i64 b) (rd_move rfl) rfl ?_
  refine Wx.rd (v := v_4) (rd_move rfl) rfl ?_
  refine Wx.rd (v := .int .i64 (out.length : Int)) (rd_lenR hS 0 rfl rfl Try.underlying22) rfl ?_
  refine Wx.rd (v := .bool (decide (b < (out.length : Int)))) (rd_lss rfl rfl) rfl ?_
  refine Wx.nil ?_
  refine W.condD rfl (fun c2 => ?_) (fun c2 => ?_)
  · -- yes
    refine W.skip ?_
    refine W.block ?_
    refine W.regP mixedMq_ (fun w_13 hx_14 => ?_)
    have hS := hS.ext hx_14
    refine Wp.rd (v := .int .i64 b) 0 rfl (by kernel_rfl) (fun _ => (rd_move rfl)) rfl ?_
    refine Wp.rd (v := v_4) 1 rfl (by kernel_rfl) (fun _ => (rd_move rfl)) rfl ?_
    refine Wp.rd (v := .int .i64 b) 2 rfl (by kernel_rfl) (fun _ => (rd_move rfl)) rfl ?_
    refine Wp.ex2 3 rfl (by kernel_rfl) (rd_tailR hS 0 rfl Try.underlying22 Try.sizeOf3 rfl rfl (by omega) (by omega)) rfl (fun g_15 c_16 hg_17 => ?_)
    refine Wp.rd (v := v_4) 4 rfl (by kernel_rfl) (fun _ => (rd_move rfl)) rfl ?_
    refine Wp.rd (v := .int .i64 b) 5 rfl (by kernel_rfl) (fun _ => (rd_move rfl)) rfl ?_
    refine Wp.ex2 6 rfl (by kernel_rfl) (rd_headR hS 0 rfl Try.underlying22 Try.sizeOf3 rfl rfl (by omega) (by omega)) rfl (fun g_18 c_19 hg_20 => ?_)
    refine Wp.br [7] (by kernel_rfl) (by decide) ⟨⟨_, rfl, ?_⟩, trivial⟩
    refine Wx.copyR (c := min (b + b) n - b) (yn := List.replicate (min (b + b) n).toNat a ++ List.replicate (n.toNat - (min (b + b) n).toNat) 0) rfl Try.underlying22 Try.sizeOf3 hS 0 rfl hg_17 rfl (by show b.toNat * 1 + (out.length - b.toNat) ≤ out.length; omega) rfl (Src.headR hS 0 rfl hg_20 (by omega)) rfl (by rw [List.length_take, Nat.min_eq_left (show b.toNat ≤ out.length by omega), Nat.min_def, Int.min_def]; split <;> split <;> omega) (by rw [h2]; exact rep_next (by omega) (by omega)) (fun w_21 hz_22 hS => ?_)
    refine Wx.nil ?_
    refine Wp.rd (v := .int .i64 (b + (min (b + b) n - b))) 8 rfl (by kernel_rfl) (fun _ => (rd_add rfl rfl (in_i64 (by omega) (by omega)))) rfl ?_
    refine Wp.rd (v := .int .i64 (b + (min (b + b) n - b))) 9 rfl (by kernel_rfl) (fun _ => (rd_assign rfl)) rfl ?_
    refine Wp.done (by kernel_rfl) ?_
    refine ⟨(b + (min (b + b) n - b), List.replicate (min (b + b) n).toNat a ++ List.replicate (n.toNat - (min (b + b) n).toNat) 0), (by show (n - (b + (min (b + b) n - b))).toNat < (n - b).toNat; omega), ?_, ?_, Out.look rfl Out.self⟩
    · exact ⟨hS, (by first | omega | assumption), (by first | omega | assumption), (by rw [show b + (min (b + b) n - b) = min (b + b) n by omega]), (by simp; omega)⟩
    · exact ⟨rfl, trivial⟩
  · -- no
    refine W.exit rfl ?_
    refine W.seq ?_
    refine W.reg ?_
    refine Wx.rd (v := v_4) (rd_move rfl) rfl ?_
    refine Wx.rd (v := v_4) (rd_assign rfl) rfl ?_
    refine Wx.nil ?_
    have e0_0 : List.replicate n.toNat a = out := by rw [h2, show n.toNat - b.toNat = 0 by omega, show b = n by omega]; simp
    exact W.ret ⟨v_4, ResIs.one, hS.bel, ⟨v_4, rfl, (by rw [e0_0]; exact (hS.fr 0 rfl flat_int))⟩⟩

theorem F54 {m : Int} {gs : Nat} {R : Int} {C : Int} {hv : Value} {H : List Int} {Fr_hv : List (Option Nat)} {gx : Nat} {x : Int} {w : World} (i_m : InK .i64 m) (i_R : InK .i64 R) (i_C : InK .i64 C) (h_hv : V (tSl (tI .i64)) H hv Fr_hv w) (x_gs : w.heap[gs]? = some (.cells #[.int .i64 R, .int .i64 C, hv] 24 (0, 0))) (i_x : InK .i64 x) (x_gx : w.heap[gx]? = some (.cells #[.int .i64 x] 3 (0, 0))) (p_c : 1 ≤ C ∧ C ≤ 6) (p_n : (H.length : Int) ≤ 36) (p_x : 0 ≤ x ∧ x ≤ (H.length : Int)) (p_m : 0 ≤ m ∧ m ≤ (H.length : Int)) : Calls Try.prog 54 #[.int .i64 m, .pointer (some ⟨gs, 0, none⟩), .pointer (some ⟨gx, 0, none⟩)] w (Ret w (fun r _ => r = .bool (nearB C H.length x m))) := by
  have b_x := bd_i64 i_x
  have b_C := bd_i64 i_C
  have b_R := bd_i64 i_R
  have b_m := bd_i64 i_m
  have a_hv := h_hv.any
  have l_hv := h_hv.len63
  have hS := St.start0 w
  refine enterR Try.func54 rfl Try.ntmps54 Try.results54 rfl ?_
  refine W.seq ?_
  refine W.reg ?_
  refine Wx.rd (v := .bool false) (rd_assign rfl) rfl ?_
  refine Wx.nil ?_
  refine W.seq ?_
  refine W.reg ?_
  refine Wx.rd (v := .agg #[.int .i64 R, .int .i64 C, hv]) (rd_loadOs (cs := [.int .i64 R, .int .i64 C, hv]) x_gs hS.bel rfl Try.isAgg24 Try.sizeOf24) rfl ?_
  refine Wx.rd (v := .int .i64 x) (rd_loadO x_gx hS.bel rfl rfl Try.isAgg3) rfl ?_
  refine Wx.rd (v := .int .i64 m) (rd_move rfl) rfl ?_
  refine Wx.callF (run_callF Try.call43 rfl) (F43 i_R i_C (hS.arg a_hv) i_x i_m p_x p_m p_c p_n) rfl ?_
  rintro r_1 w_2 hx_3 rfl
  have hS := hS.ext hx_3
  refine Wx.rd (v := .bool (nearB C H.length x m)) (rd_assign rfl) rfl ?_
  refine Wx.nil ?_
  exact W.ret ⟨.bool (nearB C H.length x m), ResIs.one, hS.bel, rfl⟩

theorem FInb {xv : Value} {xs : List Int} {Fr_xv : List (Option Nat)} {gs : Nat} {R : Int} {C : Int} {hv : Value} {H : List Int} {Fr_hv : List (Option Nat)} {gx : Nat} {x : Int} {w : World} (h_xv : V (tSl (tI .i64)) xs xv Fr_xv w) (i_R : InK .i64 R) (i_C : InK .i64 C) (h_hv : V (tSl (tI .i64)) H hv Fr_hv w) (x_gs : w.heap[gs]? = some (.cells #[.int .i64 R, .int .i64 C, hv] 24 (0, 0))) (i_x : InK .i64 x) (x_gx : w.heap[gx]? = some (.cells #[.int .i64 x] 3 (0, 0))) (p_c : 1 ≤ C ∧ C ≤ 6) (p_n : (H.length : Int) ≤ 36) (p_x : 0 ≤ x ∧ x ≤ (H.length : Int)) (p_e : ∀ m ∈ xs, 0 ≤ m ∧ m ≤ (H.length : Int)) : Calls Try.prog 68 #[xv, .func (.func 54) #[] #[.pointer (some ⟨gs, 0, none⟩), .pointer (some ⟨gx, 0, none⟩)]] w (Ret w (fun r _ => r = .int .i64 (idxP (nearB C H.length x) 0 xs))) := by
  have b_x := bd_i64 i_x
  have b_C := bd_i64 i_C
  have b_R := bd_i64 i_R
  have a_xv := h_xv.any
  have l_xv := h_xv.len63
  have a_hv := h_hv.any
  have l_hv := h_hv.len63
  have hS := St.start0 w
  refine enterR Try.func68 rfl Try.ntmps68 Try.results68 rfl ?_
  refine W.seq ?_
  refine W.reg ?_
  refine Wx.rd (v := .int .i64 0) (rd_assign rfl) rfl ?_
  refine Wx.nil ?_
  refine W.seq ?_
  refine W.seq ?_
  refine W.reg ?_
  refine Wx.rd (v := xv) (rd_move rfl) rfl ?_
  refine Wx.rd (v := .int .i64 (xs.length : Int)) (rd_lenV rfl (hS.arg a_xv) Try.underlying22) rfl ?_
  refine Wx.rd (v := .int .i64 0) (rd_move rfl) rfl ?_
  refine Wx.nil ?_
  refine W.block ?_
  refine W.loop [4, 5, 8, 9, 10, 11, 12, 13, 14, 15, 16, 17, 18] (fun (k : Int) => [(8, .int .i64 k)]) (fun (k : Int) w' => St w [] w' [] ∧ 0 ≤ k ∧ k ≤ xs.length ∧ idxP (nearB C H.length x) k (xs.drop k.toNat) = idxP (nearB C H.length x) 0 xs) (fun (k : Int) => (xs.length - k).toNat) 0 ⟨rfl, trivial⟩ ⟨hS, (by first | omega | simp), (by first | omega | simp), (by simp)⟩ ?_
  rintro k u_2 w_1 ⟨hS, h0, h1, h2⟩
  refine W.seq ?_
  refine W.reg ?_
  refine Wx.rd (v := .bool (decide (k < (xs.length : Int)))) (rd_lss rfl rfl) rfl ?_
  refine Wx.nil ?_
  refine W.seq ?_
  refine W.condD rfl (fun c0 => ?_) (fun c0 => ?_)
  · -- yes
    refine W.skip ?_
    refine W.seq ?_
    refine W.block ?_
    refine W.seq ?_
    refine W.reg ?_
    refine Wx.rd (v := .int .i64 k) (rd_move rfl) rfl ?_
    refine Wx.rd (v := .int .i64 k) (rd_assign rfl) rfl ?_
    refine Wx.nil ?_
    refine W.seq ?_
    refine W.reg ?_
    refine Wx.rd (v := .func (.func 54) #[] #[.pointer (some ⟨gs, 0, none⟩), .pointer (some ⟨gx, 0, none⟩)]) (rd_move rfl) rfl ?_
    refine Wx.rd (v := xv) (rd_move rfl) rfl ?_
    refine Wx.rd (v := .int .i64 k) (rd_move rfl) rfl ?_
    refine Wx.ex (rd_index 0 (hS.arg a_xv) rfl rfl Try.underlying22 Try.sizeOf3 (by first | omega | (simp only [List.length_set, List.length_append, List.length_cons, List.length_nil, List.length_replicate]; omega)) (by first | omega | (simp only [List.length_set, List.length_append, List.length_cons, List.length_nil, List.length_replicate]; omega))) rfl (fun p_3 hp_4 => ?_)
    refine Wx.rd (v := .int .i64 (ix 0 xs k)) (rd_loadI hp_4 rfl Try.isAgg3 Try.sizeOf3) rfl ?_
    have bd_5 := bd_i64 hp_4.inK
    refine Wx.callF (run_callC (fs := []) (cs := [.pointer (some ⟨gs, 0, none⟩), .pointer (some ⟨gx, 0, none⟩)]) (vs := [.int .i64 (ix 0 xs k), .pointer (some ⟨gs, 0, none⟩), .pointer (some ⟨gx, 0, none⟩)]) Try.call54 rfl rfl) (F54 (in_i64 (by omega) (by omega)) i_R i_C (hS.arg a_hv) (extAt x_gs hS.bel) i_x (extAt x_gx hS.bel) p_c p_n p_x (p_e _ (ix_inl h0 c0))) rfl ?_
    rintro r_6 w_7 hx_8 rfl
    have hS := hS.ext hx_8
    refine Wx.nil ?_
    refine W.cond rfl (fun c1 => ?_) (fun c1 => ?_)
    · -- yes
      try simp only [Bool.and_eq_true, Bool.or_eq_true, Bool.not_eq_true', Bool.and_eq_false_iff, Bool.or_eq_false_iff, Bool.not_eq_false', decide_eq_true_eq, decide_eq_false_iff_not, not_or, Bool.false_eq_true, Bool.true_eq_false, false_or, or_false, not_false_eq_true] at c1
      refine W.seq ?_
      refine W.reg ?_
      refine Wx.rd (v := .int .i64 k) (rd_move rfl) rfl ?_
      refine Wx.rd (v := .int .i64 k) (rd_assign rfl) rfl ?_
      refine Wx.nil ?_
      have e0_0 : (idxP (nearB C H.length x) 0 xs) = (k : Int) := by exact idxP_here h0 c0 h2 c1
      exact W.ret ⟨.int .i64 k, ResIs.one, hS.bel, (by rw [e0_0])⟩
    · -- no
      try simp only [Bool.and_eq_true, Bool.or_eq_true, Bool.not_eq_true', Bool.and_eq_false_iff, Bool.or_eq_false_iff, Bool.not_eq_false', decide_eq_true_eq, decide_eq_false_iff_not, not_or, Bool.false_eq_true, Bool.true_eq_false, false_or, or_false, not_false_eq_true] at c1
      refine W.skip ?_
      refine W.reg ?_
      refine Wx.rd (v := .int .i64 (k + 1)) (rd_add rfl rfl (in_i64 (by omega) (by omega))) rfl ?_
      refine Wx.rd (v := .int .i64 (k + 1)) (rd_move rfl) rfl ?_
      refine Wx.nil ?_
      refine ⟨k + 1, (by show (xs.length - (k + 1)).toNat < (xs.length - k).toNat; omega), ?_, ?_, Out.look rfl Out.self⟩
      · exact ⟨hS, (by first | omega | assumption), (by first | omega | assumption), (idxP_step h0 c0 h2 c1)⟩
      · exact ⟨rfl, trivial⟩
  · -- no
    refine W.exit rfl ?_
    refine W.seq ?_
    refine W.reg ?_
    refine Wx.rd (v := .int .i64 (-1)) (rd_assign rfl) rfl ?_
    refine Wx.nil ?_
    have e1_0 : (idxP (nearB C H.length x) 0 xs) = (-1 : Int) := by exact idxP_out (by omega) h2
    exact W.ret ⟨.int .i64 (-1), ResIs.one, hS.bel, (by rw [e1_0])⟩

theorem FCnb {xv : Value} {xs : List Int} {Fr_xv : List (Option Nat)} {gs : Nat} {R : Int} {C : Int} {hv : Value} {H : List Int} {Fr_hv : List (Option Nat)} {gx : Nat} {x : Int} {w : World} (h_xv : V (tSl (tI .i64)) xs xv Fr_xv w) (i_R : InK .i64 R) (i_C : InK .i64 C) (h_hv : V (tSl (tI .i64)) H hv Fr_hv w) (x_gs : w.heap[gs]? = some (.cells #[.int .i64 R, .int .i64 C, hv] 24 (0, 0))) (i_x : InK .i64 x) (x_gx : w.heap[gx]? = some (.cells #[.int .i64 x] 3 (0, 0))) (p_c : 1 ≤ C ∧ C ≤ 6) (p_n : (H.length : Int) ≤ 36) (p_x : 0 ≤ x ∧ x ≤ (H.length : Int)) (p_e : ∀ m ∈ xs, 0 ≤ m ∧ m ≤ (H.length : Int)) : Calls Try.prog 53 #[xv, .func (.func 54) #[] #[.pointer (some ⟨gs, 0, none⟩), .pointer (some ⟨gx, 0, none⟩)]] w (Ret w (fun r _ => r = .bool (xs.any (nearB C H.length x)))) := by
  have b_x := bd_i64 i_x
  have b_C := bd_i64 i_C
  have b_R := bd_i64 i_R
  have a_xv := h_xv.any
  have l_xv := h_xv.len63
  have a_hv := h_hv.any
  have l_hv := h_hv.len63
  have hS := St.start0 w
  refine enterR Try.func53 rfl Try.ntmps53 Try.results53 rfl ?_
  refine W.seq ?_
  refine W.reg ?_
  refine Wx.rd (v := .bool false) (rd_assign rfl) rfl ?_
  refine Wx.nil ?_
  refine W.seq ?_
  refine W.reg ?_
  refine Wx.rd (v := xv) (rd_move rfl) rfl ?_
  refine Wx.rd (v := .func (.func 54) #[] #[.pointer (some ⟨gs, 0, none⟩), .pointer (some ⟨gx, 0, none⟩)]) (rd_move rfl) rfl ?_
  refine Wx.callF (run_callF Try.call68 rfl) (FInb (hS.arg a_xv) i_R i_C (hS.arg a_hv) (extAt x_gs hS.bel) i_x (extAt x_gx hS.bel) p_c p_n p_x p_e) rfl ?_
  rintro r_1 w_2 hx_3 rfl
  have hS := hS.ext hx_3
  have ib_4 := idxP_bd (nearB C H.length x) xs 0 (Int.le_refl 0)
  refine Wx.rd (v := .bool (decide (0 ≤ (idxP (nearB C H.length x) 0 xs)))) (rd_geq rfl rfl) rfl ?_
  refine Wx.rd (v := .bool (decide (0 ≤ (idxP (nearB C H.length x) 0 xs)))) (rd_assign rfl) rfl ?_
  refine Wx.nil ?_
  have e0_0 : (xs.any (nearB C H.length x)) = (decide (0 ≤ (idxP (nearB C H.length x) 0 xs))) := by exact (idxP_any _ _ _ (by omega)).symm
  exact W.ret ⟨.bool (decide (0 ≤ (idxP (nearB C H.length x) 0 xs))), ResIs.one, hS.bel, (by rw [e0_0])⟩
end Go.Proofs.Ytjhimoeodkaihaa

namespace Go.Proofs.Ytjhimoeodkaihaa
open Go.Wk Go.RowKit Go.Lib
set_option linter.unusedVariables false
set_option linter.unusedSimpArgs false
theorem foMr_24_2 : fldOff Try.prog 24 2 = some 2 := by kernel_rfl
theorem elMr_22 : ElemI Try.prog 22 3 (.int .i64 0) 1 8 := ElemI.of Try.underlying22 (by kernel_rfl) (by first | rfl | kernel_rfl) (by decide)
theorem mixedMr_ : Try.prog.follows .mixedOrders = true := by kernel_rfl

set_option maxHeartbeats 8000000 in
set_option maxRecDepth 10000 in
theorem F14 {zs : List Int} {lv : Int} {O : List (Option Nat)} {w : World} (n_zs : zs.length = 38) (i_zs : ∀ z ∈ zs, InK .u8 z) (i_lv : InK .u8 lv) (hO : ∀ b, some b ∈ O → b < w.heap.size) : Calls Try.prog 14 #[.agg (List.map (Value.int .u8) zs).toArray, .int .u8 lv] w (Ret w (fun r _ => r = .bool true)) := by
  have b_lv := bd_u8 i_lv
  have p_ok := sd_ok (most := 6) (by decide) (by decide) n_zs
  obtain ⟨⟨r1, r2⟩, ⟨c1_, c2_⟩, hRC, ⟨n1, n36⟩, hCn, hok⟩ := id p_ok
  have hw0 := Int.emod_nonneg lv (show (31 : Int) ≠ 0 by decide)
  have hw1 := Int.emod_lt_of_pos lv (show (0 : Int) < 31 by decide)
  have hw : 0 ≤ lv % 31 ∧ lv % 31 ≤ 30 := by omega
  have hsl := sills_len p_ok
  have hdl := depths_len p_ok hw
  have hpc := pl_cnt (C := sdC 6 zs) (H := sdH 6 zs) (w := (lv % 31))
  have hS := St.start w O hO
  refine enterR Try.func14 rfl Try.ntmps14 Try.results14 rfl ?_
  refine W.seq ?_
  refine W.reg ?_
  refine Wx.box (cs := List.map (Value.int .u8) zs) hS rfl rfl rfl (fun g_1 w_2 hx_4 hb_3 hS => ?_)
  refine Wx.rd (v := .bool false) (rd_assign rfl) rfl ?_
  refine Wx.nil ?_
  refine W.seq ?_
  refine W.reg ?_
  refine Wx.rd (v := .agg (List.map (Value.int .u8) zs).toArray) (rd_loadXs (ds := List.map (Value.int .u8) zs) hS 0 rfl rfl (by rw [List.drop_zero, List.take_of_length_le (by simp; omega)]) (by simp; omega) Try.isAgg60 Try.sizeOf60) rfl ?_
  refine Wx.callF (run_callF Try.call42 rfl) (F42 n_zs i_zs (in_i64 (by omega) (by omega)) (by omega) (by omega) hS.fb_lt) rfl ?_
  rintro r_5 w_6 hx_7 ⟨v_8, rfl, hv_9⟩
  have hS := hS.pushFr hx_7 hv_9
  refine Wx.alloc (cs := [.int .i64 0, .int .i64 0, (.slice none 0 0)]) hS Try.zeroValue24 rfl rfl (fun g_11 w_12 hx_14 hb_13 hS => ?_)
  have hS := hS.freeze 1 rfl
  refine Wx.storeX (cs' := [.int .i64 (sdR 6 zs), .int .i64 (sdC 6 zs), v_8]) (ds := [.int .i64 (sdR 6 zs), .int .i64 (sdC 6 zs), v_8]) hS 1 rfl rfl rfl rfl Try.sizeOf24 (Nat.le_of_ble_eq_true rfl) (one_cons rfl (one_cons rfl (one_cons (V.oneC (hS.v 0 rfl)) one_nil))) rfl (fun w_16 hz_17 hS => ?_)
  refine Wx.nil ?_
  refine W.seq ?_
  refine W.reg ?_
  refine Wx.rd (v := .pointer (some ⟨g_11, 2, none⟩)) (rd_fieldAddr rfl foMr_24_2) rfl ?_
  refine Wx.rd (v := v_8) (rd_loadX hS 1 rfl rfl rfl Try.isAgg22) rfl ?_
  refine Wx.rd (v := .int .i64 ((sdH 6 zs).length : Int)) (rd_lenV rfl (hS.v 0 rfl) Try.underlying22) rfl ?_
  refine Wx.rd (v := .int .i64 ((sdH 6 zs).length : Int)) (rd_assign rfl) rfl ?_
  refine Wx.nil ?_
  refine W.seq ?_
  refine W.reg ?_
  refine Wx.rd (v := .int .u8 lv) (rd_move rfl) rfl ?_
  refine Wx.rd (v := .int .i64 lv) (rd_convIn rfl Try.underlying5 Try.underlying3 (in_i64 (by omega) (by omega))) rfl ?_
  refine Wx.rd (v := .int .i64 (lv % 31)) (rd_rem rfl rfl (by omega) (by omega)) rfl ?_
  refine Wx.rd (v := .int .i64 (lv % 31)) (rd_assign rfl) rfl ?_
  refine Wx.nil ?_
  refine W.seq ?_
  refine W.reg ?_
  refine Wx.rd (v := .agg #[.int .i64 (sdR 6 zs), .int .i64 (sdC 6 zs), v_8]) (rd_loadXs (ds := [.int .i64 (sdR 6 zs), .int .i64 (sdC 6 zs), v_8]) hS 1 rfl rfl rfl rfl Try.isAgg24 Try.sizeOf24) rfl ?_
  refine Wx.callF (run_callF Try.call17 rfl) (F17 (in_i64 (by omega) (by omega)) (in_i64 (by omega) (by omega)) (hS.v 0 rfl) hS.fb_lt) rfl ?_
  rintro r_18 w_19 hx_20 ⟨v_21, rfl, hv_22⟩
  have hS := hS.pushFr hx_20 hv_22
  refine Wx.rd (v := .tuple #[v_21, .int .i64 (checkS (sdR 6 zs) (sdC 6 zs) (sdH 6 zs))]) (rd_move rfl) rfl ?_
  refine Wx.rd (v := v_21) (rd_extract rfl rfl) rfl ?_
  refine Wx.rd (v := .int .i64 (checkS (sdR 6 zs) (sdC 6 zs) (sdH 6 zs))) (rd_extract rfl rfl) rfl ?_
  refine Wx.rd (v := v_21) (rd_assign rfl) rfl ?_
  refine Wx.rd (v := .int .i64 0) (Rd.to (v := .int .i64 (checkS (sdR 6 zs) (sdC 6 zs) (sdH 6 zs))) (rd_assign rfl) (congrArg (Value.int .i64) (show (0 : Int) = (checkS (sdR 6 zs) (sdC 6 zs) (sdH 6 zs) : Int) from p_ok.chk.symm).symm)) rfl ?_
  refine Wx.nil ?_
  refine W.seq ?_
  refine W.reg ?_
  refine Wx.rd (v := .agg #[.int .i64 (sdR 6 zs), .int .i64 (sdC 6 zs), v_8]) (rd_loadXs (ds := [.int .i64 (sdR 6 zs), .int .i64 (sdC 6 zs), v_8]) hS 2 rfl rfl rfl rfl Try.isAgg24 Try.sizeOf24) rfl ?_
  refine Wx.rd (v := .int .i64 (lv % 31)) (rd_move rfl) rfl ?_
  refine Wx.callF (run_callF Try.call19 rfl) (F19 (in_i64 (by omega) (by omega)) (in_i64 (by omega) (by omega)) (hS.v 1 rfl) (in_i64 (by omega) (by omega)) hS.fb_lt) rfl ?_
  rintro r_24 w_25 hx_26 ⟨v_27, rfl, hv_28⟩
  have hS := hS.pushFr hx_26 hv_28
  refine Wx.rd (v := .tuple #[v_27, .int .i64 (levelE (sdR 6 zs) (sdC 6 zs) (sdH 6 zs) (lv % 31))]) (rd_move rfl) rfl ?_
  refine Wx.rd (v := v_27) (rd_extract rfl rfl) rfl ?_
  refine Wx.rd (v := .int .i64 (levelE (sdR 6 zs) (sdC 6 zs) (sdH 6 zs) (lv % 31))) (rd_extract rfl rfl) rfl ?_
  refine Wx.rd (v := v_27) (rd_assign rfl) rfl ?_
  refine Wx.rd (v := .int .i64 0) (Rd.to (v := .int .i64 (levelE (sdR 6 zs) (sdC 6 zs) (sdH 6 zs) (lv % 31))) (rd_assign rfl) (congrArg (Value.int .i64) (show (0 : Int) = (levelE (sdR 6 zs) (sdC 6 zs) (sdH 6 zs) (lv % 31) : Int) from (lev_zero p_ok hw).symm).symm)) rfl ?_
  refine Wx.nil ?_
  refine W.seq ?_
  refine W.reg ?_
  refine Wx.rd (v := .agg #[.int .i64 (sdR 6 zs), .int .i64 (sdC 6 zs), v_8]) (rd_loadXs (ds := [.int .i64 (sdR 6 zs), .int .i64 (sdC 6 zs), v_8]) hS 3 rfl rfl rfl rfl Try.isAgg24 Try.sizeOf24) rfl ?_
  refine Wx.rd (v := .int .i64 (lv % 31)) (rd_move rfl) rfl ?_
  refine Wx.callF (run_callF Try.call24 rfl) (F24 (in_i64 (by omega) (by omega)) (in_i64 (by omega) (by omega)) (hS.v 2 rfl) (in_i64 (by omega) (by omega)) hS.fb_lt) rfl ?_
  rintro r_30 w_31 hx_32 ⟨v_33, rfl, hv_34⟩
  have hS := hS.pushFr hx_32 hv_34
  refine Wx.rd (v := .tuple #[v_33, .int .i64 (levelE (sdR 6 zs) (sdC 6 zs) (sdH 6 zs) (lv % 31))]) (rd_move rfl) rfl ?_
  refine Wx.rd (v := v_33) (rd_extract rfl rfl) rfl ?_
  refine Wx.rd (v := .int .i64 (levelE (sdR 6 zs) (sdC 6 zs) (sdH 6 zs) (lv % 31))) (rd_extract rfl rfl) rfl ?_
  refine Wx.rd (v := v_33) (rd_assign rfl) rfl ?_
  refine Wx.rd (v := .int .i64 0) (Rd.to (v := .int .i64 (levelE (sdR 6 zs) (sdC 6 zs) (sdH 6 zs) (lv % 31))) (rd_assign rfl) (congrArg (Value.int .i64) (show (0 : Int) = (levelE (sdR 6 zs) (sdC 6 zs) (sdH 6 zs) (lv % 31) : Int) from (lev_zero p_ok hw).symm).symm)) rfl ?_
  refine Wx.nil ?_
  refine W.seq ?_
  refine W.reg ?_
  refine Wx.rd (v := .agg #[.int .i64 (sdR 6 zs), .int .i64 (sdC 6 zs), v_8]) (rd_loadXs (ds := [.int .i64 (sdR 6 zs), .int .i64 (sdC 6 zs), v_8]) hS 4 rfl rfl rfl rfl Try.isAgg24 Try.sizeOf24) rfl ?_
  refine Wx.rd (v := .int .i64 (lv % 31)) (rd_move rfl) rfl ?_
  refine Wx.callF (run_callF Try.call26 rfl) (F26 (in_i64 (by omega) (by omega)) (in_i64 (by omega) (by omega)) (hS.v 3 rfl) (in_i64 (by omega) (by omega)) hS.fb_lt) rfl ?_
  rintro r_36 w_37 hx_38 ⟨v_39, rfl, hv_40⟩
  have hS := hS.pushFrO hx_38 hv_40
  refine Wx.rd (v := .tuple #[v_39, .int .i64 (levelE (sdR 6 zs) (sdC 6 zs) (sdH 6 zs) (lv % 31))]) (rd_move rfl) rfl ?_
  refine Wx.rd (v := v_39) (rd_extract rfl rfl) rfl ?_
  refine Wx.rd (v := .int .i64 (levelE (sdR 6 zs) (sdC 6 zs) (sdH 6 zs) (lv % 31))) (rd_extract rfl rfl) rfl ?_
  refine Wx.rd (v := v_39) (rd_assign rfl) rfl ?_
  refine Wx.rd (v := .int .i64 0) (Rd.to (v := .int .i64 (levelE (sdR 6 zs) (sdC 6 zs) (sdH 6 zs) (lv % 31))) (rd_assign rfl) (congrArg (Value.int .i64) (show (0 : Int) = (levelE (sdR 6 zs) (sdC 6 zs) (sdH 6 zs) (lv % 31) : Int) from (lev_zero p_ok hw).symm).symm)) rfl ?_
  refine Wx.nil ?_
  refine W.seq ?_
  refine W.seq ?_
  refine W.reg ?_
  refine Wx.rd (v := .int .i64 0) (rd_move rfl) rfl ?_
  refine Wx.rd (v := .bool false) (Rd.to (v := .bool (decide ((0 : Int) ≠ 0))) (rd_neq rfl rfl) rfl) rfl ?_
  refine Wx.rd (v := .bool false) (rd_move rfl) rfl ?_
  refine Wx.gyes rfl rfl rfl ?_
  refine Wx.rd (v := .int .i64 0) (rd_move rfl) rfl ?_
  refine Wx.gyes rfl rfl rfl ?_
  refine Wx.rd (v := .bool false) (Rd.to (v := .bool (decide ((0 : Int) ≠ 0))) (rd_neq rfl rfl) rfl) rfl ?_
  refine Wx.rd (v := .bool false) (rd_pickF rfl rfl) rfl ?_
  refine Wx.rd (v := .bool false) (rd_move rfl) rfl ?_
  refine Wx.gyes rfl rfl rfl ?_
  refine Wx.rd (v := .int .i64 0) (rd_move rfl) rfl ?_
  refine Wx.gyes rfl rfl rfl ?_
  refine Wx.rd (v := .bool false) (Rd.to (v := .bool (decide ((0 : Int) ≠ 0))) (rd_neq rfl rfl) rfl) rfl ?_
  refine Wx.rd (v := .bool false) (rd_pickF rfl rfl) rfl ?_
  refine Wx.rd (v := .bool false) (rd_move rfl) rfl ?_
  refine Wx.gyes rfl rfl rfl ?_
  refine Wx.rd (v := .int .i64 0) (rd_move rfl) rfl ?_
  refine Wx.gyes rfl rfl rfl ?_
  refine Wx.rd (v := .bool false) (Rd.to (v := .bool (decide ((0 : Int) ≠ 0))) (rd_neq rfl rfl) rfl) rfl ?_
  refine Wx.rd (v := .bool false) (rd_pickF rfl rfl) rfl ?_
  refine Wx.rd (v := .bool false) (rd_move rfl) rfl ?_
  refine Wx.gyes rfl rfl rfl ?_
  refine Wx.rd (v := v_21) (rd_move rfl) rfl ?_
  refine Wx.gyes rfl rfl rfl ?_
  refine Wx.rd (v := .int .i64 ((sillsE (sdR 6 zs) (sdC 6 zs) (sdH 6 zs)).length : Int)) (rd_lenR hS 3 rfl rfl Try.underlying22) rfl ?_
  refine Wx.gyes rfl rfl rfl ?_
  refine Wx.rd (v := .int .i64 ((sdH 6 zs).length : Int)) (rd_move rfl) rfl ?_
  refine Wx.gyes rfl rfl rfl ?_
  refine Wx.rd (v := .bool false) (Rd.to (v := .bool (decide (((sillsE (sdR 6 zs) (sdC 6 zs) (sdH 6 zs)).length : Int) ≠ ((sdH 6 zs).length : Int)))) (rd_neq rfl rfl) (congrArg (Value.bool) (show (false : Bool) = (decide (((sillsE (sdR 6 zs) (sdC 6 zs) (sdH 6 zs)).length : Int) ≠ ((sdH 6 zs).length : Int)) : Bool) from (decide_eq_false (fun z => z hsl)).symm).symm)) rfl ?_
  refine Wx.rd (v := .bool false) (rd_pickF rfl rfl) rfl ?_
  refine Wx.rd (v := .bool false) (rd_move rfl) rfl ?_
  refine Wx.gyes rfl rfl rfl ?_
  refine Wx.rd (v := v_27) (rd_move rfl) rfl ?_
  refine Wx.gyes rfl rfl rfl ?_
  refine Wx.rd (v := .int .i64 ((depthsE (sdR 6 zs) (sdC 6 zs) (sdH 6 zs) (lv % 31)).length : Int)) (rd_lenR hS 2 rfl rfl Try.underlying22) rfl ?_
  refine Wx.gyes rfl rfl rfl ?_
  refine Wx.rd (v := .int .i64 ((sdH 6 zs).length : Int)) (rd_move rfl) rfl ?_
  refine Wx.gyes rfl rfl rfl ?_
  refine Wx.rd (v := .bool false) (Rd.to (v := .bool (decide (((depthsE (sdR 6 zs) (sdC 6 zs) (sdH 6 zs) (lv % 31)).length : Int) ≠ ((sdH 6 zs).length : Int)))) (rd_neq rfl rfl) (congrArg (Value.bool) (show (false : Bool) = (decide (((depthsE (sdR 6 zs) (sdC 6 zs) (sdH 6 zs) (lv % 31)).length : Int) ≠ ((sdH 6 zs).length : Int)) : Bool) from (decide_eq_false (fun z => z hdl)).symm).symm)) rfl ?_
  refine Wx.rd (v := .bool false) (rd_pickF rfl rfl) rfl ?_
  refine Wx.nil ?_
  refine W.condF rfl rfl ?_
  refine W.skip ?_
  refine W.seq ?_
  refine W.reg ?_
  refine Wx.lit (t := (tI .i64)) (ys := [-1]) (vs := [.int .i64 (-1)]) elMr_22 hS rfl rfl ⟨(V.mkInt (in_i64 (by omega) (by omega))), trivial⟩ (by decide) rfl (fun v_42 w_43 hx_44 hS => ?_)
  refine Wx.rd (v := .int .i64 ((sdH 6 zs).length : Int)) (rd_move rfl) rfl ?_
  have hsay : poolsE (sdR 6 zs) (sdC 6 zs) (sdH 6 zs) (lv % 31) = (poolsL (sdC 6 zs) (sdH 6 zs) (lv % 31)) := pools_is p_ok hw
  rw [hsay] at hS
  refine Wx.callF (run_callF Try.call51 rfl) (F51 (a := -1) (hS.lend 0 rfl) (in_i64 (by omega) (by omega)) (by omega) (by omega)) rfl ?_
  rintro r_45 w_46 hx_47 ⟨_, rfl, hv_48⟩
  have hS := hS.pushFr hx_47 hv_48
  refine Wx.rd (v := r_45) (rd_assign rfl) rfl ?_
  refine Wx.nil ?_
  refine W.seq ?_
  refine W.seq ?_
  refine W.reg ?_
  refine Wx.rd (v := v_39) (rd_move rfl) rfl ?_
  refine Wx.rd (v := .int .i64 ((poolsL (sdC 6 zs) (sdH 6 zs) (lv % 31)).length : Int)) (rd_lenR hS 2 rfl rfl Try.underlying37) rfl ?_
  refine Wx.rd (v := .int .i64 0) (rd_move rfl) rfl ?_
  refine Wx.nil ?_
  refine W.block ?_
  refine W.loop [4, 17, 18, 19, 20, 86, 87, 88, 89, 90, 91, 92, 93, 94, 95, 96, 97, 98, 99, 100, 101, 102, 103, 104, 105, 106, 107, 108, 109, 110, 111, 112, 113, 114, 115, 116, 117, 118, 119, 120, 121, 122, 123, 124, 125, 126, 127, 128, 129, 130, 131, 132, 133, 134, 135, 136, 137, 138, 139, 140, 141, 142, 143, 144, 145, 146, 147, 148, 149, 150, 151, 152, 153, 154, 155, 156, 157, 158, 159, 160, 161, 162, 163, 164, 165, 166, 167, 168, 169, 170, 171, 172, 173, 174, 175, 176, 177, 178, 179, 180, 181] (fun x : Int × (List Int) => match x with | (i, ins) => [(86, .int .i64 i)]) (fun (x : Int × (List Int)) w' => match x with | (i, ins) => St w O w' [.row (tI .i64) 3 r_45 ins, .row (tI .i64) 3 v_42 [-1], .row (tSl (tI .i64)) 22 v_39 (poolsL (sdC 6 zs) (sdH 6 zs) (lv % 31)), .row (tI .i64) 3 v_33 (bareE (sdR 6 zs) (sdC 6 zs) (sdH 6 zs) (lv % 31)), .row (tI .i64) 3 v_27 (depthsE (sdR 6 zs) (sdC 6 zs) (sdH 6 zs) (lv % 31)), .row (tI .i64) 3 v_21 (sillsE (sdR 6 zs) (sdC 6 zs) (sdH 6 zs)), Ob.v (tSl (tI .i64)) (sdH 6 zs) v_8, .box g_11 24 [.int .i64 (sdR 6 zs), .int .i64 (sdC 6 zs), v_8], .box g_1 60 (List.map (Value.int .u8) zs)] ∧ 0 ≤ i ∧ i ≤ (poolsL (sdC 6 zs) (sdH 6 zs) (lv % 31)).length ∧ InI (sdC 6 zs) (sdH 6 zs) (lv % 31) i 0 ins) (fun x : Int × (List Int) => match x with | (i, ins) => ((poolsL (sdC 6 zs) (sdH 6 zs) (lv % 31)).length - i).toNat) (0, List.replicate ((sdH 6 zs).length : Int).toNat (-1)) ⟨rfl, trivial⟩ ⟨hS, (by first | omega | simp), (by first | omega | simp), (in_start)⟩ ?_
  rintro ⟨i, ins⟩ u_51 w_50 ⟨hS, h0, h1, h2⟩
  refine W.seq ?_
  refine W.reg ?_
  refine Wx.rd (v := .bool (decide (i < ((poolsL (sdC 6 zs) (sdH 6 zs) (lv % 31)).length : Int)))) (rd_lss rfl rfl) rfl ?_
  refine Wx.nil ?_
  refine W.seq ?_
  refine W.condD rfl (fun c1 => ?_) (fun c1 => ?_)
  · -- yes
    have hpp := pl_pos h0 c1
    have hpl := pl_len h0 c1
    have hpr : ∀ x ∈ (ix [] (poolsL (sdC 6 zs) (sdH 6 zs) (lv % 31)) i), 0 ≤ x ∧ x ≤ ((sdH 6 zs).length : Int) := fun x hx => by have := pl_rng h0 c1 hx; omega
    refine W.skip ?_
    refine W.seq ?_
    refine W.block ?_
    refine W.seq ?_
    refine W.reg ?_
    refine Wx.rd (v := .int .i64 i) (rd_move rfl) rfl ?_
    refine Wx.indexR hS 2 rfl rfl rfl Try.underlying37 Try.sizeOf22 (by first | omega | (simp only [List.length_set, List.length_append, List.length_cons, List.length_nil, List.length_replicate]; omega)) (by first | omega | (simp only [List.length_set, List.length_append, List.length_cons, List.length_nil, List.length_replicate]; omega)) rfl (fun g_52 hg_53 => ?_)
    refine Wx.ex (rd_loadR' [] hS 2 rfl hg_53 rfl (by first | omega | (simp only [List.length_set, List.length_append, List.length_cons, List.length_nil, List.length_replicate]; omega)) (by first | omega | (simp only [List.length_set, List.length_append, List.length_cons, List.length_nil, List.length_replicate]; omega)) Try.isAgg22 Try.sizeOf22) rfl (fun v_54 hv_55 => ?_)
    have ln_56 := hv_55.len63
    have hS := hS.add hv_55
    refine Wx.rd (v := .int .i64 i) (rd_assign rfl) rfl ?_
    refine Wx.rd (v := v_54) (rd_assign rfl) rfl ?_
    refine Wx.nil ?_
    refine W.seq ?_
    refine W.seq ?_
    refine W.regQ mixedMr_ (by kernel_rfl) ?_
    refine Wx.rd (v := v_54) (rd_move rfl) rfl ?_
    refine Wx.rd (v := .int .i64 ((ix [] (poolsL (sdC 6 zs) (sdH 6 zs) (lv % 31)) i).length : Int)) (rd_lenV rfl (hS.v 0 rfl) Try.underlying22) rfl ?_
    refine Wx.rd (v := .bool false) (Rd.to (v := .bool (decide (((ix [] (poolsL (sdC 6 zs) (sdH 6 zs) (lv % 31)) i).length : Int) = 0))) (rd_eql rfl rfl) (congrArg (Value.bool) (show (false : Bool) = (decide (((ix [] (poolsL (sdC 6 zs) (sdH 6 zs) (lv % 31)) i).length : Int) = 0) : Bool) from (decide_eq_false (by omega)).symm).symm)) rfl ?_
    refine Wx.rd (v := .bool false) (rd_move rfl) rfl ?_
    refine Wx.gyes rfl rfl rfl ?_
    refine Wx.rd (v := .int .i64 i) (rd_move rfl) rfl ?_
    refine Wx.gyes rfl rfl rfl ?_
    refine Wx.rd (v := .bool (decide (0 < i))) (rd_gtr rfl rfl) rfl ?_
    refine Wx.gyes rfl rfl rfl ?_
    refine Wx.rd (v := .bool (decide (0 < i))) (rd_move rfl) rfl ?_
    refine Wx.cutQ (X := Unit) 8 [98, 99, 100, 101, 102, 103, 104, 105] (fun _ => [(105, .bool (decide (0 < i) && decide (0 < ((ix [] (poolsL (sdC 6 zs) (sdH 6 zs) (lv % 31)) (i - 1)).length : Int))))]) (fun _ => True) ?_ ?_
    · rcases Bool.eq_false_or_eq_true (decide (0 < i)) with g_58 | g_58
      · -- True
        have gp_59 := of_decide_eq_true g_58
        refine Wx.gyes rfl rfl (congrArg Value.bool g_58) ?_
        refine Wx.rd (v := v_39) (rd_move rfl) rfl ?_
        refine Wx.gyes rfl rfl (congrArg Value.bool g_58) ?_
        refine Wx.rd (v := .int .i64 i) (rd_move rfl) rfl ?_
        refine Wx.gyes rfl rfl (congrArg Value.bool g_58) ?_
        refine Wx.rd (v := .int .i64 (i - 1)) (rd_sub rfl rfl (in_i64 (by omega) (by omega))) rfl ?_
        refine Wx.gyes rfl rfl (congrArg Value.bool g_58) ?_
        refine Wx.indexR hS 3 rfl rfl rfl Try.underlying37 Try.sizeOf22 (by first | omega | (simp only [List.length_set, List.length_append, List.length_cons, List.length_nil, List.length_replicate]; omega)) (by first | omega | (simp only [List.length_set, List.length_append, List.length_cons, List.length_nil, List.length_replicate]; omega)) rfl (fun g_60 hg_61 => ?_)
        refine Wx.gyes rfl rfl (congrArg Value.bool g_58) ?_
        refine Wx.ex (rd_loadR' [] hS 3 rfl hg_61 rfl (by first | omega | (simp only [List.length_set, List.length_append, List.length_cons, List.length_nil, List.length_replicate]; omega)) (by first | omega | (simp only [List.length_set, List.length_append, List.length_cons, List.length_nil, List.length_replicate]; omega)) Try.isAgg22 Try.sizeOf22) rfl (fun v_62 hv_63 => ?_)
        have ln_64 := hv_63.len63
        have hS := hS.add hv_63
        refine Wx.gyes rfl rfl (congrArg Value.bool g_58) ?_
        refine Wx.rd (v := .int .i64 ((ix [] (poolsL (sdC 6 zs) (sdH 6 zs) (lv % 31)) (i - 1)).length : Int)) (rd_lenV rfl (hS.v 0 rfl) Try.underlying22) rfl ?_
        refine Wx.gyes rfl rfl (congrArg Value.bool g_58) ?_
        refine Wx.rd (v := .bool (decide (0 < ((ix [] (poolsL (sdC 6 zs) (sdH 6 zs) (lv % 31)) (i - 1)).length : Int)))) (rd_gtr rfl rfl) rfl ?_
        refine Wx.gyes rfl rfl rfl ?_
        refine Wx.rd (v := .bool (decide (0 < ((ix [] (poolsL (sdC 6 zs) (sdH 6 zs) (lv % 31)) (i - 1)).length : Int)))) (rd_pickT (congrArg Value.bool g_58) rfl) rfl ?_
        refine Wx.nilQ (fun _ _ => ⟨(), trivial, ⟨?_, trivial⟩, Out.look rfl Out.refl⟩)
        show Value.bool (decide (0 < ((ix [] (poolsL (sdC 6 zs) (sdH 6 zs) (lv % 31)) (i - 1)).length : Int))) = Value.bool (decide (0 < i) && decide (0 < ((ix [] (poolsL (sdC 6 zs) (sdH 6 zs) (lv % 31)) (i - 1)).length : Int)))
        first | rw [g_58, Bool.true_and] | (rw [g_58]; rfl)
      · -- False
        have gp_66 := of_decide_eq_false g_58
        refine Wx.gnoB rfl rfl (congrArg Value.bool g_58) rfl rfl ?_
        refine Wx.gnoB rfl rfl (congrArg Value.bool g_58) rfl rfl ?_
        refine Wx.gnoB rfl rfl (congrArg Value.bool g_58) rfl rfl ?_
        refine Wx.gnoB rfl rfl (congrArg Value.bool g_58) rfl rfl ?_
        refine Wx.gnoB rfl rfl (congrArg Value.bool g_58) rfl rfl ?_
        refine Wx.gnoB rfl rfl (congrArg Value.bool g_58) rfl rfl ?_
        refine Wx.gnoB rfl rfl (congrArg Value.bool g_58) rfl rfl ?_
        refine Wx.gyes rfl rfl rfl ?_
        refine Wx.rd (v := .bool false) (rd_pickF (congrArg Value.bool g_58) rfl) rfl ?_
        refine Wx.nilQ (fun _ _ => ⟨(), trivial, ⟨?_, trivial⟩, Out.look rfl Out.refl⟩)
        show Value.bool false = Value.bool (decide (0 < i) && decide (0 < ((ix [] (poolsL (sdC 6 zs) (sdH 6 zs) (lv % 31)) (i - 1)).length : Int)))
        first | rw [g_58, Bool.false_and] | (rw [g_58]; rfl)
    rintro ⟨⟩ u_68 -
    refine Wx.gyes rfl rfl rfl ?_
    refine Wx.rd (v := .bool (decide (0 < i) && decide (0 < ((ix [] (poolsL (sdC 6 zs) (sdH 6 zs) (lv % 31)) (i - 1)).length : Int)))) (rd_move rfl) rfl ?_
    refine Wx.cutQ (X := Unit) 12 [107, 108, 109, 110, 111, 112, 113, 114, 115, 116, 117, 118] (fun _ => [(118, .bool ((decide (0 < i) && decide (0 < ((ix [] (poolsL (sdC 6 zs) (sdH 6 zs) (lv % 31)) (i - 1)).length : Int))) && false))]) (fun _ => True) ?_ ?_
    · rcases Bool.eq_false_or_eq_true (decide (0 < i) && decide (0 < ((ix [] (poolsL (sdC 6 zs) (sdH 6 zs) (lv % 31)) (i - 1)).length : Int))) with g_69 | g_69
      · -- True
        have gp_70 := g_69
        try simp only [Bool.and_eq_true, Bool.or_eq_true, Bool.not_eq_true', Bool.and_eq_false_iff, Bool.or_eq_false_iff, Bool.not_eq_false', decide_eq_true_eq, decide_eq_false_iff_not, not_or, Bool.false_eq_true, Bool.true_eq_false, false_or, or_false, not_false_eq_true] at gp_70
        refine Wx.gyes rfl rfl (congrArg Value.bool g_69) ?_
        refine Wx.rd (v := v_54) (rd_move rfl) rfl ?_
        refine Wx.gyes rfl rfl (congrArg Value.bool g_69) ?_
        refine Wx.ex (rd_index 0 (hS.v 0 rfl) rfl rfl Try.underlying22 Try.sizeOf3 (by first | omega | (simp only [List.length_set, List.length_append, List.length_cons, List.length_nil, List.length_replicate]; omega)) (by first | omega | (simp only [List.length_set, List.length_append, List.length_cons, List.length_nil, List.length_replicate]; omega))) rfl (fun p_71 hp_72 => ?_)
        refine Wx.gyes rfl rfl (congrArg Value.bool g_69) ?_
        refine Wx.rd (v := .int .i64 (ix 0 (ix [] (poolsL (sdC 6 zs) (sdH 6 zs) (lv % 31)) i) 0)) (rd_loadI hp_72 rfl Try.isAgg3 Try.sizeOf3) rfl ?_
        have bd_73 := bd_i64 hp_72.inK
        refine Wx.gyes rfl rfl (congrArg Value.bool g_69) ?_
        refine Wx.rd (v := v_39) (rd_move rfl) rfl ?_
        refine Wx.gyes rfl rfl (congrArg Value.bool g_69) ?_
        refine Wx.rd (v := .int .i64 i) (rd_move rfl) rfl ?_
        refine Wx.gyes rfl rfl (congrArg Value.bool g_69) ?_
        refine Wx.rd (v := .int .i64 (i - 1)) (rd_sub rfl rfl (in_i64 (by omega) (by omega))) rfl ?_
        refine Wx.gyes rfl rfl (congrArg Value.bool g_69) ?_
        refine Wx.indexR hS 3 rfl rfl rfl Try.underlying37 Try.sizeOf22 (by first | omega | (simp only [List.length_set, List.length_append, List.length_cons, List.length_nil, List.length_replicate]; omega)) (by first | omega | (simp only [List.length_set, List.length_append, List.length_cons, List.length_nil, List.length_replicate]; omega)) rfl (fun g_74 hg_75 => ?_)
        refine Wx.gyes rfl rfl (congrArg Value.bool g_69) ?_
        refine Wx.ex (rd_loadR' [] hS 3 rfl hg_75 rfl (by first | omega | (simp only [List.length_set, List.length_append, List.length_cons, List.length_nil, List.length_replicate]; omega)) (by first | omega | (simp only [List.length_set, List.length_append, List.length_cons, List.length_nil, List.length_replicate]; omega)) Try.isAgg22 Try.sizeOf22) rfl (fun v_76 hv_77 => ?_)
        have ln_78 := hv_77.len63
        have hS := hS.add hv_77
        refine Wx.gyes rfl rfl (congrArg Value.bool g_69) ?_
        refine Wx.ex (rd_index 0 (hS.v 0 rfl) rfl rfl Try.underlying22 Try.sizeOf3 (by first | omega | (simp only [List.length_set, List.length_append, List.length_cons, List.length_nil, List.length_replicate]; omega)) (by first | omega | (simp only [List.length_set, List.length_append, List.length_cons, List.length_nil, List.length_replicate]; omega))) rfl (fun p_80 hp_81 => ?_)
        refine Wx.gyes rfl rfl (congrArg Value.bool g_69) ?_
        refine Wx.rd (v := .int .i64 (ix 0 (ix [] (poolsL (sdC 6 zs) (sdH 6 zs) (lv % 31)) (i - 1)) 0)) (rd_loadI hp_81 rfl Try.isAgg3 Try.sizeOf3) rfl ?_
        have bd_82 := bd_i64 hp_81.inK
        refine Wx.gyes rfl rfl (congrArg Value.bool g_69) ?_
        refine Wx.rd (v := .bool false) (Rd.to (v := .bool (decide ((ix 0 (ix [] (poolsL (sdC 6 zs) (sdH 6 zs) (lv % 31)) i) 0) ≤ (ix 0 (ix [] (poolsL (sdC 6 zs) (sdH 6 zs) (lv % 31)) (i - 1)) 0)))) (rd_leq rfl rfl) (congrArg (Value.bool) (show (false : Bool) = (decide ((ix 0 (ix [] (poolsL (sdC 6 zs) (sdH 6 zs) (lv % 31)) i) 0) ≤ (ix 0 (ix [] (poolsL (sdC 6 zs) (sdH 6 zs) (lv % 31)) (i - 1)) 0)) : Bool) from (decide_eq_false (by have := pl_first (C := sdC 6 zs) (H := sdH 6 zs) (w := (lv % 31)) (i := i - 1) (by omega) (by omega) c1; omega)).symm).symm)) rfl ?_
        refine Wx.gyes rfl rfl rfl ?_
        refine Wx.rd (v := .bool false) (rd_pickT (congrArg Value.bool g_69) rfl) rfl ?_
        refine Wx.nilQ (fun _ _ => ⟨(), trivial, ⟨?_, trivial⟩, Out.look rfl Out.refl⟩)
        show Value.bool false = Value.bool ((decide (0 < i) && decide (0 < ((ix [] (poolsL (sdC 6 zs) (sdH 6 zs) (lv % 31)) (i - 1)).length : Int))) && false)
        first | rw [g_69, Bool.true_and] | (rw [g_69]; rfl)
      · -- False
        have gp_83 := g_69
        try simp only [Bool.and_eq_true, Bool.or_eq_true, Bool.not_eq_true', Bool.and_eq_false_iff, Bool.or_eq_false_iff, Bool.not_eq_false', decide_eq_true_eq, decide_eq_false_iff_not, not_or, Bool.false_eq_true, Bool.true_eq_false, false_or, or_false, not_false_eq_true] at gp_83
        refine Wx.gnoB rfl rfl (congrArg Value.bool g_69) rfl rfl ?_
        refine Wx.gnoB rfl rfl (congrArg Value.bool g_69) rfl rfl ?_
        refine Wx.gnoB rfl rfl (congrArg Value.bool g_69) rfl rfl ?_
        refine Wx.gnoB rfl rfl (congrArg Value.bool g_69) rfl rfl ?_
        refine Wx.gnoB rfl rfl (congrArg Value.bool g_69) rfl rfl ?_
        refine Wx.gnoB rfl rfl (congrArg Value.bool g_69) rfl rfl ?_
        refine Wx.gnoB rfl rfl (congrArg Value.bool g_69) rfl rfl ?_
        refine Wx.gnoB rfl rfl (congrArg Value.bool g_69) rfl rfl ?_
        refine Wx.gnoB rfl rfl (congrArg Value.bool g_69) rfl rfl ?_
        refine Wx.gnoB rfl rfl (congrArg Value.bool g_69) rfl rfl ?_
        refine Wx.gnoB rfl rfl (congrArg Value.bool g_69) rfl rfl ?_
        refine Wx.gyes rfl rfl rfl ?_
        refine Wx.rd (v := .bool false) (rd_pickF (congrArg Value.bool g_69) rfl) rfl ?_
        refine Wx.nilQ (fun _ _ => ⟨(), trivial, ⟨?_, trivial⟩, Out.look rfl Out.refl⟩)
        show Value.bool false = Value.bool ((decide (0 < i) && decide (0 < ((ix [] (poolsL (sdC 6 zs) (sdH 6 zs) (lv % 31)) (i - 1)).length : Int))) && false)
        first | rw [g_69, Bool.false_and] | (rw [g_69]; rfl)
    rintro ⟨⟩ u_85 -
    refine Wx.rd (v := .bool ((decide (0 < i) && decide (0 < ((ix [] (poolsL (sdC 6 zs) (sdH 6 zs) (lv % 31)) (i - 1)).length : Int))) && false)) (rd_pickF rfl rfl) rfl ?_
    refine Wx.nilQ (fun w_86 hx_87 => ?_)
    have hS := hS.ext hx_87
    refine W.condF rfl (by simp) ?_
    refine W.skip ?_
    refine W.seq ?_
    refine W.reg ?_
    refine Wx.rd (v := v_54) (rd_move rfl) rfl ?_
    refine Wx.rd (v := .int .i64 ((ix [] (poolsL (sdC 6 zs) (sdH 6 zs) (lv % 31)) i).length : Int)) (rd_lenV rfl (hS.v 0 rfl) Try.underlying22) rfl ?_
    refine Wx.rd (v := .int .i64 0) (rd_move rfl) rfl ?_
    refine Wx.nil ?_
    refine W.block ?_
    refine W.loop [4, 19, 20, 122, 123, 124, 125, 126, 127, 128, 129, 130, 131, 132, 133, 134, 135, 136, 137, 138, 139, 140, 141, 142, 143, 144, 145, 146, 147, 148, 149, 150, 151, 152, 153, 154, 155, 156, 157, 158, 159, 160, 161, 162, 163, 164, 165, 166, 167, 168, 169, 170, 171, 172, 173, 174, 175, 176, 177, 178, 179, 180] (fun x : Int × (List Int) => match x with | (k, ins2) => [(122, .int .i64 k)]) (fun (x : Int × (List Int)) w' => match x with | (k, ins2) => St w O w' [Ob.v (tSl (tI .i64)) (ix [] (poolsL (sdC 6 zs) (sdH 6 zs) (lv % 31)) i) v_54, .row (tI .i64) 3 r_45 ins2, .row (tI .i64) 3 v_42 [-1], .row (tSl (tI .i64)) 22 v_39 (poolsL (sdC 6 zs) (sdH 6 zs) (lv % 31)), .row (tI .i64) 3 v_33 (bareE (sdR 6 zs) (sdC 6 zs) (sdH 6 zs) (lv % 31)), .row (tI .i64) 3 v_27 (depthsE (sdR 6 zs) (sdC 6 zs) (sdH 6 zs) (lv % 31)), .row (tI .i64) 3 v_21 (sillsE (sdR 6 zs) (sdC 6 zs) (sdH 6 zs)), Ob.v (tSl (tI .i64)) (sdH 6 zs) v_8, .box g_11 24 [.int .i64 (sdR 6 zs), .int .i64 (sdC 6 zs), v_8], .box g_1 60 (List.map (Value.int .u8) zs)] ∧ 0 ≤ k ∧ k ≤ (ix [] (poolsL (sdC 6 zs) (sdH 6 zs) (lv % 31)) i).length ∧ InI (sdC 6 zs) (sdH 6 zs) (lv % 31) i k ins2) (fun x : Int × (List Int) => match x with | (k, ins2) => ((ix [] (poolsL (sdC 6 zs) (sdH 6 zs) (lv % 31)) i).length - k).toNat) (0, ins) ⟨rfl, trivial⟩ ⟨hS, (by first | omega | simp), (by first | omega | simp), (h2)⟩ ?_
    rintro ⟨k, ins2⟩ u_89 w_88 ⟨hS, g0, g1, g2⟩
    refine W.seq ?_
    refine W.reg ?_
    refine Wx.rd (v := .bool (decide (k < ((ix [] (poolsL (sdC 6 zs) (sdH 6 zs) (lv % 31)) i).length : Int)))) (rd_lss rfl rfl) rfl ?_
    refine Wx.nil ?_
    refine W.seq ?_
    refine W.condD rfl (fun c3 => ?_) (fun c3 => ?_)
    · -- yes
      have hm := ix_inl g0 c3
      have hr := pl_rng h0 c1 hm
      have hfr := in_free g2 h0 c1 g0 c3
      have hsz := g2.1
      have hiv := (g2.2 _ hr.1 hr.2).1
      have hr0 := pl_rng h0 c1 (ix_inl (by decide) hpp)
      refine W.skip ?_
      refine W.seq ?_
      refine W.block ?_
      refine W.seq ?_
      refine W.reg ?_
      refine Wx.rd (v := .int .i64 k) (rd_move rfl) rfl ?_
      refine Wx.ex (rd_index 0 (hS.v 0 rfl) rfl rfl Try.underlying22 Try.sizeOf3 (by first | omega | (simp only [List.length_set, List.length_append, List.length_cons, List.length_nil, List.length_replicate]; omega)) (by first | omega | (simp only [List.length_set, List.length_append, List.length_cons, List.length_nil, List.length_replicate]; omega))) rfl (fun p_90 hp_91 => ?_)
      refine Wx.rd (v := .int .i64 (ix 0 (ix [] (poolsL (sdC 6 zs) (sdH 6 zs) (lv % 31)) i) k)) (rd_loadI hp_91 rfl Try.isAgg3 Try.sizeOf3) rfl ?_
      have bd_92 := bd_i64 hp_91.inK
      refine Wx.alloc (cs := [.int .i64 0]) hS Try.zeroValue3 rfl rfl (fun g_93 w_94 hx_96 hb_95 hS => ?_)
      refine Wx.rd (v := .int .i64 k) (rd_assign rfl) rfl ?_
      refine Wx.storeX (cs' := [.int .i64 (ix 0 (ix [] (poolsL (sdC 6 zs) (sdH 6 zs) (lv % 31)) i) k)]) (ds := [.int .i64 (ix 0 (ix [] (poolsL (sdC 6 zs) (sdH 6 zs) (lv % 31)) i) k)]) hS 0 rfl rfl rfl rfl Try.sizeOf3 (Nat.le_of_ble_eq_true rfl) (one_cons rfl one_nil) rfl (fun w_97 hz_98 hS => ?_)
      refine Wx.nil ?_
      refine W.seq ?_
      refine W.seq ?_
      refine W.regQ mixedMr_ (by kernel_rfl) ?_
      refine Wx.rd (v := .int .i64 (ix 0 (ix [] (poolsL (sdC 6 zs) (sdH 6 zs) (lv % 31)) i) k)) (rd_loadX hS 0 rfl rfl rfl Try.isAgg3) rfl ?_
      refine Wx.rd (v := .bool false) (Rd.to (v := .bool (decide ((ix 0 (ix [] (poolsL (sdC 6 zs) (sdH 6 zs) (lv % 31)) i) k) < 0))) (rd_lss rfl rfl) (congrArg (Value.bool) (show (false : Bool) = (decide ((ix 0 (ix [] (poolsL (sdC 6 zs) (sdH 6 zs) (lv % 31)) i) k) < 0) : Bool) from (decide_eq_false (by omega)).symm).symm)) rfl ?_
      refine Wx.rd (v := .bool false) (rd_move rfl) rfl ?_
      refine Wx.gyes rfl rfl rfl ?_
      refine Wx.rd (v := .int .i64 (ix 0 (ix [] (poolsL (sdC 6 zs) (sdH 6 zs) (lv % 31)) i) k)) (rd_loadX hS 0 rfl rfl rfl Try.isAgg3) rfl ?_
      refine Wx.gyes rfl rfl rfl ?_
      refine Wx.rd (v := .int .i64 ((sdH 6 zs).length : Int)) (rd_move rfl) rfl ?_
      refine Wx.gyes rfl rfl rfl ?_
      refine Wx.rd (v := .bool false) (Rd.to (v := .bool (decide (((sdH 6 zs).length : Int) ≤ (ix 0 (ix [] (poolsL (sdC 6 zs) (sdH 6 zs) (lv % 31)) i) k)))) (rd_geq rfl rfl) (congrArg (Value.bool) (show (false : Bool) = (decide (((sdH 6 zs).length : Int) ≤ (ix 0 (ix [] (poolsL (sdC 6 zs) (sdH 6 zs) (lv % 31)) i) k)) : Bool) from (decide_eq_false (by omega)).symm).symm)) rfl ?_
      refine Wx.rd (v := .bool false) (rd_pickF rfl rfl) rfl ?_
      refine Wx.rd (v := .bool false) (rd_move rfl) rfl ?_
      refine Wx.gyes rfl rfl rfl ?_
      refine Wx.rd (v := r_45) (rd_move rfl) rfl ?_
      refine Wx.gyes rfl rfl rfl ?_
      refine Wx.rd (v := .int .i64 (ix 0 (ix [] (poolsL (sdC 6 zs) (sdH 6 zs) (lv % 31)) i) k)) (rd_loadX hS 0 rfl rfl rfl Try.isAgg3) rfl ?_
      refine Wx.gyes rfl rfl rfl ?_
      refine Wx.indexR hS 2 rfl rfl rfl Try.underlying22 Try.sizeOf3 (by first | omega | (simp only [List.length_set, List.length_append, List.length_cons, List.length_nil, List.length_replicate]; omega)) (by first | omega | (simp only [List.length_set, List.length_append, List.length_cons, List.length_nil, List.length_replicate]; omega)) rfl (fun g_99 hg_100 => ?_)
      refine Wx.gyes rfl rfl rfl ?_
      refine Wx.rd (v := .int .i64 (ix 0 ins2 (ix 0 (ix [] (poolsL (sdC 6 zs) (sdH 6 zs) (lv % 31)) i) k))) (rd_loadRI' hS 2 rfl hg_100 rfl (by first | omega | (simp only [List.length_set, List.length_append, List.length_cons, List.length_nil, List.length_replicate]; omega)) (by first | omega | (simp only [List.length_set, List.length_append, List.length_cons, List.length_nil, List.length_replicate]; omega)) Try.isAgg3 Try.sizeOf3) rfl ?_
      have bd_101 := bd_i64 (hS.rowInK' 2 rfl (by first | omega | (simp only [List.length_set, List.length_append, List.length_cons, List.length_nil, List.length_replicate]; omega)) (by first | omega | (simp only [List.length_set, List.length_append, List.length_cons, List.length_nil, List.length_replicate]; omega)) : InK .i64 (ix 0 ins2 (ix 0 (ix [] (poolsL (sdC 6 zs) (sdH 6 zs) (lv % 31)) i) k)))
      refine Wx.gyes rfl rfl rfl ?_
      refine Wx.rd (v := .bool false) (Rd.to (v := .bool (decide (0 ≤ (ix 0 ins2 (ix 0 (ix [] (poolsL (sdC 6 zs) (sdH 6 zs) (lv % 31)) i) k))))) (rd_geq rfl rfl) (congrArg (Value.bool) (show (false : Bool) = (decide (0 ≤ (ix 0 ins2 (ix 0 (ix [] (poolsL (sdC 6 zs) (sdH 6 zs) (lv % 31)) i) k))) : Bool) from (decide_eq_false hfr).symm).symm)) rfl ?_
      refine Wx.rd (v := .bool false) (rd_pickF rfl rfl) rfl ?_
      refine Wx.rd (v := .bool false) (rd_move rfl) rfl ?_
      refine Wx.gyes rfl rfl rfl ?_
      refine Wx.rd (v := .int .i64 k) (rd_move rfl) rfl ?_
      refine Wx.gyes rfl rfl rfl ?_
      refine Wx.rd (v := .bool (decide (0 < k))) (rd_gtr rfl rfl) rfl ?_
      refine Wx.gyes rfl rfl rfl ?_
      refine Wx.rd (v := .bool (decide (0 < k))) (rd_move rfl) rfl ?_
      refine Wx.cutQ (X := Unit) 8 [145, 146, 147, 148, 149, 150, 151, 152] (fun _ => [(152, .bool (decide (0 < k) && false))]) (fun _ => True) ?_ ?_
      · rcases Bool.eq_false_or_eq_true (decide (0 < k)) with g_102 | g_102
        · -- True
          have gp_103 := of_decide_eq_true g_102
          refine Wx.gyes rfl rfl (congrArg Value.bool g_102) ?_
          refine Wx.rd (v := .int .i64 (ix 0 (ix [] (poolsL (sdC 6 zs) (sdH 6 zs) (lv % 31)) i) k)) (rd_loadX hS 0 rfl rfl rfl Try.isAgg3) rfl ?_
          refine Wx.gyes rfl rfl (congrArg Value.bool g_102) ?_
          refine Wx.rd (v := v_54) (rd_move rfl) rfl ?_
          refine Wx.gyes rfl rfl (congrArg Value.bool g_102) ?_
          refine Wx.rd (v := .int .i64 k) (rd_move rfl) rfl ?_
          refine Wx.gyes rfl rfl (congrArg Value.bool g_102) ?_
          refine Wx.rd (v := .int .i64 (k - 1)) (rd_sub rfl rfl (in_i64 (by omega) (by omega))) rfl ?_
          refine Wx.gyes rfl rfl (congrArg Value.bool g_102) ?_
          refine Wx.ex (rd_index 0 (hS.v 1 rfl) rfl rfl Try.underlying22 Try.sizeOf3 (by first | omega | (simp only [List.length_set, List.length_append, List.length_cons, List.length_nil, List.length_replicate]; omega)) (by first | omega | (simp only [List.length_set, List.length_append, List.length_cons, List.length_nil, List.length_replicate]; omega))) rfl (fun p_104 hp_105 => ?_)
          refine Wx.gyes rfl rfl (congrArg Value.bool g_102) ?_
          refine Wx.rd (v := .int .i64 (ix 0 (ix [] (poolsL (sdC 6 zs) (sdH 6 zs) (lv % 31)) i) (k - 1))) (rd_loadI hp_105 rfl Try.isAgg3 Try.sizeOf3) rfl ?_
          have bd_106 := bd_i64 hp_105.inK
          refine Wx.gyes rfl rfl (congrArg Value.bool g_102) ?_
          refine Wx.rd (v := .bool false) (Rd.to (v := .bool (decide ((ix 0 (ix [] (poolsL (sdC 6 zs) (sdH 6 zs) (lv % 31)) i) k) ≤ (ix 0 (ix [] (poolsL (sdC 6 zs) (sdH 6 zs) (lv % 31)) i) (k - 1))))) (rd_leq rfl rfl) (congrArg (Value.bool) (show (false : Bool) = (decide ((ix 0 (ix [] (poolsL (sdC 6 zs) (sdH 6 zs) (lv % 31)) i) k) ≤ (ix 0 (ix [] (poolsL (sdC 6 zs) (sdH 6 zs) (lv % 31)) i) (k - 1))) : Bool) from (decide_eq_false (by have := asc_ix (pl_asc h0 c1) (i := k - 1) (j := k) (by omega) (by omega) c3; omega)).symm).symm)) rfl ?_
          refine Wx.gyes rfl rfl rfl ?_
          refine Wx.rd (v := .bool false) (rd_pickT (congrArg Value.bool g_102) rfl) rfl ?_
          refine Wx.nilQ (fun _ _ => ⟨(), trivial, ⟨?_, trivial⟩, Out.look rfl Out.refl⟩)
          show Value.bool false = Value.bool (decide (0 < k) && false)
          first | rw [g_102, Bool.true_and] | (rw [g_102]; rfl)
        · -- False
          have gp_107 := of_decide_eq_false g_102
          refine Wx.gnoB rfl rfl (congrArg Value.bool g_102) rfl rfl ?_
          refine Wx.gnoB rfl rfl (congrArg Value.bool g_102) rfl rfl ?_
          refine Wx.gnoB rfl rfl (congrArg Value.bool g_102) rfl rfl ?_
          refine Wx.gnoB rfl rfl (congrArg Value.bool g_102) rfl rfl ?_
          refine Wx.gnoB rfl rfl (congrArg Value.bool g_102) rfl rfl ?_
          refine Wx.gnoB rfl rfl (congrArg Value.bool g_102) rfl rfl ?_
          refine Wx.gnoB rfl rfl (congrArg Value.bool g_102) rfl rfl ?_
          refine Wx.gyes rfl rfl rfl ?_
          refine Wx.rd (v := .bool false) (rd_pickF (congrArg Value.bool g_102) rfl) rfl ?_
          refine Wx.nilQ (fun _ _ => ⟨(), trivial, ⟨?_, trivial⟩, Out.look rfl Out.refl⟩)
          show Value.bool false = Value.bool (decide (0 < k) && false)
          first | rw [g_102, Bool.false_and] | (rw [g_102]; rfl)
      rintro ⟨⟩ u_109 -
      refine Wx.rd (v := .bool (decide (0 < k) && false)) (rd_pickF rfl rfl) rfl ?_
      refine Wx.rd (v := .bool (decide (0 < k) && false)) (rd_move rfl) rfl ?_
      refine Wx.cutQ (X := Unit) 12 [155, 156, 157, 158, 159, 160, 161, 162, 163, 164, 165, 166] (fun _ => [(166, .bool ((decide (0 < k) && false) || false))]) (fun _ => True) ?_ ?_
      · rcases Bool.eq_false_or_eq_true (decide (0 < k) && false) with g_110 | g_110
        · -- True
          have gp_111 := g_110
          try simp only [Bool.and_eq_true, Bool.or_eq_true, Bool.not_eq_true', Bool.and_eq_false_iff, Bool.or_eq_false_iff, Bool.not_eq_false', decide_eq_true_eq, decide_eq_false_iff_not, not_or, Bool.false_eq_true, Bool.true_eq_false, false_or, or_false, not_false_eq_true] at gp_111
          refine Wx.gnoB rfl rfl (congrArg Value.bool g_110) rfl rfl ?_
          refine Wx.gnoB rfl rfl (congrArg Value.bool g_110) rfl rfl ?_
          refine Wx.gnoB rfl rfl (congrArg Value.bool g_110) rfl rfl ?_
          refine Wx.gnoB rfl rfl (congrArg Value.bool g_110) rfl rfl ?_
          refine Wx.gnoB rfl rfl (congrArg Value.bool g_110) rfl rfl ?_
          refine Wx.gnoB rfl rfl (congrArg Value.bool g_110) rfl rfl ?_
          refine Wx.gnoB rfl rfl (congrArg Value.bool g_110) rfl rfl ?_
          refine Wx.gnoB rfl rfl (congrArg Value.bool g_110) rfl rfl ?_
          refine Wx.gnoB rfl rfl (congrArg Value.bool g_110) rfl rfl ?_
          refine Wx.gnoB rfl rfl (congrArg Value.bool g_110) rfl rfl ?_
          refine Wx.gnoB rfl rfl (congrArg Value.bool g_110) rfl rfl ?_
          refine Wx.rd (v := .bool true) (rd_pickT (congrArg Value.bool g_110) rfl) rfl ?_
          refine Wx.nilQ (fun _ _ => ⟨(), trivial, ⟨?_, trivial⟩, Out.look rfl Out.refl⟩)
          show Value.bool true = Value.bool ((decide (0 < k) && false) || false)
          first | rw [g_110, Bool.true_or] | (rw [g_110]; rfl)
        · -- False
          have gp_112 := g_110
          try simp only [Bool.and_eq_true, Bool.or_eq_true, Bool.not_eq_true', Bool.and_eq_false_iff, Bool.or_eq_false_iff, Bool.not_eq_false', decide_eq_true_eq, decide_eq_false_iff_not, not_or, Bool.false_eq_true, Bool.true_eq_false, false_or, or_false, not_false_eq_true] at gp_112
          refine Wx.gyes rfl rfl (congrArg Value.bool g_110) ?_
          refine Wx.rd (v := v_21) (rd_move rfl) rfl ?_
          refine Wx.gyes rfl rfl (congrArg Value.bool g_110) ?_
          refine Wx.rd (v := .int .i64 (ix 0 (ix [] (poolsL (sdC 6 zs) (sdH 6 zs) (lv % 31)) i) k)) (rd_loadX hS 0 rfl rfl rfl Try.isAgg3) rfl ?_
          refine Wx.gyes rfl rfl (congrArg Value.bool g_110) ?_
          refine Wx.indexR hS 7 rfl rfl rfl Try.underlying22 Try.sizeOf3 (by first | omega | (simp only [List.length_set, List.length_append, List.length_cons, List.length_nil, List.length_replicate]; omega)) (by first | omega | (simp only [List.length_set, List.length_append, List.length_cons, List.length_nil, List.length_replicate]; omega)) rfl (fun g_113 hg_114 => ?_)
          refine Wx.gyes rfl rfl (congrArg Value.bool g_110) ?_
          refine Wx.rd (v := .int .i64 (sillV (sdC 6 zs) (sdH 6 zs) (ix 0 (ix [] (poolsL (sdC 6 zs) (sdH 6 zs) (lv % 31)) i) k))) (Rd.to (v := .int .i64 (ix 0 (sillsE (sdR 6 zs) (sdC 6 zs) (sdH 6 zs)) (ix 0 (ix [] (poolsL (sdC 6 zs) (sdH 6 zs) (lv % 31)) i) k))) (rd_loadRI' hS 7 rfl hg_114 rfl (by first | omega | (simp only [List.length_set, List.length_append, List.length_cons, List.length_nil, List.length_replicate]; omega)) (by first | omega | (simp only [List.length_set, List.length_append, List.length_cons, List.length_nil, List.length_replicate]; omega)) Try.isAgg3 Try.sizeOf3) (congrArg (Value.int .i64) (show (sillV (sdC 6 zs) (sdH 6 zs) (ix 0 (ix [] (poolsL (sdC 6 zs) (sdH 6 zs) (lv % 31)) i) k) : Int) = (ix 0 (sillsE (sdR 6 zs) (sdC 6 zs) (sdH 6 zs)) (ix 0 (ix [] (poolsL (sdC 6 zs) (sdH 6 zs) (lv % 31)) i) k) : Int) from (sills_ix p_ok (by omega) (by omega)).symm).symm)) rfl ?_
          have bd_115 := bd_i64 (hS.rowInK' 7 rfl (by first | omega | (simp only [List.length_set, List.length_append, List.length_cons, List.length_nil, List.length_replicate]; omega)) (by first | omega | (simp only [List.length_set, List.length_append, List.length_cons, List.length_nil, List.length_replicate]; omega)) : InK .i64 (ix 0 (sillsE (sdR 6 zs) (sdC 6 zs) (sdH 6 zs)) (ix 0 (ix [] (poolsL (sdC 6 zs) (sdH 6 zs) (lv % 31)) i) k)))
          refine Wx.gyes rfl rfl (congrArg Value.bool g_110) ?_
          refine Wx.rd (v := v_21) (rd_move rfl) rfl ?_
          refine Wx.gyes rfl rfl (congrArg Value.bool g_110) ?_
          refine Wx.rd (v := v_54) (rd_move rfl) rfl ?_
          refine Wx.gyes rfl rfl (congrArg Value.bool g_110) ?_
          refine Wx.ex (rd_index 0 (hS.v 1 rfl) rfl rfl Try.underlying22 Try.sizeOf3 (by first | omega | (simp only [List.length_set, List.length_append, List.length_cons, List.length_nil, List.length_replicate]; omega)) (by first | omega | (simp only [List.length_set, List.length_append, List.length_cons, List.length_nil, List.length_replicate]; omega))) rfl (fun p_116 hp_117 => ?_)
          refine Wx.gyes rfl rfl (congrArg Value.bool g_110) ?_
          refine Wx.rd (v := .int .i64 (ix 0 (ix [] (poolsL (sdC 6 zs) (sdH 6 zs) (lv % 31)) i) 0)) (rd_loadI hp_117 rfl Try.isAgg3 Try.sizeOf3) rfl ?_
          have bd_118 := bd_i64 hp_117.inK
          refine Wx.gyes rfl rfl (congrArg Value.bool g_110) ?_
          refine Wx.indexR hS 7 rfl rfl rfl Try.underlying22 Try.sizeOf3 (by first | omega | (simp only [List.length_set, List.length_append, List.length_cons, List.length_nil, List.length_replicate]; omega)) (by first | omega | (simp only [List.length_set, List.length_append, List.length_cons, List.length_nil, List.length_replicate]; omega)) rfl (fun g_119 hg_120 => ?_)
          refine Wx.gyes rfl rfl (congrArg Value.bool g_110) ?_
          refine Wx.rd (v := .int .i64 (sillV (sdC 6 zs) (sdH 6 zs) (ix 0 (ix [] (poolsL (sdC 6 zs) (sdH 6 zs) (lv % 31)) i) 0))) (Rd.to (v := .int .i64 (ix 0 (sillsE (sdR 6 zs) (sdC 6 zs) (sdH 6 zs)) (ix 0 (ix [] (poolsL (sdC 6 zs) (sdH 6 zs) (lv % 31)) i) 0))) (rd_loadRI' hS 7 rfl hg_120 rfl (by first | omega | (simp only [List.length_set, List.length_append, List.length_cons, List.length_nil, List.length_replicate]; omega)) (by first | omega | (simp only [List.length_set, List.length_append, List.length_cons, List.length_nil, List.length_replicate]; omega)) Try.isAgg3 Try.sizeOf3) (congrArg (Value.int .i64) (show (sillV (sdC 6 zs) (sdH 6 zs) (ix 0 (ix [] (poolsL (sdC 6 zs) (sdH 6 zs) (lv % 31)) i) 0) : Int) = (ix 0 (sillsE (sdR 6 zs) (sdC 6 zs) (sdH 6 zs)) (ix 0 (ix [] (poolsL (sdC 6 zs) (sdH 6 zs) (lv % 31)) i) 0) : Int) from (sills_ix p_ok (by omega) (by omega)).symm).symm)) rfl ?_
          have bd_121 := bd_i64 (hS.rowInK' 7 rfl (by first | omega | (simp only [List.length_set, List.length_append, List.length_cons, List.length_nil, List.length_replicate]; omega)) (by first | omega | (simp only [List.length_set, List.length_append, List.length_cons, List.length_nil, List.length_replicate]; omega)) : InK .i64 (ix 0 (sillsE (sdR 6 zs) (sdC 6 zs) (sdH 6 zs)) (ix 0 (ix [] (poolsL (sdC 6 zs) (sdH 6 zs) (lv % 31)) i) 0)))
          refine Wx.gyes rfl rfl (congrArg Value.bool g_110) ?_
          refine Wx.rd (v := .bool false) (Rd.to (v := .bool (decide ((sillV (sdC 6 zs) (sdH 6 zs) (ix 0 (ix [] (poolsL (sdC 6 zs) (sdH 6 zs) (lv % 31)) i) k)) ≠ (sillV (sdC 6 zs) (sdH 6 zs) (ix 0 (ix [] (poolsL (sdC 6 zs) (sdH 6 zs) (lv % 31)) i) 0))))) (rd_neq rfl rfl) (congrArg (Value.bool) (show (false : Bool) = (decide ((sillV (sdC 6 zs) (sdH 6 zs) (ix 0 (ix [] (poolsL (sdC 6 zs) (sdH 6 zs) (lv % 31)) i) k)) ≠ (sillV (sdC 6 zs) (sdH 6 zs) (ix 0 (ix [] (poolsL (sdC 6 zs) (sdH 6 zs) (lv % 31)) i) 0))) : Bool) from (decide_eq_false (fun z => z (pl_sill p_ok h0 c1 hm (ix_inl (by decide) hpp)))).symm).symm)) rfl ?_
          refine Wx.rd (v := .bool false) (rd_pickF (congrArg Value.bool g_110) rfl) rfl ?_
          refine Wx.nilQ (fun _ _ => ⟨(), trivial, ⟨?_, trivial⟩, Out.look rfl Out.refl⟩)
          show Value.bool false = Value.bool ((decide (0 < k) && false) || false)
          first | rw [g_110, Bool.false_or] | (rw [g_110]; rfl)
      rintro ⟨⟩ u_123 -
      refine Wx.nilQ (fun w_124 hx_125 => ?_)
      have hS := hS.ext hx_125
      refine W.condF rfl (by simp) ?_
      refine W.skip ?_
      refine W.seq ?_
      refine W.reg ?_
      refine Wx.rd (v := r_45) (rd_move rfl) rfl ?_
      refine Wx.rd (v := .int .i64 (ix 0 (ix [] (poolsL (sdC 6 zs) (sdH 6 zs) (lv % 31)) i) k)) (rd_loadX hS 0 rfl rfl rfl Try.isAgg3) rfl ?_
      refine Wx.rd (v := .int .i64 i) (rd_move rfl) rfl ?_
      refine Wx.indexR hS 2 rfl rfl rfl Try.underlying22 Try.sizeOf3 (by first | omega | (simp only [List.length_set, List.length_append, List.length_cons, List.length_nil, List.length_replicate]; omega)) (by first | omega | (simp only [List.length_set, List.length_append, List.length_cons, List.length_nil, List.length_replicate]; omega)) rfl (fun g_126 hg_127 => ?_)
      refine Wx.storeR (j := (ix 0 (ix [] (poolsL (sdC 6 zs) (sdH 6 zs) (lv % 31)) i) k).toNat) (z := i) hS 2 rfl hg_127 rfl (by first | omega | (simp only [List.length_set, List.length_append, List.length_cons, List.length_nil, List.length_replicate]; omega)) rfl (V.mkInt (in_i64 (by omega) (by omega))) Try.sizeOf3 (fun w_128 hz_129 hS => ?_)
      refine Wx.nil ?_
      refine W.seq ?_
      refine W.reg ?_
      refine Wx.rd (v := v_54) (rd_move rfl) rfl ?_
      refine Wx.rd (v := .int .i64 ((ix [] (poolsL (sdC 6 zs) (sdH 6 zs) (lv % 31)) i).length : Int)) (rd_lenV rfl (hS.v 1 rfl) Try.underlying22) rfl ?_
      refine Wx.rd (v := .bool (decide (1 < ((ix [] (poolsL (sdC 6 zs) (sdH 6 zs) (lv % 31)) i).length : Int)))) (rd_gtr rfl rfl) rfl ?_
      refine Wx.rd (v := .bool (decide (1 < ((ix [] (poolsL (sdC 6 zs) (sdH 6 zs) (lv % 31)) i).length : Int)))) (rd_move rfl) rfl ?_
      refine Wx.cut (X := Unit) 5 [175, 176, 177, 178, 179] (fun _ => [(179, .bool (decide (1 < ((ix [] (poolsL (sdC 6 zs) (sdH 6 zs) (lv % 31)) i).length : Int)) && false))]) (fun _ w' => St w O w' [.box g_93 3 [.int .i64 (ix 0 (ix [] (poolsL (sdC 6 zs) (sdH 6 zs) (lv % 31)) i) k)], Ob.v (tSl (tI .i64)) (ix [] (poolsL (sdC 6 zs) (sdH 6 zs) (lv % 31)) i) v_54, .row (tI .i64) 3 r_45 (List.set ins2 (ix 0 (ix [] (poolsL (sdC 6 zs) (sdH 6 zs) (lv % 31)) i) k).toNat i), .row (tI .i64) 3 v_42 [-1], .row (tSl (tI .i64)) 22 v_39 (poolsL (sdC 6 zs) (sdH 6 zs) (lv % 31)), .row (tI .i64) 3 v_33 (bareE (sdR 6 zs) (sdC 6 zs) (sdH 6 zs) (lv % 31)), .row (tI .i64) 3 v_27 (depthsE (sdR 6 zs) (sdC 6 zs) (sdH 6 zs) (lv % 31)), .row (tI .i64) 3 v_21 (sillsE (sdR 6 zs) (sdC 6 zs) (sdH 6 zs)), Ob.v (tSl (tI .i64)) (sdH 6 zs) v_8, .box g_11 24 [.int .i64 (sdR 6 zs), .int .i64 (sdC 6 zs), v_8], .box g_1 60 (List.map (Value.int .u8) zs)]) ?_ ?_
      · rcases Bool.eq_false_or_eq_true (decide (1 < ((ix [] (poolsL (sdC 6 zs) (sdH 6 zs) (lv % 31)) i).length : Int))) with g_130 | g_130
        · -- True
          have gp_131 := of_decide_eq_true g_130
          refine Wx.gyes rfl rfl (congrArg Value.bool g_130) ?_
          refine Wx.rd (v := v_54) (rd_move rfl) rfl ?_
          refine Wx.gyes rfl rfl (congrArg Value.bool g_130) ?_
          refine Wx.rd (v := .func (.func 54) #[] #[.pointer (some ⟨g_11, 0, none⟩), .pointer (some ⟨g_93, 0, none⟩)]) (rd_makeFunc (vs := []) (us := [.pointer (some ⟨g_11, 0, none⟩), .pointer (some ⟨g_93, 0, none⟩)]) rfl rfl) rfl ?_
          refine Wx.gyes rfl rfl (congrArg Value.bool g_130) ?_
          refine Wx.callF (run_callF Try.call53 rfl) (FCnb (hS.v 1 rfl) (in_i64 (by omega) (by omega)) (in_i64 (by omega) (by omega)) (hS.v 8 rfl) (boxAt hS 9 rfl (Ext.refl _)) (in_i64 (by omega) (by omega)) (boxAt hS 0 rfl (Ext.refl _)) ⟨c1_, c2_⟩ n36 ⟨by omega, by omega⟩ hpr) rfl ?_
          rintro r_132 w_133 hx_134 rfl
          have hS := hS.ext hx_134
          rw [show ((ix [] (poolsL (sdC 6 zs) (sdH 6 zs) (lv % 31)) i).any (nearB (sdC 6 zs) (sdH 6 zs).length (ix 0 (ix [] (poolsL (sdC 6 zs) (sdH 6 zs) (lv % 31)) i) k)) : Bool) = true from (pl_nb h0 c1 hm (by omega))]
          refine Wx.gyes rfl rfl (congrArg Value.bool g_130) ?_
          refine Wx.rd (v := .bool false) (rd_not (c := true) rfl) rfl ?_
          refine Wx.rd (v := .bool false) (rd_pickT (congrArg Value.bool g_130) rfl) rfl ?_
          refine Wx.nil ⟨(), hS, ⟨?_, trivial⟩, Out.look rfl Out.refl⟩
          show Value.bool false = Value.bool (decide (1 < ((ix [] (poolsL (sdC 6 zs) (sdH 6 zs) (lv % 31)) i).length : Int)) && false)
          first | rw [g_130, Bool.true_and] | (rw [g_130]; rfl)
        · -- False
          have gp_135 := of_decide_eq_false g_130
          refine Wx.gnoB rfl rfl (congrArg Value.bool g_130) rfl rfl ?_
          refine Wx.gnoB rfl rfl (congrArg Value.bool g_130) rfl rfl ?_
          refine Wx.gnoB rfl rfl (congrArg Value.bool g_130) rfl rfl ?_
          refine Wx.gnoB rfl rfl (congrArg Value.bool g_130) rfl rfl ?_
          refine Wx.rd (v := .bool false) (rd_pickF (congrArg Value.bool g_130) rfl) rfl ?_
          refine Wx.nil ⟨(), hS, ⟨?_, trivial⟩, Out.look rfl Out.refl⟩
          show Value.bool false = Value.bool (decide (1 < ((ix [] (poolsL (sdC 6 zs) (sdH 6 zs) (lv % 31)) i).length : Int)) && false)
          first | rw [g_130, Bool.false_and] | (rw [g_130]; rfl)
      rintro ⟨⟩ u_137 w_136 hS
      refine Wx.nil ?_
      refine W.condF rfl (by simp) ?_
      refine W.skip ?_
      refine W.reg ?_
      refine Wx.rd (v := .int .i64 (k + 1)) (rd_add rfl rfl (in_i64 (by omega) (by omega))) rfl ?_
      refine Wx.rd (v := .int .i64 (k + 1)) (rd_move rfl) rfl ?_
      refine Wx.nil ?_
      refine ⟨(k + 1, List.set ins2 (ix 0 (ix [] (poolsL (sdC 6 zs) (sdH 6 zs) (lv % 31)) i) k).toNat i), (by show ((ix [] (poolsL (sdC 6 zs) (sdH 6 zs) (lv % 31)) i).length - (k + 1)).toNat < ((ix [] (poolsL (sdC 6 zs) (sdH 6 zs) (lv % 31)) i).length - k).toNat; omega), ?_, ?_, Out.look rfl (Out.hav rfl (Out.look rfl (Out.hav rfl (Out.look rfl (Out.hav rfl (Out.look rfl Out.self))))))⟩
      · exact ⟨hS.tl, (by first | omega | assumption), (by first | omega | assumption), (in_step g2 h0 c1 n36 g0 c3)⟩
      · exact ⟨rfl, trivial⟩
    · -- no
      refine W.exit rfl ?_
      refine W.reg ?_
      refine Wx.rd (v := .int .i64 (i + 1)) (rd_add rfl rfl (in_i64 (by omega) (by omega))) rfl ?_
      refine Wx.rd (v := .int .i64 (i + 1)) (rd_move rfl) rfl ?_
      refine Wx.nil ?_
      refine ⟨(i + 1, ins2), (by show ((poolsL (sdC 6 zs) (sdH 6 zs) (lv % 31)).length - (i + 1)).toNat < ((poolsL (sdC 6 zs) (sdH 6 zs) (lv % 31)).length - i).toNat; omega), ?_, ?_, Out.look rfl (Out.hav rfl (Out.look rfl (Out.hav rfl (Out.look rfl (Out.hav rfl (Out.look rfl Out.self))))))⟩
      · exact ⟨hS.tl, (by first | omega | assumption), (by first | omega | assumption), (in_next g2 (by omega))⟩
      · exact ⟨rfl, trivial⟩
  · -- no
    have hie : i = ((poolsL (sdC 6 zs) (sdH 6 zs) (lv % 31)).length : Int) := by omega
    refine W.exit rfl ?_
    refine W.seq ?_
    refine W.reg ?_
    refine Wx.rd (v := (.slice none 0 0)) (rd_assign rfl) rfl ?_
    refine Wx.nil ?_
    refine W.seq ?_
    refine W.seq ?_
    refine W.reg ?_
    refine Wx.rd (v := .int .i64 ((sdH 6 zs).length : Int)) (rd_move rfl) rfl ?_
    refine Wx.rd (v := .int .i64 0) (rd_move rfl) rfl ?_
    refine Wx.nil ?_
    refine W.block ?_
    have hS := hS.addNil (tI .i64) 3
    refine W.loop [4, 21, 22, 23, 183, 184, 185, 186, 187, 188, 189, 190, 191, 192, 193, 194, 195, 196, 197, 198, 199, 200, 201, 202, 203, 204, 205, 206, 207, 208, 209, 210, 211, 212, 213, 214, 215, 216, 217, 218, 219, 220, 221, 222, 223, 224, 225, 226, 227, 228, 229, 230, 231, 232, 233, 234, 235, 236, 237, 238, 239, 240, 241, 242, 243, 244, 245, 246, 247, 248, 249, 250, 251, 252, 253, 254, 255, 256, 257, 258, 259, 260, 261, 262, 263, 264, 265, 266, 267, 268, 269, 270, 271, 272, 273, 274, 275, 276, 277, 278, 279, 280, 281, 282, 283, 284, 285, 286] (fun x : Int × Value × (List Int) => match x with | (u, wv, ws) => [(183, .int .i64 u), (21, wv)]) (fun (x : Int × Value × (List Int)) w' => match x with | (u, wv, ws) => St w O w' [.row (tI .i64) 3 wv ws, .row (tI .i64) 3 r_45 ins, .row (tI .i64) 3 v_42 [-1], .row (tSl (tI .i64)) 22 v_39 (poolsL (sdC 6 zs) (sdH 6 zs) (lv % 31)), .row (tI .i64) 3 v_33 (bareE (sdR 6 zs) (sdC 6 zs) (sdH 6 zs) (lv % 31)), .row (tI .i64) 3 v_27 (depthsE (sdR 6 zs) (sdC 6 zs) (sdH 6 zs) (lv % 31)), .row (tI .i64) 3 v_21 (sillsE (sdR 6 zs) (sdC 6 zs) (sdH 6 zs)), Ob.v (tSl (tI .i64)) (sdH 6 zs) v_8, .box g_11 24 [.int .i64 (sdR 6 zs), .int .i64 (sdC 6 zs), v_8], .box g_1 60 (List.map (Value.int .u8) zs)] ∧ 0 ≤ u ∧ u ≤ ((sdH 6 zs).length : Int) ∧ ws = (rng 0 u).filter (fun x => decide (ix 0 (sdH 6 zs) x = sillV (sdC 6 zs) (sdH 6 zs) x) && decide ((lv % 31) ≤ ix 0 (sdH 6 zs) x)) ∧ (ws.length : Int) ≤ u) (fun x : Int × Value × (List Int) => match x with | (u, wv, ws) => (((sdH 6 zs).length : Int) - u).toNat) (0, (.slice none 0 0), []) ⟨rfl, rfl, trivial⟩ ⟨hS, (by first | omega | simp), (by first | omega | simp), (rfl), (by decide)⟩ ?_
    rintro ⟨u, wv, ws⟩ u_139 w_138 ⟨hS, u0, u1, u2, u3⟩
    refine W.seq ?_
    refine W.reg ?_
    refine Wx.rd (v := .bool (decide (u < ((sdH 6 zs).length : Int)))) (rd_lss rfl rfl) rfl ?_
    refine Wx.nil ?_
    refine W.seq ?_
    refine W.condD rfl (fun c6 => ?_) (fun c6 => ?_)
    · -- yes
      have hsk := p_ok.sill u0 (show u < ((sdH 6 zs).length : Int) by omega)
      have hak := p_ok.at u0 (show u < ((sdH 6 zs).length : Int) by omega)
      have hiv := (h2.2 u u0 (by omega)).1
      have hiw := in_wet h2 hie u0 (by omega)
      have hww := wet_is (w := (lv % 31)) p_ok u0 (show u < ((sdH 6 zs).length : Int) by omega)
      have hsz := h2.1
      refine W.skip ?_
      refine W.seq ?_
      refine W.block ?_
      refine W.seq ?_
      refine W.reg ?_
      refine Wx.rd (v := .int .i64 u) (rd_move rfl) rfl ?_
      refine Wx.rd (v := .int .i64 u) (rd_assign rfl) rfl ?_
      refine Wx.nil ?_
      refine W.seq ?_
      refine W.seq ?_
      refine W.regQ mixedMr_ (by kernel_rfl) ?_
      refine Wx.rd (v := v_27) (rd_move rfl) rfl ?_
      refine Wx.rd (v := .int .i64 u) (rd_move rfl) rfl ?_
      refine Wx.indexR hS 5 rfl rfl rfl Try.underlying22 Try.sizeOf3 (by first | omega | (simp only [List.length_set, List.length_append, List.length_cons, List.length_nil, List.length_replicate]; omega)) (by first | omega | (simp only [List.length_set, List.length_append, List.length_cons, List.length_nil, List.length_replicate]; omega)) rfl (fun g_140 hg_141 => ?_)
      refine Wx.rd (v := .int .i64 (max (sillV (sdC 6 zs) (sdH 6 zs) u) (lv % 31) - ix 0 (sdH 6 zs) u)) (Rd.to (v := .int .i64 (ix 0 (depthsE (sdR 6 zs) (sdC 6 zs) (sdH 6 zs) (lv % 31)) u)) (rd_loadRI' hS 5 rfl hg_141 rfl (by first | omega | (simp only [List.length_set, List.length_append, List.length_cons, List.length_nil, List.length_replicate]; omega)) (by first | omega | (simp only [List.length_set, List.length_append, List.length_cons, List.length_nil, List.length_replicate]; omega)) Try.isAgg3 Try.sizeOf3) (congrArg (Value.int .i64) (show (max (sillV (sdC 6 zs) (sdH 6 zs) u) (lv % 31) - ix 0 (sdH 6 zs) u : Int) = (ix 0 (depthsE (sdR 6 zs) (sdC 6 zs) (sdH 6 zs) (lv % 31)) u : Int) from (depths_ix p_ok hw u0 (by omega)).symm).symm)) rfl ?_
      have bd_142 := bd_i64 (hS.rowInK' 5 rfl (by first | omega | (simp only [List.length_set, List.length_append, List.length_cons, List.length_nil, List.length_replicate]; omega)) (by first | omega | (simp only [List.length_set, List.length_append, List.length_cons, List.length_nil, List.length_replicate]; omega)) : InK .i64 (ix 0 (depthsE (sdR 6 zs) (sdC 6 zs) (sdH 6 zs) (lv % 31)) u))
      refine Wx.rd (v := v_21) (rd_move rfl) rfl ?_
      refine Wx.rd (v := .int .i64 u) (rd_move rfl) rfl ?_
      refine Wx.indexR hS 6 rfl rfl rfl Try.underlying22 Try.sizeOf3 (by first | omega | (simp only [List.length_set, List.length_append, List.length_cons, List.length_nil, List.length_replicate]; omega)) (by first | omega | (simp only [List.length_set, List.length_append, List.length_cons, List.length_nil, List.length_replicate]; omega)) rfl (fun g_143 hg_144 => ?_)
      refine Wx.rd (v := .int .i64 (sillV (sdC 6 zs) (sdH 6 zs) u)) (Rd.to (v := .int .i64 (ix 0 (sillsE (sdR 6 zs) (sdC 6 zs) (sdH 6 zs)) u)) (rd_loadRI' hS 6 rfl hg_144 rfl (by first | omega | (simp only [List.length_set, List.length_append, List.length_cons, List.length_nil, List.length_replicate]; omega)) (by first | omega | (simp only [List.length_set, List.length_append, List.length_cons, List.length_nil, List.length_replicate]; omega)) Try.isAgg3 Try.sizeOf3) (congrArg (Value.int .i64) (show (sillV (sdC 6 zs) (sdH 6 zs) u : Int) = (ix 0 (sillsE (sdR 6 zs) (sdC 6 zs) (sdH 6 zs)) u : Int) from (sills_ix p_ok u0 (by omega)).symm).symm)) rfl ?_
      have bd_145 := bd_i64 (hS.rowInK' 6 rfl (by first | omega | (simp only [List.length_set, List.length_append, List.length_cons, List.length_nil, List.length_replicate]; omega)) (by first | omega | (simp only [List.length_set, List.length_append, List.length_cons, List.length_nil, List.length_replicate]; omega)) : InK .i64 (ix 0 (sillsE (sdR 6 zs) (sdC 6 zs) (sdH 6 zs)) u))
      refine Wx.rd (v := .int .i64 (lv % 31)) (rd_move rfl) rfl ?_
      refine Wx.rd (v := .int .i64 (max (sillV (sdC 6 zs) (sdH 6 zs) u) (lv % 31))) (rd_max rfl rfl) rfl ?_
      refine Wx.rd (v := .pointer (some ⟨g_11, 2, none⟩)) (rd_fieldAddr rfl foMr_24_2) rfl ?_
      refine Wx.rd (v := v_8) (rd_loadX hS 8 rfl rfl rfl Try.isAgg22) rfl ?_
      refine Wx.rd (v := .int .i64 u) (rd_move rfl) rfl ?_
      refine Wx.ex (rd_index 0 (hS.v 7 rfl) rfl rfl Try.underlying22 Try.sizeOf3 (by first | omega | (simp only [List.length_set, List.length_append, List.length_cons, List.length_nil, List.length_replicate]; omega)) (by first | omega | (simp only [List.length_set, List.length_append, List.length_cons, List.length_nil, List.length_replicate]; omega))) rfl (fun p_146 hp_147 => ?_)
      refine Wx.rd (v := .int .i64 (ix 0 (sdH 6 zs) u)) (rd_loadI hp_147 rfl Try.isAgg3 Try.sizeOf3) rfl ?_
      have bd_148 := bd_i64 hp_147.inK
      refine Wx.rd (v := .int .i64 ((max (sillV (sdC 6 zs) (sdH 6 zs) u) (lv % 31)) - (ix 0 (sdH 6 zs) u))) (rd_sub rfl rfl (in_i64 (by omega) (by omega))) rfl ?_
      refine Wx.rd (v := .bool false) (Rd.to (v := .bool (decide ((max (sillV (sdC 6 zs) (sdH 6 zs) u) (lv % 31) - ix 0 (sdH 6 zs) u) ≠ ((max (sillV (sdC 6 zs) (sdH 6 zs) u) (lv % 31)) - (ix 0 (sdH 6 zs) u))))) (rd_neq rfl rfl) (congrArg (Value.bool) (show (false : Bool) = (decide ((max (sillV (sdC 6 zs) (sdH 6 zs) u) (lv % 31) - ix 0 (sdH 6 zs) u) ≠ ((max (sillV (sdC 6 zs) (sdH 6 zs) u) (lv % 31)) - (ix 0 (sdH 6 zs) u))) : Bool) from (decide_eq_false (fun z => z rfl)).symm).symm)) rfl ?_
      refine Wx.rd (v := .bool false) (rd_move rfl) rfl ?_
      refine Wx.gyes rfl rfl rfl ?_
      refine Wx.rd (v := v_27) (rd_move rfl) rfl ?_
      refine Wx.gyes rfl rfl rfl ?_
      refine Wx.rd (v := .int .i64 u) (rd_move rfl) rfl ?_
      refine Wx.gyes rfl rfl rfl ?_
      refine Wx.indexR hS 5 rfl rfl rfl Try.underlying22 Try.sizeOf3 (by first | omega | (simp only [List.length_set, List.length_append, List.length_cons, List.length_nil, List.length_replicate]; omega)) (by first | omega | (simp only [List.length_set, List.length_append, List.length_cons, List.length_nil, List.length_replicate]; omega)) rfl (fun g_149 hg_150 => ?_)
      refine Wx.gyes rfl rfl rfl ?_
      refine Wx.rd (v := .int .i64 (max (sillV (sdC 6 zs) (sdH 6 zs) u) (lv % 31) - ix 0 (sdH 6 zs) u)) (Rd.to (v := .int .i64 (ix 0 (depthsE (sdR 6 zs) (sdC 6 zs) (sdH 6 zs) (lv % 31)) u)) (rd_loadRI' hS 5 rfl hg_150 rfl (by first | omega | (simp only [List.length_set, List.length_append, List.length_cons, List.length_nil, List.length_replicate]; omega)) (by first | omega | (simp only [List.length_set, List.length_append, List.length_cons, List.length_nil, List.length_replicate]; omega)) Try.isAgg3 Try.sizeOf3) (congrArg (Value.int .i64) (show (max (sillV (sdC 6 zs) (sdH 6 zs) u) (lv % 31) - ix 0 (sdH 6 zs) u : Int) = (ix 0 (depthsE (sdR 6 zs) (sdC 6 zs) (sdH 6 zs) (lv % 31)) u : Int) from (depths_ix p_ok hw u0 (by omega)).symm).symm)) rfl ?_
      have bd_151 := bd_i64 (hS.rowInK' 5 rfl (by first | omega | (simp only [List.length_set, List.length_append, List.length_cons, List.length_nil, List.length_replicate]; omega)) (by first | omega | (simp only [List.length_set, List.length_append, List.length_cons, List.length_nil, List.length_replicate]; omega)) : InK .i64 (ix 0 (depthsE (sdR 6 zs) (sdC 6 zs) (sdH 6 zs) (lv % 31)) u))
      refine Wx.gyes rfl rfl rfl ?_
      refine Wx.rd (v := .bool false) (Rd.to (v := .bool (decide ((max (sillV (sdC 6 zs) (sdH 6 zs) u) (lv % 31) - ix 0 (sdH 6 zs) u) < 0))) (rd_lss rfl rfl) (congrArg (Value.bool) (show (false : Bool) = (decide ((max (sillV (sdC 6 zs) (sdH 6 zs) u) (lv % 31) - ix 0 (sdH 6 zs) u) < 0) : Bool) from (decide_eq_false (by omega)).symm).symm)) rfl ?_
      refine Wx.rd (v := .bool false) (rd_pickF rfl rfl) rfl ?_
      refine Wx.nilQ (fun w_152 hx_153 => ?_)
      have hS := hS.ext hx_153
      refine W.condF rfl rfl ?_
      refine W.skip ?_
      refine W.seq ?_
      refine W.seq ?_
      refine W.regQ mixedMr_ (by kernel_rfl) ?_
      refine Wx.rd (v := .pointer (some ⟨g_11, 2, none⟩)) (rd_fieldAddr rfl foMr_24_2) rfl ?_
      refine Wx.rd (v := v_8) (rd_loadX hS 8 rfl rfl rfl Try.isAgg22) rfl ?_
      refine Wx.rd (v := .int .i64 u) (rd_move rfl) rfl ?_
      refine Wx.ex (rd_index 0 (hS.v 7 rfl) rfl rfl Try.underlying22 Try.sizeOf3 (by first | omega | (simp only [List.length_set, List.length_append, List.length_cons, List.length_nil, List.length_replicate]; omega)) (by first | omega | (simp only [List.length_set, List.length_append, List.length_cons, List.length_nil, List.length_replicate]; omega))) rfl (fun p_154 hp_155 => ?_)
      refine Wx.rd (v := .int .i64 (ix 0 (sdH 6 zs) u)) (rd_loadI hp_155 rfl Try.isAgg3 Try.sizeOf3) rfl ?_
      have bd_156 := bd_i64 hp_155.inK
      refine Wx.rd (v := v_21) (rd_move rfl) rfl ?_
      refine Wx.rd (v := .int .i64 u) (rd_move rfl) rfl ?_
      refine Wx.indexR hS 6 rfl rfl rfl Try.underlying22 Try.sizeOf3 (by first | omega | (simp only [List.length_set, List.length_append, List.length_cons, List.length_nil, List.length_replicate]; omega)) (by first | omega | (simp only [List.length_set, List.length_append, List.length_cons, List.length_nil, List.length_replicate]; omega)) rfl (fun g_157 hg_158 => ?_)
      refine Wx.rd (v := .int .i64 (sillV (sdC 6 zs) (sdH 6 zs) u)) (Rd.to (v := .int .i64 (ix 0 (sillsE (sdR 6 zs) (sdC 6 zs) (sdH 6 zs)) u)) (rd_loadRI' hS 6 rfl hg_158 rfl (by first | omega | (simp only [List.length_set, List.length_append, List.length_cons, List.length_nil, List.length_replicate]; omega)) (by first | omega | (simp only [List.length_set, List.length_append, List.length_cons, List.length_nil, List.length_replicate]; omega)) Try.isAgg3 Try.sizeOf3) (congrArg (Value.int .i64) (show (sillV (sdC 6 zs) (sdH 6 zs) u : Int) = (ix 0 (sillsE (sdR 6 zs) (sdC 6 zs) (sdH 6 zs)) u : Int) from (sills_ix p_ok u0 (by omega)).symm).symm)) rfl ?_
      have bd_159 := bd_i64 (hS.rowInK' 6 rfl (by first | omega | (simp only [List.length_set, List.length_append, List.length_cons, List.length_nil, List.length_replicate]; omega)) (by first | omega | (simp only [List.length_set, List.length_append, List.length_cons, List.length_nil, List.length_replicate]; omega)) : InK .i64 (ix 0 (sillsE (sdR 6 zs) (sdC 6 zs) (sdH 6 zs)) u))
      refine Wx.rd (v := .bool (decide ((ix 0 (sdH 6 zs) u) = (sillV (sdC 6 zs) (sdH 6 zs) u)))) (rd_eql rfl rfl) rfl ?_
      refine Wx.rd (v := .bool (decide ((ix 0 (sdH 6 zs) u) = (sillV (sdC 6 zs) (sdH 6 zs) u)))) (rd_move rfl) rfl ?_
      refine Wx.cutQ (X := Unit) 8 [221, 222, 223, 224, 225, 226, 227, 228] (fun _ => [(228, .bool (decide ((ix 0 (sdH 6 zs) u) = (sillV (sdC 6 zs) (sdH 6 zs) u)) && decide ((lv % 31) ≤ (ix 0 (sdH 6 zs) u))))]) (fun _ => True) ?_ ?_
      · rcases Bool.eq_false_or_eq_true (decide ((ix 0 (sdH 6 zs) u) = (sillV (sdC 6 zs) (sdH 6 zs) u))) with g_160 | g_160
        · -- True
          have gp_161 := of_decide_eq_true g_160
          refine Wx.gyes rfl rfl (congrArg Value.bool g_160) ?_
          refine Wx.rd (v := .pointer (some ⟨g_11, 2, none⟩)) (rd_fieldAddr rfl foMr_24_2) rfl ?_
          refine Wx.gyes rfl rfl (congrArg Value.bool g_160) ?_
          refine Wx.rd (v := v_8) (rd_loadX hS 8 rfl rfl rfl Try.isAgg22) rfl ?_
          refine Wx.gyes rfl rfl (congrArg Value.bool g_160) ?_
          refine Wx.rd (v := .int .i64 u) (rd_move rfl) rfl ?_
          refine Wx.gyes rfl rfl (congrArg Value.bool g_160) ?_
          refine Wx.ex (rd_index 0 (hS.v 7 rfl) rfl rfl Try.underlying22 Try.sizeOf3 (by first | omega | (simp only [List.length_set, List.length_append, List.length_cons, List.length_nil, List.length_replicate]; omega)) (by first | omega | (simp only [List.length_set, List.length_append, List.length_cons, List.length_nil, List.length_replicate]; omega))) rfl (fun p_162 hp_163 => ?_)
          refine Wx.gyes rfl rfl (congrArg Value.bool g_160) ?_
          refine Wx.rd (v := .int .i64 (ix 0 (sdH 6 zs) u)) (rd_loadI hp_163 rfl Try.isAgg3 Try.sizeOf3) rfl ?_
          have bd_164 := bd_i64 hp_163.inK
          refine Wx.gyes rfl rfl (congrArg Value.bool g_160) ?_
          refine Wx.rd (v := .int .i64 (lv % 31)) (rd_move rfl) rfl ?_
          refine Wx.gyes rfl rfl (congrArg Value.bool g_160) ?_
          refine Wx.rd (v := .bool (decide ((lv % 31) ≤ (ix 0 (sdH 6 zs) u)))) (rd_geq rfl rfl) rfl ?_
          refine Wx.rd (v := .bool (decide ((lv % 31) ≤ (ix 0 (sdH 6 zs) u)))) (rd_pickT (congrArg Value.bool g_160) rfl) rfl ?_
          refine Wx.nilQ (fun _ _ => ⟨(), trivial, ⟨?_, trivial⟩, Out.look rfl Out.refl⟩)
          show Value.bool (decide ((lv % 31) ≤ (ix 0 (sdH 6 zs) u))) = Value.bool (decide ((ix 0 (sdH 6 zs) u) = (sillV (sdC 6 zs) (sdH 6 zs) u)) && decide ((lv % 31) ≤ (ix 0 (sdH 6 zs) u)))
          first | rw [g_160, Bool.true_and] | (rw [g_160]; rfl)
        · -- False
          have gp_165 := of_decide_eq_false g_160
          refine Wx.gnoB rfl rfl (congrArg Value.bool g_160) rfl rfl ?_
          refine Wx.gnoB rfl rfl (congrArg Value.bool g_160) rfl rfl ?_
          refine Wx.gnoB rfl rfl (congrArg Value.bool g_160) rfl rfl ?_
          refine Wx.gnoB rfl rfl (congrArg Value.bool g_160) rfl rfl ?_
          refine Wx.gnoB rfl rfl (congrArg Value.bool g_160) rfl rfl ?_
          refine Wx.gnoB rfl rfl (congrArg Value.bool g_160) rfl rfl ?_
          refine Wx.gnoB rfl rfl (congrArg Value.bool g_160) rfl rfl ?_
          refine Wx.rd (v := .bool false) (rd_pickF (congrArg Value.bool g_160) rfl) rfl ?_
          refine Wx.nilQ (fun _ _ => ⟨(), trivial, ⟨?_, trivial⟩, Out.look rfl Out.refl⟩)
          show Value.bool false = Value.bool (decide ((ix 0 (sdH 6 zs) u) = (sillV (sdC 6 zs) (sdH 6 zs) u)) && decide ((lv % 31) ≤ (ix 0 (sdH 6 zs) u)))
          first | rw [g_160, Bool.false_and] | (rw [g_160]; rfl)
      rintro ⟨⟩ u_167 -
      refine Wx.nilQ (fun w_168 hx_169 => ?_)
      have hS := hS.ext hx_169
      refine W.cutK [21, 229, 230, 231, 232] (fun x : Value × (List Int) => match x with | (wv2, ws2) => [(21, wv2)]) (fun (x : Value × (List Int)) w' => match x with | (wv2, ws2) => St w O w' [.row (tI .i64) 3 wv2 ws2, .row (tI .i64) 3 r_45 ins, .row (tI .i64) 3 v_42 [-1], .row (tSl (tI .i64)) 22 v_39 (poolsL (sdC 6 zs) (sdH 6 zs) (lv % 31)), .row (tI .i64) 3 v_33 (bareE (sdR 6 zs) (sdC 6 zs) (sdH 6 zs) (lv % 31)), .row (tI .i64) 3 v_27 (depthsE (sdR 6 zs) (sdC 6 zs) (sdH 6 zs) (lv % 31)), .row (tI .i64) 3 v_21 (sillsE (sdR 6 zs) (sdC 6 zs) (sdH 6 zs)), Ob.v (tSl (tI .i64)) (sdH 6 zs) v_8, .box g_11 24 [.int .i64 (sdR 6 zs), .int .i64 (sdC 6 zs), v_8], .box g_1 60 (List.map (Value.int .u8) zs)] ∧ ws2 = (rng 0 (u + 1)).filter (fun x => decide (ix 0 (sdH 6 zs) x = sillV (sdC 6 zs) (sdH 6 zs) x) && decide ((lv % 31) ≤ ix 0 (sdH 6 zs) x)) ∧ (ws2.length : Int) ≤ u + 1) ?_ ?_
      · -- up to the cut
        refine W.cond rfl (fun c8 => ?_) (fun c8 => ?_)
        · -- yes
          try simp only [Bool.and_eq_true, Bool.or_eq_true, Bool.not_eq_true', Bool.and_eq_false_iff, Bool.or_eq_false_iff, Bool.not_eq_false', decide_eq_true_eq, decide_eq_false_iff_not, not_or, Bool.false_eq_true, Bool.true_eq_false, false_or, or_false, not_false_eq_true] at c8
          refine W.reg ?_
          refine Wx.rd (v := wv) (rd_move rfl) rfl ?_
          refine Wx.rd (v := .int .i64 u) (rd_move rfl) rfl ?_
          refine Wx.lit (t := (tI .i64)) (ys := [u]) (vs := [.int .i64 u]) elMr_22 hS rfl rfl ⟨(V.mkInt (in_i64 (by omega) (by omega))), trivial⟩ (by decide) rfl (fun v_170 w_171 hx_172 hS => ?_)
          refine Wx.append elMr_22 hS 1 rfl rfl rfl (Src.ofR hS 0 rfl) (by simp only [maxLen]; first | omega | (simp; omega) | simp) (by first | omega | (simp; omega) | simp) rfl (fun v_173 w_174 hz_175 hS => ?_)
          refine Wx.rd (v := v_173) (rd_assign rfl) rfl ?_
          refine Wx.nil ?_
          refine ⟨(v_173, ws ++ [u]), ?_, ?_, Out.look rfl Out.refl⟩
          · exact ⟨hS.tl, (by rw [filt_snoc u0, ← u2, if_pos (by rw [decide_eq_true c8.1, decide_eq_true c8.2]; rfl)]), (by simp only [List.length_append, List.length_cons, List.length_nil]; omega)⟩
          · exact ⟨rfl, trivial⟩
        · -- no
          try simp only [Bool.and_eq_true, Bool.or_eq_true, Bool.not_eq_true', Bool.and_eq_false_iff, Bool.or_eq_false_iff, Bool.not_eq_false', decide_eq_true_eq, decide_eq_false_iff_not, not_or, Bool.false_eq_true, Bool.true_eq_false, false_or, or_false, not_false_eq_true] at c8
          refine W.skip ?_
          refine ⟨(wv, ws), ?_, ?_, Out.look rfl Out.refl⟩
          · exact ⟨hS, (by rw [filt_snoc u0, ← u2, if_neg (by simp; omega), List.append_nil]), (by omega)⟩
          · exact ⟨rfl, trivial⟩
      rintro ⟨wv2, ws2⟩ u_177 w_176 ⟨hS, y2, y3⟩
      refine W.seq ?_
      refine W.seq ?_
      refine W.regQ mixedMr_ (by kernel_rfl) ?_
      refine Wx.rd (v := r_45) (rd_move rfl) rfl ?_
      refine Wx.rd (v := .int .i64 u) (rd_move rfl) rfl ?_
      refine Wx.indexR hS 1 rfl rfl rfl Try.underlying22 Try.sizeOf3 (by first | omega | (simp only [List.length_set, List.length_append, List.length_cons, List.length_nil, List.length_replicate]; omega)) (by first | omega | (simp only [List.length_set, List.length_append, List.length_cons, List.length_nil, List.length_replicate]; omega)) rfl (fun g_178 hg_179 => ?_)
      refine Wx.rd (v := .int .i64 (ix 0 ins u)) (rd_loadRI' hS 1 rfl hg_179 rfl (by first | omega | (simp only [List.length_set, List.length_append, List.length_cons, List.length_nil, List.length_replicate]; omega)) (by first | omega | (simp only [List.length_set, List.length_append, List.length_cons, List.length_nil, List.length_replicate]; omega)) Try.isAgg3 Try.sizeOf3) rfl ?_
      have bd_180 := bd_i64 (hS.rowInK' 1 rfl (by first | omega | (simp only [List.length_set, List.length_append, List.length_cons, List.length_nil, List.length_replicate]; omega)) (by first | omega | (simp only [List.length_set, List.length_append, List.length_cons, List.length_nil, List.length_replicate]; omega)) : InK .i64 (ix 0 ins u))
      refine Wx.rd (v := .bool (decide (0 ≤ (ix 0 ins u)))) (rd_geq rfl rfl) rfl ?_
      refine Wx.rd (v := v_27) (rd_move rfl) rfl ?_
      refine Wx.rd (v := .int .i64 u) (rd_move rfl) rfl ?_
      refine Wx.indexR hS 5 rfl rfl rfl Try.underlying22 Try.sizeOf3 (by first | omega | (simp only [List.length_set, List.length_append, List.length_cons, List.length_nil, List.length_replicate]; omega)) (by first | omega | (simp only [List.length_set, List.length_append, List.length_cons, List.length_nil, List.length_replicate]; omega)) rfl (fun g_181 hg_182 => ?_)
      refine Wx.rd (v := .int .i64 (max (sillV (sdC 6 zs) (sdH 6 zs) u) (lv % 31) - ix 0 (sdH 6 zs) u)) (Rd.to (v := .int .i64 (ix 0 (depthsE (sdR 6 zs) (sdC 6 zs) (sdH 6 zs) (lv % 31)) u)) (rd_loadRI' hS 5 rfl hg_182 rfl (by first | omega | (simp only [List.length_set, List.length_append, List.length_cons, List.length_nil, List.length_replicate]; omega)) (by first | omega | (simp only [List.length_set, List.length_append, List.length_cons, List.length_nil, List.length_replicate]; omega)) Try.isAgg3 Try.sizeOf3) (congrArg (Value.int .i64) (show (max (sillV (sdC 6 zs) (sdH 6 zs) u) (lv % 31) - ix 0 (sdH 6 zs) u : Int) = (ix 0 (depthsE (sdR 6 zs) (sdC 6 zs) (sdH 6 zs) (lv % 31)) u : Int) from (depths_ix p_ok hw u0 (by omega)).symm).symm)) rfl ?_
      have bd_183 := bd_i64 (hS.rowInK' 5 rfl (by first | omega | (simp only [List.length_set, List.length_append, List.length_cons, List.length_nil, List.length_replicate]; omega)) (by first | omega | (simp only [List.length_set, List.length_append, List.length_cons, List.length_nil, List.length_replicate]; omega)) : InK .i64 (ix 0 (depthsE (sdR 6 zs) (sdC 6 zs) (sdH 6 zs) (lv % 31)) u))
      refine Wx.rd (v := .bool (decide (0 < (max (sillV (sdC 6 zs) (sdH 6 zs) u) (lv % 31) - ix 0 (sdH 6 zs) u)))) (rd_gtr rfl rfl) rfl ?_
      refine Wx.rd (v := .bool (decide (0 < (max (sillV (sdC 6 zs) (sdH 6 zs) u) (lv % 31) - ix 0 (sdH 6 zs) u)))) (rd_move rfl) rfl ?_
      refine Wx.cutQ (X := Unit) 7 [244, 245, 246, 247, 248, 249, 250] (fun _ => [(250, .bool (decide (0 < (max (sillV (sdC 6 zs) (sdH 6 zs) u) (lv % 31) - ix 0 (sdH 6 zs) u)) && decide ((lv % 31) < (sillV (sdC 6 zs) (sdH 6 zs) u))))]) (fun _ => True) ?_ ?_
      · rcases Bool.eq_false_or_eq_true (decide (0 < (max (sillV (sdC 6 zs) (sdH 6 zs) u) (lv % 31) - ix 0 (sdH 6 zs) u))) with g_184 | g_184
        · -- True
          have gp_185 := of_decide_eq_true g_184
          refine Wx.gyes rfl rfl (congrArg Value.bool g_184) ?_
          refine Wx.rd (v := v_21) (rd_move rfl) rfl ?_
          refine Wx.gyes rfl rfl (congrArg Value.bool g_184) ?_
          refine Wx.rd (v := .int .i64 u) (rd_move rfl) rfl ?_
          refine Wx.gyes rfl rfl (congrArg Value.bool g_184) ?_
          refine Wx.indexR hS 6 rfl rfl rfl Try.underlying22 Try.sizeOf3 (by first | omega | (simp only [List.length_set, List.length_append, List.length_cons, List.length_nil, List.length_replicate]; omega)) (by first | omega | (simp only [List.length_set, List.length_append, List.length_cons, List.length_nil, List.length_replicate]; omega)) rfl (fun g_186 hg_187 => ?_)
          refine Wx.gyes rfl rfl (congrArg Value.bool g_184) ?_
          refine Wx.rd (v := .int .i64 (sillV (sdC 6 zs) (sdH 6 zs) u)) (Rd.to (v := .int .i64 (ix 0 (sillsE (sdR 6 zs) (sdC 6 zs) (sdH 6 zs)) u)) (rd_loadRI' hS 6 rfl hg_187 rfl (by first | omega | (simp only [List.length_set, List.length_append, List.length_cons, List.length_nil, List.length_replicate]; omega)) (by first | omega | (simp only [List.length_set, List.length_append, List.length_cons, List.length_nil, List.length_replicate]; omega)) Try.isAgg3 Try.sizeOf3) (congrArg (Value.int .i64) (show (sillV (sdC 6 zs) (sdH 6 zs) u : Int) = (ix 0 (sillsE (sdR 6 zs) (sdC 6 zs) (sdH 6 zs)) u : Int) from (sills_ix p_ok u0 (by omega)).symm).symm)) rfl ?_
          have bd_188 := bd_i64 (hS.rowInK' 6 rfl (by first | omega | (simp only [List.length_set, List.length_append, List.length_cons, List.length_nil, List.length_replicate]; omega)) (by first | omega | (simp only [List.length_set, List.length_append, List.length_cons, List.length_nil, List.length_replicate]; omega)) : InK .i64 (ix 0 (sillsE (sdR 6 zs) (sdC 6 zs) (sdH 6 zs)) u))
          refine Wx.gyes rfl rfl (congrArg Value.bool g_184) ?_
          refine Wx.rd (v := .int .i64 (lv % 31)) (rd_move rfl) rfl ?_
          refine Wx.gyes rfl rfl (congrArg Value.bool g_184) ?_
          refine Wx.rd (v := .bool (decide ((lv % 31) < (sillV (sdC 6 zs) (sdH 6 zs) u)))) (rd_gtr rfl rfl) rfl ?_
          refine Wx.rd (v := .bool (decide ((lv % 31) < (sillV (sdC 6 zs) (sdH 6 zs) u)))) (rd_pickT (congrArg Value.bool g_184) rfl) rfl ?_
          refine Wx.nilQ (fun _ _ => ⟨(), trivial, ⟨?_, trivial⟩, Out.look rfl Out.refl⟩)
          show Value.bool (decide ((lv % 31) < (sillV (sdC 6 zs) (sdH 6 zs) u))) = Value.bool (decide (0 < (max (sillV (sdC 6 zs) (sdH 6 zs) u) (lv % 31) - ix 0 (sdH 6 zs) u)) && decide ((lv % 31) < (sillV (sdC 6 zs) (sdH 6 zs) u)))
          first | rw [g_184, Bool.true_and] | (rw [g_184]; rfl)
        · -- False
          have gp_189 := of_decide_eq_false g_184
          refine Wx.gnoB rfl rfl (congrArg Value.bool g_184) rfl rfl ?_
          refine Wx.gnoB rfl rfl (congrArg Value.bool g_184) rfl rfl ?_
          refine Wx.gnoB rfl rfl (congrArg Value.bool g_184) rfl rfl ?_
          refine Wx.gnoB rfl rfl (congrArg Value.bool g_184) rfl rfl ?_
          refine Wx.gnoB rfl rfl (congrArg Value.bool g_184) rfl rfl ?_
          refine Wx.gnoB rfl rfl (congrArg Value.bool g_184) rfl rfl ?_
          refine Wx.rd (v := .bool false) (rd_pickF (congrArg Value.bool g_184) rfl) rfl ?_
          refine Wx.nilQ (fun _ _ => ⟨(), trivial, ⟨?_, trivial⟩, Out.look rfl Out.refl⟩)
          show Value.bool false = Value.bool (decide (0 < (max (sillV (sdC 6 zs) (sdH 6 zs) u) (lv % 31) - ix 0 (sdH 6 zs) u)) && decide ((lv % 31) < (sillV (sdC 6 zs) (sdH 6 zs) u)))
          first | rw [g_184, Bool.false_and] | (rw [g_184]; rfl)
      rintro ⟨⟩ u_191 -
      refine Wx.rd (v := .bool false) (Rd.to (v := .bool (!((decide (0 ≤ (ix 0 ins u))) == (decide (0 < (max (sillV (sdC 6 zs) (sdH 6 zs) u) (lv % 31) - ix 0 (sdH 6 zs) u)) && decide ((lv % 31) < (sillV (sdC 6 zs) (sdH 6 zs) u)))))) (rd_neqB rfl rfl Try.underlying4) (congrArg (Value.bool) (show (false : Bool) = (!((decide (0 ≤ (ix 0 ins u))) == (decide (0 < (max (sillV (sdC 6 zs) (sdH 6 zs) u) (lv % 31) - ix 0 (sdH 6 zs) u)) && decide ((lv % 31) < (sillV (sdC 6 zs) (sdH 6 zs) u)))) : Bool) from (by rw [hiw, hww, beq_self_eq_true]; rfl)).symm)) rfl ?_
      refine Wx.nilQ (fun w_192 hx_193 => ?_)
      have hS := hS.ext hx_193
      refine W.condF rfl rfl ?_
      refine W.skip ?_
      refine W.seq ?_
      refine W.reg ?_
      refine Wx.rd (v := .int .i64 u) (rd_move rfl) rfl ?_
      refine Wx.rd (v := .int .i64 0) (rd_move rfl) rfl ?_
      refine Wx.nil ?_
      refine W.block ?_
      refine W.loop [4, 23, 253, 254, 255, 256, 257, 258, 259, 260, 261, 262, 263, 264, 265, 266, 267, 268, 269, 270, 271, 272, 273, 274, 275, 276, 277, 278, 279, 280, 281, 282, 283, 284, 285] (fun (q : Int) => [(253, .int .i64 q)]) (fun (q : Int) w' => St w O w' [.row (tI .i64) 3 wv2 ws2, .row (tI .i64) 3 r_45 ins, .row (tI .i64) 3 v_42 [-1], .row (tSl (tI .i64)) 22 v_39 (poolsL (sdC 6 zs) (sdH 6 zs) (lv % 31)), .row (tI .i64) 3 v_33 (bareE (sdR 6 zs) (sdC 6 zs) (sdH 6 zs) (lv % 31)), .row (tI .i64) 3 v_27 (depthsE (sdR 6 zs) (sdC 6 zs) (sdH 6 zs) (lv % 31)), .row (tI .i64) 3 v_21 (sillsE (sdR 6 zs) (sdC 6 zs) (sdH 6 zs)), Ob.v (tSl (tI .i64)) (sdH 6 zs) v_8, .box g_11 24 [.int .i64 (sdR 6 zs), .int .i64 (sdC 6 zs), v_8], .box g_1 60 (List.map (Value.int .u8) zs)] ∧ 0 ≤ q ∧ q ≤ u) (fun (q : Int) => (u - q).toNat) 0 ⟨rfl, trivial⟩ ⟨hS, (by first | omega | simp), (by first | omega | simp)⟩ ?_
      rintro q u_195 w_194 ⟨hS, q0, q1⟩
      refine W.seq ?_
      refine W.reg ?_
      refine Wx.rd (v := .bool (decide (q < u))) (rd_lss rfl rfl) rfl ?_
      refine Wx.nil ?_
      refine W.seq ?_
      refine W.condD rfl (fun c10 => ?_) (fun c10 => ?_)
      · -- yes
        have hiv2 := (h2.2 q q0 (by omega)).1
        refine W.skip ?_
        refine W.seq ?_
        refine W.block ?_
        refine W.seq ?_
        refine W.reg ?_
        refine Wx.rd (v := .int .i64 q) (rd_move rfl) rfl ?_
        refine Wx.rd (v := .int .i64 q) (rd_assign rfl) rfl ?_
        refine Wx.nil ?_
        refine W.seq ?_
        refine W.regQ mixedMr_ (by kernel_rfl) ?_
        refine Wx.rd (v := r_45) (rd_move rfl) rfl ?_
        refine Wx.rd (v := .int .i64 u) (rd_move rfl) rfl ?_
        refine Wx.indexR hS 1 rfl rfl rfl Try.underlying22 Try.sizeOf3 (by first | omega | (simp only [List.length_set, List.length_append, List.length_cons, List.length_nil, List.length_replicate]; omega)) (by first | omega | (simp only [List.length_set, List.length_append, List.length_cons, List.length_nil, List.length_replicate]; omega)) rfl (fun g_196 hg_197 => ?_)
        refine Wx.rd (v := .int .i64 (ix 0 ins u)) (rd_loadRI' hS 1 rfl hg_197 rfl (by first | omega | (simp only [List.length_set, List.length_append, List.length_cons, List.length_nil, List.length_replicate]; omega)) (by first | omega | (simp only [List.length_set, List.length_append, List.length_cons, List.length_nil, List.length_replicate]; omega)) Try.isAgg3 Try.sizeOf3) rfl ?_
        have bd_198 := bd_i64 (hS.rowInK' 1 rfl (by first | omega | (simp only [List.length_set, List.length_append, List.length_cons, List.length_nil, List.length_replicate]; omega)) (by first | omega | (simp only [List.length_set, List.length_append, List.length_cons, List.length_nil, List.length_replicate]; omega)) : InK .i64 (ix 0 ins u))
        refine Wx.rd (v := .bool (decide (0 ≤ (ix 0 ins u)))) (rd_geq rfl rfl) rfl ?_
        refine Wx.rd (v := .bool (decide (0 ≤ (ix 0 ins u)))) (rd_move rfl) rfl ?_
        refine Wx.cutQ (X := Unit) 6 [262, 263, 264, 265, 266, 267] (fun _ => [(267, .bool (decide (0 ≤ (ix 0 ins u)) && decide (0 ≤ (ix 0 ins q))))]) (fun _ => True) ?_ ?_
        · rcases Bool.eq_false_or_eq_true (decide (0 ≤ (ix 0 ins u))) with g_199 | g_199
          · -- True
            have gp_200 := of_decide_eq_true g_199
            refine Wx.gyes rfl rfl (congrArg Value.bool g_199) ?_
            refine Wx.rd (v := r_45) (rd_move rfl) rfl ?_
            refine Wx.gyes rfl rfl (congrArg Value.bool g_199) ?_
            refine Wx.rd (v := .int .i64 q) (rd_move rfl) rfl ?_
            refine Wx.gyes rfl rfl (congrArg Value.bool g_199) ?_
            refine Wx.indexR hS 1 rfl rfl rfl Try.underlying22 Try.sizeOf3 (by first | omega | (simp only [List.length_set, List.length_append, List.length_cons, List.length_nil, List.length_replicate]; omega)) (by first | omega | (simp only [List.length_set, List.length_append, List.length_cons, List.length_nil, List.length_replicate]; omega)) rfl (fun g_201 hg_202 => ?_)
            refine Wx.gyes rfl rfl (congrArg Value.bool g_199) ?_
            refine Wx.rd (v := .int .i64 (ix 0 ins q)) (rd_loadRI' hS 1 rfl hg_202 rfl (by first | omega | (simp only [List.length_set, List.length_append, List.length_cons, List.length_nil, List.length_replicate]; omega)) (by first | omega | (simp only [List.length_set, List.length_append, List.length_cons, List.length_nil, List.length_replicate]; omega)) Try.isAgg3 Try.sizeOf3) rfl ?_
            have bd_203 := bd_i64 (hS.rowInK' 1 rfl (by first | omega | (simp only [List.length_set, List.length_append, List.length_cons, List.length_nil, List.length_replicate]; omega)) (by first | omega | (simp only [List.length_set, List.length_append, List.length_cons, List.length_nil, List.length_replicate]; omega)) : InK .i64 (ix 0 ins q))
            refine Wx.gyes rfl rfl (congrArg Value.bool g_199) ?_
            refine Wx.rd (v := .bool (decide (0 ≤ (ix 0 ins q)))) (rd_geq rfl rfl) rfl ?_
            refine Wx.rd (v := .bool (decide (0 ≤ (ix 0 ins q)))) (rd_pickT (congrArg Value.bool g_199) rfl) rfl ?_
            refine Wx.nilQ (fun _ _ => ⟨(), trivial, ⟨?_, trivial⟩, Out.look rfl Out.refl⟩)
            show Value.bool (decide (0 ≤ (ix 0 ins q))) = Value.bool (decide (0 ≤ (ix 0 ins u)) && decide (0 ≤ (ix 0 ins q)))
            first | rw [g_199, Bool.true_and] | (rw [g_199]; rfl)
          · -- False
            have gp_204 := of_decide_eq_false g_199
            refine Wx.gnoB rfl rfl (congrArg Value.bool g_199) rfl rfl ?_
            refine Wx.gnoB rfl rfl (congrArg Value.bool g_199) rfl rfl ?_
            refine Wx.gnoB rfl rfl (congrArg Value.bool g_199) rfl rfl ?_
            refine Wx.gnoB rfl rfl (congrArg Value.bool g_199) rfl rfl ?_
            refine Wx.gnoB rfl rfl (congrArg Value.bool g_199) rfl rfl ?_
            refine Wx.rd (v := .bool false) (rd_pickF (congrArg Value.bool g_199) rfl) rfl ?_
            refine Wx.nilQ (fun _ _ => ⟨(), trivial, ⟨?_, trivial⟩, Out.look rfl Out.refl⟩)
            show Value.bool false = Value.bool (decide (0 ≤ (ix 0 ins u)) && decide (0 ≤ (ix 0 ins q)))
            first | rw [g_199, Bool.false_and] | (rw [g_199]; rfl)
        rintro ⟨⟩ u_206 -
        refine Wx.rd (v := .bool (decide (0 ≤ (ix 0 ins u)) && decide (0 ≤ (ix 0 ins q)))) (rd_move rfl) rfl ?_
        refine Wx.cutQ (X := Unit) 5 [269, 270, 271, 272, 273] (fun _ => [(273, .bool ((decide (0 ≤ (ix 0 ins u)) && decide (0 ≤ (ix 0 ins q))) && nearB (sdC 6 zs) (sdH 6 zs).length u q))]) (fun _ => True) ?_ ?_
        · rcases Bool.eq_false_or_eq_true (decide (0 ≤ (ix 0 ins u)) && decide (0 ≤ (ix 0 ins q))) with g_207 | g_207
          · -- True
            have gp_208 := g_207
            try simp only [Bool.and_eq_true, Bool.or_eq_true, Bool.not_eq_true', Bool.and_eq_false_iff, Bool.or_eq_false_iff, Bool.not_eq_false', decide_eq_true_eq, decide_eq_false_iff_not, not_or, Bool.false_eq_true, Bool.true_eq_false, false_or, or_false, not_false_eq_true] at gp_208
            refine Wx.gyes rfl rfl (congrArg Value.bool g_207) ?_
            refine Wx.rd (v := .agg #[.int .i64 (sdR 6 zs), .int .i64 (sdC 6 zs), v_8]) (rd_loadXs (ds := [.int .i64 (sdR 6 zs), .int .i64 (sdC 6 zs), v_8]) hS 8 rfl rfl rfl rfl Try.isAgg24 Try.sizeOf24) rfl ?_
            refine Wx.gyes rfl rfl (congrArg Value.bool g_207) ?_
            refine Wx.rd (v := .int .i64 u) (rd_move rfl) rfl ?_
            refine Wx.gyes rfl rfl (congrArg Value.bool g_207) ?_
            refine Wx.rd (v := .int .i64 q) (rd_move rfl) rfl ?_
            refine Wx.gyes rfl rfl (congrArg Value.bool g_207) ?_
            refine Wx.callV (v := .bool (nearB (sdC 6 zs) (sdH 6 zs).length u q)) (run_callF Try.call43 rfl) (fun w_209 hw_210 => (F43 (in_i64 (by omega) (by omega)) (in_i64 (by omega) (by omega)) ((hS.v 7 rfl).ext hw_210) (in_i64 (by omega) (by omega)) (in_i64 (by omega) (by omega)) ⟨by omega, by omega⟩ ⟨by omega, by omega⟩ ⟨c1_, c2_⟩ n36)) rfl ?_
            refine Wx.rd (v := .bool (nearB (sdC 6 zs) (sdH 6 zs).length u q)) (rd_pickT (congrArg Value.bool g_207) rfl) rfl ?_
            refine Wx.nilQ (fun _ _ => ⟨(), trivial, ⟨?_, trivial⟩, Out.look rfl Out.refl⟩)
            show Value.bool (nearB (sdC 6 zs) (sdH 6 zs).length u q) = Value.bool ((decide (0 ≤ (ix 0 ins u)) && decide (0 ≤ (ix 0 ins q))) && nearB (sdC 6 zs) (sdH 6 zs).length u q)
            first | rw [g_207, Bool.true_and] | (rw [g_207]; rfl)
          · -- False
            have gp_211 := g_207
            try simp only [Bool.and_eq_true, Bool.or_eq_true, Bool.not_eq_true', Bool.and_eq_false_iff, Bool.or_eq_false_iff, Bool.not_eq_false', decide_eq_true_eq, decide_eq_false_iff_not, not_or, Bool.false_eq_true, Bool.true_eq_false, false_or, or_false, not_false_eq_true] at gp_211
            refine Wx.gnoB rfl rfl (congrArg Value.bool g_207) rfl rfl ?_
            refine Wx.gnoB rfl rfl (congrArg Value.bool g_207) rfl rfl ?_
            refine Wx.gnoB rfl rfl (congrArg Value.bool g_207) rfl rfl ?_
            refine Wx.gnoB rfl rfl (congrArg Value.bool g_207) rfl rfl ?_
            refine Wx.rd (v := .bool false) (rd_pickF (congrArg Value.bool g_207) rfl) rfl ?_
            refine Wx.nilQ (fun _ _ => ⟨(), trivial, ⟨?_, trivial⟩, Out.look rfl Out.refl⟩)
            show Value.bool false = Value.bool ((decide (0 ≤ (ix 0 ins u)) && decide (0 ≤ (ix 0 ins q))) && nearB (sdC 6 zs) (sdH 6 zs).length u q)
            first | rw [g_207, Bool.false_and] | (rw [g_207]; rfl)
        rintro ⟨⟩ u_213 -
        refine Wx.rd (v := .bool ((decide (0 ≤ (ix 0 ins u)) && decide (0 ≤ (ix 0 ins q))) && nearB (sdC 6 zs) (sdH 6 zs).length u q)) (rd_move rfl) rfl ?_
        refine Wx.cutQ (X := Unit) 10 [275, 276, 277, 278, 279, 280, 281, 282, 283, 284] (fun _ => [(284, .bool (((decide (0 ≤ (ix 0 ins u)) && decide (0 ≤ (ix 0 ins q))) && nearB (sdC 6 zs) (sdH 6 zs).length u q) && false))]) (fun _ => True) ?_ ?_
        · rcases Bool.eq_false_or_eq_true ((decide (0 ≤ (ix 0 ins u)) && decide (0 ≤ (ix 0 ins q))) && nearB (sdC 6 zs) (sdH 6 zs).length u q) with g_214 | g_214
          · -- True
            have gp_215 := g_214
            try simp only [Bool.and_eq_true, Bool.or_eq_true, Bool.not_eq_true', Bool.and_eq_false_iff, Bool.or_eq_false_iff, Bool.not_eq_false', decide_eq_true_eq, decide_eq_false_iff_not, not_or, Bool.false_eq_true, Bool.true_eq_false, false_or, or_false, not_false_eq_true] at gp_215
            refine Wx.gyes rfl rfl (congrArg Value.bool g_214) ?_
            refine Wx.rd (v := r_45) (rd_move rfl) rfl ?_
            refine Wx.gyes rfl rfl (congrArg Value.bool g_214) ?_
            refine Wx.rd (v := .int .i64 u) (rd_move rfl) rfl ?_
            refine Wx.gyes rfl rfl (congrArg Value.bool g_214) ?_
            refine Wx.indexR hS 1 rfl rfl rfl Try.underlying22 Try.sizeOf3 (by first | omega | (simp only [List.length_set, List.length_append, List.length_cons, List.length_nil, List.length_replicate]; omega)) (by first | omega | (simp only [List.length_set, List.length_append, List.length_cons, List.length_nil, List.length_replicate]; omega)) rfl (fun g_216 hg_217 => ?_)
            refine Wx.gyes rfl rfl (congrArg Value.bool g_214) ?_
            refine Wx.rd (v := .int .i64 (ix 0 ins u)) (rd_loadRI' hS 1 rfl hg_217 rfl (by first | omega | (simp only [List.length_set, List.length_append, List.length_cons, List.length_nil, List.length_replicate]; omega)) (by first | omega | (simp only [List.length_set, List.length_append, List.length_cons, List.length_nil, List.length_replicate]; omega)) Try.isAgg3 Try.sizeOf3) rfl ?_
            have bd_218 := bd_i64 (hS.rowInK' 1 rfl (by first | omega | (simp only [List.length_set, List.length_append, List.length_cons, List.length_nil, List.length_replicate]; omega)) (by first | omega | (simp only [List.length_set, List.length_append, List.length_cons, List.length_nil, List.length_replicate]; omega)) : InK .i64 (ix 0 ins u))
            refine Wx.gyes rfl rfl (congrArg Value.bool g_214) ?_
            refine Wx.rd (v := r_45) (rd_move rfl) rfl ?_
            refine Wx.gyes rfl rfl (congrArg Value.bool g_214) ?_
            refine Wx.rd (v := .int .i64 q) (rd_move rfl) rfl ?_
            refine Wx.gyes rfl rfl (congrArg Value.bool g_214) ?_
            refine Wx.indexR hS 1 rfl rfl rfl Try.underlying22 Try.sizeOf3 (by first | omega | (simp only [List.length_set, List.length_append, List.length_cons, List.length_nil, List.length_replicate]; omega)) (by first | omega | (simp only [List.length_set, List.length_append, List.length_cons, List.length_nil, List.length_replicate]; omega)) rfl (fun g_219 hg_220 => ?_)
            refine Wx.gyes rfl rfl (congrArg Value.bool g_214) ?_
            refine Wx.rd (v := .int .i64 (ix 0 ins q)) (rd_loadRI' hS 1 rfl hg_220 rfl (by first | omega | (simp only [List.length_set, List.length_append, List.length_cons, List.length_nil, List.length_replicate]; omega)) (by first | omega | (simp only [List.length_set, List.length_append, List.length_cons, List.length_nil, List.length_replicate]; omega)) Try.isAgg3 Try.sizeOf3) rfl ?_
            have bd_221 := bd_i64 (hS.rowInK' 1 rfl (by first | omega | (simp only [List.length_set, List.length_append, List.length_cons, List.length_nil, List.length_replicate]; omega)) (by first | omega | (simp only [List.length_set, List.length_append, List.length_cons, List.length_nil, List.length_replicate]; omega)) : InK .i64 (ix 0 ins q))
            refine Wx.gyes rfl rfl (congrArg Value.bool g_214) ?_
            refine Wx.rd (v := .bool false) (Rd.to (v := .bool (decide ((ix 0 ins u) ≠ (ix 0 ins q)))) (rd_neq rfl rfl) (congrArg (Value.bool) (show (false : Bool) = (decide ((ix 0 ins u) ≠ (ix 0 ins q)) : Bool) from (decide_eq_false (fun z => z (in_near c1_ h2 hie u0 (by omega) q0 (by omega) (by omega) (by omega) (by simp_all)))).symm).symm)) rfl ?_
            refine Wx.rd (v := .bool false) (rd_pickT (congrArg Value.bool g_214) rfl) rfl ?_
            refine Wx.nilQ (fun _ _ => ⟨(), trivial, ⟨?_, trivial⟩, Out.look rfl Out.refl⟩)
            show Value.bool false = Value.bool (((decide (0 ≤ (ix 0 ins u)) && decide (0 ≤ (ix 0 ins q))) && nearB (sdC 6 zs) (sdH 6 zs).length u q) && false)
            first | rw [g_214, Bool.true_and] | (rw [g_214]; rfl)
          · -- False
            have gp_222 := g_214
            try simp only [Bool.and_eq_true, Bool.or_eq_true, Bool.not_eq_true', Bool.and_eq_false_iff, Bool.or_eq_false_iff, Bool.not_eq_false', decide_eq_true_eq, decide_eq_false_iff_not, not_or, Bool.false_eq_true, Bool.true_eq_false, false_or, or_false, not_false_eq_true] at gp_222
            refine Wx.gnoB rfl rfl (congrArg Value.bool g_214) rfl rfl ?_
            refine Wx.gnoB rfl rfl (congrArg Value.bool g_214) rfl rfl ?_
            refine Wx.gnoB rfl rfl (congrArg Value.bool g_214) rfl rfl ?_
            refine Wx.gnoB rfl rfl (congrArg Value.bool g_214) rfl rfl ?_
            refine Wx.gnoB rfl rfl (congrArg Value.bool g_214) rfl rfl ?_
            refine Wx.gnoB rfl rfl (congrArg Value.bool g_214) rfl rfl ?_
            refine Wx.gnoB rfl rfl (congrArg Value.bool g_214) rfl rfl ?_
            refine Wx.gnoB rfl rfl (congrArg Value.bool g_214) rfl rfl ?_
            refine Wx.gnoB rfl rfl (congrArg Value.bool g_214) rfl rfl ?_
            refine Wx.rd (v := .bool false) (rd_pickF (congrArg Value.bool g_214) rfl) rfl ?_
            refine Wx.nilQ (fun _ _ => ⟨(), trivial, ⟨?_, trivial⟩, Out.look rfl Out.refl⟩)
            show Value.bool false = Value.bool (((decide (0 ≤ (ix 0 ins u)) && decide (0 ≤ (ix 0 ins q))) && nearB (sdC 6 zs) (sdH 6 zs).length u q) && false)
            first | rw [g_214, Bool.false_and] | (rw [g_214]; rfl)
        rintro ⟨⟩ u_224 -
        refine Wx.nilQ (fun w_225 hx_226 => ?_)
        have hS := hS.ext hx_226
        refine W.condF rfl (by simp) ?_
        refine W.skip ?_
        refine W.reg ?_
        refine Wx.rd (v := .int .i64 (q + 1)) (rd_add rfl rfl (in_i64 (by omega) (by omega))) rfl ?_
        refine Wx.rd (v := .int .i64 (q + 1)) (rd_move rfl) rfl ?_
        refine Wx.nil ?_
        refine ⟨q + 1, (by show (u - (q + 1)).toNat < (u - q).toNat; omega), ?_, ?_, Out.look rfl (Out.hav rfl (Out.look rfl (Out.hav rfl (Out.look rfl (Out.hav rfl (Out.look rfl Out.self))))))⟩
        · exact ⟨hS, (by first | omega | assumption), (by first | omega | assumption)⟩
        · exact ⟨rfl, trivial⟩
      · -- no
        refine W.exit rfl ?_
        refine W.reg ?_
        refine Wx.rd (v := .int .i64 (u + 1)) (rd_add rfl rfl (in_i64 (by omega) (by omega))) rfl ?_
        refine Wx.rd (v := .int .i64 (u + 1)) (rd_move rfl) rfl ?_
        refine Wx.nil ?_
        refine ⟨(u + 1, wv2, ws2), (by show (((sdH 6 zs).length : Int) - (u + 1)).toNat < (((sdH 6 zs).length : Int) - u).toNat; omega), ?_, ?_, Out.look rfl (Out.hav rfl (Out.look rfl (Out.hav rfl (Out.look rfl (Out.hav rfl (Out.look rfl (Out.hav rfl (Out.look rfl Out.self))))))))⟩
        · exact ⟨hS, (by first | omega | assumption), (by first | omega | assumption), (y2), (by omega)⟩
        · exact ⟨rfl, rfl, trivial⟩
    · -- no
      refine W.exit rfl ?_
      refine W.seq ?_
      refine W.reg ?_
      refine Wx.rd (v := v_33) (rd_move rfl) rfl ?_
      refine Wx.rd (v := wv) (rd_move rfl) rfl ?_
      refine Wx.callF (run_callF Try.call21 rfl) (F21 (hS.lend 4 rfl) (hS.lend 0 rfl)) rfl ?_
      rintro r_227 w_228 hx_229 rfl
      have hS := hS.ext hx_229
      rw [show (decide ((bareE (sdR 6 zs) (sdC 6 zs) (sdH 6 zs) (lv % 31)) = ws) : Bool) = true from (decide_eq_true (by rw [bare_is p_ok hw, u2, show u = ((sdH 6 zs).length : Int) by omega]))]
      refine Wx.rd (v := .bool true) (rd_move rfl) rfl ?_
      refine Wx.gyes rfl rfl rfl ?_
      refine Wx.callF (run_callF Try.call16 rfl) (F16) rfl ?_
      rintro r_230 w_231 hx_232 rfl
      have hS := hS.ext hx_232
      refine Wx.rd (v := .bool true) (rd_pickT rfl rfl) rfl ?_
      refine Wx.rd (v := .bool true) (rd_assign rfl) rfl ?_
      refine Wx.nil ?_
      exact W.ret ⟨.bool true, ResIs.one, hS.bel, rfl⟩
end Go.Proofs.Ytjhimoeodkaihaa

namespace Go.Wk
open Go.RowKit Go.ChangeShapes

section
variable {H : Type} {enc : TypeId × Value → H} {P : Program} {W : World}

theorem inK_of_wf {k : IntKind} {n : Int} (h : (Lit.int k n).wf = true) : InK k n := by
  cases k <;> simp [Lit.wf, IntKind.min, IntKind.max, IntKind.bits, IntKind.signed] at h <;> simp only [InK, lo, hi] <;> omega

structure Rds {α : Type} (enc : TypeId × Value → H) (P : Program) (W : World) (t : Ty α) (e : TypeId) : Prop where
  n : P.cellsOf e = t.n
  pos : 0 < t.n
  get : ∀ fuel cs x, DataW.trod enc P W 0 (fun _ => true) true fuel e cs = some x → ∃ y, t.rep [] W y cs

theorem list_of {α : Type} {p : Nat → α → Prop} : ∀ n : Nat, (∀ i, i < n → ∃ y, p i y) → ∃ ys : List α, ys.length = n ∧ ∀ i y, ys[i]? = some y → p i y
  | 0, _ => ⟨[], rfl, by simp⟩
  | n + 1, h => by
    obtain ⟨ys, h1, h2⟩ := list_of n (fun i hi => h i (by omega))
    obtain ⟨y, hy⟩ := h n (by omega)
    refine ⟨ys ++ [y], by simp [h1], fun i z hz => ?_⟩
    by_cases hi : i < ys.length
    · rw [List.getElem?_append_left hi] at hz; exact h2 i z hz
    · rw [List.getElem?_append_right (by omega)] at hz
      have : i - ys.length = 0 := by
        rcases Nat.eq_zero_or_pos (i - ys.length) with h | h
        · exact h
        · rw [List.getElem?_eq_none (by simp; omega)] at hz; cases hz
      rw [this] at hz
      simp at hz
      subst hz
      have : i = n := by omega
      rw [this]; exact hy

def RdI (enc : TypeId × Value → H) (P : Program) (W : World) (k : IntKind) (m : Nat) (e : TypeId) : Prop :=
  ∀ fuel cs x, DataW.trod enc P W 0 (fun _ => true) true fuel e cs = some x → ∃ zs : List Int, zs.length = m ∧ cs = zs.map (Value.int k) ∧ ∀ z ∈ zs, InK k z
theorem RdI.int {k : IntKind} {e : TypeId} (hu : P.underlying e = some (.int k)) : RdI enc P W k 1 e := by
  intro fuel cs x h
  obtain ⟨n, rfl, _, h3⟩ := DataW.trod_int hu h
  exact ⟨[n], rfl, rfl, by simpa using inK_of_wf h3⟩
theorem RdI.array {k : IntKind} {n : Nat} {e t : TypeId} (hu : P.underlying t = some (.array n e)) (he : P.underlying e = some (.int k)) (hc : P.cellsOf e = 1) (hn : P.cellsOf t = n) : RdI enc P W k n t := by
  intro fuel cs x h
  obtain ⟨xs, m, _, _, hl, hx, hel⟩ := DataW.trod_array hu h
  rw [hc] at hel
  rw [hn] at hl
  have h1 : ∀ i, i < n → ∃ z, cs[i]? = some (.int k z) ∧ InK k z := by
    intro i hi
    have := hel i hi
    cases hxi : xs[i]? with
    | none => rw [List.getElem?_eq_none_iff] at hxi; omega
    | some y =>
      rw [hxi] at this
      obtain ⟨z, hz, _, hw⟩ := DataW.trod_int he this
      refine ⟨z, ?_, inK_of_wf hw⟩
      have h2 := congrArg (fun l : List Value => l[0]?) hz
      simp only [List.getElem?_take, List.getElem?_drop] at h2
      simpa using h2
  obtain ⟨zs, z1, z2⟩ := list_of (p := fun i z => cs[i]? = some (.int k z) ∧ InK k z) n h1
  refine ⟨zs, z1, List.ext_getElem? fun i => ?_, fun z hz => ?_⟩
  · rw [List.getElem?_map]
    by_cases hi : i < n
    · have hzi : zs[i]? = some zs[i] := List.getElem?_eq_getElem (by omega)
      rw [hzi, (z2 i _ hzi).1]; rfl
    · rw [List.getElem?_eq_none (by omega), List.getElem?_eq_none (by omega)]; rfl
  · obtain ⟨i, hi⟩ := List.getElem?_of_mem hz
    exact (z2 i z hi).2
theorem RdI.struct3 {k : IntKind} {t : TypeId} {f0 f1 f2 : Field} {m0 m1 m2 : Nat} (hu : P.underlying t = some (.struct #[f0, f1, f2])) (h0 : RdI enc P W k m0 f0.type) (h1 : RdI enc P W k m1 f1.type) (h2 : RdI enc P W k m2 f2.type)
    (c0 : P.cellsOf f0.type = m0) (c1 : P.cellsOf f1.type = m1) (c2 : P.cellsOf f2.type = m2) (o0 : f0.offset = 0) (o1 : f1.offset = m0) (o2 : f2.offset = m0 + m1) (hC : P.cellsOf t = m0 + m1 + m2) : RdI enc P W k (m0 + m1 + m2) t := by
  intro fuel cs x h
  obtain ⟨y0, y1, y2, n, _, hl, r0, r1, r2⟩ := Go.Deep.trod_struct3 hu h
  rw [c0, o0] at r0
  rw [c1, o1] at r1
  rw [c2, o2] at r2
  rw [hC] at hl
  obtain ⟨z0, l0, e0, i0⟩ := h0 _ _ _ r0
  obtain ⟨z1, l1, e1, i1⟩ := h1 _ _ _ r1
  obtain ⟨z2, l2, e2, i2⟩ := h2 _ _ _ r2
  refine ⟨z0 ++ z1 ++ z2, by simp only [List.length_append, l0, l1, l2], ?_, fun z hz => ?_⟩
  · have h3 : List.take m2 (List.drop (m0 + m1) cs) = List.drop m1 (List.drop m0 cs) := by rw [List.drop_drop]; exact List.take_of_length_le (by simp; omega)
    rw [List.map_append, List.map_append, ← e0, ← e1, ← e2, List.drop_zero, h3, List.append_assoc, List.take_append_drop, List.take_append_drop]
  · rcases List.mem_append.1 hz with hz | hz
    · rcases List.mem_append.1 hz with hz | hz
      · exact i0 z hz
      · exact i1 z hz
    · exact i2 z hz
theorem RdI.v {k : IntKind} {t : TypeId} {m : Nat} {cs : Array Value} {d : DataW H} {p : List MemPlace} (h : RdI enc P W k m t) (hx : DataW.Trod enc P W 0 (fun _ => true) true t (.agg cs) d p) : ∃ zs : List Int, zs.length = m ∧ cs = (zs.map (Value.int k)).toArray ∧ ∀ z ∈ zs, InK k z := by
  obtain ⟨fuel, hf⟩ := hx
  obtain ⟨zs, h1, h2, h3⟩ := h _ _ _ hf
  refine ⟨zs, h1, ?_, h3⟩
  rw [← h2]
  simp [Value.cells]
end
end Go.Wk

namespace Go.Wk
open Go.RowKit Go.ChangeShapes
section
variable {H : Type} {enc : TypeId × Value → H} {P : Program} {W : World}
end
end Go.Wk

namespace Go.Wk
open Go.RowKit Go.ChangeShapes
section
variable {H : Type} {enc : TypeId × Value → H} {P : Program} {W : World}
end
section
variable {P : Program} {σ : Fr} {w : World} {x : Operand} {ty : TypeId}
end
end Go.Wk

namespace Go.Wk
open Go.RowKit Go.ChangeShapes
section
variable {H : Type} {enc : TypeId × Value → H} {P : Program} {W : World}
end
end Go.Wk
