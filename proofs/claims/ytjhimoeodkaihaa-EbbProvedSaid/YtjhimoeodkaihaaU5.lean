/-
  WHAT IS PROVED HERE, TEXT BY TEXT (several texts of one prover, joined to one file; the conditions stand in each statement):
  * WHAT IS PROVED HERE: what functions of layer 1 hand back, each out of its own code; the conditions stand in each statement.
  * WHAT IS PROVED HERE: what functions of layer 1 hand back, each out of its own code; the conditions stand in each statement.
  * WHAT IS PROVED HERE: what functions of layer 1 hand back, each out of its own code; the conditions stand in each statement.
  * WHAT IS PROVED HERE: what functions of layer 1 hand back, each out of its own code; the conditions stand in each statement.
  * WHAT IS PROVED HERE: what functions of layer 1 hand back, each out of its own code; the conditions stand in each statement.
  * WHAT IS PROVED HERE: what functions of layer 1 hand back, each out of its own code; the conditions stand in each statement.
  * WHAT IS PROVED HERE: an argument that reads as data is, in the world at the start, a value that stands for a plain list, number, or pair (V of Wk2). Conditions: the types' closed facts, as hypotheses.
  * WHAT IS PROVED HERE: arrays of arrays of numbers as they are read at the start. Conditions: the types' closed facts, as hypotheses.
  * WHAT IS PROVED HERE: structs of two slices as they are read at the start, and where their fields lie. Conditions: the types' closed facts, as hypotheses.
  * WHAT IS PROVED HERE: structs of five parts, integers of one kind all, as they are read at the start. Conditions: the types' closed facts, as hypotheses.
  * WHAT IS PROVED HERE: the given statement of EbbProved: for every input it returns true, and each argument reads as it did. Conditions: none.
-/
import Derived.Test.YtjhimoeodkaihaaProg
import Derived.Test.YtjhimoeodkaihaaU2
import Derived.Test.YtjhimoeodkaihaaU4
import Derived.Test.YtjhimoeodkaihaaU1
import Derived.Deep.Slices
import Derived.Deep.Strs
import Derived.Lib.SmallJoins
import Derived.OpenShut
import Derived.Carry
import Derived.ProofKit
import Derived.Test.YtjhimoeodkaihaaRows
import Derived.WalkKit

set_option linter.unusedVariables false
set_option linter.unusedSimpArgs false

namespace Go.Proofs.Ytjhimoeodkaihaa
open Go.Wk Go.RowKit Go.Lib
set_option linter.unusedVariables false
set_option linter.unusedSimpArgs false
theorem mixedMa_ : Try.prog.follows .mixedOrders = true := by kernel_rfl
theorem elMa_22 : ElemI Try.prog 22 3 (.int .i64 0) 1 8 := ElemI.of Try.underlying22 (by kernel_rfl) (by first | rfl | kernel_rfl) (by decide)

theorem F21 {xv : Value} {xs : List Int} {Fr_xv : List (Option Nat)} {yv : Value} {ys : List Int} {Fr_yv : List (Option Nat)} {w : World} (h_xv : V (tSl (tI .i64)) xs xv Fr_xv w) (h_yv : V (tSl (tI .i64)) ys yv Fr_yv w) : Calls Try.prog 21 #[xv, yv] w (Ret w (fun r _ => r = .bool (decide (xs = ys)))) := by
  have a_xv := h_xv.any
  have l_xv := h_xv.len63
  have a_yv := h_yv.any
  have l_yv := h_yv.len63
  have hS := St.start0 w
  refine enterR Try.func21 rfl Try.ntmps21 Try.results21 rfl ?_
  refine W.seq ?_
  refine W.reg ?_
  refine Wx.rd (v := .bool false) (rd_assign rfl) rfl ?_
  refine Wx.nil ?_
  refine W.seq ?_
  refine W.seq ?_
  refine W.reg ?_
  refine Wx.rd (v := xv) (rd_move rfl) rfl ?_
  refine Wx.rd (v := .int .i64 (xs.length : Int)) (rd_lenV rfl (hS.arg a_xv) Try.underlying22) rfl ?_
  refine Wx.rd (v := yv) (rd_move rfl) rfl ?_
  refine Wx.rd (v := .int .i64 (ys.length : Int)) (rd_lenV rfl (hS.arg a_yv) Try.underlying22) rfl ?_
  refine Wx.rd (v := .bool (decide ((xs.length : Int) ≠ (ys.length : Int)))) (rd_neq rfl rfl) rfl ?_
  refine Wx.nil ?_
  refine W.condD rfl (fun c0 => ?_) (fun c0 => ?_)
  · -- yes
    refine W.seq ?_
    refine W.reg ?_
    refine Wx.rd (v := .bool false) (rd_assign rfl) rfl ?_
    refine Wx.nil ?_
    have e0_0 : (decide (xs = ys)) = false := by exact decide_eq_false (fun h : xs = ys => c0 (by rw [h]))
    exact W.ret ⟨.bool false, ResIs.one, hS.bel, (by rw [e0_0])⟩
  · -- no
    refine W.skip ?_
    refine W.seq ?_
    refine W.seq ?_
    refine W.reg ?_
    refine Wx.rd (v := .int .i64 0) (rd_assign rfl) rfl ?_
    refine Wx.nil ?_
    refine W.block ?_
    refine W.loop [4, 5, 11, 12, 13, 14, 15, 16, 17, 18, 19, 20, 21, 22, 23, 24, 25] (fun (k : Int) => [(5, .int .i64 k)]) (fun (k : Int) w' => St w [] w' [] ∧ 0 ≤ k ∧ k ≤ xs.length ∧ decide (xs.drop k.toNat = ys.drop k.toNat) = decide (xs = ys)) (fun (k : Int) => (xs.length - k).toNat) 0 ⟨rfl, trivial⟩ ⟨hS, (by first | omega | simp), (by first | omega | simp), (by simp)⟩ ?_
    rintro k u_2 w_1 ⟨hS, h0, h1, h2⟩
    refine W.seq ?_
    refine W.seq ?_
    refine W.reg ?_
    refine Wx.rd (v := .int .i64 k) (rd_move rfl) rfl ?_
    refine Wx.rd (v := xv) (rd_move rfl) rfl ?_
    refine Wx.rd (v := .int .i64 (xs.length : Int)) (rd_lenV rfl (hS.arg a_xv) Try.underlying22) rfl ?_
    refine Wx.rd (v := .bool (decide (k < (xs.length : Int)))) (rd_lss rfl rfl) rfl ?_
    refine Wx.nil ?_
    refine W.condD rfl (fun c1 => ?_) (fun c1 => ?_)
    · -- yes
      refine W.skip ?_
      refine W.seq ?_
      refine W.block ?_
      refine W.seq ?_
      refine W.regQ mixedMa_ (by kernel_rfl) ?_
      refine Wx.rd (v := xv) (rd_move rfl) rfl ?_
      refine Wx.rd (v := .int .i64 k) (rd_move rfl) rfl ?_
      refine Wx.ex (rd_index 0 (hS.arg a_xv) rfl rfl Try.underlying22 Try.sizeOf3 (by first | omega | (simp only [List.length_set, List.length_append, List.length_cons, List.length_nil, List.length_replicate]; omega)) (by first | omega | (simp only [List.length_set, List.length_append, List.length_cons, List.length_nil, List.length_replicate]; omega))) rfl (fun p_3 hp_4 => ?_)
      refine Wx.rd (v := .int .i64 (ix 0 xs k)) (rd_loadI hp_4 rfl Try.isAgg3 Try.sizeOf3) rfl ?_
      have bd_5 := bd_i64 hp_4.inK
      refine Wx.rd (v := yv) (rd_move rfl) rfl ?_
      refine Wx.rd (v := .int .i64 k) (rd_move rfl) rfl ?_
      refine Wx.ex (rd_index 0 (hS.arg a_yv) rfl rfl Try.underlying22 Try.sizeOf3 (by first | omega | (simp only [List.length_set, List.length_append, List.length_cons, List.length_nil, List.length_replicate]; omega)) (by first | omega | (simp only [List.length_set, List.length_append, List.length_cons, List.length_nil, List.length_replicate]; omega))) rfl (fun p_6 hp_7 => ?_)
      refine Wx.rd (v := .int .i64 (ix 0 ys k)) (rd_loadI hp_7 rfl Try.isAgg3 Try.sizeOf3) rfl ?_
      have bd_8 := bd_i64 hp_7.inK
      refine Wx.rd (v := .bool (decide ((ix 0 xs k) ≠ (ix 0 ys k)))) (rd_neq rfl rfl) rfl ?_
      refine Wx.nilQ (fun w_9 hx_10 => ?_)
      have hS := hS.ext hx_10
      refine W.condD rfl (fun c2 => ?_) (fun c2 => ?_)
      · -- yes
        refine W.seq ?_
        refine W.reg ?_
        refine Wx.rd (v := .bool false) (rd_assign rfl) rfl ?_
        refine Wx.nil ?_
        have he : ¬ ix 0 xs k = ix 0 ys k := fun hh => by rw [hh] at c2; omega
        have e1_0 : (decide (xs = ys)) = false := by rw [← h2, drop_ix (d := 0) h0 c1, drop_ix (d := 0) (xs := ys) h0 (by omega)]; simp [he]
        exact W.ret ⟨.bool false, ResIs.one, hS.bel, (by rw [e1_0])⟩
      · -- no
        refine W.skip ?_
        refine W.reg ?_
        refine Wx.rd (v := .int .i64 k) (rd_move rfl) rfl ?_
        refine Wx.rd (v := .int .i64 (k + 1)) (rd_add rfl rfl (in_i64 (by omega) (by omega))) rfl ?_
        refine Wx.rd (v := .int .i64 (k + 1)) (rd_assign rfl) rfl ?_
        refine Wx.nil ?_
        have he : ix 0 xs k = ix 0 ys k := by omega
        refine ⟨k + 1, (by show (xs.length - (k + 1)).toNat < (xs.length - k).toNat; omega), ?_, ?_, Out.look rfl Out.self⟩
        · exact ⟨hS, (by first | omega | assumption), (by first | omega | assumption), (by rw [← h2, drop_ix (d := 0) h0 c1, drop_ix (d := 0) (xs := ys) h0 (by omega)]; simp [he])⟩
        · exact ⟨rfl, trivial⟩
    · -- no
      refine W.exit rfl ?_
      refine W.seq ?_
      refine W.reg ?_
      refine Wx.rd (v := .bool true) (rd_assign rfl) rfl ?_
      refine Wx.nil ?_
      have e2_0 : (decide (xs = ys)) = true := by rw [← h2, drop_end (by omega), drop_end (xs := ys) (by omega)]; simp
      exact W.ret ⟨.bool true, ResIs.one, hS.bel, (by rw [e2_0])⟩

theorem F28 {xv : Value} {xs : List (List Int)} {Fr_xv : List (Option Nat)} {yv : Value} {ys : List (List Int)} {Fr_yv : List (Option Nat)} {w : World} (h_xv : V (tSl (tSl (tI .i64))) xs xv Fr_xv w) (h_yv : V (tSl (tSl (tI .i64))) ys yv Fr_yv w) : Calls Try.prog 28 #[xv, yv] w (Ret w (fun r _ => r = .bool (decide (xs = ys)))) := by
  have a_xv := h_xv.any
  have l_xv := h_xv.len63
  have a_yv := h_yv.any
  have l_yv := h_yv.len63
  have hS := St.start0 w
  refine enterR Try.func28 rfl Try.ntmps28 Try.results28 rfl ?_
  refine W.seq ?_
  refine W.reg ?_
  refine Wx.rd (v := .bool false) (rd_assign rfl) rfl ?_
  refine Wx.nil ?_
  refine W.seq ?_
  refine W.seq ?_
  refine W.reg ?_
  refine Wx.rd (v := xv) (rd_move rfl) rfl ?_
  refine Wx.rd (v := .int .i64 (xs.length : Int)) (rd_lenV rfl (hS.arg a_xv) Try.underlying37) rfl ?_
  refine Wx.rd (v := yv) (rd_move rfl) rfl ?_
  refine Wx.rd (v := .int .i64 (ys.length : Int)) (rd_lenV rfl (hS.arg a_yv) Try.underlying37) rfl ?_
  refine Wx.rd (v := .bool (decide ((xs.length : Int) ≠ (ys.length : Int)))) (rd_neq rfl rfl) rfl ?_
  refine Wx.nil ?_
  refine W.condD rfl (fun c0 => ?_) (fun c0 => ?_)
  · -- yes
    refine W.seq ?_
    refine W.reg ?_
    refine Wx.rd (v := .bool false) (rd_assign rfl) rfl ?_
    refine Wx.nil ?_
    have e0_0 : (decide (xs = ys)) = false := by exact decide_eq_false (fun h : xs = ys => c0 (by rw [h]))
    exact W.ret ⟨.bool false, ResIs.one, hS.bel, (by rw [e0_0])⟩
  · -- no
    refine W.skip ?_
    refine W.seq ?_
    refine W.seq ?_
    refine W.reg ?_
    refine Wx.rd (v := .int .i64 0) (rd_assign rfl) rfl ?_
    refine Wx.nil ?_
    refine W.block ?_
    refine W.loop [4, 5, 11, 12, 13, 14, 15, 16, 17, 18, 19, 20, 21, 22, 23, 24, 25, 26] (fun (k : Int) => [(5, .int .i64 k)]) (fun (k : Int) w' => St w [] w' [] ∧ 0 ≤ k ∧ k ≤ xs.length ∧ decide (xs.drop k.toNat = ys.drop k.toNat) = decide (xs = ys)) (fun (k : Int) => (xs.length - k).toNat) 0 ⟨rfl, trivial⟩ ⟨hS, (by first | omega | simp), (by first | omega | simp), (by simp)⟩ ?_
    rintro k u_2 w_1 ⟨hS, h0, h1, h2⟩
    refine W.seq ?_
    refine W.seq ?_
    refine W.reg ?_
    refine Wx.rd (v := .int .i64 k) (rd_move rfl) rfl ?_
    refine Wx.rd (v := xv) (rd_move rfl) rfl ?_
    refine Wx.rd (v := .int .i64 (xs.length : Int)) (rd_lenV rfl (hS.arg a_xv) Try.underlying37) rfl ?_
    refine Wx.rd (v := .bool (decide (k < (xs.length : Int)))) (rd_lss rfl rfl) rfl ?_
    refine Wx.nil ?_
    refine W.condD rfl (fun c1 => ?_) (fun c1 => ?_)
    · -- yes
      refine W.skip ?_
      refine W.seq ?_
      refine W.block ?_
      refine W.seq ?_
      refine W.regQ mixedMa_ (by kernel_rfl) ?_
      refine Wx.rd (v := xv) (rd_move rfl) rfl ?_
      refine Wx.rd (v := .int .i64 k) (rd_move rfl) rfl ?_
      refine Wx.ex (rd_index [] (hS.arg a_xv) rfl rfl Try.underlying37 Try.sizeOf22 (by first | omega | (simp only [List.length_set, List.length_append, List.length_cons, List.length_nil, List.length_replicate]; omega)) (by first | omega | (simp only [List.length_set, List.length_append, List.length_cons, List.length_nil, List.length_replicate]; omega))) rfl (fun p_3 hp_4 => ?_)
      refine Wx.ex (rd_load hp_4 rfl Try.isAgg22 Try.sizeOf22) rfl (fun v_5 hv_6 => ?_)
      have ln_7 := hv_6.len63
      have hS := hS.add hv_6
      refine Wx.rd (v := yv) (rd_move rfl) rfl ?_
      refine Wx.rd (v := .int .i64 k) (rd_move rfl) rfl ?_
      refine Wx.ex (rd_index [] (hS.arg a_yv) rfl rfl Try.underlying37 Try.sizeOf22 (by first | omega | (simp only [List.length_set, List.length_append, List.length_cons, List.length_nil, List.length_replicate]; omega)) (by first | omega | (simp only [List.length_set, List.length_append, List.length_cons, List.length_nil, List.length_replicate]; omega))) rfl (fun p_9 hp_10 => ?_)
      refine Wx.ex (rd_load hp_10 rfl Try.isAgg22 Try.sizeOf22) rfl (fun v_11 hv_12 => ?_)
      have ln_13 := hv_12.len63
      have hS := hS.add hv_12
      refine Wx.callV (v := .bool (decide ((ix [] xs k) = (ix [] ys k)))) (run_callF Try.call21 rfl) (fun w_15 hw_16 => (F21 ((hS.v 1 rfl).ext hw_16) ((hS.v 0 rfl).ext hw_16))) rfl ?_
      refine Wx.rd (v := .bool (!(decide ((ix [] xs k) = (ix [] ys k))))) (rd_not rfl) rfl ?_
      refine Wx.nilQ (fun w_17 hx_18 => ?_)
      have hS := hS.ext hx_18
      refine W.cond rfl (fun c2 => ?_) (fun c2 => ?_)
      · -- yes
        try simp only [Bool.and_eq_true, Bool.or_eq_true, Bool.not_eq_true', Bool.and_eq_false_iff, Bool.or_eq_false_iff, Bool.not_eq_false', decide_eq_true_eq, decide_eq_false_iff_not, not_or, Bool.false_eq_true, Bool.true_eq_false, false_or, or_false, not_false_eq_true] at c2
        refine W.seq ?_
        refine W.reg ?_
        refine Wx.rd (v := .bool false) (rd_assign rfl) rfl ?_
        refine Wx.nil ?_
        have he : ¬ ix [] xs k = ix [] ys k := c2
        have e1_0 : (decide (xs = ys)) = false := by rw [← h2, drop_ix (d := []) h0 c1, drop_ix (d := []) (xs := ys) h0 (by omega)]; simp [he]
        exact W.ret ⟨.bool false, ResIs.one, hS.bel, (by rw [e1_0])⟩
      · -- no
        try simp only [Bool.and_eq_true, Bool.or_eq_true, Bool.not_eq_true', Bool.and_eq_false_iff, Bool.or_eq_false_iff, Bool.not_eq_false', decide_eq_true_eq, decide_eq_false_iff_not, not_or, Bool.false_eq_true, Bool.true_eq_false, false_or, or_false, not_false_eq_true] at c2
        refine W.skip ?_
        refine W.reg ?_
        refine Wx.rd (v := .int .i64 k) (rd_move rfl) rfl ?_
        refine Wx.rd (v := .int .i64 (k + 1)) (rd_add rfl rfl (in_i64 (by omega) (by omega))) rfl ?_
        refine Wx.rd (v := .int .i64 (k + 1)) (rd_assign rfl) rfl ?_
        refine Wx.nil ?_
        have he : ix [] xs k = ix [] ys k := c2
        refine ⟨k + 1, (by show (xs.length - (k + 1)).toNat < (xs.length - k).toNat; omega), ?_, ?_, Out.look rfl Out.self⟩
        · exact ⟨St.tl (hS.tl), (by first | omega | assumption), (by first | omega | assumption), (by rw [← h2, drop_ix (d := []) h0 c1, drop_ix (d := []) (xs := ys) h0 (by omega)]; simp [he])⟩
        · exact ⟨rfl, trivial⟩
    · -- no
      refine W.exit rfl ?_
      refine W.seq ?_
      refine W.reg ?_
      refine Wx.rd (v := .bool true) (rd_assign rfl) rfl ?_
      refine Wx.nil ?_
      have e2_0 : (decide (xs = ys)) = true := by rw [← h2, drop_end (by omega), drop_end (xs := ys) (by omega)]; simp
      exact W.ret ⟨.bool true, ResIs.one, hS.bel, (by rw [e2_0])⟩

theorem F41 {xv : Value} {xs : List (Int × Int)} {Fr_xv : List (Option Nat)} {yv : Value} {ys : List (Int × Int)} {Fr_yv : List (Option Nat)} {w : World} (h_xv : V (tSl (tP (tI .i64) (tI .i64))) xs xv Fr_xv w) (h_yv : V (tSl (tP (tI .i64) (tI .i64))) ys yv Fr_yv w) : Calls Try.prog 41 #[xv, yv] w (Ret w (fun r _ => r = .bool (decide (xs = ys)))) := by
  have a_xv := h_xv.any
  have l_xv := h_xv.len63
  have a_yv := h_yv.any
  have l_yv := h_yv.len63
  have hS := St.start0 w
  refine enterR Try.func41 rfl Try.ntmps41 Try.results41 rfl ?_
  refine W.seq ?_
  refine W.reg ?_
  refine Wx.rd (v := .bool false) (rd_assign rfl) rfl ?_
  refine Wx.nil ?_
  refine W.seq ?_
  refine W.seq ?_
  refine W.reg ?_
  refine Wx.rd (v := xv) (rd_move rfl) rfl ?_
  refine Wx.rd (v := .int .i64 (xs.length : Int)) (rd_lenV rfl (hS.arg a_xv) Try.underlying52) rfl ?_
  refine Wx.rd (v := yv) (rd_move rfl) rfl ?_
  refine Wx.rd (v := .int .i64 (ys.length : Int)) (rd_lenV rfl (hS.arg a_yv) Try.underlying52) rfl ?_
  refine Wx.rd (v := .bool (decide ((xs.length : Int) ≠ (ys.length : Int)))) (rd_neq rfl rfl) rfl ?_
  refine Wx.nil ?_
  refine W.condD rfl (fun c0 => ?_) (fun c0 => ?_)
  · -- yes
    refine W.seq ?_
    refine W.reg ?_
    refine Wx.rd (v := .bool false) (rd_assign rfl) rfl ?_
    refine Wx.nil ?_
    have e0_0 : (decide (xs = ys)) = false := by exact decide_eq_false (fun h : xs = ys => c0 (by rw [h]))
    exact W.ret ⟨.bool false, ResIs.one, hS.bel, (by rw [e0_0])⟩
  · -- no
    refine W.skip ?_
    refine W.seq ?_
    refine W.seq ?_
    refine W.reg ?_
    refine Wx.rd (v := .int .i64 0) (rd_assign rfl) rfl ?_
    refine Wx.nil ?_
    refine W.block ?_
    refine W.loop [4, 5, 11, 12, 13, 14, 15, 16, 17, 18, 19, 20, 21, 22, 23, 24, 25] (fun (k : Int) => [(5, .int .i64 k)]) (fun (k : Int) w' => St w [] w' [] ∧ 0 ≤ k ∧ k ≤ xs.length ∧ decide (xs.drop k.toNat = ys.drop k.toNat) = decide (xs = ys)) (fun (k : Int) => (xs.length - k).toNat) 0 ⟨rfl, trivial⟩ ⟨hS, (by first | omega | simp), (by first | omega | simp), (by simp)⟩ ?_
    rintro k u_2 w_1 ⟨hS, h0, h1, h2⟩
    refine W.seq ?_
    refine W.seq ?_
    refine W.reg ?_
    refine Wx.rd (v := .int .i64 k) (rd_move rfl) rfl ?_
    refine Wx.rd (v := xv) (rd_move rfl) rfl ?_
    refine Wx.rd (v := .int .i64 (xs.length : Int)) (rd_lenV rfl (hS.arg a_xv) Try.underlying52) rfl ?_
    refine Wx.rd (v := .bool (decide (k < (xs.length : Int)))) (rd_lss rfl rfl) rfl ?_
    refine Wx.nil ?_
    refine W.condD rfl (fun c1 => ?_) (fun c1 => ?_)
    · -- yes
      refine W.skip ?_
      refine W.seq ?_
      refine W.block ?_
      refine W.seq ?_
      refine W.regQ mixedMa_ (by kernel_rfl) ?_
      refine Wx.rd (v := xv) (rd_move rfl) rfl ?_
      refine Wx.rd (v := .int .i64 k) (rd_move rfl) rfl ?_
      refine Wx.ex (rd_index (0, 0) (hS.arg a_xv) rfl rfl Try.underlying52 Try.sizeOf74 (by first | omega | (simp only [List.length_set, List.length_append, List.length_cons, List.length_nil, List.length_replicate]; omega)) (by first | omega | (simp only [List.length_set, List.length_append, List.length_cons, List.length_nil, List.length_replicate]; omega))) rfl (fun p_3 hp_4 => ?_)
      refine Wx.ex (rd_load hp_4 rfl Try.isAgg74 Try.sizeOf74) rfl (fun v_5 hv_6 => ?_)
      obtain ⟨rfl, bd_7, bd_8⟩ := hv_6.i2
      have bd_7 := bd_i64 bd_7
      have bd_8 := bd_i64 bd_8
      refine Wx.rd (v := yv) (rd_move rfl) rfl ?_
      refine Wx.rd (v := .int .i64 k) (rd_move rfl) rfl ?_
      refine Wx.ex (rd_index (0, 0) (hS.arg a_yv) rfl rfl Try.underlying52 Try.sizeOf74 (by first | omega | (simp only [List.length_set, List.length_append, List.length_cons, List.length_nil, List.length_replicate]; omega)) (by first | omega | (simp only [List.length_set, List.length_append, List.length_cons, List.length_nil, List.length_replicate]; omega))) rfl (fun p_9 hp_10 => ?_)
      refine Wx.ex (rd_load hp_10 rfl Try.isAgg74 Try.sizeOf74) rfl (fun v_11 hv_12 => ?_)
      obtain ⟨rfl, bd_13, bd_14⟩ := hv_12.i2
      have bd_13 := bd_i64 bd_13
      have bd_14 := bd_i64 bd_14
      refine Wx.rd (v := .bool (!(decide ((ix (0, 0) xs k).1 = (ix (0, 0) ys k).1) && decide ((ix (0, 0) xs k).2 = (ix (0, 0) ys k).2)))) (rd_neqA2 rfl rfl Try.underlying74 Try.underlying3 Try.sizeOf3 Try.eqGuardType74) rfl ?_
      refine Wx.nilQ (fun w_15 hx_16 => ?_)
      have hS := hS.ext hx_16
      refine W.cond rfl (fun c2 => ?_) (fun c2 => ?_)
      · -- yes
        try simp only [Bool.and_eq_true, Bool.or_eq_true, Bool.not_eq_true', Bool.and_eq_false_iff, Bool.or_eq_false_iff, Bool.not_eq_false', decide_eq_true_eq, decide_eq_false_iff_not, not_or, Bool.false_eq_true, Bool.true_eq_false, false_or, or_false, not_false_eq_true] at c2
        refine W.seq ?_
        refine W.reg ?_
        refine Wx.rd (v := .bool false) (rd_assign rfl) rfl ?_
        refine Wx.nil ?_
        have he : ¬ ix (0, 0) xs k = ix (0, 0) ys k := fun hh => by rw [hh] at c2; omega
        have e1_0 : (decide (xs = ys)) = false := by rw [← h2, drop_ix (d := (0, 0)) h0 c1, drop_ix (d := (0, 0)) (xs := ys) h0 (by omega)]; simp [he]
        exact W.ret ⟨.bool false, ResIs.one, hS.bel, (by rw [e1_0])⟩
      · -- no
        try simp only [Bool.and_eq_true, Bool.or_eq_true, Bool.not_eq_true', Bool.and_eq_false_iff, Bool.or_eq_false_iff, Bool.not_eq_false', decide_eq_true_eq, decide_eq_false_iff_not, not_or, Bool.false_eq_true, Bool.true_eq_false, false_or, or_false, not_false_eq_true] at c2
        refine W.skip ?_
        refine W.reg ?_
        refine Wx.rd (v := .int .i64 k) (rd_move rfl) rfl ?_
        refine Wx.rd (v := .int .i64 (k + 1)) (rd_add rfl rfl (in_i64 (by omega) (by omega))) rfl ?_
        refine Wx.rd (v := .int .i64 (k + 1)) (rd_assign rfl) rfl ?_
        refine Wx.nil ?_
        have he : ix (0, 0) xs k = ix (0, 0) ys k := Prod.ext (by omega) (by omega)
        refine ⟨k + 1, (by show (xs.length - (k + 1)).toNat < (xs.length - k).toNat; omega), ?_, ?_, Out.look rfl Out.self⟩
        · exact ⟨hS, (by first | omega | assumption), (by first | omega | assumption), (by rw [← h2, drop_ix (d := (0, 0)) h0 c1, drop_ix (d := (0, 0)) (xs := ys) h0 (by omega)]; simp [he])⟩
        · exact ⟨rfl, trivial⟩
    · -- no
      refine W.exit rfl ?_
      refine W.seq ?_
      refine W.reg ?_
      refine Wx.rd (v := .bool true) (rd_assign rfl) rfl ?_
      refine Wx.nil ?_
      have e2_0 : (decide (xs = ys)) = true := by rw [← h2, drop_end (by omega), drop_end (xs := ys) (by omega)]; simp
      exact W.ret ⟨.bool true, ResIs.one, hS.bel, (by rw [e2_0])⟩

theorem F49 {lv : Value} {l : List Int} {O : List (Option Nat)} {w : World} (h_lv : V (tSl (tI .i64)) l lv O w) (hO : ∀ b, some b ∈ O → b < w.heap.size) : Calls Try.prog 49 #[lv] w (Ret w (fun r w' => ∃ rv, r = rv ∧ V (tSl (tI .i64)) l rv O w')) := by
  have a_lv := h_lv
  have l_lv := h_lv.len63
  have hS := St.start w O hO
  refine enterR Try.func49 rfl Try.ntmps49 Try.results49 rfl ?_
  refine W.seq ?_
  refine W.reg ?_
  refine Wx.rd (v := (.slice none 0 0)) (rd_assign rfl) rfl ?_
  refine Wx.nil ?_
  refine W.seq ?_
  refine W.reg ?_
  refine Wx.rd (v := lv) (rd_move rfl) rfl ?_
  refine Wx.rd (v := lv) (rd_assign rfl) rfl ?_
  refine Wx.nil ?_
  exact W.ret ⟨lv, ResIs.one, hS.bel, ⟨lv, rfl, (V.mv (hS.arg a_lv) (.less (fun _ h => List.mem_append.2 (.inr h))))⟩⟩

theorem F48 {O : List (Option Nat)} {w : World} (hO : ∀ b, some b ∈ O → b < w.heap.size) : Calls Try.prog 48 #[] w (Ret w (fun r w' => ∃ rv, r = .agg #[.int .i64 3, .int .i64 3, rv] ∧ V (tSl (tI .i64)) sS rv O w')) := by
  have hS := St.start w O hO
  refine enterR Try.func48 rfl Try.ntmps48 Try.results48 rfl ?_
  refine W.seq ?_
  refine W.reg ?_
  refine Wx.alloc (cs := [.int .i64 0, .int .i64 0, (.slice none 0 0)]) hS Try.zeroValue24 rfl rfl (fun g_1 w_2 hx_4 hb_3 hS => ?_)
  refine Wx.nil ?_
  refine W.seq ?_
  refine W.reg ?_
  refine Wx.lit (t := (tI .i64)) (ys := [5, 5, 5, 5, 2, 5, 5, 4, 5]) (vs := [.int .i64 5, .int .i64 5, .int .i64 5, .int .i64 5, .int .i64 2, .int .i64 5, .int .i64 5, .int .i64 4, .int .i64 5]) elMa_22 hS rfl rfl ⟨(V.mkInt (in_i64 (by omega) (by omega))), ⟨(V.mkInt (in_i64 (by omega) (by omega))), ⟨(V.mkInt (in_i64 (by omega) (by omega))), ⟨(V.mkInt (in_i64 (by omega) (by omega))), ⟨(V.mkInt (in_i64 (by omega) (by omega))), ⟨(V.mkInt (in_i64 (by omega) (by omega))), ⟨(V.mkInt (in_i64 (by omega) (by omega))), ⟨(V.mkInt (in_i64 (by omega) (by omega))), ⟨(V.mkInt (in_i64 (by omega) (by omega))), trivial⟩⟩⟩⟩⟩⟩⟩⟩⟩ (by decide) rfl (fun v_5 w_6 hx_7 hS => ?_)
  have hS := hS.freeze 0 rfl
  refine Wx.callF (run_callF Try.call49 rfl) (F49 (hS.v 0 rfl) hS.fb_lt) rfl ?_
  rintro r_9 w_10 hx_11 ⟨_, rfl, hv_12⟩
  have ln_14 := hv_12.len63
  have hS := hS.ext hx_11
  have hS := hS.add hv_12
  refine Wx.rd (v := .agg #[.int .i64 3, .int .i64 3, r_9]) (rd_buildC (vs := [(0, .int .i64 3), (1, .int .i64 3), (2, r_9)]) (us := [(0, .agg #[.int .i64 3]), (1, .agg #[.int .i64 3]), (2, .agg #[r_9])]) rfl (parts_cons rfl (parts_cons rfl (parts_cons (Go.Wk.cells_one (V.oneC (hS.v 0 rfl))) parts_nil))) (by kernel_rfl)) rfl ?_
  refine Wx.storeX (cs' := [.int .i64 3, .int .i64 3, r_9]) (ds := [.int .i64 3, .int .i64 3, r_9]) hS 2 rfl rfl rfl rfl Try.sizeOf24 (Nat.le_of_ble_eq_true rfl) (one_cons rfl (one_cons rfl (one_cons (V.oneC (hS.v 0 rfl)) one_nil))) rfl (fun w_15 hz_16 hS => ?_)
  refine Wx.nil ?_
  have e0_2 : sS = [5, 5, 5, 5, 2, 5, 5, 4, 5] := by rfl
  exact W.ret ⟨.agg #[.int .i64 3, .int .i64 3, r_9], (ResIs.cell1 hS 2 rfl rfl Try.isAgg24 Try.sizeOf24), hS.bel, ⟨r_9, rfl, (by rw [e0_2]; exact (V.mv (hS.v 0 rfl) (.less (fun _ h => List.mem_append.2 (.inr h)))))⟩⟩

theorem F47 {O : List (Option Nat)} {w : World} (hO : ∀ b, some b ∈ O → b < w.heap.size) : Calls Try.prog 47 #[] w (Ret w (fun r w' => ∃ rv, r = .agg #[.int .i64 4, .int .i64 1, rv] ∧ V (tSl (tI .i64)) sT rv O w')) := by
  have hS := St.start w O hO
  refine enterR Try.func47 rfl Try.ntmps47 Try.results47 rfl ?_
  refine W.seq ?_
  refine W.reg ?_
  refine Wx.alloc (cs := [.int .i64 0, .int .i64 0, (.slice none 0 0)]) hS Try.zeroValue24 rfl rfl (fun g_1 w_2 hx_4 hb_3 hS => ?_)
  refine Wx.nil ?_
  refine W.seq ?_
  refine W.reg ?_
  refine Wx.lit (t := (tI .i64)) (ys := [9, 3, 6, 1]) (vs := [.int .i64 9, .int .i64 3, .int .i64 6, .int .i64 1]) elMa_22 hS rfl rfl ⟨(V.mkInt (in_i64 (by omega) (by omega))), ⟨(V.mkInt (in_i64 (by omega) (by omega))), ⟨(V.mkInt (in_i64 (by omega) (by omega))), ⟨(V.mkInt (in_i64 (by omega) (by omega))), trivial⟩⟩⟩⟩ (by decide) rfl (fun v_5 w_6 hx_7 hS => ?_)
  have hS := hS.freeze 0 rfl
  refine Wx.callF (run_callF Try.call49 rfl) (F49 (hS.v 0 rfl) hS.fb_lt) rfl ?_
  rintro r_9 w_10 hx_11 ⟨_, rfl, hv_12⟩
  have ln_14 := hv_12.len63
  have hS := hS.ext hx_11
  have hS := hS.add hv_12
  refine Wx.rd (v := .agg #[.int .i64 4, .int .i64 1, r_9]) (rd_buildC (vs := [(0, .int .i64 4), (1, .int .i64 1), (2, r_9)]) (us := [(0, .agg #[.int .i64 4]), (1, .agg #[.int .i64 1]), (2, .agg #[r_9])]) rfl (parts_cons rfl (parts_cons rfl (parts_cons (Go.Wk.cells_one (V.oneC (hS.v 0 rfl))) parts_nil))) (by kernel_rfl)) rfl ?_
  refine Wx.storeX (cs' := [.int .i64 4, .int .i64 1, r_9]) (ds := [.int .i64 4, .int .i64 1, r_9]) hS 2 rfl rfl rfl rfl Try.sizeOf24 (Nat.le_of_ble_eq_true rfl) (one_cons rfl (one_cons rfl (one_cons (V.oneC (hS.v 0 rfl)) one_nil))) rfl (fun w_15 hz_16 hS => ?_)
  refine Wx.nil ?_
  have e0_2 : sT = [9, 3, 6, 1] := by rfl
  exact W.ret ⟨.agg #[.int .i64 4, .int .i64 1, r_9], (ResIs.cell1 hS 2 rfl rfl Try.isAgg24 Try.sizeOf24), hS.bel, ⟨r_9, rfl, (by rw [e0_2]; exact (V.mv (hS.v 0 rfl) (.less (fun _ h => List.mem_append.2 (.inr h)))))⟩⟩

end Go.Proofs.Ytjhimoeodkaihaa

namespace Go.Proofs.Ytjhimoeodkaihaa
open Go.Wk Go.RowKit Go.Lib
set_option linter.unusedVariables false
set_option linter.unusedSimpArgs false
theorem elMb_22 : ElemI Try.prog 22 3 (.int .i64 0) 1 8 := ElemI.of Try.underlying22 (by kernel_rfl) (by first | rfl | kernel_rfl) (by decide)
theorem elMb_37 : ElemI Try.prog 37 22 ((.slice none 0 0)) 1 24 := ElemI.of Try.underlying37 (by kernel_rfl) (by first | rfl | kernel_rfl) (by decide)
theorem elMb_52 : ElemI Try.prog 52 74 (.agg #[.int .i64 0, .int .i64 0]) 2 16 := ElemI.of Try.underlying52 (by kernel_rfl) (by first | rfl | kernel_rfl) (by decide)

set_option maxHeartbeats 4000000 in
set_option maxRecDepth 10000 in
theorem F16  {w : World}  : Calls Try.prog 16 #[] w (Ret w (fun r _ => r = .bool true)) := by
  have hS := St.start0 w
  refine enterR Try.func16 rfl Try.ntmps16 Try.results16 rfl ?_
  refine W.seq ?_
  refine W.reg ?_
  refine Wx.rd (v := .bool false) (rd_assign rfl) rfl ?_
  refine Wx.nil ?_
  refine W.seq ?_
  refine W.reg ?_
  refine Wx.callF (run_callF Try.call48 rfl) (F48 hS.fb_lt) rfl ?_
  rintro r_1 w_2 hx_3 ⟨v_4, rfl, hv_5⟩
  have ln_7 := hv_5.len63
  have hS := hS.ext hx_3
  have hS := hS.add hv_5
  refine Wx.callF (run_callF Try.call17 rfl) (F17 (in_i64 (by omega) (by omega)) (in_i64 (by omega) (by omega)) (hS.v 0 rfl) hS.fb_lt) rfl ?_
  rintro r_8 w_9 hx_10 ⟨v_11, rfl, hv_12⟩
  have hS := hS.pushFr hx_10 hv_12
  refine Wx.rd (v := .tuple #[v_11, .int .i64 (checkS 3 3 sS)]) (rd_move rfl) rfl ?_
  refine Wx.rd (v := v_11) (rd_extract rfl rfl) rfl ?_
  refine Wx.rd (v := .int .i64 (checkS 3 3 sS)) (rd_extract rfl rfl) rfl ?_
  refine Wx.rd (v := v_11) (rd_assign rfl) rfl ?_
  refine Wx.rd (v := .int .i64 0) (Rd.to (v := .int .i64 (checkS 3 3 sS)) (rd_assign rfl) (congrArg (Value.int .i64) (show (0 : Int) = (checkS 3 3 sS : Int) from (by decide +kernel)).symm)) rfl ?_
  refine Wx.nil ?_
  refine W.seq ?_
  refine W.reg ?_
  refine Wx.callF (run_callF Try.call48 rfl) (F48 hS.fb_lt) rfl ?_
  rintro r_14 w_15 hx_16 ⟨v_17, rfl, hv_18⟩
  have ln_20 := hv_18.len63
  have hS := hS.ext hx_16
  have hS := hS.add hv_18
  refine Wx.callF (run_callF Try.call19 rfl) (F19 (in_i64 (by omega) (by omega)) (in_i64 (by omega) (by omega)) (hS.v 0 rfl) (in_i64 (by omega) (by omega)) hS.fb_lt) rfl ?_
  rintro r_21 w_22 hx_23 ⟨v_24, rfl, hv_25⟩
  have hS := hS.pushFr hx_23 hv_25
  refine Wx.rd (v := .tuple #[v_24, .int .i64 (levelE 3 3 sS 5)]) (rd_move rfl) rfl ?_
  refine Wx.rd (v := v_24) (rd_extract rfl rfl) rfl ?_
  refine Wx.rd (v := .int .i64 (levelE 3 3 sS 5)) (rd_extract rfl rfl) rfl ?_
  refine Wx.rd (v := v_24) (rd_assign rfl) rfl ?_
  refine Wx.rd (v := .int .i64 0) (Rd.to (v := .int .i64 (levelE 3 3 sS 5)) (rd_assign rfl) (congrArg (Value.int .i64) (show (0 : Int) = (levelE 3 3 sS 5 : Int) from (by decide +kernel)).symm)) rfl ?_
  refine Wx.nil ?_
  refine W.seq ?_
  refine W.reg ?_
  refine Wx.callF (run_callF Try.call48 rfl) (F48 hS.fb_lt) rfl ?_
  rintro r_27 w_28 hx_29 ⟨v_30, rfl, hv_31⟩
  have ln_33 := hv_31.len63
  have hS := hS.ext hx_29
  have hS := hS.add hv_31
  refine Wx.callF (run_callF Try.call24 rfl) (F24 (in_i64 (by omega) (by omega)) (in_i64 (by omega) (by omega)) (hS.v 0 rfl) (in_i64 (by omega) (by omega)) hS.fb_lt) rfl ?_
  rintro r_34 w_35 hx_36 ⟨v_37, rfl, hv_38⟩
  have hS := hS.pushFr hx_36 hv_38
  refine Wx.rd (v := .tuple #[v_37, .int .i64 (levelE 3 3 sS 0)]) (rd_move rfl) rfl ?_
  refine Wx.rd (v := v_37) (rd_extract rfl rfl) rfl ?_
  refine Wx.rd (v := .int .i64 (levelE 3 3 sS 0)) (rd_extract rfl rfl) rfl ?_
  refine Wx.rd (v := v_37) (rd_assign rfl) rfl ?_
  refine Wx.rd (v := .int .i64 0) (Rd.to (v := .int .i64 (levelE 3 3 sS 0)) (rd_assign rfl) (congrArg (Value.int .i64) (show (0 : Int) = (levelE 3 3 sS 0 : Int) from (by decide +kernel)).symm)) rfl ?_
  refine Wx.nil ?_
  refine W.seq ?_
  refine W.reg ?_
  refine Wx.callF (run_callF Try.call47 rfl) (F47 hS.fb_lt) rfl ?_
  rintro r_40 w_41 hx_42 ⟨v_43, rfl, hv_44⟩
  have ln_46 := hv_44.len63
  have hS := hS.ext hx_42
  have hS := hS.add hv_44
  refine Wx.callF (run_callF Try.call26 rfl) (F26 (in_i64 (by omega) (by omega)) (in_i64 (by omega) (by omega)) (hS.v 0 rfl) (in_i64 (by omega) (by omega)) hS.fb_lt) rfl ?_
  rintro r_47 w_48 hx_49 ⟨v_50, rfl, hv_51⟩
  have hS := hS.pushFrO hx_49 hv_51
  refine Wx.rd (v := .tuple #[v_50, .int .i64 (levelE 4 1 sT 2)]) (rd_move rfl) rfl ?_
  refine Wx.rd (v := v_50) (rd_extract rfl rfl) rfl ?_
  refine Wx.rd (v := .int .i64 (levelE 4 1 sT 2)) (rd_extract rfl rfl) rfl ?_
  refine Wx.rd (v := v_50) (rd_assign rfl) rfl ?_
  refine Wx.rd (v := .int .i64 0) (Rd.to (v := .int .i64 (levelE 4 1 sT 2)) (rd_assign rfl) (congrArg (Value.int .i64) (show (0 : Int) = (levelE 4 1 sT 2 : Int) from (by decide +kernel)).symm)) rfl ?_
  refine Wx.nil ?_
  refine W.seq ?_
  refine W.reg ?_
  refine Wx.callF (run_callF Try.call48 rfl) (F48 hS.fb_lt) rfl ?_
  rintro r_53 w_54 hx_55 ⟨v_56, rfl, hv_57⟩
  have ln_59 := hv_57.len63
  have hS := hS.ext hx_55
  have hS := hS.add hv_57
  refine Wx.lit (t := (tI .i64)) (ys := [6, 5, 4, 3]) (vs := [.int .i64 6, .int .i64 5, .int .i64 4, .int .i64 3]) elMb_22 hS rfl rfl ⟨(V.mkInt (in_i64 (by omega) (by omega))), ⟨(V.mkInt (in_i64 (by omega) (by omega))), ⟨(V.mkInt (in_i64 (by omega) (by omega))), ⟨(V.mkInt (in_i64 (by omega) (by omega))), trivial⟩⟩⟩⟩ (by decide) rfl (fun v_60 w_61 hx_62 hS => ?_)
  have hS := hS.freeze 0 rfl
  refine Wx.callF (run_callF Try.call49 rfl) (F49 (hS.v 0 rfl) hS.fb_lt) rfl ?_
  rintro r_64 w_65 hx_66 ⟨_, rfl, hv_67⟩
  have ln_69 := hv_67.len63
  have hS := hS.ext hx_66
  have hS := hS.add hv_67
  refine Wx.callF (run_callF Try.call29 rfl) (F29 (in_i64 (by omega) (by omega)) (in_i64 (by omega) (by omega)) (hS.v 2 rfl) (hS.v 0 rfl) (in_i64 (by omega) (by omega))) rfl ?_
  rintro r_70 w_71 hx_72 rfl
  have hS := hS.ext hx_72
  refine Wx.rd (v := .tuple #[.int .i64 (hourV 3 3 sS [6, 5, 4, 3] 7), .int .i64 (hourX 3 3 sS [6, 5, 4, 3] 7)]) (rd_move rfl) rfl ?_
  refine Wx.rd (v := .int .i64 (hourV 3 3 sS [6, 5, 4, 3] 7)) (rd_extract rfl rfl) rfl ?_
  refine Wx.rd (v := .int .i64 (hourX 3 3 sS [6, 5, 4, 3] 7)) (rd_extract rfl rfl) rfl ?_
  refine Wx.rd (v := .int .i64 2) (Rd.to (v := .int .i64 (hourV 3 3 sS [6, 5, 4, 3] 7)) (rd_assign rfl) (congrArg (Value.int .i64) (show (2 : Int) = (hourV 3 3 sS [6, 5, 4, 3] 7 : Int) from (by decide +kernel)).symm)) rfl ?_
  refine Wx.rd (v := .int .i64 0) (Rd.to (v := .int .i64 (hourX 3 3 sS [6, 5, 4, 3] 7)) (rd_assign rfl) (congrArg (Value.int .i64) (show (0 : Int) = (hourX 3 3 sS [6, 5, 4, 3] 7 : Int) from (by decide +kernel)).symm)) rfl ?_
  refine Wx.nil ?_
  refine W.seq ?_
  refine W.reg ?_
  refine Wx.callF (run_callF Try.call48 rfl) (F48 hS.fb_lt) rfl ?_
  rintro r_73 w_74 hx_75 ⟨v_76, rfl, hv_77⟩
  have ln_79 := hv_77.len63
  have hS := hS.ext hx_75
  have hS := hS.add hv_77
  refine Wx.callF (run_callF Try.call31 rfl) (F31 (in_i64 (by omega) (by omega)) (in_i64 (by omega) (by omega)) (hS.v 0 rfl) (in_i64 (by omega) (by omega)) hS.fb_lt) rfl ?_
  rintro r_80 w_81 hx_82 ⟨v_83, rfl, hv_84⟩
  have hS := hS.pushFr hx_82 hv_84
  refine Wx.rd (v := .tuple #[v_83, .int .i64 (atE 3 3 sS 0)]) (rd_move rfl) rfl ?_
  refine Wx.rd (v := v_83) (rd_extract rfl rfl) rfl ?_
  refine Wx.rd (v := .int .i64 (atE 3 3 sS 0)) (rd_extract rfl rfl) rfl ?_
  refine Wx.rd (v := v_83) (rd_assign rfl) rfl ?_
  refine Wx.rd (v := .int .i64 0) (Rd.to (v := .int .i64 (atE 3 3 sS 0)) (rd_assign rfl) (congrArg (Value.int .i64) (show (0 : Int) = (atE 3 3 sS 0 : Int) from (by decide +kernel)).symm)) rfl ?_
  refine Wx.nil ?_
  refine W.seq ?_
  refine W.seq ?_
  refine W.reg ?_
  refine Wx.rd (v := .int .i64 0) (rd_move rfl) rfl ?_
  refine Wx.rd (v := .bool false) (Rd.to (v := .bool (decide ((0 : Int) ≠ 0))) (rd_neq rfl rfl) rfl) rfl ?_
  refine Wx.rd (v := .bool false) (rd_move rfl) rfl ?_
  refine Wx.gyes rfl rfl rfl ?_
  refine Wx.rd (v := .int .i64 0) (rd_move rfl) rfl ?_
  refine Wx.gyes rfl rfl rfl ?_
  refine Wx.rd (v := .bool false) (Rd.to (v := .bool (decide ((0 : Int) ≠ 0))) (rd_neq rfl rfl) rfl) rfl ?_
  refine Wx.rd (v := .bool false) (rd_pickF rfl rfl) rfl ?_
  refine Wx.rd (v := .bool false) (rd_move rfl) rfl ?_
  refine Wx.gyes rfl rfl rfl ?_
  refine Wx.rd (v := .int .i64 0) (rd_move rfl) rfl ?_
  refine Wx.gyes rfl rfl rfl ?_
  refine Wx.rd (v := .bool false) (Rd.to (v := .bool (decide ((0 : Int) ≠ 0))) (rd_neq rfl rfl) rfl) rfl ?_
  refine Wx.rd (v := .bool false) (rd_pickF rfl rfl) rfl ?_
  refine Wx.rd (v := .bool false) (rd_move rfl) rfl ?_
  refine Wx.gyes rfl rfl rfl ?_
  refine Wx.rd (v := .int .i64 0) (rd_move rfl) rfl ?_
  refine Wx.gyes rfl rfl rfl ?_
  refine Wx.rd (v := .bool false) (Rd.to (v := .bool (decide ((0 : Int) ≠ 0))) (rd_neq rfl rfl) rfl) rfl ?_
  refine Wx.rd (v := .bool false) (rd_pickF rfl rfl) rfl ?_
  refine Wx.rd (v := .bool false) (rd_move rfl) rfl ?_
  refine Wx.gyes rfl rfl rfl ?_
  refine Wx.rd (v := .int .i64 0) (rd_move rfl) rfl ?_
  refine Wx.gyes rfl rfl rfl ?_
  refine Wx.rd (v := .bool false) (Rd.to (v := .bool (decide ((0 : Int) ≠ 0))) (rd_neq rfl rfl) rfl) rfl ?_
  refine Wx.rd (v := .bool false) (rd_pickF rfl rfl) rfl ?_
  refine Wx.rd (v := .bool false) (rd_move rfl) rfl ?_
  refine Wx.gyes rfl rfl rfl ?_
  refine Wx.rd (v := .int .i64 0) (rd_move rfl) rfl ?_
  refine Wx.gyes rfl rfl rfl ?_
  refine Wx.rd (v := .bool false) (Rd.to (v := .bool (decide ((0 : Int) ≠ 0))) (rd_neq rfl rfl) rfl) rfl ?_
  refine Wx.rd (v := .bool false) (rd_pickF rfl rfl) rfl ?_
  refine Wx.nil ?_
  refine W.condF rfl rfl ?_
  refine W.skip ?_
  refine W.seq ?_
  refine W.reg ?_
  refine Wx.callF (run_callF Try.call48 rfl) (F48 hS.fb_lt) rfl ?_
  rintro r_86 w_87 hx_88 ⟨v_89, rfl, hv_90⟩
  have ln_92 := hv_90.len63
  have hS := hS.ext hx_88
  have hS := hS.add hv_90
  refine Wx.callF (run_callF Try.call33 rfl) (F33 (in_i64 (by omega) (by omega)) (in_i64 (by omega) (by omega)) (hS.v 0 rfl) (in_i64 (by omega) (by omega)) hS.fb_lt) rfl ?_
  rintro r_93 w_94 hx_95 ⟨v_96, rfl, hv_97⟩
  have hS := hS.pushFr hx_95 hv_97
  refine Wx.rd (v := .tuple #[v_96, .int .i64 (atE 3 3 sS 4)]) (rd_move rfl) rfl ?_
  refine Wx.rd (v := v_96) (rd_extract rfl rfl) rfl ?_
  refine Wx.rd (v := .int .i64 (atE 3 3 sS 4)) (rd_extract rfl rfl) rfl ?_
  refine Wx.rd (v := v_96) (rd_assign rfl) rfl ?_
  refine Wx.rd (v := .int .i64 0) (Rd.to (v := .int .i64 (atE 3 3 sS 4)) (rd_assign rfl) (congrArg (Value.int .i64) (show (0 : Int) = (atE 3 3 sS 4 : Int) from (by decide +kernel)).symm)) rfl ?_
  refine Wx.nil ?_
  refine W.seq ?_
  refine W.reg ?_
  refine Wx.callF (run_callF Try.call48 rfl) (F48 hS.fb_lt) rfl ?_
  rintro r_99 w_100 hx_101 ⟨v_102, rfl, hv_103⟩
  have ln_105 := hv_103.len63
  have hS := hS.ext hx_101
  have hS := hS.add hv_103
  refine Wx.callF (run_callF Try.call37 rfl) (F37 (in_i64 (by omega) (by omega)) (in_i64 (by omega) (by omega)) (hS.v 0 rfl) (in_i64 (by omega) (by omega)) (in_i64 (by omega) (by omega)) hS.fb_lt) rfl ?_
  rintro r_106 w_107 hx_108 rfl
  have hS := hS.ext hx_108
  refine Wx.rd (v := .tuple #[.int .i64 (betwE 3 3 sS 4 0), .int .i64 (betwX 3 3 sS 4 0)]) (rd_move rfl) rfl ?_
  refine Wx.rd (v := .int .i64 (betwE 3 3 sS 4 0)) (rd_extract rfl rfl) rfl ?_
  refine Wx.rd (v := .int .i64 (betwX 3 3 sS 4 0)) (rd_extract rfl rfl) rfl ?_
  refine Wx.rd (v := .int .i64 5) (Rd.to (v := .int .i64 (betwE 3 3 sS 4 0)) (rd_assign rfl) (congrArg (Value.int .i64) (show (5 : Int) = (betwE 3 3 sS 4 0 : Int) from (by decide +kernel)).symm)) rfl ?_
  refine Wx.rd (v := .int .i64 0) (Rd.to (v := .int .i64 (betwX 3 3 sS 4 0)) (rd_assign rfl) (congrArg (Value.int .i64) (show (0 : Int) = (betwX 3 3 sS 4 0 : Int) from (by decide +kernel)).symm)) rfl ?_
  refine Wx.nil ?_
  refine W.seq ?_
  refine W.reg ?_
  refine Wx.callF (run_callF Try.call48 rfl) (F48 hS.fb_lt) rfl ?_
  rintro r_109 w_110 hx_111 ⟨v_112, rfl, hv_113⟩
  have ln_115 := hv_113.len63
  have hS := hS.ext hx_111
  have hS := hS.add hv_113
  refine Wx.callF (run_callF Try.call37 rfl) (F37 (in_i64 (by omega) (by omega)) (in_i64 (by omega) (by omega)) (hS.v 0 rfl) (in_i64 (by omega) (by omega)) (in_i64 (by omega) (by omega)) hS.fb_lt) rfl ?_
  rintro r_116 w_117 hx_118 rfl
  have hS := hS.ext hx_118
  refine Wx.rd (v := .tuple #[.int .i64 (betwE 3 3 sS 4 9), .int .i64 (betwX 3 3 sS 4 9)]) (rd_move rfl) rfl ?_
  refine Wx.rd (v := .int .i64 (betwE 3 3 sS 4 9)) (rd_extract rfl rfl) rfl ?_
  refine Wx.rd (v := .int .i64 (betwX 3 3 sS 4 9)) (rd_extract rfl rfl) rfl ?_
  refine Wx.rd (v := .int .i64 4) (Rd.to (v := .int .i64 (betwE 3 3 sS 4 9)) (rd_assign rfl) (congrArg (Value.int .i64) (show (4 : Int) = (betwE 3 3 sS 4 9 : Int) from (by decide +kernel)).symm)) rfl ?_
  refine Wx.rd (v := .int .i64 0) (Rd.to (v := .int .i64 (betwX 3 3 sS 4 9)) (rd_assign rfl) (congrArg (Value.int .i64) (show (0 : Int) = (betwX 3 3 sS 4 9 : Int) from (by decide +kernel)).symm)) rfl ?_
  refine Wx.nil ?_
  refine W.seq ?_
  refine W.reg ?_
  refine Wx.callF (run_callF Try.call47 rfl) (F47 hS.fb_lt) rfl ?_
  rintro r_119 w_120 hx_121 ⟨v_122, rfl, hv_123⟩
  have ln_125 := hv_123.len63
  have hS := hS.ext hx_121
  have hS := hS.add hv_123
  refine Wx.callF (run_callF Try.call39 rfl) (F39 (in_i64 (by omega) (by omega)) (in_i64 (by omega) (by omega)) (hS.v 0 rfl) hS.fb_lt) rfl ?_
  rintro r_126 w_127 hx_128 ⟨v_129, rfl, hv_130⟩
  have hS := hS.pushFr hx_128 hv_130
  refine Wx.rd (v := .tuple #[v_129, .int .i64 (checkS 4 1 sT)]) (rd_move rfl) rfl ?_
  refine Wx.rd (v := v_129) (rd_extract rfl rfl) rfl ?_
  refine Wx.rd (v := .int .i64 (checkS 4 1 sT)) (rd_extract rfl rfl) rfl ?_
  refine Wx.rd (v := v_129) (rd_assign rfl) rfl ?_
  refine Wx.rd (v := .int .i64 0) (Rd.to (v := .int .i64 (checkS 4 1 sT)) (rd_assign rfl) (congrArg (Value.int .i64) (show (0 : Int) = (checkS 4 1 sT : Int) from (by decide +kernel)).symm)) rfl ?_
  refine Wx.nil ?_
  refine W.seq ?_
  refine W.reg ?_
  refine Wx.callF (run_callF Try.call48 rfl) (F48 hS.fb_lt) rfl ?_
  rintro r_132 w_133 hx_134 ⟨v_135, rfl, hv_136⟩
  have ln_138 := hv_136.len63
  have hS := hS.ext hx_134
  have hS := hS.add hv_136
  refine Wx.lit (t := (tI .i64)) (ys := [6, 5, 4, 3]) (vs := [.int .i64 6, .int .i64 5, .int .i64 4, .int .i64 3]) elMb_22 hS rfl rfl ⟨(V.mkInt (in_i64 (by omega) (by omega))), ⟨(V.mkInt (in_i64 (by omega) (by omega))), ⟨(V.mkInt (in_i64 (by omega) (by omega))), ⟨(V.mkInt (in_i64 (by omega) (by omega))), trivial⟩⟩⟩⟩ (by decide) rfl (fun v_139 w_140 hx_141 hS => ?_)
  have hS := hS.freeze 0 rfl
  refine Wx.callF (run_callF Try.call49 rfl) (F49 (hS.v 0 rfl) hS.fb_lt) rfl ?_
  rintro r_143 w_144 hx_145 ⟨_, rfl, hv_146⟩
  have ln_148 := hv_146.len63
  have hS := hS.ext hx_145
  have hS := hS.add hv_146
  refine Wx.callF (run_callF Try.call29 rfl) (F29 (in_i64 (by omega) (by omega)) (in_i64 (by omega) (by omega)) (hS.v 2 rfl) (hS.v 0 rfl) (in_i64 (by omega) (by omega))) rfl ?_
  rintro r_149 w_150 hx_151 rfl
  have hS := hS.ext hx_151
  refine Wx.rd (v := .tuple #[.int .i64 (hourV 3 3 sS [6, 5, 4, 3] 4), .int .i64 (hourX 3 3 sS [6, 5, 4, 3] 4)]) (rd_move rfl) rfl ?_
  refine Wx.rd (v := .int .i64 (hourV 3 3 sS [6, 5, 4, 3] 4)) (rd_extract rfl rfl) rfl ?_
  refine Wx.rd (v := .int .i64 (hourX 3 3 sS [6, 5, 4, 3] 4)) (rd_extract rfl rfl) rfl ?_
  refine Wx.rd (v := .int .i64 12) (Rd.to (v := .int .i64 (hourX 3 3 sS [6, 5, 4, 3] 4)) (rd_assign rfl) (congrArg (Value.int .i64) (show (12 : Int) = (hourX 3 3 sS [6, 5, 4, 3] 4 : Int) from (by decide +kernel)).symm)) rfl ?_
  refine Wx.nil ?_
  refine W.seq ?_
  refine W.reg ?_
  refine Wx.callF (run_callF Try.call48 rfl) (F48 hS.fb_lt) rfl ?_
  rintro r_152 w_153 hx_154 ⟨v_155, rfl, hv_156⟩
  have ln_158 := hv_156.len63
  have hS := hS.ext hx_154
  have hS := hS.add hv_156
  refine Wx.callF (run_callF Try.call37 rfl) (F37 (in_i64 (by omega) (by omega)) (in_i64 (by omega) (by omega)) (hS.v 0 rfl) (in_i64 (by omega) (by omega)) (in_i64 (by omega) (by omega)) hS.fb_lt) rfl ?_
  rintro r_159 w_160 hx_161 rfl
  have hS := hS.ext hx_161
  refine Wx.rd (v := .tuple #[.int .i64 (betwE 3 3 sS 4 10), .int .i64 (betwX 3 3 sS 4 10)]) (rd_move rfl) rfl ?_
  refine Wx.rd (v := .int .i64 (betwE 3 3 sS 4 10)) (rd_extract rfl rfl) rfl ?_
  refine Wx.rd (v := .int .i64 (betwX 3 3 sS 4 10)) (rd_extract rfl rfl) rfl ?_
  refine Wx.rd (v := .int .i64 (betwX 3 3 sS 4 10)) (rd_assign rfl) rfl ?_
  refine Wx.nil ?_
  refine W.seq ?_
  refine W.reg ?_
  refine Wx.rd (v := .int .i64 0) (rd_move rfl) rfl ?_
  refine Wx.rd (v := .bool true) (Rd.to (v := .bool (decide ((0 : Int) = 0))) (rd_eql rfl rfl) rfl) rfl ?_
  refine Wx.rd (v := .bool true) (rd_move rfl) rfl ?_
  refine Wx.gyes rfl rfl rfl ?_
  refine Wx.rd (v := .int .i64 0) (rd_move rfl) rfl ?_
  refine Wx.gyes rfl rfl rfl ?_
  refine Wx.rd (v := .bool true) (Rd.to (v := .bool (decide ((0 : Int) = 0))) (rd_eql rfl rfl) rfl) rfl ?_
  refine Wx.rd (v := .bool true) (rd_pickT rfl rfl) rfl ?_
  refine Wx.rd (v := .bool true) (rd_move rfl) rfl ?_
  refine Wx.gyes rfl rfl rfl ?_
  refine Wx.rd (v := .int .i64 0) (rd_move rfl) rfl ?_
  refine Wx.gyes rfl rfl rfl ?_
  refine Wx.rd (v := .bool true) (Rd.to (v := .bool (decide ((0 : Int) = 0))) (rd_eql rfl rfl) rfl) rfl ?_
  refine Wx.rd (v := .bool true) (rd_pickT rfl rfl) rfl ?_
  refine Wx.rd (v := .bool true) (rd_move rfl) rfl ?_
  refine Wx.gyes rfl rfl rfl ?_
  refine Wx.rd (v := .int .i64 0) (rd_move rfl) rfl ?_
  refine Wx.gyes rfl rfl rfl ?_
  refine Wx.rd (v := .bool true) (Rd.to (v := .bool (decide ((0 : Int) = 0))) (rd_eql rfl rfl) rfl) rfl ?_
  refine Wx.rd (v := .bool true) (rd_pickT rfl rfl) rfl ?_
  refine Wx.rd (v := .bool true) (rd_move rfl) rfl ?_
  refine Wx.gyes rfl rfl rfl ?_
  refine Wx.rd (v := .int .i64 12) (rd_move rfl) rfl ?_
  refine Wx.gyes rfl rfl rfl ?_
  refine Wx.rd (v := .bool true) (Rd.to (v := .bool (decide ((12 : Int) = 12))) (rd_eql rfl rfl) rfl) rfl ?_
  refine Wx.rd (v := .bool true) (rd_pickT rfl rfl) rfl ?_
  refine Wx.rd (v := .bool true) (rd_move rfl) rfl ?_
  refine Wx.gyes rfl rfl rfl ?_
  refine Wx.rd (v := .int .i64 (betwX 3 3 sS 4 10)) (rd_move rfl) rfl ?_
  refine Wx.gyes rfl rfl rfl ?_
  refine Wx.rd (v := .bool (decide ((betwX 3 3 sS 4 10) = 2))) (rd_eql rfl rfl) rfl ?_
  refine Wx.rd (v := .bool (decide ((betwX 3 3 sS 4 10) = 2))) (rd_pickT rfl rfl) rfl ?_
  refine Wx.rd (v := .bool (decide ((betwX 3 3 sS 4 10) = 2))) (rd_move rfl) rfl ?_
  refine Wx.cut (X := Unit) 5 [126, 127, 128, 129, 130] (fun _ => [(130, .bool (decide ((betwX 3 3 sS 4 10) = 2) && true))]) (fun _ w' => St w [] w' [Ob.v (tSl (tI .i64)) sS v_155, Ob.v (tSl (tI .i64)) [6, 5, 4, 3] r_143, Ob.v (tSl (tI .i64)) [6, 5, 4, 3] v_139, Ob.v (tSl (tI .i64)) sS v_135, .row (tP (tI .i64) (tI .i64)) 74 v_129 (treeE 4 1 sT), Ob.v (tSl (tI .i64)) sT v_122, Ob.v (tSl (tI .i64)) sS v_112, Ob.v (tSl (tI .i64)) sS v_102, .row (tI .i64) 3 v_96 (basinE 3 3 sS 4), Ob.v (tSl (tI .i64)) sS v_89, .row (tI .i64) 3 v_83 (wayE 3 3 sS 0), Ob.v (tSl (tI .i64)) sS v_76, Ob.v (tSl (tI .i64)) [6, 5, 4, 3] r_64, Ob.v (tSl (tI .i64)) [6, 5, 4, 3] v_60, Ob.v (tSl (tI .i64)) sS v_56, .row (tSl (tI .i64)) 22 v_50 (poolsE 4 1 sT 2), Ob.v (tSl (tI .i64)) sT v_43, .row (tI .i64) 3 v_37 (bareE 3 3 sS 0), Ob.v (tSl (tI .i64)) sS v_30, .row (tI .i64) 3 v_24 (depthsE 3 3 sS 5), Ob.v (tSl (tI .i64)) sS v_17, .row (tI .i64) 3 v_11 (sillsE 3 3 sS), Ob.v (tSl (tI .i64)) sS v_4]) ?_ ?_
  · rcases Bool.eq_false_or_eq_true (decide ((betwX 3 3 sS 4 10) = 2)) with g_162 | g_162
    · -- True
      have gp_163 := of_decide_eq_true g_162
      refine Wx.gyes rfl rfl (congrArg Value.bool g_162) ?_
      refine Wx.rd (v := v_11) (rd_move rfl) rfl ?_
      refine Wx.gyes rfl rfl (congrArg Value.bool g_162) ?_
      refine Wx.lit (t := (tI .i64)) (ys := [5, 5, 5, 5, 4, 5, 5, 4, 5]) (vs := [.int .i64 5, .int .i64 5, .int .i64 5, .int .i64 5, .int .i64 4, .int .i64 5, .int .i64 5, .int .i64 4, .int .i64 5]) elMb_22 hS rfl rfl ⟨(V.mkInt (in_i64 (by omega) (by omega))), ⟨(V.mkInt (in_i64 (by omega) (by omega))), ⟨(V.mkInt (in_i64 (by omega) (by omega))), ⟨(V.mkInt (in_i64 (by omega) (by omega))), ⟨(V.mkInt (in_i64 (by omega) (by omega))), ⟨(V.mkInt (in_i64 (by omega) (by omega))), ⟨(V.mkInt (in_i64 (by omega) (by omega))), ⟨(V.mkInt (in_i64 (by omega) (by omega))), ⟨(V.mkInt (in_i64 (by omega) (by omega))), trivial⟩⟩⟩⟩⟩⟩⟩⟩⟩ (by decide) rfl (fun v_164 w_165 hx_166 hS => ?_)
      refine Wx.gyes rfl rfl (congrArg Value.bool g_162) ?_
      have hS := hS.freeze 0 rfl
      refine Wx.callF (run_callF Try.call49 rfl) (F49 (hS.v 0 rfl) hS.fb_lt) rfl ?_
      rintro r_168 w_169 hx_170 ⟨_, rfl, hv_171⟩
      have ln_173 := hv_171.len63
      have hS := hS.ext hx_170
      have hS := hS.add hv_171
      refine Wx.gyes rfl rfl (congrArg Value.bool g_162) ?_
      refine Wx.callF (run_callF Try.call21 rfl) (F21 (hS.lend 23 rfl) (hS.v 0 rfl)) rfl ?_
      rintro r_174 w_175 hx_176 rfl
      have hS := hS.ext hx_176
      rw [show (decide ((sillsE 3 3 sS) = [5, 5, 5, 5, 4, 5, 5, 4, 5]) : Bool) = true from (by decide +kernel)]
      refine Wx.rd (v := .bool true) (rd_pickT (congrArg Value.bool g_162) rfl) rfl ?_
      refine Wx.nil ⟨(), St.tl (hS.tl), ⟨?_, trivial⟩, Out.look rfl Out.refl⟩
      show Value.bool true = Value.bool (decide ((betwX 3 3 sS 4 10) = 2) && true)
      first | rw [g_162, Bool.true_and] | (rw [g_162]; rfl)
    · -- False
      have gp_177 := of_decide_eq_false g_162
      refine Wx.gnoB rfl rfl (congrArg Value.bool g_162) rfl rfl ?_
      refine Wx.gnoB rfl rfl (congrArg Value.bool g_162) rfl rfl ?_
      refine Wx.gnoB rfl rfl (congrArg Value.bool g_162) rfl rfl ?_
      refine Wx.gnoB rfl rfl (congrArg Value.bool g_162) rfl rfl ?_
      refine Wx.rd (v := .bool false) (rd_pickF (congrArg Value.bool g_162) rfl) rfl ?_
      refine Wx.nil ⟨(), hS, ⟨?_, trivial⟩, Out.look rfl Out.refl⟩
      show Value.bool false = Value.bool (decide ((betwX 3 3 sS 4 10) = 2) && true)
      first | rw [g_162, Bool.false_and] | (rw [g_162]; rfl)
  rintro ⟨⟩ u_179 w_178 hS
  refine Wx.rd (v := .bool (decide ((betwX 3 3 sS 4 10) = 2) && true)) (rd_move rfl) rfl ?_
  refine Wx.cut (X := Unit) 5 [132, 133, 134, 135, 136] (fun _ => [(136, .bool ((decide ((betwX 3 3 sS 4 10) = 2) && true) && true))]) (fun _ w' => St w [] w' [Ob.v (tSl (tI .i64)) sS v_155, Ob.v (tSl (tI .i64)) [6, 5, 4, 3] r_143, Ob.v (tSl (tI .i64)) [6, 5, 4, 3] v_139, Ob.v (tSl (tI .i64)) sS v_135, .row (tP (tI .i64) (tI .i64)) 74 v_129 (treeE 4 1 sT), Ob.v (tSl (tI .i64)) sT v_122, Ob.v (tSl (tI .i64)) sS v_112, Ob.v (tSl (tI .i64)) sS v_102, .row (tI .i64) 3 v_96 (basinE 3 3 sS 4), Ob.v (tSl (tI .i64)) sS v_89, .row (tI .i64) 3 v_83 (wayE 3 3 sS 0), Ob.v (tSl (tI .i64)) sS v_76, Ob.v (tSl (tI .i64)) [6, 5, 4, 3] r_64, Ob.v (tSl (tI .i64)) [6, 5, 4, 3] v_60, Ob.v (tSl (tI .i64)) sS v_56, .row (tSl (tI .i64)) 22 v_50 (poolsE 4 1 sT 2), Ob.v (tSl (tI .i64)) sT v_43, .row (tI .i64) 3 v_37 (bareE 3 3 sS 0), Ob.v (tSl (tI .i64)) sS v_30, .row (tI .i64) 3 v_24 (depthsE 3 3 sS 5), Ob.v (tSl (tI .i64)) sS v_17, .row (tI .i64) 3 v_11 (sillsE 3 3 sS), Ob.v (tSl (tI .i64)) sS v_4]) ?_ ?_
  · rcases Bool.eq_false_or_eq_true (decide ((betwX 3 3 sS 4 10) = 2) && true) with g_180 | g_180
    · -- True
      have gp_181 := g_180
      try simp only [Bool.and_eq_true, Bool.or_eq_true, Bool.not_eq_true', Bool.and_eq_false_iff, Bool.or_eq_false_iff, Bool.not_eq_false', decide_eq_true_eq, decide_eq_false_iff_not, not_or, Bool.false_eq_true, Bool.true_eq_false, false_or, or_false, not_false_eq_true] at gp_181
      refine Wx.gyes rfl rfl (congrArg Value.bool g_180) ?_
      refine Wx.rd (v := v_24) (rd_move rfl) rfl ?_
      refine Wx.gyes rfl rfl (congrArg Value.bool g_180) ?_
      refine Wx.lit (t := (tI .i64)) (ys := [0, 0, 0, 0, 3, 0, 0, 1, 0]) (vs := [.int .i64 0, .int .i64 0, .int .i64 0, .int .i64 0, .int .i64 3, .int .i64 0, .int .i64 0, .int .i64 1, .int .i64 0]) elMb_22 hS rfl rfl ⟨(V.mkInt (in_i64 (by omega) (by omega))), ⟨(V.mkInt (in_i64 (by omega) (by omega))), ⟨(V.mkInt (in_i64 (by omega) (by omega))), ⟨(V.mkInt (in_i64 (by omega) (by omega))), ⟨(V.mkInt (in_i64 (by omega) (by omega))), ⟨(V.mkInt (in_i64 (by omega) (by omega))), ⟨(V.mkInt (in_i64 (by omega) (by omega))), ⟨(V.mkInt (in_i64 (by omega) (by omega))), ⟨(V.mkInt (in_i64 (by omega) (by omega))), trivial⟩⟩⟩⟩⟩⟩⟩⟩⟩ (by decide) rfl (fun v_182 w_183 hx_184 hS => ?_)
      refine Wx.gyes rfl rfl (congrArg Value.bool g_180) ?_
      have hS := hS.freeze 0 rfl
      refine Wx.callF (run_callF Try.call49 rfl) (F49 (hS.v 0 rfl) hS.fb_lt) rfl ?_
      rintro r_186 w_187 hx_188 ⟨_, rfl, hv_189⟩
      have ln_191 := hv_189.len63
      have hS := hS.ext hx_188
      have hS := hS.add hv_189
      refine Wx.gyes rfl rfl (congrArg Value.bool g_180) ?_
      refine Wx.callF (run_callF Try.call21 rfl) (F21 (hS.lend 21 rfl) (hS.v 0 rfl)) rfl ?_
      rintro r_192 w_193 hx_194 rfl
      have hS := hS.ext hx_194
      rw [show (decide ((depthsE 3 3 sS 5) = [0, 0, 0, 0, 3, 0, 0, 1, 0]) : Bool) = true from (by decide +kernel)]
      refine Wx.rd (v := .bool true) (rd_pickT (congrArg Value.bool g_180) rfl) rfl ?_
      refine Wx.nil ⟨(), St.tl (hS.tl), ⟨?_, trivial⟩, Out.look rfl Out.refl⟩
      show Value.bool true = Value.bool ((decide ((betwX 3 3 sS 4 10) = 2) && true) && true)
      first | rw [g_180, Bool.true_and] | (rw [g_180]; rfl)
    · -- False
      have gp_195 := g_180
      try simp only [Bool.and_eq_true, Bool.or_eq_true, Bool.not_eq_true', Bool.and_eq_false_iff, Bool.or_eq_false_iff, Bool.not_eq_false', decide_eq_true_eq, decide_eq_false_iff_not, not_or, Bool.false_eq_true, Bool.true_eq_false, false_or, or_false, not_false_eq_true] at gp_195
      refine Wx.gnoB rfl rfl (congrArg Value.bool g_180) rfl rfl ?_
      refine Wx.gnoB rfl rfl (congrArg Value.bool g_180) rfl rfl ?_
      refine Wx.gnoB rfl rfl (congrArg Value.bool g_180) rfl rfl ?_
      refine Wx.gnoB rfl rfl (congrArg Value.bool g_180) rfl rfl ?_
      refine Wx.rd (v := .bool false) (rd_pickF (congrArg Value.bool g_180) rfl) rfl ?_
      refine Wx.nil ⟨(), hS, ⟨?_, trivial⟩, Out.look rfl Out.refl⟩
      show Value.bool false = Value.bool ((decide ((betwX 3 3 sS 4 10) = 2) && true) && true)
      first | rw [g_180, Bool.false_and] | (rw [g_180]; rfl)
  rintro ⟨⟩ u_197 w_196 hS
  refine Wx.rd (v := .bool ((decide ((betwX 3 3 sS 4 10) = 2) && true) && true)) (rd_move rfl) rfl ?_
  refine Wx.cut (X := Unit) 5 [138, 139, 140, 141, 142] (fun _ => [(142, .bool (((decide ((betwX 3 3 sS 4 10) = 2) && true) && true) && true))]) (fun _ w' => St w [] w' [Ob.v (tSl (tI .i64)) sS v_155, Ob.v (tSl (tI .i64)) [6, 5, 4, 3] r_143, Ob.v (tSl (tI .i64)) [6, 5, 4, 3] v_139, Ob.v (tSl (tI .i64)) sS v_135, .row (tP (tI .i64) (tI .i64)) 74 v_129 (treeE 4 1 sT), Ob.v (tSl (tI .i64)) sT v_122, Ob.v (tSl (tI .i64)) sS v_112, Ob.v (tSl (tI .i64)) sS v_102, .row (tI .i64) 3 v_96 (basinE 3 3 sS 4), Ob.v (tSl (tI .i64)) sS v_89, .row (tI .i64) 3 v_83 (wayE 3 3 sS 0), Ob.v (tSl (tI .i64)) sS v_76, Ob.v (tSl (tI .i64)) [6, 5, 4, 3] r_64, Ob.v (tSl (tI .i64)) [6, 5, 4, 3] v_60, Ob.v (tSl (tI .i64)) sS v_56, .row (tSl (tI .i64)) 22 v_50 (poolsE 4 1 sT 2), Ob.v (tSl (tI .i64)) sT v_43, .row (tI .i64) 3 v_37 (bareE 3 3 sS 0), Ob.v (tSl (tI .i64)) sS v_30, .row (tI .i64) 3 v_24 (depthsE 3 3 sS 5), Ob.v (tSl (tI .i64)) sS v_17, .row (tI .i64) 3 v_11 (sillsE 3 3 sS), Ob.v (tSl (tI .i64)) sS v_4]) ?_ ?_
  · rcases Bool.eq_false_or_eq_true ((decide ((betwX 3 3 sS 4 10) = 2) && true) && true) with g_198 | g_198
    · -- True
      have gp_199 := g_198
      try simp only [Bool.and_eq_true, Bool.or_eq_true, Bool.not_eq_true', Bool.and_eq_false_iff, Bool.or_eq_false_iff, Bool.not_eq_false', decide_eq_true_eq, decide_eq_false_iff_not, not_or, Bool.false_eq_true, Bool.true_eq_false, false_or, or_false, not_false_eq_true] at gp_199
      refine Wx.gyes rfl rfl (congrArg Value.bool g_198) ?_
      refine Wx.rd (v := v_37) (rd_move rfl) rfl ?_
      refine Wx.gyes rfl rfl (congrArg Value.bool g_198) ?_
      refine Wx.lit (t := (tI .i64)) (ys := [0, 1, 2, 3, 5, 6, 7, 8]) (vs := [.int .i64 0, .int .i64 1, .int .i64 2, .int .i64 3, .int .i64 5, .int .i64 6, .int .i64 7, .int .i64 8]) elMb_22 hS rfl rfl ⟨(V.mkInt (in_i64 (by omega) (by omega))), ⟨(V.mkInt (in_i64 (by omega) (by omega))), ⟨(V.mkInt (in_i64 (by omega) (by omega))), ⟨(V.mkInt (in_i64 (by omega) (by omega))), ⟨(V.mkInt (in_i64 (by omega) (by omega))), ⟨(V.mkInt (in_i64 (by omega) (by omega))), ⟨(V.mkInt (in_i64 (by omega) (by omega))), ⟨(V.mkInt (in_i64 (by omega) (by omega))), trivial⟩⟩⟩⟩⟩⟩⟩⟩ (by decide) rfl (fun v_200 w_201 hx_202 hS => ?_)
      refine Wx.gyes rfl rfl (congrArg Value.bool g_198) ?_
      have hS := hS.freeze 0 rfl
      refine Wx.callF (run_callF Try.call49 rfl) (F49 (hS.v 0 rfl) hS.fb_lt) rfl ?_
      rintro r_204 w_205 hx_206 ⟨_, rfl, hv_207⟩
      have ln_209 := hv_207.len63
      have hS := hS.ext hx_206
      have hS := hS.add hv_207
      refine Wx.gyes rfl rfl (congrArg Value.bool g_198) ?_
      refine Wx.callF (run_callF Try.call21 rfl) (F21 (hS.lend 19 rfl) (hS.v 0 rfl)) rfl ?_
      rintro r_210 w_211 hx_212 rfl
      have hS := hS.ext hx_212
      rw [show (decide ((bareE 3 3 sS 0) = [0, 1, 2, 3, 5, 6, 7, 8]) : Bool) = true from (by decide +kernel)]
      refine Wx.rd (v := .bool true) (rd_pickT (congrArg Value.bool g_198) rfl) rfl ?_
      refine Wx.nil ⟨(), St.tl (hS.tl), ⟨?_, trivial⟩, Out.look rfl Out.refl⟩
      show Value.bool true = Value.bool (((decide ((betwX 3 3 sS 4 10) = 2) && true) && true) && true)
      first | rw [g_198, Bool.true_and] | (rw [g_198]; rfl)
    · -- False
      have gp_213 := g_198
      try simp only [Bool.and_eq_true, Bool.or_eq_true, Bool.not_eq_true', Bool.and_eq_false_iff, Bool.or_eq_false_iff, Bool.not_eq_false', decide_eq_true_eq, decide_eq_false_iff_not, not_or, Bool.false_eq_true, Bool.true_eq_false, false_or, or_false, not_false_eq_true] at gp_213
      refine Wx.gnoB rfl rfl (congrArg Value.bool g_198) rfl rfl ?_
      refine Wx.gnoB rfl rfl (congrArg Value.bool g_198) rfl rfl ?_
      refine Wx.gnoB rfl rfl (congrArg Value.bool g_198) rfl rfl ?_
      refine Wx.gnoB rfl rfl (congrArg Value.bool g_198) rfl rfl ?_
      refine Wx.rd (v := .bool false) (rd_pickF (congrArg Value.bool g_198) rfl) rfl ?_
      refine Wx.nil ⟨(), hS, ⟨?_, trivial⟩, Out.look rfl Out.refl⟩
      show Value.bool false = Value.bool (((decide ((betwX 3 3 sS 4 10) = 2) && true) && true) && true)
      first | rw [g_198, Bool.false_and] | (rw [g_198]; rfl)
  rintro ⟨⟩ u_215 w_214 hS
  refine Wx.rd (v := .bool (((decide ((betwX 3 3 sS 4 10) = 2) && true) && true) && true)) (rd_move rfl) rfl ?_
  refine Wx.cut (X := Unit) 5 [144, 145, 146, 147, 148] (fun _ => [(148, .bool ((((decide ((betwX 3 3 sS 4 10) = 2) && true) && true) && true) && true))]) (fun _ w' => St w [] w' [Ob.v (tSl (tI .i64)) sS v_155, Ob.v (tSl (tI .i64)) [6, 5, 4, 3] r_143, Ob.v (tSl (tI .i64)) [6, 5, 4, 3] v_139, Ob.v (tSl (tI .i64)) sS v_135, .row (tP (tI .i64) (tI .i64)) 74 v_129 (treeE 4 1 sT), Ob.v (tSl (tI .i64)) sT v_122, Ob.v (tSl (tI .i64)) sS v_112, Ob.v (tSl (tI .i64)) sS v_102, .row (tI .i64) 3 v_96 (basinE 3 3 sS 4), Ob.v (tSl (tI .i64)) sS v_89, .row (tI .i64) 3 v_83 (wayE 3 3 sS 0), Ob.v (tSl (tI .i64)) sS v_76, Ob.v (tSl (tI .i64)) [6, 5, 4, 3] r_64, Ob.v (tSl (tI .i64)) [6, 5, 4, 3] v_60, Ob.v (tSl (tI .i64)) sS v_56, .row (tSl (tI .i64)) 22 v_50 (poolsE 4 1 sT 2), Ob.v (tSl (tI .i64)) sT v_43, .row (tI .i64) 3 v_37 (bareE 3 3 sS 0), Ob.v (tSl (tI .i64)) sS v_30, .row (tI .i64) 3 v_24 (depthsE 3 3 sS 5), Ob.v (tSl (tI .i64)) sS v_17, .row (tI .i64) 3 v_11 (sillsE 3 3 sS), Ob.v (tSl (tI .i64)) sS v_4]) ?_ ?_
  · rcases Bool.eq_false_or_eq_true (((decide ((betwX 3 3 sS 4 10) = 2) && true) && true) && true) with g_216 | g_216
    · -- True
      have gp_217 := g_216
      try simp only [Bool.and_eq_true, Bool.or_eq_true, Bool.not_eq_true', Bool.and_eq_false_iff, Bool.or_eq_false_iff, Bool.not_eq_false', decide_eq_true_eq, decide_eq_false_iff_not, not_or, Bool.false_eq_true, Bool.true_eq_false, false_or, or_false, not_false_eq_true] at gp_217
      refine Wx.gyes rfl rfl (congrArg Value.bool g_216) ?_
      refine Wx.rd (v := v_50) (rd_move rfl) rfl ?_
      refine Wx.gyes rfl rfl (congrArg Value.bool g_216) ?_
      refine Wx.lit (t := (tI .i64)) (ys := [1]) (vs := [.int .i64 1]) elMb_22 hS rfl rfl ⟨(V.mkInt (in_i64 (by omega) (by omega))), trivial⟩ (by decide) rfl (fun v_218 w_219 hx_220 hS => ?_)
      refine Wx.gyes rfl rfl (congrArg Value.bool g_216) ?_
      have hS := hS.freeze 0 rfl
      refine Wx.lit (t := (tSl (tI .i64))) (ys := [[1]]) (vs := [v_218]) elMb_37 hS rfl rfl ⟨(hS.v 0 rfl), trivial⟩ (by decide) rfl (fun v_222 w_223 hx_224 hS => ?_)
      refine Wx.gyes rfl rfl (congrArg Value.bool g_216) ?_
      refine Wx.callF (run_callF Try.call28 rfl) (F28 (hS.lend 17 rfl) (hS.lend 0 rfl)) rfl ?_
      rintro r_225 w_226 hx_227 rfl
      have hS := hS.ext hx_227
      rw [show (decide ((poolsE 4 1 sT 2) = [[1]]) : Bool) = true from (by decide +kernel)]
      refine Wx.rd (v := .bool true) (rd_pickT (congrArg Value.bool g_216) rfl) rfl ?_
      refine Wx.nil ⟨(), St.tl (hS.tl), ⟨?_, trivial⟩, Out.look rfl Out.refl⟩
      show Value.bool true = Value.bool ((((decide ((betwX 3 3 sS 4 10) = 2) && true) && true) && true) && true)
      first | rw [g_216, Bool.true_and] | (rw [g_216]; rfl)
    · -- False
      have gp_228 := g_216
      try simp only [Bool.and_eq_true, Bool.or_eq_true, Bool.not_eq_true', Bool.and_eq_false_iff, Bool.or_eq_false_iff, Bool.not_eq_false', decide_eq_true_eq, decide_eq_false_iff_not, not_or, Bool.false_eq_true, Bool.true_eq_false, false_or, or_false, not_false_eq_true] at gp_228
      refine Wx.gnoB rfl rfl (congrArg Value.bool g_216) rfl rfl ?_
      refine Wx.gnoB rfl rfl (congrArg Value.bool g_216) rfl rfl ?_
      refine Wx.gnoB rfl rfl (congrArg Value.bool g_216) rfl rfl ?_
      refine Wx.gnoB rfl rfl (congrArg Value.bool g_216) rfl rfl ?_
      refine Wx.rd (v := .bool false) (rd_pickF (congrArg Value.bool g_216) rfl) rfl ?_
      refine Wx.nil ⟨(), hS, ⟨?_, trivial⟩, Out.look rfl Out.refl⟩
      show Value.bool false = Value.bool ((((decide ((betwX 3 3 sS 4 10) = 2) && true) && true) && true) && true)
      first | rw [g_216, Bool.false_and] | (rw [g_216]; rfl)
  rintro ⟨⟩ u_230 w_229 hS
  refine Wx.rd (v := .bool ((((decide ((betwX 3 3 sS 4 10) = 2) && true) && true) && true) && true)) (rd_move rfl) rfl ?_
  refine Wx.cut (X := Unit) 3 [150, 151, 152] (fun _ => [(152, .bool (((((decide ((betwX 3 3 sS 4 10) = 2) && true) && true) && true) && true) && true))]) (fun _ w' => St w [] w' [Ob.v (tSl (tI .i64)) sS v_155, Ob.v (tSl (tI .i64)) [6, 5, 4, 3] r_143, Ob.v (tSl (tI .i64)) [6, 5, 4, 3] v_139, Ob.v (tSl (tI .i64)) sS v_135, .row (tP (tI .i64) (tI .i64)) 74 v_129 (treeE 4 1 sT), Ob.v (tSl (tI .i64)) sT v_122, Ob.v (tSl (tI .i64)) sS v_112, Ob.v (tSl (tI .i64)) sS v_102, .row (tI .i64) 3 v_96 (basinE 3 3 sS 4), Ob.v (tSl (tI .i64)) sS v_89, .row (tI .i64) 3 v_83 (wayE 3 3 sS 0), Ob.v (tSl (tI .i64)) sS v_76, Ob.v (tSl (tI .i64)) [6, 5, 4, 3] r_64, Ob.v (tSl (tI .i64)) [6, 5, 4, 3] v_60, Ob.v (tSl (tI .i64)) sS v_56, .row (tSl (tI .i64)) 22 v_50 (poolsE 4 1 sT 2), Ob.v (tSl (tI .i64)) sT v_43, .row (tI .i64) 3 v_37 (bareE 3 3 sS 0), Ob.v (tSl (tI .i64)) sS v_30, .row (tI .i64) 3 v_24 (depthsE 3 3 sS 5), Ob.v (tSl (tI .i64)) sS v_17, .row (tI .i64) 3 v_11 (sillsE 3 3 sS), Ob.v (tSl (tI .i64)) sS v_4]) ?_ ?_
  · rcases Bool.eq_false_or_eq_true ((((decide ((betwX 3 3 sS 4 10) = 2) && true) && true) && true) && true) with g_231 | g_231
    · -- True
      have gp_232 := g_231
      try simp only [Bool.and_eq_true, Bool.or_eq_true, Bool.not_eq_true', Bool.and_eq_false_iff, Bool.or_eq_false_iff, Bool.not_eq_false', decide_eq_true_eq, decide_eq_false_iff_not, not_or, Bool.false_eq_true, Bool.true_eq_false, false_or, or_false, not_false_eq_true] at gp_232
      refine Wx.gyes rfl rfl (congrArg Value.bool g_231) ?_
      refine Wx.rd (v := .int .i64 2) (rd_move rfl) rfl ?_
      refine Wx.gyes rfl rfl (congrArg Value.bool g_231) ?_
      refine Wx.rd (v := .bool true) (Rd.to (v := .bool (decide ((2 : Int) = 2))) (rd_eql rfl rfl) rfl) rfl ?_
      refine Wx.rd (v := .bool true) (rd_pickT (congrArg Value.bool g_231) rfl) rfl ?_
      refine Wx.nil ⟨(), hS, ⟨?_, trivial⟩, Out.look rfl Out.refl⟩
      show Value.bool true = Value.bool (((((decide ((betwX 3 3 sS 4 10) = 2) && true) && true) && true) && true) && true)
      first | rw [g_231, Bool.true_and] | (rw [g_231]; rfl)
    · -- False
      have gp_233 := g_231
      try simp only [Bool.and_eq_true, Bool.or_eq_true, Bool.not_eq_true', Bool.and_eq_false_iff, Bool.or_eq_false_iff, Bool.not_eq_false', decide_eq_true_eq, decide_eq_false_iff_not, not_or, Bool.false_eq_true, Bool.true_eq_false, false_or, or_false, not_false_eq_true] at gp_233
      refine Wx.gnoB rfl rfl (congrArg Value.bool g_231) rfl rfl ?_
      refine Wx.gnoB rfl rfl (congrArg Value.bool g_231) rfl rfl ?_
      refine Wx.rd (v := .bool false) (rd_pickF (congrArg Value.bool g_231) rfl) rfl ?_
      refine Wx.nil ⟨(), hS, ⟨?_, trivial⟩, Out.look rfl Out.refl⟩
      show Value.bool false = Value.bool (((((decide ((betwX 3 3 sS 4 10) = 2) && true) && true) && true) && true) && true)
      first | rw [g_231, Bool.false_and] | (rw [g_231]; rfl)
  rintro ⟨⟩ u_235 w_234 hS
  refine Wx.rd (v := .bool (((((decide ((betwX 3 3 sS 4 10) = 2) && true) && true) && true) && true) && true)) (rd_move rfl) rfl ?_
  refine Wx.cut (X := Unit) 5 [154, 155, 156, 157, 158] (fun _ => [(158, .bool ((((((decide ((betwX 3 3 sS 4 10) = 2) && true) && true) && true) && true) && true) && true))]) (fun _ w' => St w [] w' [Ob.v (tSl (tI .i64)) sS v_155, Ob.v (tSl (tI .i64)) [6, 5, 4, 3] r_143, Ob.v (tSl (tI .i64)) [6, 5, 4, 3] v_139, Ob.v (tSl (tI .i64)) sS v_135, .row (tP (tI .i64) (tI .i64)) 74 v_129 (treeE 4 1 sT), Ob.v (tSl (tI .i64)) sT v_122, Ob.v (tSl (tI .i64)) sS v_112, Ob.v (tSl (tI .i64)) sS v_102, .row (tI .i64) 3 v_96 (basinE 3 3 sS 4), Ob.v (tSl (tI .i64)) sS v_89, .row (tI .i64) 3 v_83 (wayE 3 3 sS 0), Ob.v (tSl (tI .i64)) sS v_76, Ob.v (tSl (tI .i64)) [6, 5, 4, 3] r_64, Ob.v (tSl (tI .i64)) [6, 5, 4, 3] v_60, Ob.v (tSl (tI .i64)) sS v_56, .row (tSl (tI .i64)) 22 v_50 (poolsE 4 1 sT 2), Ob.v (tSl (tI .i64)) sT v_43, .row (tI .i64) 3 v_37 (bareE 3 3 sS 0), Ob.v (tSl (tI .i64)) sS v_30, .row (tI .i64) 3 v_24 (depthsE 3 3 sS 5), Ob.v (tSl (tI .i64)) sS v_17, .row (tI .i64) 3 v_11 (sillsE 3 3 sS), Ob.v (tSl (tI .i64)) sS v_4]) ?_ ?_
  · rcases Bool.eq_false_or_eq_true (((((decide ((betwX 3 3 sS 4 10) = 2) && true) && true) && true) && true) && true) with g_236 | g_236
    · -- True
      have gp_237 := g_236
      try simp only [Bool.and_eq_true, Bool.or_eq_true, Bool.not_eq_true', Bool.and_eq_false_iff, Bool.or_eq_false_iff, Bool.not_eq_false', decide_eq_true_eq, decide_eq_false_iff_not, not_or, Bool.false_eq_true, Bool.true_eq_false, false_or, or_false, not_false_eq_true] at gp_237
      refine Wx.gyes rfl rfl (congrArg Value.bool g_236) ?_
      refine Wx.rd (v := v_83) (rd_move rfl) rfl ?_
      refine Wx.gyes rfl rfl (congrArg Value.bool g_236) ?_
      refine Wx.lit (t := (tI .i64)) (ys := [0, 3, 6]) (vs := [.int .i64 0, .int .i64 3, .int .i64 6]) elMb_22 hS rfl rfl ⟨(V.mkInt (in_i64 (by omega) (by omega))), ⟨(V.mkInt (in_i64 (by omega) (by omega))), ⟨(V.mkInt (in_i64 (by omega) (by omega))), trivial⟩⟩⟩ (by decide) rfl (fun v_238 w_239 hx_240 hS => ?_)
      refine Wx.gyes rfl rfl (congrArg Value.bool g_236) ?_
      have hS := hS.freeze 0 rfl
      refine Wx.callF (run_callF Try.call49 rfl) (F49 (hS.v 0 rfl) hS.fb_lt) rfl ?_
      rintro r_242 w_243 hx_244 ⟨_, rfl, hv_245⟩
      have ln_247 := hv_245.len63
      have hS := hS.ext hx_244
      have hS := hS.add hv_245
      refine Wx.gyes rfl rfl (congrArg Value.bool g_236) ?_
      refine Wx.callF (run_callF Try.call21 rfl) (F21 (hS.lend 12 rfl) (hS.v 0 rfl)) rfl ?_
      rintro r_248 w_249 hx_250 rfl
      have hS := hS.ext hx_250
      rw [show (decide ((wayE 3 3 sS 0) = [0, 3, 6]) : Bool) = true from (by decide +kernel)]
      refine Wx.rd (v := .bool true) (rd_pickT (congrArg Value.bool g_236) rfl) rfl ?_
      refine Wx.nil ⟨(), St.tl (hS.tl), ⟨?_, trivial⟩, Out.look rfl Out.refl⟩
      show Value.bool true = Value.bool ((((((decide ((betwX 3 3 sS 4 10) = 2) && true) && true) && true) && true) && true) && true)
      first | rw [g_236, Bool.true_and] | (rw [g_236]; rfl)
    · -- False
      have gp_251 := g_236
      try simp only [Bool.and_eq_true, Bool.or_eq_true, Bool.not_eq_true', Bool.and_eq_false_iff, Bool.or_eq_false_iff, Bool.not_eq_false', decide_eq_true_eq, decide_eq_false_iff_not, not_or, Bool.false_eq_true, Bool.true_eq_false, false_or, or_false, not_false_eq_true] at gp_251
      refine Wx.gnoB rfl rfl (congrArg Value.bool g_236) rfl rfl ?_
      refine Wx.gnoB rfl rfl (congrArg Value.bool g_236) rfl rfl ?_
      refine Wx.gnoB rfl rfl (congrArg Value.bool g_236) rfl rfl ?_
      refine Wx.gnoB rfl rfl (congrArg Value.bool g_236) rfl rfl ?_
      refine Wx.rd (v := .bool false) (rd_pickF (congrArg Value.bool g_236) rfl) rfl ?_
      refine Wx.nil ⟨(), hS, ⟨?_, trivial⟩, Out.look rfl Out.refl⟩
      show Value.bool false = Value.bool ((((((decide ((betwX 3 3 sS 4 10) = 2) && true) && true) && true) && true) && true) && true)
      first | rw [g_236, Bool.false_and] | (rw [g_236]; rfl)
  rintro ⟨⟩ u_253 w_252 hS
  refine Wx.rd (v := .bool ((((((decide ((betwX 3 3 sS 4 10) = 2) && true) && true) && true) && true) && true) && true)) (rd_move rfl) rfl ?_
  refine Wx.cut (X := Unit) 5 [160, 161, 162, 163, 164] (fun _ => [(164, .bool (((((((decide ((betwX 3 3 sS 4 10) = 2) && true) && true) && true) && true) && true) && true) && true))]) (fun _ w' => St w [] w' [Ob.v (tSl (tI .i64)) sS v_155, Ob.v (tSl (tI .i64)) [6, 5, 4, 3] r_143, Ob.v (tSl (tI .i64)) [6, 5, 4, 3] v_139, Ob.v (tSl (tI .i64)) sS v_135, .row (tP (tI .i64) (tI .i64)) 74 v_129 (treeE 4 1 sT), Ob.v (tSl (tI .i64)) sT v_122, Ob.v (tSl (tI .i64)) sS v_112, Ob.v (tSl (tI .i64)) sS v_102, .row (tI .i64) 3 v_96 (basinE 3 3 sS 4), Ob.v (tSl (tI .i64)) sS v_89, .row (tI .i64) 3 v_83 (wayE 3 3 sS 0), Ob.v (tSl (tI .i64)) sS v_76, Ob.v (tSl (tI .i64)) [6, 5, 4, 3] r_64, Ob.v (tSl (tI .i64)) [6, 5, 4, 3] v_60, Ob.v (tSl (tI .i64)) sS v_56, .row (tSl (tI .i64)) 22 v_50 (poolsE 4 1 sT 2), Ob.v (tSl (tI .i64)) sT v_43, .row (tI .i64) 3 v_37 (bareE 3 3 sS 0), Ob.v (tSl (tI .i64)) sS v_30, .row (tI .i64) 3 v_24 (depthsE 3 3 sS 5), Ob.v (tSl (tI .i64)) sS v_17, .row (tI .i64) 3 v_11 (sillsE 3 3 sS), Ob.v (tSl (tI .i64)) sS v_4]) ?_ ?_
  · rcases Bool.eq_false_or_eq_true ((((((decide ((betwX 3 3 sS 4 10) = 2) && true) && true) && true) && true) && true) && true) with g_254 | g_254
    · -- True
      have gp_255 := g_254
      try simp only [Bool.and_eq_true, Bool.or_eq_true, Bool.not_eq_true', Bool.and_eq_false_iff, Bool.or_eq_false_iff, Bool.not_eq_false', decide_eq_true_eq, decide_eq_false_iff_not, not_or, Bool.false_eq_true, Bool.true_eq_false, false_or, or_false, not_false_eq_true] at gp_255
      refine Wx.gyes rfl rfl (congrArg Value.bool g_254) ?_
      refine Wx.rd (v := v_96) (rd_move rfl) rfl ?_
      refine Wx.gyes rfl rfl (congrArg Value.bool g_254) ?_
      refine Wx.lit (t := (tI .i64)) (ys := [4]) (vs := [.int .i64 4]) elMb_22 hS rfl rfl ⟨(V.mkInt (in_i64 (by omega) (by omega))), trivial⟩ (by decide) rfl (fun v_256 w_257 hx_258 hS => ?_)
      refine Wx.gyes rfl rfl (congrArg Value.bool g_254) ?_
      have hS := hS.freeze 0 rfl
      refine Wx.callF (run_callF Try.call49 rfl) (F49 (hS.v 0 rfl) hS.fb_lt) rfl ?_
      rintro r_260 w_261 hx_262 ⟨_, rfl, hv_263⟩
      have ln_265 := hv_263.len63
      have hS := hS.ext hx_262
      have hS := hS.add hv_263
      refine Wx.gyes rfl rfl (congrArg Value.bool g_254) ?_
      refine Wx.callF (run_callF Try.call21 rfl) (F21 (hS.lend 10 rfl) (hS.v 0 rfl)) rfl ?_
      rintro r_266 w_267 hx_268 rfl
      have hS := hS.ext hx_268
      rw [show (decide ((basinE 3 3 sS 4) = [4]) : Bool) = true from (by decide +kernel)]
      refine Wx.rd (v := .bool true) (rd_pickT (congrArg Value.bool g_254) rfl) rfl ?_
      refine Wx.nil ⟨(), St.tl (hS.tl), ⟨?_, trivial⟩, Out.look rfl Out.refl⟩
      show Value.bool true = Value.bool (((((((decide ((betwX 3 3 sS 4 10) = 2) && true) && true) && true) && true) && true) && true) && true)
      first | rw [g_254, Bool.true_and] | (rw [g_254]; rfl)
    · -- False
      have gp_269 := g_254
      try simp only [Bool.and_eq_true, Bool.or_eq_true, Bool.not_eq_true', Bool.and_eq_false_iff, Bool.or_eq_false_iff, Bool.not_eq_false', decide_eq_true_eq, decide_eq_false_iff_not, not_or, Bool.false_eq_true, Bool.true_eq_false, false_or, or_false, not_false_eq_true] at gp_269
      refine Wx.gnoB rfl rfl (congrArg Value.bool g_254) rfl rfl ?_
      refine Wx.gnoB rfl rfl (congrArg Value.bool g_254) rfl rfl ?_
      refine Wx.gnoB rfl rfl (congrArg Value.bool g_254) rfl rfl ?_
      refine Wx.gnoB rfl rfl (congrArg Value.bool g_254) rfl rfl ?_
      refine Wx.rd (v := .bool false) (rd_pickF (congrArg Value.bool g_254) rfl) rfl ?_
      refine Wx.nil ⟨(), hS, ⟨?_, trivial⟩, Out.look rfl Out.refl⟩
      show Value.bool false = Value.bool (((((((decide ((betwX 3 3 sS 4 10) = 2) && true) && true) && true) && true) && true) && true) && true)
      first | rw [g_254, Bool.false_and] | (rw [g_254]; rfl)
  rintro ⟨⟩ u_271 w_270 hS
  refine Wx.rd (v := .bool (((((((decide ((betwX 3 3 sS 4 10) = 2) && true) && true) && true) && true) && true) && true) && true)) (rd_move rfl) rfl ?_
  refine Wx.cut (X := Unit) 3 [166, 167, 168] (fun _ => [(168, .bool ((((((((decide ((betwX 3 3 sS 4 10) = 2) && true) && true) && true) && true) && true) && true) && true) && true))]) (fun _ w' => St w [] w' [Ob.v (tSl (tI .i64)) sS v_155, Ob.v (tSl (tI .i64)) [6, 5, 4, 3] r_143, Ob.v (tSl (tI .i64)) [6, 5, 4, 3] v_139, Ob.v (tSl (tI .i64)) sS v_135, .row (tP (tI .i64) (tI .i64)) 74 v_129 (treeE 4 1 sT), Ob.v (tSl (tI .i64)) sT v_122, Ob.v (tSl (tI .i64)) sS v_112, Ob.v (tSl (tI .i64)) sS v_102, .row (tI .i64) 3 v_96 (basinE 3 3 sS 4), Ob.v (tSl (tI .i64)) sS v_89, .row (tI .i64) 3 v_83 (wayE 3 3 sS 0), Ob.v (tSl (tI .i64)) sS v_76, Ob.v (tSl (tI .i64)) [6, 5, 4, 3] r_64, Ob.v (tSl (tI .i64)) [6, 5, 4, 3] v_60, Ob.v (tSl (tI .i64)) sS v_56, .row (tSl (tI .i64)) 22 v_50 (poolsE 4 1 sT 2), Ob.v (tSl (tI .i64)) sT v_43, .row (tI .i64) 3 v_37 (bareE 3 3 sS 0), Ob.v (tSl (tI .i64)) sS v_30, .row (tI .i64) 3 v_24 (depthsE 3 3 sS 5), Ob.v (tSl (tI .i64)) sS v_17, .row (tI .i64) 3 v_11 (sillsE 3 3 sS), Ob.v (tSl (tI .i64)) sS v_4]) ?_ ?_
  · rcases Bool.eq_false_or_eq_true (((((((decide ((betwX 3 3 sS 4 10) = 2) && true) && true) && true) && true) && true) && true) && true) with g_272 | g_272
    · -- True
      have gp_273 := g_272
      try simp only [Bool.and_eq_true, Bool.or_eq_true, Bool.not_eq_true', Bool.and_eq_false_iff, Bool.or_eq_false_iff, Bool.not_eq_false', decide_eq_true_eq, decide_eq_false_iff_not, not_or, Bool.false_eq_true, Bool.true_eq_false, false_or, or_false, not_false_eq_true] at gp_273
      refine Wx.gyes rfl rfl (congrArg Value.bool g_272) ?_
      refine Wx.rd (v := .int .i64 5) (rd_move rfl) rfl ?_
      refine Wx.gyes rfl rfl (congrArg Value.bool g_272) ?_
      refine Wx.rd (v := .bool true) (Rd.to (v := .bool (decide ((5 : Int) = 5))) (rd_eql rfl rfl) rfl) rfl ?_
      refine Wx.rd (v := .bool true) (rd_pickT (congrArg Value.bool g_272) rfl) rfl ?_
      refine Wx.nil ⟨(), hS, ⟨?_, trivial⟩, Out.look rfl Out.refl⟩
      show Value.bool true = Value.bool ((((((((decide ((betwX 3 3 sS 4 10) = 2) && true) && true) && true) && true) && true) && true) && true) && true)
      first | rw [g_272, Bool.true_and] | (rw [g_272]; rfl)
    · -- False
      have gp_274 := g_272
      try simp only [Bool.and_eq_true, Bool.or_eq_true, Bool.not_eq_true', Bool.and_eq_false_iff, Bool.or_eq_false_iff, Bool.not_eq_false', decide_eq_true_eq, decide_eq_false_iff_not, not_or, Bool.false_eq_true, Bool.true_eq_false, false_or, or_false, not_false_eq_true] at gp_274
      refine Wx.gnoB rfl rfl (congrArg Value.bool g_272) rfl rfl ?_
      refine Wx.gnoB rfl rfl (congrArg Value.bool g_272) rfl rfl ?_
      refine Wx.rd (v := .bool false) (rd_pickF (congrArg Value.bool g_272) rfl) rfl ?_
      refine Wx.nil ⟨(), hS, ⟨?_, trivial⟩, Out.look rfl Out.refl⟩
      show Value.bool false = Value.bool ((((((((decide ((betwX 3 3 sS 4 10) = 2) && true) && true) && true) && true) && true) && true) && true) && true)
      first | rw [g_272, Bool.false_and] | (rw [g_272]; rfl)
  rintro ⟨⟩ u_276 w_275 hS
  refine Wx.rd (v := .bool ((((((((decide ((betwX 3 3 sS 4 10) = 2) && true) && true) && true) && true) && true) && true) && true) && true)) (rd_move rfl) rfl ?_
  refine Wx.cut (X := Unit) 3 [170, 171, 172] (fun _ => [(172, .bool (((((((((decide ((betwX 3 3 sS 4 10) = 2) && true) && true) && true) && true) && true) && true) && true) && true) && true))]) (fun _ w' => St w [] w' [Ob.v (tSl (tI .i64)) sS v_155, Ob.v (tSl (tI .i64)) [6, 5, 4, 3] r_143, Ob.v (tSl (tI .i64)) [6, 5, 4, 3] v_139, Ob.v (tSl (tI .i64)) sS v_135, .row (tP (tI .i64) (tI .i64)) 74 v_129 (treeE 4 1 sT), Ob.v (tSl (tI .i64)) sT v_122, Ob.v (tSl (tI .i64)) sS v_112, Ob.v (tSl (tI .i64)) sS v_102, .row (tI .i64) 3 v_96 (basinE 3 3 sS 4), Ob.v (tSl (tI .i64)) sS v_89, .row (tI .i64) 3 v_83 (wayE 3 3 sS 0), Ob.v (tSl (tI .i64)) sS v_76, Ob.v (tSl (tI .i64)) [6, 5, 4, 3] r_64, Ob.v (tSl (tI .i64)) [6, 5, 4, 3] v_60, Ob.v (tSl (tI .i64)) sS v_56, .row (tSl (tI .i64)) 22 v_50 (poolsE 4 1 sT 2), Ob.v (tSl (tI .i64)) sT v_43, .row (tI .i64) 3 v_37 (bareE 3 3 sS 0), Ob.v (tSl (tI .i64)) sS v_30, .row (tI .i64) 3 v_24 (depthsE 3 3 sS 5), Ob.v (tSl (tI .i64)) sS v_17, .row (tI .i64) 3 v_11 (sillsE 3 3 sS), Ob.v (tSl (tI .i64)) sS v_4]) ?_ ?_
  · rcases Bool.eq_false_or_eq_true ((((((((decide ((betwX 3 3 sS 4 10) = 2) && true) && true) && true) && true) && true) && true) && true) && true) with g_277 | g_277
    · -- True
      have gp_278 := g_277
      try simp only [Bool.and_eq_true, Bool.or_eq_true, Bool.not_eq_true', Bool.and_eq_false_iff, Bool.or_eq_false_iff, Bool.not_eq_false', decide_eq_true_eq, decide_eq_false_iff_not, not_or, Bool.false_eq_true, Bool.true_eq_false, false_or, or_false, not_false_eq_true] at gp_278
      refine Wx.gyes rfl rfl (congrArg Value.bool g_277) ?_
      refine Wx.rd (v := .int .i64 4) (rd_move rfl) rfl ?_
      refine Wx.gyes rfl rfl (congrArg Value.bool g_277) ?_
      refine Wx.rd (v := .bool true) (Rd.to (v := .bool (decide ((4 : Int) = 4))) (rd_eql rfl rfl) rfl) rfl ?_
      refine Wx.rd (v := .bool true) (rd_pickT (congrArg Value.bool g_277) rfl) rfl ?_
      refine Wx.nil ⟨(), hS, ⟨?_, trivial⟩, Out.look rfl Out.refl⟩
      show Value.bool true = Value.bool (((((((((decide ((betwX 3 3 sS 4 10) = 2) && true) && true) && true) && true) && true) && true) && true) && true) && true)
      first | rw [g_277, Bool.true_and] | (rw [g_277]; rfl)
    · -- False
      have gp_279 := g_277
      try simp only [Bool.and_eq_true, Bool.or_eq_true, Bool.not_eq_true', Bool.and_eq_false_iff, Bool.or_eq_false_iff, Bool.not_eq_false', decide_eq_true_eq, decide_eq_false_iff_not, not_or, Bool.false_eq_true, Bool.true_eq_false, false_or, or_false, not_false_eq_true] at gp_279
      refine Wx.gnoB rfl rfl (congrArg Value.bool g_277) rfl rfl ?_
      refine Wx.gnoB rfl rfl (congrArg Value.bool g_277) rfl rfl ?_
      refine Wx.rd (v := .bool false) (rd_pickF (congrArg Value.bool g_277) rfl) rfl ?_
      refine Wx.nil ⟨(), hS, ⟨?_, trivial⟩, Out.look rfl Out.refl⟩
      show Value.bool false = Value.bool (((((((((decide ((betwX 3 3 sS 4 10) = 2) && true) && true) && true) && true) && true) && true) && true) && true) && true)
      first | rw [g_277, Bool.false_and] | (rw [g_277]; rfl)
  rintro ⟨⟩ u_281 w_280 hS
  refine Wx.rd (v := .bool (((((((((decide ((betwX 3 3 sS 4 10) = 2) && true) && true) && true) && true) && true) && true) && true) && true) && true)) (rd_move rfl) rfl ?_
  refine Wx.cut (X := Unit) 8 [174, 175, 176, 177, 178, 179, 180, 181] (fun _ => [(181, .bool ((((((((((decide ((betwX 3 3 sS 4 10) = 2) && true) && true) && true) && true) && true) && true) && true) && true) && true) && true))]) (fun _ w' => St w [] w' [Ob.v (tSl (tI .i64)) sS v_155, Ob.v (tSl (tI .i64)) [6, 5, 4, 3] r_143, Ob.v (tSl (tI .i64)) [6, 5, 4, 3] v_139, Ob.v (tSl (tI .i64)) sS v_135, .row (tP (tI .i64) (tI .i64)) 74 v_129 (treeE 4 1 sT), Ob.v (tSl (tI .i64)) sT v_122, Ob.v (tSl (tI .i64)) sS v_112, Ob.v (tSl (tI .i64)) sS v_102, .row (tI .i64) 3 v_96 (basinE 3 3 sS 4), Ob.v (tSl (tI .i64)) sS v_89, .row (tI .i64) 3 v_83 (wayE 3 3 sS 0), Ob.v (tSl (tI .i64)) sS v_76, Ob.v (tSl (tI .i64)) [6, 5, 4, 3] r_64, Ob.v (tSl (tI .i64)) [6, 5, 4, 3] v_60, Ob.v (tSl (tI .i64)) sS v_56, .row (tSl (tI .i64)) 22 v_50 (poolsE 4 1 sT 2), Ob.v (tSl (tI .i64)) sT v_43, .row (tI .i64) 3 v_37 (bareE 3 3 sS 0), Ob.v (tSl (tI .i64)) sS v_30, .row (tI .i64) 3 v_24 (depthsE 3 3 sS 5), Ob.v (tSl (tI .i64)) sS v_17, .row (tI .i64) 3 v_11 (sillsE 3 3 sS), Ob.v (tSl (tI .i64)) sS v_4]) ?_ ?_
  · rcases Bool.eq_false_or_eq_true (((((((((decide ((betwX 3 3 sS 4 10) = 2) && true) && true) && true) && true) && true) && true) && true) && true) && true) with g_282 | g_282
    · -- True
      have gp_283 := g_282
      try simp only [Bool.and_eq_true, Bool.or_eq_true, Bool.not_eq_true', Bool.and_eq_false_iff, Bool.or_eq_false_iff, Bool.not_eq_false', decide_eq_true_eq, decide_eq_false_iff_not, not_or, Bool.false_eq_true, Bool.true_eq_false, false_or, or_false, not_false_eq_true] at gp_283
      refine Wx.gyes rfl rfl (congrArg Value.bool g_282) ?_
      refine Wx.rd (v := v_129) (rd_move rfl) rfl ?_
      refine Wx.gyes rfl rfl (congrArg Value.bool g_282) ?_
      refine Wx.rd (v := .agg #[.int .i64 3, .int .i64 4]) (rd_build (vs := [(0, .int .i64 3), (1, .int .i64 4)]) rfl (by kernel_rfl)) rfl ?_
      refine Wx.gyes rfl rfl (congrArg Value.bool g_282) ?_
      refine Wx.rd (v := .agg #[.int .i64 1, .int .i64 2]) (rd_build (vs := [(0, .int .i64 1), (1, .int .i64 2)]) rfl (by kernel_rfl)) rfl ?_
      refine Wx.gyes rfl rfl (congrArg Value.bool g_282) ?_
      refine Wx.rd (v := .agg #[.int .i64 2, .int .i64 3]) (rd_build (vs := [(0, .int .i64 2), (1, .int .i64 3)]) rfl (by kernel_rfl)) rfl ?_
      refine Wx.gyes rfl rfl (congrArg Value.bool g_282) ?_
      refine Wx.rd (v := .agg #[.int .i64 0, .int .i64 1]) (rd_build (vs := [(0, .int .i64 0), (1, .int .i64 1)]) rfl (by kernel_rfl)) rfl ?_
      refine Wx.gyes rfl rfl (congrArg Value.bool g_282) ?_
      refine Wx.lit (t := (tP (tI .i64) (tI .i64))) (ys := [(3, 4), (1, 2), (2, 3), (0, 1)]) (vs := [.agg #[.int .i64 3, .int .i64 4], .agg #[.int .i64 1, .int .i64 2], .agg #[.int .i64 2, .int .i64 3], .agg #[.int .i64 0, .int .i64 1]]) elMb_52 hS rfl rfl ⟨(V.mk2 (in_i64 (by omega) (by omega)) (in_i64 (by omega) (by omega))), ⟨(V.mk2 (in_i64 (by omega) (by omega)) (in_i64 (by omega) (by omega))), ⟨(V.mk2 (in_i64 (by omega) (by omega)) (in_i64 (by omega) (by omega))), ⟨(V.mk2 (in_i64 (by omega) (by omega)) (in_i64 (by omega) (by omega))), trivial⟩⟩⟩⟩ (by decide) rfl (fun v_284 w_285 hx_286 hS => ?_)
      refine Wx.gyes rfl rfl (congrArg Value.bool g_282) ?_
      refine Wx.callF (run_callF Try.call41 rfl) (F41 (hS.lend 5 rfl) (hS.lend 0 rfl)) rfl ?_
      rintro r_287 w_288 hx_289 rfl
      have hS := hS.ext hx_289
      rw [show (decide ((treeE 4 1 sT) = [(3, 4), (1, 2), (2, 3), (0, 1)]) : Bool) = true from (by decide +kernel)]
      refine Wx.rd (v := .bool true) (rd_pickT (congrArg Value.bool g_282) rfl) rfl ?_
      refine Wx.nil ⟨(), hS.tl, ⟨?_, trivial⟩, Out.look rfl Out.refl⟩
      show Value.bool true = Value.bool ((((((((((decide ((betwX 3 3 sS 4 10) = 2) && true) && true) && true) && true) && true) && true) && true) && true) && true) && true)
      first | rw [g_282, Bool.true_and] | (rw [g_282]; rfl)
    · -- False
      have gp_290 := g_282
      try simp only [Bool.and_eq_true, Bool.or_eq_true, Bool.not_eq_true', Bool.and_eq_false_iff, Bool.or_eq_false_iff, Bool.not_eq_false', decide_eq_true_eq, decide_eq_false_iff_not, not_or, Bool.false_eq_true, Bool.true_eq_false, false_or, or_false, not_false_eq_true] at gp_290
      refine Wx.gnoB rfl rfl (congrArg Value.bool g_282) rfl rfl ?_
      refine Wx.gnoB rfl rfl (congrArg Value.bool g_282) rfl rfl ?_
      refine Wx.gnoB rfl rfl (congrArg Value.bool g_282) rfl rfl ?_
      refine Wx.gnoB rfl rfl (congrArg Value.bool g_282) rfl rfl ?_
      refine Wx.gnoB rfl rfl (congrArg Value.bool g_282) rfl rfl ?_
      refine Wx.gnoB rfl rfl (congrArg Value.bool g_282) rfl rfl ?_
      refine Wx.gnoB rfl rfl (congrArg Value.bool g_282) rfl rfl ?_
      refine Wx.rd (v := .bool false) (rd_pickF (congrArg Value.bool g_282) rfl) rfl ?_
      refine Wx.nil ⟨(), hS, ⟨?_, trivial⟩, Out.look rfl Out.refl⟩
      show Value.bool false = Value.bool ((((((((((decide ((betwX 3 3 sS 4 10) = 2) && true) && true) && true) && true) && true) && true) && true) && true) && true) && true)
      first | rw [g_282, Bool.false_and] | (rw [g_282]; rfl)
  rintro ⟨⟩ u_292 w_291 hS
  refine Wx.rd (v := .bool ((((((((((decide ((betwX 3 3 sS 4 10) = 2) && true) && true) && true) && true) && true) && true) && true) && true) && true) && true)) (rd_move rfl) rfl ?_
  refine Wx.cut (X := Unit) 6 [183, 184, 185, 186, 187, 188] (fun _ => [(188, .bool (((((((((((decide ((betwX 3 3 sS 4 10) = 2) && true) && true) && true) && true) && true) && true) && true) && true) && true) && true) && true))]) (fun _ w' => St w [] w' [Ob.v (tSl (tI .i64)) sS v_155, Ob.v (tSl (tI .i64)) [6, 5, 4, 3] r_143, Ob.v (tSl (tI .i64)) [6, 5, 4, 3] v_139, Ob.v (tSl (tI .i64)) sS v_135, .row (tP (tI .i64) (tI .i64)) 74 v_129 (treeE 4 1 sT), Ob.v (tSl (tI .i64)) sT v_122, Ob.v (tSl (tI .i64)) sS v_112, Ob.v (tSl (tI .i64)) sS v_102, .row (tI .i64) 3 v_96 (basinE 3 3 sS 4), Ob.v (tSl (tI .i64)) sS v_89, .row (tI .i64) 3 v_83 (wayE 3 3 sS 0), Ob.v (tSl (tI .i64)) sS v_76, Ob.v (tSl (tI .i64)) [6, 5, 4, 3] r_64, Ob.v (tSl (tI .i64)) [6, 5, 4, 3] v_60, Ob.v (tSl (tI .i64)) sS v_56, .row (tSl (tI .i64)) 22 v_50 (poolsE 4 1 sT 2), Ob.v (tSl (tI .i64)) sT v_43, .row (tI .i64) 3 v_37 (bareE 3 3 sS 0), Ob.v (tSl (tI .i64)) sS v_30, .row (tI .i64) 3 v_24 (depthsE 3 3 sS 5), Ob.v (tSl (tI .i64)) sS v_17, .row (tI .i64) 3 v_11 (sillsE 3 3 sS), Ob.v (tSl (tI .i64)) sS v_4]) ?_ ?_
  · rcases Bool.eq_false_or_eq_true ((((((((((decide ((betwX 3 3 sS 4 10) = 2) && true) && true) && true) && true) && true) && true) && true) && true) && true) && true) with g_293 | g_293
    · -- True
      have gp_294 := g_293
      try simp only [Bool.and_eq_true, Bool.or_eq_true, Bool.not_eq_true', Bool.and_eq_false_iff, Bool.or_eq_false_iff, Bool.not_eq_false', decide_eq_true_eq, decide_eq_false_iff_not, not_or, Bool.false_eq_true, Bool.true_eq_false, false_or, or_false, not_false_eq_true] at gp_294
      refine Wx.gyes rfl rfl (congrArg Value.bool g_293) ?_
      refine Wx.callF (run_callF Try.call48 rfl) (F48 hS.fb_lt) rfl ?_
      rintro r_295 w_296 hx_297 ⟨v_298, rfl, hv_299⟩
      have ln_301 := hv_299.len63
      have hS := hS.ext hx_297
      have hS := hS.add hv_299
      refine Wx.gyes rfl rfl (congrArg Value.bool g_293) ?_
      refine Wx.lit (t := (tI .i64)) (ys := [4]) (vs := [.int .i64 4]) elMb_22 hS rfl rfl ⟨(V.mkInt (in_i64 (by omega) (by omega))), trivial⟩ (by decide) rfl (fun v_302 w_303 hx_304 hS => ?_)
      refine Wx.gyes rfl rfl (congrArg Value.bool g_293) ?_
      have hS := hS.freeze 0 rfl
      refine Wx.callF (run_callF Try.call49 rfl) (F49 (hS.v 0 rfl) hS.fb_lt) rfl ?_
      rintro r_306 w_307 hx_308 ⟨_, rfl, hv_309⟩
      have ln_311 := hv_309.len63
      have hS := hS.ext hx_308
      have hS := hS.add hv_309
      refine Wx.gyes rfl rfl (congrArg Value.bool g_293) ?_
      refine Wx.callF (run_callF Try.call35 rfl) (F35 (in_i64 (by omega) (by omega)) (in_i64 (by omega) (by omega)) (hS.v 2 rfl) (hS.v 0 rfl) (in_i64 (by omega) (by omega))) rfl ?_
      rintro r_312 w_313 hx_314 rfl
      have hS := hS.ext hx_314
      rw [show (provesE 3 3 sS [4] 4 : Int) = 0 from (by decide +kernel)]
      refine Wx.gyes rfl rfl (congrArg Value.bool g_293) ?_
      refine Wx.rd (v := .bool true) (Rd.to (v := .bool (decide ((0 : Int) = 0))) (rd_eql rfl rfl) rfl) rfl ?_
      refine Wx.rd (v := .bool true) (rd_pickT (congrArg Value.bool g_293) rfl) rfl ?_
      refine Wx.nil ⟨(), St.tl (St.tl (hS.tl)), ⟨?_, trivial⟩, Out.look rfl Out.refl⟩
      show Value.bool true = Value.bool (((((((((((decide ((betwX 3 3 sS 4 10) = 2) && true) && true) && true) && true) && true) && true) && true) && true) && true) && true) && true)
      first | rw [g_293, Bool.true_and] | (rw [g_293]; rfl)
    · -- False
      have gp_315 := g_293
      try simp only [Bool.and_eq_true, Bool.or_eq_true, Bool.not_eq_true', Bool.and_eq_false_iff, Bool.or_eq_false_iff, Bool.not_eq_false', decide_eq_true_eq, decide_eq_false_iff_not, not_or, Bool.false_eq_true, Bool.true_eq_false, false_or, or_false, not_false_eq_true] at gp_315
      refine Wx.gnoB rfl rfl (congrArg Value.bool g_293) rfl rfl ?_
      refine Wx.gnoB rfl rfl (congrArg Value.bool g_293) rfl rfl ?_
      refine Wx.gnoB rfl rfl (congrArg Value.bool g_293) rfl rfl ?_
      refine Wx.gnoB rfl rfl (congrArg Value.bool g_293) rfl rfl ?_
      refine Wx.gnoB rfl rfl (congrArg Value.bool g_293) rfl rfl ?_
      refine Wx.rd (v := .bool false) (rd_pickF (congrArg Value.bool g_293) rfl) rfl ?_
      refine Wx.nil ⟨(), hS, ⟨?_, trivial⟩, Out.look rfl Out.refl⟩
      show Value.bool false = Value.bool (((((((((((decide ((betwX 3 3 sS 4 10) = 2) && true) && true) && true) && true) && true) && true) && true) && true) && true) && true) && true)
      first | rw [g_293, Bool.false_and] | (rw [g_293]; rfl)
  rintro ⟨⟩ u_317 w_316 hS
  refine Wx.rd (v := .bool (((((((((((decide ((betwX 3 3 sS 4 10) = 2) && true) && true) && true) && true) && true) && true) && true) && true) && true) && true) && true)) (rd_move rfl) rfl ?_
  refine Wx.cut (X := Unit) 6 [190, 191, 192, 193, 194, 195] (fun _ => [(195, .bool ((((((((((((decide ((betwX 3 3 sS 4 10) = 2) && true) && true) && true) && true) && true) && true) && true) && true) && true) && true) && true) && true))]) (fun _ w' => St w [] w' [Ob.v (tSl (tI .i64)) sS v_155, Ob.v (tSl (tI .i64)) [6, 5, 4, 3] r_143, Ob.v (tSl (tI .i64)) [6, 5, 4, 3] v_139, Ob.v (tSl (tI .i64)) sS v_135, .row (tP (tI .i64) (tI .i64)) 74 v_129 (treeE 4 1 sT), Ob.v (tSl (tI .i64)) sT v_122, Ob.v (tSl (tI .i64)) sS v_112, Ob.v (tSl (tI .i64)) sS v_102, .row (tI .i64) 3 v_96 (basinE 3 3 sS 4), Ob.v (tSl (tI .i64)) sS v_89, .row (tI .i64) 3 v_83 (wayE 3 3 sS 0), Ob.v (tSl (tI .i64)) sS v_76, Ob.v (tSl (tI .i64)) [6, 5, 4, 3] r_64, Ob.v (tSl (tI .i64)) [6, 5, 4, 3] v_60, Ob.v (tSl (tI .i64)) sS v_56, .row (tSl (tI .i64)) 22 v_50 (poolsE 4 1 sT 2), Ob.v (tSl (tI .i64)) sT v_43, .row (tI .i64) 3 v_37 (bareE 3 3 sS 0), Ob.v (tSl (tI .i64)) sS v_30, .row (tI .i64) 3 v_24 (depthsE 3 3 sS 5), Ob.v (tSl (tI .i64)) sS v_17, .row (tI .i64) 3 v_11 (sillsE 3 3 sS), Ob.v (tSl (tI .i64)) sS v_4]) ?_ ?_
  · rcases Bool.eq_false_or_eq_true (((((((((((decide ((betwX 3 3 sS 4 10) = 2) && true) && true) && true) && true) && true) && true) && true) && true) && true) && true) && true) with g_318 | g_318
    · -- True
      have gp_319 := g_318
      try simp only [Bool.and_eq_true, Bool.or_eq_true, Bool.not_eq_true', Bool.and_eq_false_iff, Bool.or_eq_false_iff, Bool.not_eq_false', decide_eq_true_eq, decide_eq_false_iff_not, not_or, Bool.false_eq_true, Bool.true_eq_false, false_or, or_false, not_false_eq_true] at gp_319
      refine Wx.gyes rfl rfl (congrArg Value.bool g_318) ?_
      refine Wx.callF (run_callF Try.call48 rfl) (F48 hS.fb_lt) rfl ?_
      rintro r_320 w_321 hx_322 ⟨v_323, rfl, hv_324⟩
      have ln_326 := hv_324.len63
      have hS := hS.ext hx_322
      have hS := hS.add hv_324
      refine Wx.gyes rfl rfl (congrArg Value.bool g_318) ?_
      refine Wx.lit (t := (tI .i64)) (ys := [4]) (vs := [.int .i64 4]) elMb_22 hS rfl rfl ⟨(V.mkInt (in_i64 (by omega) (by omega))), trivial⟩ (by decide) rfl (fun v_327 w_328 hx_329 hS => ?_)
      refine Wx.gyes rfl rfl (congrArg Value.bool g_318) ?_
      have hS := hS.freeze 0 rfl
      refine Wx.callF (run_callF Try.call49 rfl) (F49 (hS.v 0 rfl) hS.fb_lt) rfl ?_
      rintro r_331 w_332 hx_333 ⟨_, rfl, hv_334⟩
      have ln_336 := hv_334.len63
      have hS := hS.ext hx_333
      have hS := hS.add hv_334
      refine Wx.gyes rfl rfl (congrArg Value.bool g_318) ?_
      refine Wx.callF (run_callF Try.call35 rfl) (F35 (in_i64 (by omega) (by omega)) (in_i64 (by omega) (by omega)) (hS.v 2 rfl) (hS.v 0 rfl) (in_i64 (by omega) (by omega))) rfl ?_
      rintro r_337 w_338 hx_339 rfl
      have hS := hS.ext hx_339
      rw [show (provesE 3 3 sS [4] 5 : Int) = 14 from (by decide +kernel)]
      refine Wx.gyes rfl rfl (congrArg Value.bool g_318) ?_
      refine Wx.rd (v := .bool true) (Rd.to (v := .bool (decide ((14 : Int) = 14))) (rd_eql rfl rfl) rfl) rfl ?_
      refine Wx.rd (v := .bool true) (rd_pickT (congrArg Value.bool g_318) rfl) rfl ?_
      refine Wx.nil ⟨(), St.tl (St.tl (hS.tl)), ⟨?_, trivial⟩, Out.look rfl Out.refl⟩
      show Value.bool true = Value.bool ((((((((((((decide ((betwX 3 3 sS 4 10) = 2) && true) && true) && true) && true) && true) && true) && true) && true) && true) && true) && true) && true)
      first | rw [g_318, Bool.true_and] | (rw [g_318]; rfl)
    · -- False
      have gp_340 := g_318
      try simp only [Bool.and_eq_true, Bool.or_eq_true, Bool.not_eq_true', Bool.and_eq_false_iff, Bool.or_eq_false_iff, Bool.not_eq_false', decide_eq_true_eq, decide_eq_false_iff_not, not_or, Bool.false_eq_true, Bool.true_eq_false, false_or, or_false, not_false_eq_true] at gp_340
      refine Wx.gnoB rfl rfl (congrArg Value.bool g_318) rfl rfl ?_
      refine Wx.gnoB rfl rfl (congrArg Value.bool g_318) rfl rfl ?_
      refine Wx.gnoB rfl rfl (congrArg Value.bool g_318) rfl rfl ?_
      refine Wx.gnoB rfl rfl (congrArg Value.bool g_318) rfl rfl ?_
      refine Wx.gnoB rfl rfl (congrArg Value.bool g_318) rfl rfl ?_
      refine Wx.rd (v := .bool false) (rd_pickF (congrArg Value.bool g_318) rfl) rfl ?_
      refine Wx.nil ⟨(), hS, ⟨?_, trivial⟩, Out.look rfl Out.refl⟩
      show Value.bool false = Value.bool ((((((((((((decide ((betwX 3 3 sS 4 10) = 2) && true) && true) && true) && true) && true) && true) && true) && true) && true) && true) && true) && true)
      first | rw [g_318, Bool.false_and] | (rw [g_318]; rfl)
  rintro ⟨⟩ u_342 w_341 hS
  refine Wx.rd (v := .bool ((((((((((((decide ((betwX 3 3 sS 4 10) = 2) && true) && true) && true) && true) && true) && true) && true) && true) && true) && true) && true) && true)) (rd_assign rfl) rfl ?_
  refine Wx.nil ?_
  have e0_0 : ((((((((((((decide ((betwX 3 3 sS 4 10) = 2) && true) && true) && true) && true) && true) && true) && true) && true) && true) && true) && true) && true) = true := by first | rfl | omega
  exact W.ret ⟨.bool ((((((((((((decide ((betwX 3 3 sS 4 10) = 2) && true) && true) && true) && true) && true) && true) && true) && true) && true) && true) && true) && true), ResIs.one, hS.bel, (by rw [e0_0])⟩
end Go.Proofs.Ytjhimoeodkaihaa

namespace Go.Proofs.Ytjhimoeodkaihaa
open Go.Wk Go.RowKit Go.Lib
set_option linter.unusedVariables false
set_option linter.unusedSimpArgs false
theorem mixedMh_ : Try.prog.follows .mixedOrders = true := by kernel_rfl
theorem foMh_60_0 : fldOff Try.prog 60 0 = some 0 := by kernel_rfl
theorem foMh_60_1 : fldOff Try.prog 60 1 = some 1 := by kernel_rfl
theorem foMh_60_2 : fldOff Try.prog 60 2 = some 2 := by kernel_rfl
theorem foMh_24_0 : fldOff Try.prog 24 0 = some 0 := by kernel_rfl
theorem foMh_24_1 : fldOff Try.prog 24 1 = some 1 := by kernel_rfl
theorem foMh_24_2 : fldOff Try.prog 24 2 = some 2 := by kernel_rfl
theorem elMh_22 : ElemI Try.prog 22 3 (.int .i64 0) 1 8 := ElemI.of Try.underlying22 (by kernel_rfl) (by first | rfl | kernel_rfl) (by decide)

set_option maxHeartbeats 2000000 in
set_option maxRecDepth 10000 in
theorem F42 {zs : List Int} {most : Int} {O : List (Option Nat)} {w : World} (n_zs : zs.length = 38) (i_zs : ∀ z ∈ zs, InK .u8 z) (i_most : InK .i64 most) (p_1 : 1 ≤ most) (p_6 : most ≤ 6) (hO : ∀ b, some b ∈ O → b < w.heap.size) : Calls Try.prog 42 #[.agg (List.map (Value.int .u8) zs).toArray, .int .i64 most] w (Ret w (fun r w' => ∃ rv, r = .agg #[.int .i64 (sdR most zs), .int .i64 (sdC most zs), rv] ∧ Fresh (tI .i64) 3 (sdH most zs) rv w.heap.size w')) := by
  have b_most := bd_i64 i_most
  have hz0 := ix_u8 i_zs 0
  have hz1 := ix_u8 i_zs 1
  have hmul := sd_mul (zs := zs) p_1 p_6
  have hsb := sd_bd (zs := zs) p_1 p_6
  have hxl := sdX_len p_1 p_6 n_zs
  have hN0 := Int.emod_nonneg (ix 0 zs 0) (show most ≠ 0 by omega)
  have hN1 := Int.emod_lt_of_pos (ix 0 zs 0) (show 0 < most by omega)
  have hN2 := Int.emod_nonneg (ix 0 zs 1) (show most ≠ 0 by omega)
  have hN3 := Int.emod_lt_of_pos (ix 0 zs 1) (show 0 < most by omega)
  have hS := St.start w O hO
  refine enterR Try.func42 rfl Try.ntmps42 Try.results42 rfl ?_
  refine W.seq ?_
  refine W.reg ?_
  refine Wx.box (cs := List.map (Value.int .u8) zs) hS rfl rfl rfl (fun g_1 w_2 hx_4 hb_3 hS => ?_)
  refine Wx.alloc (cs := [.int .i64 0, .int .i64 0, (.slice none 0 0)]) hS Try.zeroValue24 rfl rfl (fun g_5 w_6 hx_8 hb_7 hS => ?_)
  refine Wx.nil ?_
  refine W.seq ?_
  refine W.regZ (fun _ w' => St w O w' [.box g_1 60 (List.map (Value.int .u8) zs)]) mixedMh_ (fun w_9 hx_10 => ?_)
  have hS := hS.ext hx_10
  refine Wz.rd (v := .pointer (some ⟨g_1, 0 + 0, none⟩)) 0 rfl (by kernel_rfl) (St.sub hS (.cons _ (List.Sublist.cons_cons _ (List.nil_sublist _)))) (fun _ hS => (rd_fieldAddr (o := 0) rfl foMh_60_0)) rfl ?_
  have bz_11 := ix_u8 i_zs 0
  refine Wz.rd (v := .int .u8 (ix 0 zs 0)) 1 rfl (by kernel_rfl) (St.sub hS (.cons _ (List.Sublist.cons_cons _ (List.nil_sublist _)))) (fun _ hS => (rd_loadXa (d := 0) (f := (Value.int .u8)) (j := 0) hS 0 rfl rfl (by omega) (by omega) (by omega) Try.isAgg5)) rfl ?_
  refine Wz.rd (v := .int .i64 (ix 0 zs 0)) 2 rfl (by kernel_rfl) (St.sub hS (.cons _ (List.Sublist.cons_cons _ (List.nil_sublist _)))) (fun _ hS => (rd_convIn rfl Try.underlying5 Try.underlying3 (in_i64 (by omega) (by omega)))) rfl ?_
  refine Wz.rd (v := .int .i64 most) 3 rfl (by kernel_rfl) (St.sub hS (.cons _ (List.Sublist.cons_cons _ (List.nil_sublist _)))) (fun _ hS => (rd_move rfl)) rfl ?_
  refine Wz.rd (v := .int .i64 ((ix 0 zs 0) % most)) 4 rfl (by kernel_rfl) (St.sub hS (.cons _ (List.Sublist.cons_cons _ (List.nil_sublist _)))) (fun _ hS => (rd_rem rfl rfl (by omega) (by omega))) rfl ?_
  refine Wz.rd (v := .int .i64 (sdR most zs)) 5 rfl (by kernel_rfl) (St.sub hS (.cons _ (List.Sublist.cons_cons _ (List.nil_sublist _)))) (fun _ hS => (Rd.to (v := .int .i64 (1 + ((ix 0 zs 0) % most))) (rd_add rfl rfl (in_i64 (by omega) (by omega))) (congrArg (Value.int .i64) (show (sdR most zs : Int) = (1 + ((ix 0 zs 0) % most) : Int) from rfl).symm))) rfl ?_
  refine Wz.rd (v := .pointer (some ⟨g_1, 0 + 1, none⟩)) 6 rfl (by kernel_rfl) (St.sub hS (.cons _ (List.Sublist.cons_cons _ (List.nil_sublist _)))) (fun _ hS => (rd_fieldAddr (o := 0) rfl foMh_60_1)) rfl ?_
  have bz_12 := ix_u8 i_zs 1
  refine Wz.rd (v := .int .u8 (ix 0 zs 1)) 7 rfl (by kernel_rfl) (St.sub hS (.cons _ (List.Sublist.cons_cons _ (List.nil_sublist _)))) (fun _ hS => (rd_loadXa (d := 0) (f := (Value.int .u8)) (j := 1) hS 0 rfl rfl (by omega) (by omega) (by omega) Try.isAgg5)) rfl ?_
  refine Wz.rd (v := .int .i64 (ix 0 zs 1)) 8 rfl (by kernel_rfl) (St.sub hS (.cons _ (List.Sublist.cons_cons _ (List.nil_sublist _)))) (fun _ hS => (rd_convIn rfl Try.underlying5 Try.underlying3 (in_i64 (by omega) (by omega)))) rfl ?_
  refine Wz.rd (v := .int .i64 most) 9 rfl (by kernel_rfl) (St.sub hS (.cons _ (List.Sublist.cons_cons _ (List.nil_sublist _)))) (fun _ hS => (rd_move rfl)) rfl ?_
  refine Wz.rd (v := .int .i64 ((ix 0 zs 1) % most)) 10 rfl (by kernel_rfl) (St.sub hS (.cons _ (List.Sublist.cons_cons _ (List.nil_sublist _)))) (fun _ hS => (rd_rem rfl rfl (by omega) (by omega))) rfl ?_
  refine Wz.rd (v := .int .i64 (sdC most zs)) 11 rfl (by kernel_rfl) (St.sub hS (.cons _ (List.Sublist.cons_cons _ (List.nil_sublist _)))) (fun _ hS => (Rd.to (v := .int .i64 (1 + ((ix 0 zs 1) % most))) (rd_add rfl rfl (in_i64 (by omega) (by omega))) (congrArg (Value.int .i64) (show (sdC most zs : Int) = (1 + ((ix 0 zs 1) % most) : Int) from rfl).symm))) rfl ?_
  refine Wz.rd (v := .agg #[.int .i64 (sdR most zs), .int .i64 (sdC most zs), (.slice none 0 0)]) 12 rfl (by kernel_rfl) (St.sub hS (.cons _ (List.Sublist.cons_cons _ (List.nil_sublist _)))) (fun _ hS => (rd_build (vs := [(0, .int .i64 (sdR most zs)), (1, .int .i64 (sdC most zs))]) rfl (by kernel_rfl))) rfl ?_
  refine Wz.br [13] (by kernel_rfl) (by decide) ⟨⟨_, rfl, ?_⟩, trivial⟩
  refine Wx.alloc (cs := [.int .i64 0, .int .i64 0, (.slice none 0 0)]) hS Try.zeroValue24 rfl rfl (fun g_13 w_14 hx_16 hb_15 hS => ?_)
  refine Wx.nil ⟨(St.sub hS (.cons _ (.cons _ (List.Sublist.cons_cons _ (List.nil_sublist _))))), ?_⟩
  refine Wz.br [14] (by kernel_rfl) (by decide) ⟨⟨_, rfl, ?_⟩, trivial⟩
  refine Wx.storeX (cs' := [.int .i64 (sdR most zs), .int .i64 (sdC most zs), (.slice none 0 0)]) (ds := [.int .i64 (sdR most zs), .int .i64 (sdC most zs), (.slice none 0 0)]) hS 0 rfl rfl rfl rfl Try.sizeOf24 (Nat.le_of_ble_eq_true rfl) (one_cons rfl (one_cons rfl (one_cons rfl one_nil))) rfl (fun w_17 hz_18 hS => ?_)
  refine Wx.nil ⟨(St.sub hS (.cons _ (.cons _ (List.Sublist.cons_cons _ (List.nil_sublist _))))), ?_⟩
  refine Wz.done (by kernel_rfl) ?_
  refine W.seq ?_
  refine W.seq ?_
  refine W.reg ?_
  refine Wx.rd (v := .pointer (some ⟨g_1, 0 + 2, none⟩)) (rd_fieldAddr (o := 0) rfl foMh_60_2) rfl ?_
  refine Wx.rd (v := .pointer (some ⟨g_13, 0, none⟩)) (rd_fieldAddr rfl foMh_24_0) rfl ?_
  refine Wx.rd (v := .int .i64 (sdR most zs)) (rd_loadX hS 0 rfl rfl rfl Try.isAgg3) rfl ?_
  refine Wx.rd (v := .pointer (some ⟨g_13, 1, none⟩)) (rd_fieldAddr rfl foMh_24_1) rfl ?_
  refine Wx.rd (v := .int .i64 (sdC most zs)) (rd_loadX hS 0 rfl rfl rfl Try.isAgg3) rfl ?_
  refine Wx.rd (v := .int .i64 ((sdR most zs) * (sdC most zs))) (rd_mul rfl rfl (in_i64 (by omega) (by omega))) rfl ?_
  refine Wx.rd (v := (.slice (some ⟨g_1, 0 + 2, none⟩) ((sdR most zs) * (sdC most zs)).toNat 36)) (rd_sliceArrH (m := 36) Try.underlying58 Try.sizeOf5 rfl rfl (by omega) (by omega)) rfl ?_
  have hS := hS.sliceBox (o := 0 + 2) (k := .u8) (m := ((sdR most zs) * (sdC most zs)).toNat) (xs := List.take ((sdR most zs) * (sdC most zs)).toNat (List.drop 2 zs)) (cap := 36) 2 rfl (by exact drop_map_take (Value.int .u8) zs 2 _) (fun x hx => by have hx := List.mem_of_mem_drop (List.mem_of_mem_take hx); exact i_zs x hx) (by simp; omega) (by omega) (by decide)
  have hS : St _ _ _ (Ob.v (tSl (tI .u8)) (sdX most zs) (.slice (some ⟨g_1, 0 + 2, none⟩) ((sdR most zs) * (sdC most zs)).toNat 36) :: [.box g_13 24 [.int .i64 (sdR most zs), .int .i64 (sdC most zs), (.slice none 0 0)], .box g_5 24 [.int .i64 0, .int .i64 0, (.slice none 0 0)]]) := hS
  refine Wx.rd (v := .int .i64 ((sdX most zs).length : Int)) (rd_lenV rfl (hS.v 0 rfl) Try.underlying70) rfl ?_
  refine Wx.rd (v := .int .i64 0) (rd_move rfl) rfl ?_
  refine Wx.nil ?_
  refine W.block ?_
  have hS := hS.addNil (tI .i64) 3
  refine W.loop [7, 29, 30, 31, 32, 33, 34, 35, 36, 37, 38, 39, 40, 41] (fun x : Int × Value × (List Int) => match x with | (k, hv, hs) => [(29, .int .i64 k)]) (fun (x : Int × Value × (List Int)) w' => match x with | (k, hv, hs) => St w O w' [.row (tI .i64) 3 hv hs, Ob.v (tSl (tI .u8)) (sdX most zs) (.slice (some ⟨g_1, 0 + 2, none⟩) ((sdR most zs) * (sdC most zs)).toNat 36), .box g_13 24 [.int .i64 (sdR most zs), .int .i64 (sdC most zs), hv], .box g_5 24 [.int .i64 0, .int .i64 0, (.slice none 0 0)]] ∧ 0 ≤ k ∧ k ≤ (sdX most zs).length ∧ hs = ((sdX most zs).take k.toNat).map (fun x => x % 31) ∧ (hs.length : Int) = k) (fun x : Int × Value × (List Int) => match x with | (k, hv, hs) => ((sdX most zs).length - k).toNat) (0, (.slice none 0 0), []) ⟨rfl, trivial⟩ ⟨hS, (by first | omega | simp), (by first | omega | simp), (rfl), (rfl)⟩ ?_
  rintro ⟨k, hv, hs⟩ u_21 w_20 ⟨hS, h0, h1, h2, h3⟩
  refine W.seq ?_
  refine W.reg ?_
  refine Wx.rd (v := .bool (decide (k < ((sdX most zs).length : Int)))) (rd_lss rfl rfl) rfl ?_
  refine Wx.nil ?_
  refine W.seq ?_
  refine W.condD rfl (fun c0 => ?_) (fun c0 => ?_)
  · -- yes
    refine W.skip ?_
    refine W.seq ?_
    refine W.block ?_
    refine W.seq ?_
    refine W.reg ?_
    refine Wx.ex (rd_index 0 (hS.v 1 rfl) rfl rfl Try.underlying70 Try.sizeOf5 (by first | omega | (simp only [List.length_set, List.length_append, List.length_cons, List.length_nil, List.length_replicate]; omega)) (by first | omega | (simp only [List.length_set, List.length_append, List.length_cons, List.length_nil, List.length_replicate]; omega))) rfl (fun p_22 hp_23 => ?_)
    refine Wx.rd (v := .int .u8 (ix 0 (sdX most zs) k)) (rd_loadI hp_23 rfl Try.isAgg5 Try.sizeOf5) rfl ?_
    have bd_24 := bd_u8 hp_23.inK
    refine Wx.rd (v := .int .u8 (ix 0 (sdX most zs) k)) (rd_assign rfl) rfl ?_
    refine Wx.nil ?_
    refine W.reg ?_
    refine Wx.rd (v := .pointer (some ⟨g_13, 2, none⟩)) (rd_fieldAddr rfl foMh_24_2) rfl ?_
    refine Wx.rd (v := hv) (rd_loadX hS 2 rfl rfl rfl Try.isAgg22) rfl ?_
    refine Wx.rd (v := .int .u8 (ix 0 (sdX most zs) k)) (rd_move rfl) rfl ?_
    refine Wx.rd (v := .int .i64 (ix 0 (sdX most zs) k)) (rd_convIn rfl Try.underlying5 Try.underlying3 (in_i64 (by omega) (by omega))) rfl ?_
    refine Wx.rd (v := .int .i64 ((ix 0 (sdX most zs) k) % 31)) (rd_rem rfl rfl (by omega) (by omega)) rfl ?_
    refine Wx.lit (t := (tI .i64)) (ys := [(ix 0 (sdX most zs) k) % 31]) (vs := [.int .i64 ((ix 0 (sdX most zs) k) % 31)]) elMh_22 hS rfl rfl ⟨(V.mkInt (in_i64 (by omega) (by omega))), trivial⟩ (by decide) rfl (fun v_25 w_26 hx_27 hS => ?_)
    refine Wx.append elMh_22 hS 1 rfl rfl rfl (Src.ofR hS 0 rfl) (by simp only [maxLen]; first | omega | (simp; omega) | simp) (by first | omega | (simp; omega) | simp) rfl (fun v_28 w_29 hz_30 hS => ?_)
    refine Wx.rd (v := .pointer (some ⟨g_13, 2, none⟩)) (rd_fieldAddr rfl foMh_24_2) rfl ?_
    refine Wx.storeX (cs' := [.int .i64 (sdR most zs), .int .i64 (sdC most zs), v_28]) (ds := [v_28]) hS 3 rfl rfl rfl (Go.Wk.cells_one (hS.rowOne 1 rfl)) Try.sizeOf22 (Nat.le_of_ble_eq_true rfl) (one_cons (hS.rowOne 1 rfl) one_nil) rfl (fun w_31 hz_32 hS => ?_)
    refine Wx.nil ?_
    refine W.reg ?_
    refine Wx.rd (v := .int .i64 (k + 1)) (rd_add rfl rfl (in_i64 (by omega) (by omega))) rfl ?_
    refine Wx.rd (v := .int .i64 (k + 1)) (rd_move rfl) rfl ?_
    refine Wx.nil ?_
    refine ⟨(k + 1, v_28, hs ++ [(ix 0 (sdX most zs) k) % 31]), (by show ((sdX most zs).length - (k + 1)).toNat < ((sdX most zs).length - k).toNat; omega), ?_, ?_, Out.look rfl Out.self⟩
    · exact ⟨hS.tl, (by first | omega | assumption), (by first | omega | assumption), (sd_snoc h2 h0 c0), (by simp only [List.length_append, List.length_cons, List.length_nil]; omega)⟩
    · exact ⟨rfl, trivial⟩
  · -- no
    refine W.exit rfl ?_
    refine W.seq ?_
    refine W.reg ?_
    refine Wx.rd (v := .agg #[.int .i64 (sdR most zs), .int .i64 (sdC most zs), hv]) (rd_loadXs (ds := [.int .i64 (sdR most zs), .int .i64 (sdC most zs), hv]) hS 2 rfl rfl rfl rfl Try.isAgg24 Try.sizeOf24) rfl ?_
    refine Wx.storeX (cs' := [.int .i64 (sdR most zs), .int .i64 (sdC most zs), hv]) (ds := [.int .i64 (sdR most zs), .int .i64 (sdC most zs), hv]) hS 3 rfl rfl rfl rfl Try.sizeOf24 (Nat.le_of_ble_eq_true rfl) (one_cons rfl (one_cons rfl (one_cons (hS.rowOne 0 rfl) one_nil))) rfl (fun w_33 hz_34 hS => ?_)
    refine Wx.nil ?_
    have e0_2 : sdH most zs = hs := by rw [h2]; exact (sd_full (by omega)).symm
    exact W.ret ⟨.agg #[.int .i64 (sdR most zs), .int .i64 (sdC most zs), hv], (ResIs.cell1 hS 3 rfl rfl Try.isAgg24 Try.sizeOf24), hS.bel, ⟨hv, rfl, (by rw [e0_2]; exact (hS.fr 0 rfl flat_int))⟩⟩
end Go.Proofs.Ytjhimoeodkaihaa

namespace Go.Proofs.Ytjhimoeodkaihaa
open Go.Wk Go.RowKit Go.Lib
set_option linter.unusedVariables false
set_option linter.unusedSimpArgs false
theorem foMi_24_2 : fldOff Try.prog 24 2 = some 2 := by kernel_rfl
theorem foMi_24_1 : fldOff Try.prog 24 1 = some 1 := by kernel_rfl
theorem mixedMi_ : Try.prog.follows .mixedOrders = true := by kernel_rfl

theorem F43 {R : Int} {C : Int} {hv : Value} {H : List Int} {Fr_hv : List (Option Nat)} {a : Int} {b : Int} {w : World} (i_R : InK .i64 R) (i_C : InK .i64 C) (h_hv : V (tSl (tI .i64)) H hv Fr_hv w) (i_a : InK .i64 a) (i_b : InK .i64 b) (p_a : 0 ≤ a ∧ a ≤ (H.length : Int)) (p_b : 0 ≤ b ∧ b ≤ (H.length : Int)) (p_c : 1 ≤ C ∧ C ≤ 6) (p_n : (H.length : Int) ≤ 36) : Calls Try.prog 43 #[.agg #[.int .i64 R, .int .i64 C, hv], .int .i64 a, .int .i64 b] w (Ret w (fun r _ => r = .bool (nearB C H.length a b))) := by
  have b_b := bd_i64 i_b
  have b_a := bd_i64 i_a
  have b_C := bd_i64 i_C
  have b_R := bd_i64 i_R
  have dv_a := div_bd p_a.1 p_c.1
  have dv_b := div_bd p_b.1 p_c.1
  have a_hv := h_hv.any
  have l_hv := h_hv.len63
  have hS := St.start0 w
  refine enterR Try.func43 rfl Try.ntmps43 Try.results43 rfl ?_
  refine W.seq ?_
  refine W.reg ?_
  refine Wx.box (cs := [.int .i64 R, .int .i64 C, hv]) hS rfl rfl rfl (fun g_1 w_2 hx_4 hb_3 hS => ?_)
  refine Wx.rd (v := .bool false) (rd_assign rfl) rfl ?_
  refine Wx.nil ?_
  refine W.seq ?_
  refine W.reg ?_
  refine Wx.rd (v := .pointer (some ⟨g_1, 2, none⟩)) (rd_fieldAddr rfl foMi_24_2) rfl ?_
  refine Wx.rd (v := hv) (rd_loadX hS 0 rfl rfl rfl Try.isAgg22) rfl ?_
  refine Wx.rd (v := .int .i64 (H.length : Int)) (rd_lenV rfl (hS.arg a_hv) Try.underlying22) rfl ?_
  refine Wx.rd (v := .int .i64 (H.length : Int)) (rd_assign rfl) rfl ?_
  refine Wx.nil ?_
  refine W.seq ?_
  refine W.seq ?_
  refine W.reg ?_
  refine Wx.rd (v := .int .i64 a) (rd_move rfl) rfl ?_
  refine Wx.rd (v := .int .i64 b) (rd_move rfl) rfl ?_
  refine Wx.rd (v := .int .i64 (max a b)) (rd_max rfl rfl) rfl ?_
  refine Wx.rd (v := .int .i64 (H.length : Int)) (rd_move rfl) rfl ?_
  refine Wx.rd (v := .bool (decide ((max a b) = (H.length : Int)))) (rd_eql rfl rfl) rfl ?_
  refine Wx.nil ?_
  refine W.condD rfl (fun c0 => ?_) (fun c0 => ?_)
  · -- yes
    refine W.seq ?_
    refine W.reg ?_
    refine Wx.rd (v := .int .i64 a) (rd_move rfl) rfl ?_
    refine Wx.rd (v := .int .i64 b) (rd_move rfl) rfl ?_
    refine Wx.rd (v := .bool (decide (a ≠ b))) (rd_neq rfl rfl) rfl ?_
    refine Wx.rd (v := .bool (decide (a ≠ b))) (rd_move rfl) rfl ?_
    refine Wx.cut (X := Unit) 9 [20, 21, 22, 23, 24, 25, 26, 27, 28] (fun _ => [(28, .bool (decide (a ≠ b) && decide (((H.length : Int) - C) ≤ (min a b))))]) (fun _ w' => St w [] w' [.box g_1 24 [.int .i64 R, .int .i64 C, hv]]) ?_ ?_
    · rcases Bool.eq_false_or_eq_true (decide (a ≠ b)) with g_5 | g_5
      · -- True
        have gp_6 := of_decide_eq_true g_5
        refine Wx.gyes rfl rfl (congrArg Value.bool g_5) ?_
        refine Wx.rd (v := .int .i64 a) (rd_move rfl) rfl ?_
        refine Wx.gyes rfl rfl (congrArg Value.bool g_5) ?_
        refine Wx.rd (v := .int .i64 b) (rd_move rfl) rfl ?_
        refine Wx.gyes rfl rfl (congrArg Value.bool g_5) ?_
        refine Wx.rd (v := .int .i64 (min a b)) (rd_min rfl rfl) rfl ?_
        refine Wx.gyes rfl rfl (congrArg Value.bool g_5) ?_
        refine Wx.rd (v := .int .i64 (H.length : Int)) (rd_move rfl) rfl ?_
        refine Wx.gyes rfl rfl (congrArg Value.bool g_5) ?_
        refine Wx.rd (v := .pointer (some ⟨g_1, 1, none⟩)) (rd_fieldAddr rfl foMi_24_1) rfl ?_
        refine Wx.gyes rfl rfl (congrArg Value.bool g_5) ?_
        refine Wx.rd (v := .int .i64 C) (rd_loadX hS 0 rfl rfl rfl Try.isAgg3) rfl ?_
        refine Wx.gyes rfl rfl (congrArg Value.bool g_5) ?_
        refine Wx.rd (v := .int .i64 ((H.length : Int) - C)) (rd_sub rfl rfl (in_i64 (by omega) (by omega))) rfl ?_
        refine Wx.gyes rfl rfl (congrArg Value.bool g_5) ?_
        refine Wx.rd (v := .bool (decide (((H.length : Int) - C) ≤ (min a b)))) (rd_geq rfl rfl) rfl ?_
        refine Wx.rd (v := .bool (decide (((H.length : Int) - C) ≤ (min a b)))) (rd_pickT (congrArg Value.bool g_5) rfl) rfl ?_
        refine Wx.nil ⟨(), hS, ⟨?_, trivial⟩, Out.look rfl Out.refl⟩
        show Value.bool (decide (((H.length : Int) - C) ≤ (min a b))) = Value.bool (decide (a ≠ b) && decide (((H.length : Int) - C) ≤ (min a b)))
        first | rw [g_5, Bool.true_and] | (rw [g_5]; rfl)
      · -- False
        have gp_7 := of_decide_eq_false g_5
        refine Wx.gnoB rfl rfl (congrArg Value.bool g_5) rfl rfl ?_
        refine Wx.gnoB rfl rfl (congrArg Value.bool g_5) rfl rfl ?_
        refine Wx.gnoB rfl rfl (congrArg Value.bool g_5) rfl rfl ?_
        refine Wx.gnoB rfl rfl (congrArg Value.bool g_5) rfl rfl ?_
        refine Wx.gnoB rfl rfl (congrArg Value.bool g_5) rfl rfl ?_
        refine Wx.gnoB rfl rfl (congrArg Value.bool g_5) rfl rfl ?_
        refine Wx.gnoB rfl rfl (congrArg Value.bool g_5) rfl rfl ?_
        refine Wx.gnoB rfl rfl (congrArg Value.bool g_5) rfl rfl ?_
        refine Wx.rd (v := .bool false) (rd_pickF (congrArg Value.bool g_5) rfl) rfl ?_
        refine Wx.nil ⟨(), hS, ⟨?_, trivial⟩, Out.look rfl Out.refl⟩
        show Value.bool false = Value.bool (decide (a ≠ b) && decide (((H.length : Int) - C) ≤ (min a b)))
        first | rw [g_5, Bool.false_and] | (rw [g_5]; rfl)
    rintro ⟨⟩ u_9 w_8 hS
    refine Wx.rd (v := .bool (decide (a ≠ b) && decide (((H.length : Int) - C) ≤ (min a b)))) (rd_assign rfl) rfl ?_
    refine Wx.nil ?_
    have e0_0 : (nearB C H.length a b) = (decide (a ≠ b) && decide (((H.length : Int) - C) ≤ (min a b))) := by rw [nearB, if_pos (by omega)]
    exact W.ret ⟨.bool (decide (a ≠ b) && decide (((H.length : Int) - C) ≤ (min a b))), ResIs.one, hS.bel, (by rw [e0_0])⟩
  · -- no
    refine W.skip ?_
    refine W.seq ?_
    refine W.seq ?_
    refine W.regQ mixedMi_ (by kernel_rfl) ?_
    refine Wx.rd (v := .int .i64 a) (rd_move rfl) rfl ?_
    refine Wx.rd (v := .pointer (some ⟨g_1, 1, none⟩)) (rd_fieldAddr rfl foMi_24_1) rfl ?_
    refine Wx.rd (v := .int .i64 C) (rd_loadX hS 0 rfl rfl rfl Try.isAgg3) rfl ?_
    refine Wx.rd (v := .int .i64 (a / C)) (rd_quo rfl rfl (by omega) (by omega) (in_i64 (by omega) (by omega))) rfl ?_
    refine Wx.rd (v := .int .i64 b) (rd_move rfl) rfl ?_
    refine Wx.rd (v := .pointer (some ⟨g_1, 1, none⟩)) (rd_fieldAddr rfl foMi_24_1) rfl ?_
    refine Wx.rd (v := .int .i64 C) (rd_loadX hS 0 rfl rfl rfl Try.isAgg3) rfl ?_
    refine Wx.rd (v := .int .i64 (b / C)) (rd_quo rfl rfl (by omega) (by omega) (in_i64 (by omega) (by omega))) rfl ?_
    refine Wx.rd (v := .bool (decide ((a / C) = (b / C)))) (rd_eql rfl rfl) rfl ?_
    refine Wx.nilQ (fun w_10 hx_11 => ?_)
    have hS := hS.ext hx_11
    refine W.condD rfl (fun c1 => ?_) (fun c1 => ?_)
    · -- yes
      refine W.seq ?_
      refine W.reg ?_
      refine Wx.rd (v := .int .i64 a) (rd_move rfl) rfl ?_
      refine Wx.rd (v := .int .i64 b) (rd_move rfl) rfl ?_
      refine Wx.rd (v := .int .i64 (a - b)) (rd_sub rfl rfl (in_i64 (by omega) (by omega))) rfl ?_
      refine Wx.rd (v := .int .i64 b) (rd_move rfl) rfl ?_
      refine Wx.rd (v := .int .i64 a) (rd_move rfl) rfl ?_
      refine Wx.rd (v := .int .i64 (b - a)) (rd_sub rfl rfl (in_i64 (by omega) (by omega))) rfl ?_
      refine Wx.rd (v := .int .i64 (max (a - b) (b - a))) (rd_max rfl rfl) rfl ?_
      refine Wx.rd (v := .bool (decide ((max (a - b) (b - a)) = 1))) (rd_eql rfl rfl) rfl ?_
      refine Wx.rd (v := .bool (decide ((max (a - b) (b - a)) = 1))) (rd_assign rfl) rfl ?_
      refine Wx.nil ?_
      have e1_0 : (nearB C H.length a b) = (decide ((max (a - b) (b - a)) = 1)) := by rw [nearB, if_neg (by omega), adjB, if_pos c1]; exact max_dec (by omega)
      exact W.ret ⟨.bool (decide ((max (a - b) (b - a)) = 1)), ResIs.one, hS.bel, (by rw [e1_0])⟩
    · -- no
      refine W.skip ?_
      refine W.seq ?_
      refine W.reg ?_
      refine Wx.rd (v := .int .i64 a) (rd_move rfl) rfl ?_
      refine Wx.rd (v := .int .i64 b) (rd_move rfl) rfl ?_
      refine Wx.rd (v := .int .i64 (a - b)) (rd_sub rfl rfl (in_i64 (by omega) (by omega))) rfl ?_
      refine Wx.rd (v := .int .i64 b) (rd_move rfl) rfl ?_
      refine Wx.rd (v := .int .i64 a) (rd_move rfl) rfl ?_
      refine Wx.rd (v := .int .i64 (b - a)) (rd_sub rfl rfl (in_i64 (by omega) (by omega))) rfl ?_
      refine Wx.rd (v := .int .i64 (max (a - b) (b - a))) (rd_max rfl rfl) rfl ?_
      refine Wx.rd (v := .pointer (some ⟨g_1, 1, none⟩)) (rd_fieldAddr rfl foMi_24_1) rfl ?_
      refine Wx.rd (v := .int .i64 C) (rd_loadX hS 0 rfl rfl rfl Try.isAgg3) rfl ?_
      refine Wx.rd (v := .bool (decide ((max (a - b) (b - a)) = C))) (rd_eql rfl rfl) rfl ?_
      refine Wx.rd (v := .bool (decide ((max (a - b) (b - a)) = C))) (rd_assign rfl) rfl ?_
      refine Wx.nil ?_
      have e2_0 : (nearB C H.length a b) = (decide ((max (a - b) (b - a)) = C)) := by rw [nearB, if_neg (by omega), adjB, if_neg c1]; exact max_dec p_c.1
      exact W.ret ⟨.bool (decide ((max (a - b) (b - a)) = C)), ResIs.one, hS.bel, (by rw [e2_0])⟩
end Go.Proofs.Ytjhimoeodkaihaa

namespace Go.Proofs.Ytjhimoeodkaihaa
open Go.Wk Go.RowKit Go.Lib
set_option linter.unusedVariables false
set_option linter.unusedSimpArgs false
theorem elMq_22 : ElemI Try.prog 22 3 (.int .i64 0) 1 8 := ElemI.of Try.underlying22 (by kernel_rfl) (by first | rfl | kernel_rfl) (by decide)
theorem mixedMq_ : Try.prog.follows .mixedOrders = true := by kernel_rfl

theorem F89 {y : Int} {w : World} (i_y : InK .u64 y) (q1 : 1 ≤ y) (q7 : y ≤ 40) : Calls Try.prog 89 #[.int .u64 1, .int .u64 y] w (Ret w (fun r _ => r = .tuple #[.int .u64 0, .int .u64 y])) := by
  have b_y := bd_u64 i_y
  have hm := and_mask q1 q7
  have hS := St.start0 w
  refine enterR Try.func89 rfl Try.ntmps89 Try.results89 rfl ?_
  refine W.seq ?_
  refine W.reg ?_
  refine Wx.rd (v := .int .u64 0) (rd_assign rfl) rfl ?_
  refine Wx.rd (v := .int .u64 0) (rd_assign rfl) rfl ?_
  refine Wx.nil ?_
  refine W.seq ?_
  refine W.reg ?_
  refine Wx.rd (v := .int .u64 1) (rd_move rfl) rfl ?_
  refine Wx.rd (v := .int .u64 1) (Rd.to (v := .int .u64 (bits .and .u64 1 4294967295)) (rd_and rfl rfl) (congrArg (Value.int .u64) (show (1 : Int) = (bits .and .u64 1 4294967295 : Int) from (by decide +kernel)).symm)) rfl ?_
  have bd_1 := bd_u64 (bits_in .and .u64 1 4294967295)
  refine Wx.rd (v := .int .u64 1) (rd_assign rfl) rfl ?_
  refine Wx.nil ?_
  refine W.seq ?_
  refine W.reg ?_
  refine Wx.rd (v := .int .u64 1) (rd_move rfl) rfl ?_
  refine Wx.rd (v := .int .u64 0) (Rd.to (v := .int .u64 (1 / 2 ^ min (32 : Int).toNat (IntKind.u64).bits)) (rd_shr rfl rfl (by omega)) (congrArg (Value.int .u64) (show (0 : Int) = (1 / 2 ^ min (32 : Int).toNat (IntKind.u64).bits : Int) from (by decide +kernel)).symm)) rfl ?_
  refine Wx.rd (v := .int .u64 0) (rd_assign rfl) rfl ?_
  refine Wx.nil ?_
  refine W.seq ?_
  refine W.reg ?_
  refine Wx.rd (v := .int .u64 y) (rd_move rfl) rfl ?_
  refine Wx.rd (v := .int .u64 y) (Rd.to (v := .int .u64 (bits .and .u64 y 4294967295)) (rd_and rfl rfl) (congrArg (Value.int .u64) (show (y : Int) = (bits .and .u64 y 4294967295 : Int) from hm.1.symm).symm)) rfl ?_
  have bd_2 := bd_u64 (bits_in .and .u64 y 4294967295)
  refine Wx.rd (v := .int .u64 y) (rd_assign rfl) rfl ?_
  refine Wx.nil ?_
  refine W.seq ?_
  refine W.reg ?_
  refine Wx.rd (v := .int .u64 y) (rd_move rfl) rfl ?_
  refine Wx.rd (v := .int .u64 0) (Rd.to (v := .int .u64 (y / 2 ^ min (32 : Int).toNat (IntKind.u64).bits)) (rd_shr rfl rfl (by omega)) (congrArg (Value.int .u64) (show (0 : Int) = (y / 2 ^ min (32 : Int).toNat (IntKind.u64).bits : Int) from hm.2.symm).symm)) rfl ?_
  refine Wx.rd (v := .int .u64 0) (rd_assign rfl) rfl ?_
  refine Wx.nil ?_
  refine W.seq ?_
  refine W.reg ?_
  refine Wx.rd (v := .int .u64 1) (rd_move rfl) rfl ?_
  refine Wx.rd (v := .int .u64 y) (rd_move rfl) rfl ?_
  refine Wx.rd (v := .int .u64 y) (Rd.to (v := .int .u64 (1 * y)) (rd_mul rfl rfl (in_u64 (by omega) (by omega))) (congrArg (Value.int .u64) (show (y : Int) = (1 * y : Int) from (by omega)).symm)) rfl ?_
  refine Wx.rd (v := .int .u64 y) (rd_assign rfl) rfl ?_
  refine Wx.nil ?_
  refine W.seq ?_
  refine W.reg ?_
  refine Wx.rd (v := .int .u64 0) (rd_move rfl) rfl ?_
  refine Wx.rd (v := .int .u64 y) (rd_move rfl) rfl ?_
  refine Wx.rd (v := .int .u64 0) (Rd.to (v := .int .u64 (0 * y)) (rd_mul rfl rfl (in_u64 (by omega) (by omega))) (congrArg (Value.int .u64) (show (0 : Int) = (0 * y : Int) from (by omega)).symm)) rfl ?_
  refine Wx.rd (v := .int .u64 y) (rd_move rfl) rfl ?_
  refine Wx.rd (v := .int .u64 0) (Rd.to (v := .int .u64 (y / 2 ^ min (32 : Int).toNat (IntKind.u64).bits)) (rd_shr rfl rfl (by omega)) (congrArg (Value.int .u64) (show (0 : Int) = (y / 2 ^ min (32 : Int).toNat (IntKind.u64).bits : Int) from hm.2.symm).symm)) rfl ?_
  refine Wx.rd (v := .int .u64 0) (rd_add (a := 0) (b := 0) rfl rfl (in_u64 (by omega) (by omega))) rfl ?_
  refine Wx.rd (v := .int .u64 0) (rd_assign rfl) rfl ?_
  refine Wx.nil ?_
  refine W.seq ?_
  refine W.reg ?_
  refine Wx.rd (v := .int .u64 0) (rd_move rfl) rfl ?_
  refine Wx.rd (v := .int .u64 0) (Rd.to (v := .int .u64 (bits .and .u64 0 4294967295)) (rd_and rfl rfl) (congrArg (Value.int .u64) (show (0 : Int) = (bits .and .u64 0 4294967295 : Int) from (by decide +kernel)).symm)) rfl ?_
  have bd_3 := bd_u64 (bits_in .and .u64 0 4294967295)
  refine Wx.rd (v := .int .u64 0) (rd_assign rfl) rfl ?_
  refine Wx.nil ?_
  refine W.seq ?_
  refine W.reg ?_
  refine Wx.rd (v := .int .u64 0) (rd_move rfl) rfl ?_
  refine Wx.rd (v := .int .u64 0) (Rd.to (v := .int .u64 (0 / 2 ^ min (32 : Int).toNat (IntKind.u64).bits)) (rd_shr rfl rfl (by omega)) (congrArg (Value.int .u64) (show (0 : Int) = (0 / 2 ^ min (32 : Int).toNat (IntKind.u64).bits : Int) from (by decide +kernel)).symm)) rfl ?_
  refine Wx.rd (v := .int .u64 0) (rd_assign rfl) rfl ?_
  refine Wx.nil ?_
  refine W.seq ?_
  refine W.reg ?_
  refine Wx.rd (v := .int .u64 0) (rd_move rfl) rfl ?_
  refine Wx.rd (v := .int .u64 1) (rd_move rfl) rfl ?_
  refine Wx.rd (v := .int .u64 0) (rd_move rfl) rfl ?_
  refine Wx.rd (v := .int .u64 0) (rd_mul (a := 1) (b := 0) rfl rfl (in_u64 (by omega) (by omega))) rfl ?_
  refine Wx.rd (v := .int .u64 0) (rd_add (a := 0) (b := 0) rfl rfl (in_u64 (by omega) (by omega))) rfl ?_
  refine Wx.rd (v := .int .u64 0) (rd_assign rfl) rfl ?_
  refine Wx.nil ?_
  refine W.seq ?_
  refine W.reg ?_
  refine Wx.rd (v := .int .u64 0) (rd_move rfl) rfl ?_
  refine Wx.rd (v := .int .u64 0) (rd_move rfl) rfl ?_
  refine Wx.rd (v := .int .u64 0) (rd_mul (a := 0) (b := 0) rfl rfl (in_u64 (by omega) (by omega))) rfl ?_
  refine Wx.rd (v := .int .u64 0) (rd_move rfl) rfl ?_
  refine Wx.rd (v := .int .u64 0) (rd_add (a := 0) (b := 0) rfl rfl (in_u64 (by omega) (by omega))) rfl ?_
  refine Wx.rd (v := .int .u64 0) (rd_move rfl) rfl ?_
  refine Wx.rd (v := .int .u64 0) (Rd.to (v := .int .u64 (0 / 2 ^ min (32 : Int).toNat (IntKind.u64).bits)) (rd_shr rfl rfl (by omega)) (congrArg (Value.int .u64) (show (0 : Int) = (0 / 2 ^ min (32 : Int).toNat (IntKind.u64).bits : Int) from (by decide +kernel)).symm)) rfl ?_
  refine Wx.rd (v := .int .u64 0) (rd_add (a := 0) (b := 0) rfl rfl (in_u64 (by omega) (by omega))) rfl ?_
  refine Wx.rd (v := .int .u64 0) (rd_assign rfl) rfl ?_
  refine Wx.nil ?_
  refine W.seq ?_
  refine W.reg ?_
  refine Wx.rd (v := .int .u64 1) (rd_move rfl) rfl ?_
  refine Wx.rd (v := .int .u64 y) (rd_move rfl) rfl ?_
  refine Wx.rd (v := .int .u64 y) (Rd.to (v := .int .u64 (1 * y)) (rd_mul rfl rfl (in_u64 (by omega) (by omega))) (congrArg (Value.int .u64) (show (y : Int) = (1 * y : Int) from (by omega)).symm)) rfl ?_
  refine Wx.rd (v := .int .u64 y) (rd_assign rfl) rfl ?_
  refine Wx.nil ?_
  exact W.ret ⟨.tuple #[.int .u64 0, .int .u64 y], ResIs.two, hS.bel, rfl⟩

theorem F83 {y : Int} {w : World} (i_y : InK .u64 y) (q1 : 1 ≤ y) (q7 : y ≤ 40) : Calls Try.prog 83 #[.int .u64 1, .int .u64 y] w (Ret w (fun r _ => r = .tuple #[.int .u64 0, .int .u64 y])) := by
  have b_y := bd_u64 i_y
  have hS := St.start0 w
  refine enterR Try.func83 rfl Try.ntmps83 Try.results83 rfl ?_
  refine W.seq ?_
  refine W.reg ?_
  refine Wx.rd (v := .int .u64 0) (rd_assign rfl) rfl ?_
  refine Wx.rd (v := .int .u64 0) (rd_assign rfl) rfl ?_
  refine Wx.nil ?_
  refine W.seq ?_
  refine W.condF rfl rfl ?_
  refine W.skip ?_
  refine W.seq ?_
  refine W.reg ?_
  refine Wx.rd (v := .int .u64 1) (rd_move rfl) rfl ?_
  refine Wx.rd (v := .int .u64 y) (rd_move rfl) rfl ?_
  refine Wx.callF (run_callF Try.call89 rfl) (F89 i_y (by omega) (by omega)) rfl ?_
  rintro r_1 w_2 hx_3 rfl
  have hS := hS.ext hx_3
  refine Wx.rd (v := .tuple #[.int .u64 0, .int .u64 y]) (rd_move rfl) rfl ?_
  refine Wx.rd (v := .int .u64 0) (rd_extract rfl rfl) rfl ?_
  refine Wx.rd (v := .int .u64 y) (rd_extract rfl rfl) rfl ?_
  refine Wx.rd (v := .int .u64 0) (rd_assign rfl) rfl ?_
  refine Wx.rd (v := .int .u64 y) (rd_assign rfl) rfl ?_
  refine Wx.nil ?_
  refine W.seq ?_
  refine W.reg ?_
  refine Wx.rd (v := .int .u64 0) (rd_move rfl) rfl ?_
  refine Wx.rd (v := .int .u64 y) (rd_move rfl) rfl ?_
  refine Wx.rd (v := .int .u64 0) (rd_assign rfl) rfl ?_
  refine Wx.rd (v := .int .u64 y) (rd_assign rfl) rfl ?_
  refine Wx.nil ?_
  exact W.ret ⟨.tuple #[.int .u64 0, .int .u64 y], ResIs.two, hS.bel, rfl⟩

theorem F51 {xv : Value} {Fr_xv : List (Option Nat)} {n : Int} {a : Int} {w : World} (h_xv : V (tSl (tI .i64)) [a] xv Fr_xv w) (i_n : InK .i64 n) (q1 : 1 ≤ n) (q7 : n ≤ 40) : Calls Try.prog 51 #[xv, .int .i64 n] w (Ret w (fun r w' => ∃ rv, r = rv ∧ Fresh (tI .i64) 3 (List.replicate n.toNat a) rv w.heap.size w')) := by
  have b_n := bd_i64 i_n
  have a_xv := h_xv.any
  have l_xv := h_xv.len63
  have hS := St.start0 w
  refine enterR Try.func51 rfl Try.ntmps51 Try.results51 rfl ?_
  refine W.seq ?_
  refine W.reg ?_
  refine Wx.rd (v := (.slice none 0 0)) (rd_assign rfl) rfl ?_
  refine Wx.nil ?_
  refine W.seq ?_
  refine W.seq ?_
  refine W.reg ?_
  refine Wx.rd (v := .int .i64 n) (rd_move rfl) rfl ?_
  refine Wx.rd (v := .bool (decide (n < 0))) (rd_lss rfl rfl) rfl ?_
  refine Wx.nil ?_
  refine W.condF rfl (decide_eq_false (by omega)) ?_
  refine W.skip ?_
  refine W.seq ?_
  refine W.reg ?_
  refine Wx.rd (v := xv) (rd_move rfl) rfl ?_
  refine Wx.rd (v := .int .i64 1) (Rd.to (v := .int .i64 ([a].length : Int)) (rd_lenV rfl (hS.arg a_xv) Try.underlying22) (congrArg (Value.int .i64) (show (1 : Int) = (([a].length : Int) : Int) from rfl).symm)) rfl ?_
  refine Wx.rd (v := .int .u64 1) (rd_convIn rfl Try.underlying3 Try.underlying107 (in_u64 (by omega) (by omega))) rfl ?_
  refine Wx.rd (v := .int .i64 n) (rd_move rfl) rfl ?_
  refine Wx.rd (v := .int .u64 n) (rd_convIn rfl Try.underlying3 Try.underlying107 (in_u64 (by omega) (by omega))) rfl ?_
  refine Wx.callF (run_callF Try.call83 rfl) (F83 (in_u64 (by omega) (by omega)) (by omega) (by omega)) rfl ?_
  rintro r_1 w_2 hx_3 rfl
  have hS := hS.ext hx_3
  refine Wx.rd (v := .tuple #[.int .u64 0, .int .u64 n]) (rd_move rfl) rfl ?_
  refine Wx.rd (v := .int .u64 0) (rd_extract rfl rfl) rfl ?_
  refine Wx.rd (v := .int .u64 n) (rd_extract rfl rfl) rfl ?_
  refine Wx.rd (v := .int .u64 0) (rd_assign rfl) rfl ?_
  refine Wx.rd (v := .int .u64 n) (rd_assign rfl) rfl ?_
  refine Wx.nil ?_
  refine W.seq ?_
  refine W.seq ?_
  refine W.reg ?_
  refine Wx.rd (v := .int .u64 0) (rd_move rfl) rfl ?_
  refine Wx.rd (v := .bool false) (Rd.to (v := .bool (decide ((0 : Int) < 0))) (rd_gtr rfl rfl) rfl) rfl ?_
  refine Wx.rd (v := .bool false) (rd_move rfl) rfl ?_
  refine Wx.gyes rfl rfl rfl ?_
  refine Wx.rd (v := .int .u64 n) (rd_move rfl) rfl ?_
  refine Wx.gyes rfl rfl rfl ?_
  refine Wx.rd (v := .bool (decide (9223372036854775807 < n))) (rd_gtr rfl rfl) rfl ?_
  refine Wx.rd (v := .bool (decide (9223372036854775807 < n))) (rd_pickF rfl rfl) rfl ?_
  refine Wx.nil ?_
  refine W.condF rfl (by simp; omega) ?_
  refine W.skip ?_
  refine W.seq ?_
  refine W.reg ?_
  refine Wx.rd (v := .int .u64 n) (rd_move rfl) rfl ?_
  refine Wx.rd (v := .int .i64 n) (rd_convIn rfl Try.underlying107 Try.underlying3 (in_i64 (by omega) (by omega))) rfl ?_
  refine Wx.make (t := (tI .i64)) (zy := 0) (m := n.toNat) elMq_22 rfl rfl (fun _ _ => ⟨rfl, by decide, by decide⟩) hS (congrArg (Value.int .i64) (by omega)) (congrArg (Value.int .i64) (by omega)) (by omega) (by simp only [maxLen]; omega) rfl (fun v_4 w_5 hx_6 hS => ?_)
  refine Wx.rd (v := v_4) (rd_assign rfl) rfl ?_
  refine Wx.nil ?_
  refine W.seq ?_
  refine W.reg ?_
  refine Wx.rd (v := v_4) (rd_move rfl) rfl ?_
  refine Wx.rd (v := xv) (rd_move rfl) rfl ?_
  have hrl : (List.replicate n.toNat (0 : Int)).length = n.toNat := by simp
  refine Wx.copyW (c := 1) (yn := List.replicate 1 a ++ List.replicate (n.toNat - 1) 0) rfl Try.underlying22 Try.sizeOf3 hS 0 rfl rfl (by simp; omega) rfl (Src.ofV (hS.arg a_xv)) rfl (by simp; omega) (rep_first (by omega)) (fun w_9 hz_10 hS => ?_)
  refine Wx.rd (v := .int .i64 1) (rd_assign rfl) rfl ?_
  refine Wx.nil ?_
  refine W.seq ?_
  refine W.block ?_
  refine W.loop [8, 34, 35, 36, 37, 38, 39, 40, 41, 42, 43, 44, 45, 46] (fun x : Int × (List Int) => match x with | (b, out) => [(8, .int .i64 b)]) (fun (x : Int × (List Int)) w' => match x with | (b, out) => St w [] w' [.row (tI .i64) 3 v_4 out] ∧ 1 ≤ b ∧ b ≤ n ∧ out = List.replicate b.toNat a ++ List.replicate (n.toNat - b.toNat) 0 ∧ (out.length : Int) = n) (fun x : Int × (List Int) => match x with | (b, out) => (n - b).toNat) (1, List.replicate 1 a ++ List.replicate (n.toNat - 1) 0) ⟨rfl, trivial⟩ ⟨hS, (by first | omega | simp), (by first | omega | simp), (rfl), (by simp; omega)⟩ ?_
  rintro ⟨b, out⟩ u_12 w_11 ⟨hS, h0, h1, h2, h3⟩
  refine W.seq ?_
  refine W.seq ?_
  refine W.reg ?_
  refine Wx.rd (v := .int .i64 b) (rd_move rfl) rfl ?_
  refine Wx.rd (v := v_4) (rd_move rfl) rfl ?_
  refine Wx.rd (v := .int .i64 (out.length : Int)) (rd_lenR hS 0 rfl rfl Try.underlying22) rfl ?_
  refine Wx.rd (v := .bool (decide (b < (out.length : Int)))) (rd_lss rfl rfl) rfl ?_
  refine Wx.nil ?_
  refine W.condD rfl (fun c2 => ?_) (fun c2 => ?_)
  · -- yes
    refine W.skip ?_
    refine W.block ?_
    refine W.regP mixedMq_ (fun w_13 hx_14 => ?_)
    have hS := hS.ext hx_14
    refine Wp.rd (v := .int .i64 b) 0 rfl (by kernel_rfl) (fun _ => (rd_move rfl)) rfl ?_
    refine Wp.rd (v := v_4) 1 rfl (by kernel_rfl) (fun _ => (rd_move rfl)) rfl ?_
    refine Wp.rd (v := .int .i64 b) 2 rfl (by kernel_rfl) (fun _ => (rd_move rfl)) rfl ?_
    refine Wp.ex2 3 rfl (by kernel_rfl) (rd_tailR hS 0 rfl Try.underlying22 Try.sizeOf3 rfl rfl (by omega) (by omega)) rfl (fun g_15 c_16 hg_17 => ?_)
    refine Wp.rd (v := v_4) 4 rfl (by kernel_rfl) (fun _ => (rd_move rfl)) rfl ?_
    refine Wp.rd (v := .int .i64 b) 5 rfl (by kernel_rfl) (fun _ => (rd_move rfl)) rfl ?_
    refine Wp.ex2 6 rfl (by kernel_rfl) (rd_headR hS 0 rfl Try.underlying22 Try.sizeOf3 rfl rfl (by omega) (by omega)) rfl (fun g_18 c_19 hg_20 => ?_)
    refine Wp.br [7] (by kernel_rfl) (by decide) ⟨⟨_, rfl, ?_⟩, trivial⟩
    refine Wx.copyR (c := min (b + b) n - b) (yn := List.replicate (min (b + b) n).toNat a ++ List.replicate (n.toNat - (min (b + b) n).toNat) 0) rfl Try.underlying22 Try.sizeOf3 hS 0 rfl hg_17 rfl (by show b.toNat * 1 + (out.length - b.toNat) ≤ out.length; omega) rfl (Src.headR hS 0 rfl hg_20 (by omega)) rfl (by rw [List.length_take, Nat.min_eq_left (show b.toNat ≤ out.length by omega), Nat.min_def, Int.min_def]; split <;> split <;> omega) (by rw [h2]; exact rep_next (by omega) (by omega)) (fun w_21 hz_22 hS => ?_)
    refine Wx.nil ?_
    refine Wp.rd (v := .int .i64 (b + (min (b + b) n - b))) 8 rfl (by kernel_rfl) (fun _ => (rd_add rfl rfl (in_i64 (by omega) (by omega)))) rfl ?_
    refine Wp.rd (v := .int .i64 (b + (min (b + b) n - b))) 9 rfl (by kernel_rfl) (fun _ => (rd_assign rfl)) rfl ?_
    refine Wp.done (by kernel_rfl) ?_
    refine ⟨(b + (min (b + b) n - b), List.replicate (min (b + b) n).toNat a ++ List.replicate (n.toNat - (min (b + b) n).toNat) 0), (by show (n - (b + (min (b + b) n - b))).toNat < (n - b).toNat; omega), ?_, ?_, Out.look rfl Out.self⟩
    · exact ⟨hS, (by first | omega | assumption), (by first | omega | assumption), (by rw [show b + (min (b + b) n - b) = min (b + b) n by omega]), (by simp; omega)⟩
    · exact ⟨rfl, trivial⟩
  · -- no
    refine W.exit rfl ?_
    refine W.seq ?_
    refine W.reg ?_
    refine Wx.rd (v := v_4) (rd_move rfl) rfl ?_
    refine Wx.rd (v := v_4) (rd_assign rfl) rfl ?_
    refine Wx.nil ?_
    have e0_0 : List.replicate n.toNat a = out := by rw [h2, show n.toNat - b.toNat = 0 by omega, show b = n by omega]; simp
    exact W.ret ⟨v_4, ResIs.one, hS.bel, ⟨v_4, rfl, (by rw [e0_0]; exact (hS.fr 0 rfl flat_int))⟩⟩

end Go.Proofs.Ytjhimoeodkaihaa

namespace Go.Proofs.Ytjhimoeodkaihaa
open Go.Wk Go.RowKit Go.Lib
set_option linter.unusedVariables false
set_option linter.unusedSimpArgs false
theorem foMs_24_2 : fldOff Try.prog 24 2 = some 2 := by kernel_rfl
theorem mixedMs_ : Try.prog.follows .mixedOrders = true := by kernel_rfl
theorem elMs_22 : ElemI Try.prog 22 3 (.int .i64 0) 1 8 := ElemI.of Try.underlying22 (by kernel_rfl) (by first | rfl | kernel_rfl) (by decide)

set_option maxHeartbeats 8000000 in
set_option maxRecDepth 10000 in
theorem F13 {zs : List Int} {one : Int} {O : List (Option Nat)} {w : World} (n_zs : zs.length = 38) (i_zs : ∀ z ∈ zs, InK .u8 z) (i_one : InK .u8 one) (hO : ∀ b, some b ∈ O → b < w.heap.size) : Calls Try.prog 13 #[.agg (List.map (Value.int .u8) zs).toArray, .int .u8 one] w (Ret w (fun r _ => r = .bool true)) := by
  have b_one := bd_u8 i_one
  have p_ok := sd_ok (most := 6) (by decide) (by decide) n_zs
  obtain ⟨⟨r1, r2⟩, ⟨c1_, c2_⟩, hRC, ⟨n1, n36⟩, hCn, hok⟩ := id p_ok
  have hp0 := Int.emod_nonneg one (show ((sdH 6 zs).length : Int) ≠ 0 by omega)
  have hp1 := Int.emod_lt_of_pos one (show 0 < ((sdH 6 zs).length : Int) by omega)
  have hp : 0 ≤ (one % ((sdH 6 zs).length : Int)) ∧ (one % ((sdH 6 zs).length : Int)) < ((sdH 6 zs).length : Int) := ⟨hp0, hp1⟩
  have hsl := sills_len p_ok
  have hwl := way_len p_ok hp
  have hsp := p_ok.sill hp0 hp1
  have hap := p_ok.at hp0 hp1
  have hbl := basin_len (C := sdC 6 zs) (H := sdH 6 zs) (p := (one % ((sdH 6 zs).length : Int)))
  have hS := St.start w O hO
  refine enterR Try.func13 rfl Try.ntmps13 Try.results13 rfl ?_
  refine W.seq ?_
  refine W.reg ?_
  refine Wx.box (cs := List.map (Value.int .u8) zs) hS rfl rfl rfl (fun g_1 w_2 hx_4 hb_3 hS => ?_)
  refine Wx.rd (v := .bool false) (rd_assign rfl) rfl ?_
  refine Wx.nil ?_
  refine W.seq ?_
  refine W.reg ?_
  refine Wx.rd (v := .agg (List.map (Value.int .u8) zs).toArray) (rd_loadXs (ds := List.map (Value.int .u8) zs) hS 0 rfl rfl (by rw [List.drop_zero, List.take_of_length_le (by simp; omega)]) (by simp; omega) Try.isAgg60 Try.sizeOf60) rfl ?_
  refine Wx.callF (run_callF Try.call42 rfl) (F42 n_zs i_zs (in_i64 (by omega) (by omega)) (by omega) (by omega) hS.fb_lt) rfl ?_
  rintro r_5 w_6 hx_7 ⟨v_8, rfl, hv_9⟩
  have hS := hS.pushFr hx_7 hv_9
  refine Wx.alloc (cs := [.int .i64 0, .int .i64 0, (.slice none 0 0)]) hS Try.zeroValue24 rfl rfl (fun g_11 w_12 hx_14 hb_13 hS => ?_)
  have hS := hS.freeze 1 rfl
  refine Wx.storeX (cs' := [.int .i64 (sdR 6 zs), .int .i64 (sdC 6 zs), v_8]) (ds := [.int .i64 (sdR 6 zs), .int .i64 (sdC 6 zs), v_8]) hS 1 rfl rfl rfl rfl Try.sizeOf24 (Nat.le_of_ble_eq_true rfl) (one_cons rfl (one_cons rfl (one_cons (V.oneC (hS.v 0 rfl)) one_nil))) rfl (fun w_16 hz_17 hS => ?_)
  refine Wx.nil ?_
  refine W.seq ?_
  refine W.reg ?_
  refine Wx.rd (v := .pointer (some ⟨g_11, 2, none⟩)) (rd_fieldAddr rfl foMs_24_2) rfl ?_
  refine Wx.rd (v := v_8) (rd_loadX hS 1 rfl rfl rfl Try.isAgg22) rfl ?_
  refine Wx.rd (v := .int .i64 ((sdH 6 zs).length : Int)) (rd_lenV rfl (hS.v 0 rfl) Try.underlying22) rfl ?_
  refine Wx.rd (v := .int .i64 ((sdH 6 zs).length : Int)) (rd_assign rfl) rfl ?_
  refine Wx.nil ?_
  refine W.seq ?_
  refine W.reg ?_
  refine Wx.rd (v := .int .u8 one) (rd_move rfl) rfl ?_
  refine Wx.rd (v := .int .i64 one) (rd_convIn rfl Try.underlying5 Try.underlying3 (in_i64 (by omega) (by omega))) rfl ?_
  refine Wx.rd (v := .int .i64 ((sdH 6 zs).length : Int)) (rd_move rfl) rfl ?_
  refine Wx.rd (v := .int .i64 (one % ((sdH 6 zs).length : Int))) (rd_rem rfl rfl (by omega) (by omega)) rfl ?_
  refine Wx.rd (v := .int .i64 (one % ((sdH 6 zs).length : Int))) (rd_assign rfl) rfl ?_
  refine Wx.nil ?_
  refine W.seq ?_
  refine W.reg ?_
  refine Wx.rd (v := .agg #[.int .i64 (sdR 6 zs), .int .i64 (sdC 6 zs), v_8]) (rd_loadXs (ds := [.int .i64 (sdR 6 zs), .int .i64 (sdC 6 zs), v_8]) hS 1 rfl rfl rfl rfl Try.isAgg24 Try.sizeOf24) rfl ?_
  refine Wx.callF (run_callF Try.call17 rfl) (F17 (in_i64 (by omega) (by omega)) (in_i64 (by omega) (by omega)) (hS.v 0 rfl) hS.fb_lt) rfl ?_
  rintro r_18 w_19 hx_20 ⟨v_21, rfl, hv_22⟩
  have hS := hS.pushFr hx_20 hv_22
  refine Wx.rd (v := .tuple #[v_21, .int .i64 (checkS (sdR 6 zs) (sdC 6 zs) (sdH 6 zs))]) (rd_move rfl) rfl ?_
  refine Wx.rd (v := v_21) (rd_extract rfl rfl) rfl ?_
  refine Wx.rd (v := .int .i64 (checkS (sdR 6 zs) (sdC 6 zs) (sdH 6 zs))) (rd_extract rfl rfl) rfl ?_
  refine Wx.rd (v := v_21) (rd_assign rfl) rfl ?_
  refine Wx.rd (v := .int .i64 0) (Rd.to (v := .int .i64 (checkS (sdR 6 zs) (sdC 6 zs) (sdH 6 zs))) (rd_assign rfl) (congrArg (Value.int .i64) (show (0 : Int) = (checkS (sdR 6 zs) (sdC 6 zs) (sdH 6 zs) : Int) from p_ok.chk.symm).symm)) rfl ?_
  refine Wx.nil ?_
  refine W.seq ?_
  refine W.reg ?_
  refine Wx.rd (v := .agg #[.int .i64 (sdR 6 zs), .int .i64 (sdC 6 zs), v_8]) (rd_loadXs (ds := [.int .i64 (sdR 6 zs), .int .i64 (sdC 6 zs), v_8]) hS 2 rfl rfl rfl rfl Try.isAgg24 Try.sizeOf24) rfl ?_
  refine Wx.rd (v := .int .i64 (one % ((sdH 6 zs).length : Int))) (rd_move rfl) rfl ?_
  refine Wx.callF (run_callF Try.call31 rfl) (F31 (in_i64 (by omega) (by omega)) (in_i64 (by omega) (by omega)) (hS.v 1 rfl) (in_i64 (by omega) (by omega)) hS.fb_lt) rfl ?_
  rintro r_24 w_25 hx_26 ⟨v_27, rfl, hv_28⟩
  have hS := hS.pushFr hx_26 hv_28
  refine Wx.rd (v := .tuple #[v_27, .int .i64 (atE (sdR 6 zs) (sdC 6 zs) (sdH 6 zs) (one % ((sdH 6 zs).length : Int)))]) (rd_move rfl) rfl ?_
  refine Wx.rd (v := v_27) (rd_extract rfl rfl) rfl ?_
  refine Wx.rd (v := .int .i64 (atE (sdR 6 zs) (sdC 6 zs) (sdH 6 zs) (one % ((sdH 6 zs).length : Int)))) (rd_extract rfl rfl) rfl ?_
  refine Wx.rd (v := v_27) (rd_assign rfl) rfl ?_
  refine Wx.rd (v := .int .i64 0) (Rd.to (v := .int .i64 (atE (sdR 6 zs) (sdC 6 zs) (sdH 6 zs) (one % ((sdH 6 zs).length : Int)))) (rd_assign rfl) (congrArg (Value.int .i64) (show (0 : Int) = (atE (sdR 6 zs) (sdC 6 zs) (sdH 6 zs) (one % ((sdH 6 zs).length : Int)) : Int) from (at_zero p_ok hp).symm).symm)) rfl ?_
  refine Wx.nil ?_
  refine W.seq ?_
  refine W.reg ?_
  refine Wx.rd (v := .agg #[.int .i64 (sdR 6 zs), .int .i64 (sdC 6 zs), v_8]) (rd_loadXs (ds := [.int .i64 (sdR 6 zs), .int .i64 (sdC 6 zs), v_8]) hS 3 rfl rfl rfl rfl Try.isAgg24 Try.sizeOf24) rfl ?_
  refine Wx.rd (v := .int .i64 (one % ((sdH 6 zs).length : Int))) (rd_move rfl) rfl ?_
  refine Wx.callF (run_callF Try.call33 rfl) (F33 (in_i64 (by omega) (by omega)) (in_i64 (by omega) (by omega)) (hS.v 2 rfl) (in_i64 (by omega) (by omega)) hS.fb_lt) rfl ?_
  rintro r_30 w_31 hx_32 ⟨v_33, rfl, hv_34⟩
  have hS := hS.pushFr hx_32 hv_34
  refine Wx.rd (v := .tuple #[v_33, .int .i64 (atE (sdR 6 zs) (sdC 6 zs) (sdH 6 zs) (one % ((sdH 6 zs).length : Int)))]) (rd_move rfl) rfl ?_
  refine Wx.rd (v := v_33) (rd_extract rfl rfl) rfl ?_
  refine Wx.rd (v := .int .i64 (atE (sdR 6 zs) (sdC 6 zs) (sdH 6 zs) (one % ((sdH 6 zs).length : Int)))) (rd_extract rfl rfl) rfl ?_
  refine Wx.rd (v := v_33) (rd_assign rfl) rfl ?_
  refine Wx.rd (v := .int .i64 0) (Rd.to (v := .int .i64 (atE (sdR 6 zs) (sdC 6 zs) (sdH 6 zs) (one % ((sdH 6 zs).length : Int)))) (rd_assign rfl) (congrArg (Value.int .i64) (show (0 : Int) = (atE (sdR 6 zs) (sdC 6 zs) (sdH 6 zs) (one % ((sdH 6 zs).length : Int)) : Int) from (at_zero p_ok hp).symm).symm)) rfl ?_
  refine Wx.nil ?_
  refine W.seq ?_
  refine W.seq ?_
  refine W.reg ?_
  refine Wx.rd (v := .int .i64 0) (rd_move rfl) rfl ?_
  have hsay : wayE (sdR 6 zs) (sdC 6 zs) (sdH 6 zs) (one % ((sdH 6 zs).length : Int)) = (wayP (sdC 6 zs) (sdH 6 zs) (one % ((sdH 6 zs).length : Int))) := way_is p_ok hp
  rw [hsay] at hS
  have hsay : basinE (sdR 6 zs) (sdC 6 zs) (sdH 6 zs) (one % ((sdH 6 zs).length : Int)) = (basinV (sdC 6 zs) (sdH 6 zs) (one % ((sdH 6 zs).length : Int))) := basin_is p_ok hp
  rw [hsay] at hS
  refine Wx.rd (v := .bool false) (Rd.to (v := .bool (decide ((0 : Int) ≠ 0))) (rd_neq rfl rfl) rfl) rfl ?_
  refine Wx.rd (v := .bool false) (rd_move rfl) rfl ?_
  refine Wx.gyes rfl rfl rfl ?_
  refine Wx.rd (v := .int .i64 0) (rd_move rfl) rfl ?_
  refine Wx.gyes rfl rfl rfl ?_
  refine Wx.rd (v := .bool false) (Rd.to (v := .bool (decide ((0 : Int) ≠ 0))) (rd_neq rfl rfl) rfl) rfl ?_
  refine Wx.rd (v := .bool false) (rd_pickF rfl rfl) rfl ?_
  refine Wx.rd (v := .bool false) (rd_move rfl) rfl ?_
  refine Wx.gyes rfl rfl rfl ?_
  refine Wx.rd (v := .int .i64 0) (rd_move rfl) rfl ?_
  refine Wx.gyes rfl rfl rfl ?_
  refine Wx.rd (v := .bool false) (Rd.to (v := .bool (decide ((0 : Int) ≠ 0))) (rd_neq rfl rfl) rfl) rfl ?_
  refine Wx.rd (v := .bool false) (rd_pickF rfl rfl) rfl ?_
  refine Wx.rd (v := .bool false) (rd_move rfl) rfl ?_
  refine Wx.gyes rfl rfl rfl ?_
  refine Wx.rd (v := v_21) (rd_move rfl) rfl ?_
  refine Wx.gyes rfl rfl rfl ?_
  refine Wx.rd (v := .int .i64 ((sillsE (sdR 6 zs) (sdC 6 zs) (sdH 6 zs)).length : Int)) (rd_lenR hS 2 rfl rfl Try.underlying22) rfl ?_
  refine Wx.gyes rfl rfl rfl ?_
  refine Wx.rd (v := .int .i64 ((sdH 6 zs).length : Int)) (rd_move rfl) rfl ?_
  refine Wx.gyes rfl rfl rfl ?_
  refine Wx.rd (v := .bool false) (Rd.to (v := .bool (decide (((sillsE (sdR 6 zs) (sdC 6 zs) (sdH 6 zs)).length : Int) ≠ ((sdH 6 zs).length : Int)))) (rd_neq rfl rfl) (congrArg (Value.bool) (show (false : Bool) = (decide (((sillsE (sdR 6 zs) (sdC 6 zs) (sdH 6 zs)).length : Int) ≠ ((sdH 6 zs).length : Int)) : Bool) from (decide_eq_false (fun z => z hsl)).symm).symm)) rfl ?_
  refine Wx.rd (v := .bool false) (rd_pickF rfl rfl) rfl ?_
  refine Wx.rd (v := .bool false) (rd_move rfl) rfl ?_
  refine Wx.gyes rfl rfl rfl ?_
  refine Wx.rd (v := v_27) (rd_move rfl) rfl ?_
  refine Wx.gyes rfl rfl rfl ?_
  refine Wx.rd (v := .int .i64 ((wayP (sdC 6 zs) (sdH 6 zs) (one % ((sdH 6 zs).length : Int))).length : Int)) (rd_lenR hS 1 rfl rfl Try.underlying22) rfl ?_
  refine Wx.gyes rfl rfl rfl ?_
  refine Wx.rd (v := .bool false) (Rd.to (v := .bool (decide (((wayP (sdC 6 zs) (sdH 6 zs) (one % ((sdH 6 zs).length : Int))).length : Int) = 0))) (rd_eql rfl rfl) (congrArg (Value.bool) (show (false : Bool) = (decide (((wayP (sdC 6 zs) (sdH 6 zs) (one % ((sdH 6 zs).length : Int))).length : Int) = 0) : Bool) from (decide_eq_false (by omega)).symm).symm)) rfl ?_
  refine Wx.rd (v := .bool false) (rd_pickF rfl rfl) rfl ?_
  refine Wx.rd (v := .bool false) (rd_move rfl) rfl ?_
  refine Wx.gyes rfl rfl rfl ?_
  refine Wx.rd (v := v_27) (rd_move rfl) rfl ?_
  refine Wx.gyes rfl rfl rfl ?_
  refine Wx.rd (v := .int .i64 ((wayP (sdC 6 zs) (sdH 6 zs) (one % ((sdH 6 zs).length : Int))).length : Int)) (rd_lenR hS 1 rfl rfl Try.underlying22) rfl ?_
  refine Wx.gyes rfl rfl rfl ?_
  refine Wx.rd (v := .int .i64 ((sdH 6 zs).length : Int)) (rd_move rfl) rfl ?_
  refine Wx.gyes rfl rfl rfl ?_
  refine Wx.rd (v := .bool false) (Rd.to (v := .bool (decide (((sdH 6 zs).length : Int) < ((wayP (sdC 6 zs) (sdH 6 zs) (one % ((sdH 6 zs).length : Int))).length : Int)))) (rd_gtr rfl rfl) (congrArg (Value.bool) (show (false : Bool) = (decide (((sdH 6 zs).length : Int) < ((wayP (sdC 6 zs) (sdH 6 zs) (one % ((sdH 6 zs).length : Int))).length : Int)) : Bool) from (decide_eq_false (by omega)).symm).symm)) rfl ?_
  refine Wx.rd (v := .bool false) (rd_pickF rfl rfl) rfl ?_
  refine Wx.rd (v := .bool false) (rd_move rfl) rfl ?_
  refine Wx.gyes rfl rfl rfl ?_
  refine Wx.rd (v := v_27) (rd_move rfl) rfl ?_
  refine Wx.gyes rfl rfl rfl ?_
  refine Wx.indexR hS 1 rfl rfl rfl Try.underlying22 Try.sizeOf3 (by first | omega | (simp only [List.length_set, List.length_append, List.length_cons, List.length_nil, List.length_replicate]; omega)) (by first | omega | (simp only [List.length_set, List.length_append, List.length_cons, List.length_nil, List.length_replicate]; omega)) rfl (fun g_36 hg_37 => ?_)
  refine Wx.gyes rfl rfl rfl ?_
  refine Wx.rd (v := .int .i64 (one % ((sdH 6 zs).length : Int))) (Rd.to (v := .int .i64 (ix 0 (wayP (sdC 6 zs) (sdH 6 zs) (one % ((sdH 6 zs).length : Int))) 0)) (rd_loadRI' hS 1 rfl hg_37 rfl (by first | omega | (simp only [List.length_set, List.length_append, List.length_cons, List.length_nil, List.length_replicate]; omega)) (by first | omega | (simp only [List.length_set, List.length_append, List.length_cons, List.length_nil, List.length_replicate]; omega)) Try.isAgg3 Try.sizeOf3) (congrArg (Value.int .i64) (show ((one % ((sdH 6 zs).length : Int)) : Int) = (ix 0 (wayP (sdC 6 zs) (sdH 6 zs) (one % ((sdH 6 zs).length : Int))) 0 : Int) from rfl).symm)) rfl ?_
  have bd_38 := bd_i64 (hS.rowInK' 1 rfl (by first | omega | (simp only [List.length_set, List.length_append, List.length_cons, List.length_nil, List.length_replicate]; omega)) (by first | omega | (simp only [List.length_set, List.length_append, List.length_cons, List.length_nil, List.length_replicate]; omega)) : InK .i64 (ix 0 (wayP (sdC 6 zs) (sdH 6 zs) (one % ((sdH 6 zs).length : Int))) 0))
  refine Wx.gyes rfl rfl rfl ?_
  refine Wx.rd (v := .int .i64 (one % ((sdH 6 zs).length : Int))) (rd_move rfl) rfl ?_
  refine Wx.gyes rfl rfl rfl ?_
  refine Wx.rd (v := .bool false) (Rd.to (v := .bool (decide ((one % ((sdH 6 zs).length : Int)) ≠ (one % ((sdH 6 zs).length : Int))))) (rd_neq rfl rfl) (congrArg (Value.bool) (show (false : Bool) = (decide ((one % ((sdH 6 zs).length : Int)) ≠ (one % ((sdH 6 zs).length : Int))) : Bool) from (decide_eq_false (fun z => z rfl)).symm).symm)) rfl ?_
  refine Wx.rd (v := .bool false) (rd_pickF rfl rfl) rfl ?_
  refine Wx.nil ?_
  refine W.condF rfl rfl ?_
  refine W.skip ?_
  refine W.seq ?_
  refine W.reg ?_
  refine Wx.rd (v := .int .i64 0) (rd_assign rfl) rfl ?_
  refine Wx.nil ?_
  refine W.seq ?_
  refine W.seq ?_
  refine W.reg ?_
  refine Wx.rd (v := v_27) (rd_move rfl) rfl ?_
  refine Wx.rd (v := .int .i64 ((wayP (sdC 6 zs) (sdH 6 zs) (one % ((sdH 6 zs).length : Int))).length : Int)) (rd_lenR hS 1 rfl rfl Try.underlying22) rfl ?_
  refine Wx.rd (v := .int .i64 0) (rd_move rfl) rfl ?_
  refine Wx.nil ?_
  refine W.block ?_
  refine W.loop [4, 14, 15, 16, 84, 85, 86, 87, 88, 89, 90, 91, 92, 93, 94, 95, 96, 97, 98, 99, 100, 101, 102, 103, 104, 105, 106, 107, 108, 109, 110, 111, 112, 113, 114, 115, 116, 117, 118] (fun x : Int × Int => match x with | (hi, i) => [(14, .int .i64 hi), (84, .int .i64 i)]) (fun (x : Int × Int) w' => match x with | (hi, i) => St w O w' [.row (tI .i64) 3 v_33 (basinV (sdC 6 zs) (sdH 6 zs) (one % ((sdH 6 zs).length : Int))), .row (tI .i64) 3 v_27 (wayP (sdC 6 zs) (sdH 6 zs) (one % ((sdH 6 zs).length : Int))), .row (tI .i64) 3 v_21 (sillsE (sdR 6 zs) (sdC 6 zs) (sdH 6 zs)), Ob.v (tSl (tI .i64)) (sdH 6 zs) v_8, .box g_11 24 [.int .i64 (sdR 6 zs), .int .i64 (sdC 6 zs), v_8], .box g_1 60 (List.map (Value.int .u8) zs)] ∧ 0 ≤ i ∧ i ≤ (wayP (sdC 6 zs) (sdH 6 zs) (one % ((sdH 6 zs).length : Int))).length ∧ HiI (sdC 6 zs) (sdH 6 zs) (one % ((sdH 6 zs).length : Int)) i hi) (fun x : Int × Int => match x with | (hi, i) => ((wayP (sdC 6 zs) (sdH 6 zs) (one % ((sdH 6 zs).length : Int))).length - i).toNat) (0, 0) ⟨rfl, rfl, trivial⟩ ⟨hS, (by first | omega | simp), (by first | omega | simp), (hi_start p_ok hp)⟩ ?_
  rintro ⟨hi, i⟩ u_40 w_39 ⟨hS, i0, i1, i2⟩
  refine W.seq ?_
  refine W.reg ?_
  refine Wx.rd (v := .bool (decide (i < ((wayP (sdC 6 zs) (sdH 6 zs) (one % ((sdH 6 zs).length : Int))).length : Int)))) (rd_lss rfl rfl) rfl ?_
  refine Wx.nil ?_
  refine W.seq ?_
  refine W.condD rfl (fun c1 => ?_) (fun c1 => ?_)
  · -- yes
    have hwi := ((way_parts p_ok hp).2.1 i i0 c1).1
    have hai := p_ok.at hwi.1 hwi.2
    have hwb := i2.1
    refine W.skip ?_
    refine W.seq ?_
    refine W.block ?_
    refine W.seq ?_
    refine W.reg ?_
    refine Wx.rd (v := .int .i64 i) (rd_move rfl) rfl ?_
    refine Wx.indexR hS 1 rfl rfl rfl Try.underlying22 Try.sizeOf3 (by first | omega | (simp only [List.length_set, List.length_append, List.length_cons, List.length_nil, List.length_replicate]; omega)) (by first | omega | (simp only [List.length_set, List.length_append, List.length_cons, List.length_nil, List.length_replicate]; omega)) rfl (fun g_41 hg_42 => ?_)
    refine Wx.rd (v := .int .i64 (ix 0 (wayP (sdC 6 zs) (sdH 6 zs) (one % ((sdH 6 zs).length : Int))) i)) (rd_loadRI' hS 1 rfl hg_42 rfl (by first | omega | (simp only [List.length_set, List.length_append, List.length_cons, List.length_nil, List.length_replicate]; omega)) (by first | omega | (simp only [List.length_set, List.length_append, List.length_cons, List.length_nil, List.length_replicate]; omega)) Try.isAgg3 Try.sizeOf3) rfl ?_
    have bd_43 := bd_i64 (hS.rowInK' 1 rfl (by first | omega | (simp only [List.length_set, List.length_append, List.length_cons, List.length_nil, List.length_replicate]; omega)) (by first | omega | (simp only [List.length_set, List.length_append, List.length_cons, List.length_nil, List.length_replicate]; omega)) : InK .i64 (ix 0 (wayP (sdC 6 zs) (sdH 6 zs) (one % ((sdH 6 zs).length : Int))) i))
    refine Wx.rd (v := .int .i64 i) (rd_assign rfl) rfl ?_
    refine Wx.rd (v := .int .i64 (ix 0 (wayP (sdC 6 zs) (sdH 6 zs) (one % ((sdH 6 zs).length : Int))) i)) (rd_assign rfl) rfl ?_
    refine Wx.nil ?_
    refine W.seq ?_
    refine W.seq ?_
    refine W.regQ mixedMs_ (by kernel_rfl) ?_
    refine Wx.rd (v := .int .i64 (ix 0 (wayP (sdC 6 zs) (sdH 6 zs) (one % ((sdH 6 zs).length : Int))) i)) (rd_move rfl) rfl ?_
    refine Wx.rd (v := .bool false) (Rd.to (v := .bool (decide ((ix 0 (wayP (sdC 6 zs) (sdH 6 zs) (one % ((sdH 6 zs).length : Int))) i) < 0))) (rd_lss rfl rfl) (congrArg (Value.bool) (show (false : Bool) = (decide ((ix 0 (wayP (sdC 6 zs) (sdH 6 zs) (one % ((sdH 6 zs).length : Int))) i) < 0) : Bool) from (decide_eq_false (by omega)).symm).symm)) rfl ?_
    refine Wx.rd (v := .bool false) (rd_move rfl) rfl ?_
    refine Wx.gyes rfl rfl rfl ?_
    refine Wx.rd (v := .int .i64 (ix 0 (wayP (sdC 6 zs) (sdH 6 zs) (one % ((sdH 6 zs).length : Int))) i)) (rd_move rfl) rfl ?_
    refine Wx.gyes rfl rfl rfl ?_
    refine Wx.rd (v := .int .i64 ((sdH 6 zs).length : Int)) (rd_move rfl) rfl ?_
    refine Wx.gyes rfl rfl rfl ?_
    refine Wx.rd (v := .bool false) (Rd.to (v := .bool (decide (((sdH 6 zs).length : Int) ≤ (ix 0 (wayP (sdC 6 zs) (sdH 6 zs) (one % ((sdH 6 zs).length : Int))) i)))) (rd_geq rfl rfl) (congrArg (Value.bool) (show (false : Bool) = (decide (((sdH 6 zs).length : Int) ≤ (ix 0 (wayP (sdC 6 zs) (sdH 6 zs) (one % ((sdH 6 zs).length : Int))) i)) : Bool) from (decide_eq_false (by omega)).symm).symm)) rfl ?_
    refine Wx.rd (v := .bool false) (rd_pickF rfl rfl) rfl ?_
    refine Wx.rd (v := .bool false) (rd_move rfl) rfl ?_
    refine Wx.gyes rfl rfl rfl ?_
    refine Wx.rd (v := .int .i64 i) (rd_move rfl) rfl ?_
    refine Wx.gyes rfl rfl rfl ?_
    refine Wx.rd (v := .bool (decide (0 < i))) (rd_gtr rfl rfl) rfl ?_
    refine Wx.gyes rfl rfl rfl ?_
    refine Wx.rd (v := .bool (decide (0 < i))) (rd_move rfl) rfl ?_
    refine Wx.cutQ (X := Unit) 10 [100, 101, 102, 103, 104, 105, 106, 107, 108, 109] (fun _ => [(109, .bool (decide (0 < i) && false))]) (fun _ => True) ?_ ?_
    · rcases Bool.eq_false_or_eq_true (decide (0 < i)) with g_44 | g_44
      · -- True
        have gp_45 := of_decide_eq_true g_44
        have hwj := ((way_parts p_ok hp).2.1 (i - 1) (by omega) (by omega)).1
        refine Wx.gyes rfl rfl (congrArg Value.bool g_44) ?_
        refine Wx.rd (v := .agg #[.int .i64 (sdR 6 zs), .int .i64 (sdC 6 zs), v_8]) (rd_loadXs (ds := [.int .i64 (sdR 6 zs), .int .i64 (sdC 6 zs), v_8]) hS 4 rfl rfl rfl rfl Try.isAgg24 Try.sizeOf24) rfl ?_
        refine Wx.gyes rfl rfl (congrArg Value.bool g_44) ?_
        refine Wx.rd (v := v_27) (rd_move rfl) rfl ?_
        refine Wx.gyes rfl rfl (congrArg Value.bool g_44) ?_
        refine Wx.rd (v := .int .i64 i) (rd_move rfl) rfl ?_
        refine Wx.gyes rfl rfl (congrArg Value.bool g_44) ?_
        refine Wx.rd (v := .int .i64 (i - 1)) (rd_sub rfl rfl (in_i64 (by omega) (by omega))) rfl ?_
        refine Wx.gyes rfl rfl (congrArg Value.bool g_44) ?_
        refine Wx.indexR hS 1 rfl rfl rfl Try.underlying22 Try.sizeOf3 (by first | omega | (simp only [List.length_set, List.length_append, List.length_cons, List.length_nil, List.length_replicate]; omega)) (by first | omega | (simp only [List.length_set, List.length_append, List.length_cons, List.length_nil, List.length_replicate]; omega)) rfl (fun g_46 hg_47 => ?_)
        refine Wx.gyes rfl rfl (congrArg Value.bool g_44) ?_
        refine Wx.rd (v := .int .i64 (ix 0 (wayP (sdC 6 zs) (sdH 6 zs) (one % ((sdH 6 zs).length : Int))) (i - 1))) (rd_loadRI' hS 1 rfl hg_47 rfl (by first | omega | (simp only [List.length_set, List.length_append, List.length_cons, List.length_nil, List.length_replicate]; omega)) (by first | omega | (simp only [List.length_set, List.length_append, List.length_cons, List.length_nil, List.length_replicate]; omega)) Try.isAgg3 Try.sizeOf3) rfl ?_
        have bd_48 := bd_i64 (hS.rowInK' 1 rfl (by first | omega | (simp only [List.length_set, List.length_append, List.length_cons, List.length_nil, List.length_replicate]; omega)) (by first | omega | (simp only [List.length_set, List.length_append, List.length_cons, List.length_nil, List.length_replicate]; omega)) : InK .i64 (ix 0 (wayP (sdC 6 zs) (sdH 6 zs) (one % ((sdH 6 zs).length : Int))) (i - 1)))
        refine Wx.gyes rfl rfl (congrArg Value.bool g_44) ?_
        refine Wx.rd (v := .int .i64 (ix 0 (wayP (sdC 6 zs) (sdH 6 zs) (one % ((sdH 6 zs).length : Int))) i)) (rd_move rfl) rfl ?_
        refine Wx.gyes rfl rfl (congrArg Value.bool g_44) ?_
        refine Wx.callV (v := .bool (nearB (sdC 6 zs) (sdH 6 zs).length (ix 0 (wayP (sdC 6 zs) (sdH 6 zs) (one % ((sdH 6 zs).length : Int))) (i - 1)) (ix 0 (wayP (sdC 6 zs) (sdH 6 zs) (one % ((sdH 6 zs).length : Int))) i))) (run_callF Try.call43 rfl) (fun w_49 hw_50 => (F43 (in_i64 (by omega) (by omega)) (in_i64 (by omega) (by omega)) ((hS.v 3 rfl).ext hw_50) (in_i64 (by omega) (by omega)) (in_i64 (by omega) (by omega)) ⟨by omega, by omega⟩ ⟨by omega, by omega⟩ ⟨c1_, c2_⟩ n36)) rfl ?_
        rw [show (nearB (sdC 6 zs) (sdH 6 zs).length (ix 0 (wayP (sdC 6 zs) (sdH 6 zs) (one % ((sdH 6 zs).length : Int))) (i - 1)) (ix 0 (wayP (sdC 6 zs) (sdH 6 zs) (one % ((sdH 6 zs).length : Int))) i) : Bool) = true from (way_near p_ok hp (by omega) c1)]
        refine Wx.gyes rfl rfl (congrArg Value.bool g_44) ?_
        refine Wx.rd (v := .bool false) (rd_not (c := true) rfl) rfl ?_
        refine Wx.gyes rfl rfl rfl ?_
        refine Wx.rd (v := .bool false) (rd_pickT (congrArg Value.bool g_44) rfl) rfl ?_
        refine Wx.nilQ (fun _ _ => ⟨(), trivial, ⟨?_, trivial⟩, Out.look rfl Out.refl⟩)
        show Value.bool false = Value.bool (decide (0 < i) && false)
        first | rw [g_44, Bool.true_and] | (rw [g_44]; rfl)
      · -- False
        have gp_51 := of_decide_eq_false g_44
        refine Wx.gnoB rfl rfl (congrArg Value.bool g_44) rfl rfl ?_
        refine Wx.gnoB rfl rfl (congrArg Value.bool g_44) rfl rfl ?_
        refine Wx.gnoB rfl rfl (congrArg Value.bool g_44) rfl rfl ?_
        refine Wx.gnoB rfl rfl (congrArg Value.bool g_44) rfl rfl ?_
        refine Wx.gnoB rfl rfl (congrArg Value.bool g_44) rfl rfl ?_
        refine Wx.gnoB rfl rfl (congrArg Value.bool g_44) rfl rfl ?_
        refine Wx.gnoB rfl rfl (congrArg Value.bool g_44) rfl rfl ?_
        refine Wx.gnoB rfl rfl (congrArg Value.bool g_44) rfl rfl ?_
        refine Wx.gnoB rfl rfl (congrArg Value.bool g_44) rfl rfl ?_
        refine Wx.gyes rfl rfl rfl ?_
        refine Wx.rd (v := .bool false) (rd_pickF (congrArg Value.bool g_44) rfl) rfl ?_
        refine Wx.nilQ (fun _ _ => ⟨(), trivial, ⟨?_, trivial⟩, Out.look rfl Out.refl⟩)
        show Value.bool false = Value.bool (decide (0 < i) && false)
        first | rw [g_44, Bool.false_and] | (rw [g_44]; rfl)
    rintro ⟨⟩ u_53 -
    refine Wx.rd (v := .bool (decide (0 < i) && false)) (rd_pickF rfl rfl) rfl ?_
    refine Wx.nilQ (fun w_54 hx_55 => ?_)
    have hS := hS.ext hx_55
    refine W.condF rfl (by simp) ?_
    refine W.skip ?_
    refine W.reg ?_
    refine Wx.rd (v := .int .i64 hi) (rd_move rfl) rfl ?_
    refine Wx.rd (v := .pointer (some ⟨g_11, 2, none⟩)) (rd_fieldAddr rfl foMs_24_2) rfl ?_
    refine Wx.rd (v := v_8) (rd_loadX hS 4 rfl rfl rfl Try.isAgg22) rfl ?_
    refine Wx.rd (v := .int .i64 (ix 0 (wayP (sdC 6 zs) (sdH 6 zs) (one % ((sdH 6 zs).length : Int))) i)) (rd_move rfl) rfl ?_
    refine Wx.ex (rd_index 0 (hS.v 3 rfl) rfl rfl Try.underlying22 Try.sizeOf3 (by first | omega | (simp only [List.length_set, List.length_append, List.length_cons, List.length_nil, List.length_replicate]; omega)) (by first | omega | (simp only [List.length_set, List.length_append, List.length_cons, List.length_nil, List.length_replicate]; omega))) rfl (fun p_56 hp_57 => ?_)
    refine Wx.rd (v := .int .i64 (ix 0 (sdH 6 zs) (ix 0 (wayP (sdC 6 zs) (sdH 6 zs) (one % ((sdH 6 zs).length : Int))) i))) (rd_loadI hp_57 rfl Try.isAgg3 Try.sizeOf3) rfl ?_
    have bd_58 := bd_i64 hp_57.inK
    refine Wx.rd (v := .int .i64 (max hi (ix 0 (sdH 6 zs) (ix 0 (wayP (sdC 6 zs) (sdH 6 zs) (one % ((sdH 6 zs).length : Int))) i)))) (rd_max rfl rfl) rfl ?_
    refine Wx.rd (v := .int .i64 (max hi (ix 0 (sdH 6 zs) (ix 0 (wayP (sdC 6 zs) (sdH 6 zs) (one % ((sdH 6 zs).length : Int))) i)))) (rd_assign rfl) rfl ?_
    refine Wx.nil ?_
    refine W.reg ?_
    refine Wx.rd (v := .int .i64 (i + 1)) (rd_add rfl rfl (in_i64 (by omega) (by omega))) rfl ?_
    refine Wx.rd (v := .int .i64 (i + 1)) (rd_move rfl) rfl ?_
    refine Wx.nil ?_
    refine ⟨(max hi (ix 0 (sdH 6 zs) (ix 0 (wayP (sdC 6 zs) (sdH 6 zs) (one % ((sdH 6 zs).length : Int))) i)), i + 1), (by show ((wayP (sdC 6 zs) (sdH 6 zs) (one % ((sdH 6 zs).length : Int))).length - (i + 1)).toNat < ((wayP (sdC 6 zs) (sdH 6 zs) (one % ((sdH 6 zs).length : Int))).length - i).toNat; omega), ?_, ?_, Out.look rfl (Out.hav rfl (Out.look rfl Out.self))⟩
    · exact ⟨hS, (by first | omega | assumption), (by first | omega | assumption), (hi_next p_ok hp i2 i0 c1)⟩
    · exact ⟨rfl, rfl, trivial⟩
  · -- no
    have hhi := hi_end p_ok hp i2 (by omega)
    have hwz := ((way_parts p_ok hp).2.1 ((wayP (sdC 6 zs) (sdH 6 zs) (one % ((sdH 6 zs).length : Int))).length - 1) (by omega) (by omega)).1
    refine W.exit rfl ?_
    refine W.seq ?_
    refine W.seq ?_
    refine W.regQ mixedMs_ (by kernel_rfl) ?_
    refine Wx.rd (v := .int .i64 hi) (rd_move rfl) rfl ?_
    refine Wx.rd (v := v_21) (rd_move rfl) rfl ?_
    refine Wx.rd (v := .int .i64 (one % ((sdH 6 zs).length : Int))) (rd_move rfl) rfl ?_
    refine Wx.indexR hS 2 rfl rfl rfl Try.underlying22 Try.sizeOf3 (by first | omega | (simp only [List.length_set, List.length_append, List.length_cons, List.length_nil, List.length_replicate]; omega)) (by first | omega | (simp only [List.length_set, List.length_append, List.length_cons, List.length_nil, List.length_replicate]; omega)) rfl (fun g_59 hg_60 => ?_)
    refine Wx.rd (v := .int .i64 (sillV (sdC 6 zs) (sdH 6 zs) (one % ((sdH 6 zs).length : Int)))) (Rd.to (v := .int .i64 (ix 0 (sillsE (sdR 6 zs) (sdC 6 zs) (sdH 6 zs)) (one % ((sdH 6 zs).length : Int)))) (rd_loadRI' hS 2 rfl hg_60 rfl (by first | omega | (simp only [List.length_set, List.length_append, List.length_cons, List.length_nil, List.length_replicate]; omega)) (by first | omega | (simp only [List.length_set, List.length_append, List.length_cons, List.length_nil, List.length_replicate]; omega)) Try.isAgg3 Try.sizeOf3) (congrArg (Value.int .i64) (show (sillV (sdC 6 zs) (sdH 6 zs) (one % ((sdH 6 zs).length : Int)) : Int) = (ix 0 (sillsE (sdR 6 zs) (sdC 6 zs) (sdH 6 zs)) (one % ((sdH 6 zs).length : Int)) : Int) from (sills_ix p_ok hp0 hp1).symm).symm)) rfl ?_
    have bd_61 := bd_i64 (hS.rowInK' 2 rfl (by first | omega | (simp only [List.length_set, List.length_append, List.length_cons, List.length_nil, List.length_replicate]; omega)) (by first | omega | (simp only [List.length_set, List.length_append, List.length_cons, List.length_nil, List.length_replicate]; omega)) : InK .i64 (ix 0 (sillsE (sdR 6 zs) (sdC 6 zs) (sdH 6 zs)) (one % ((sdH 6 zs).length : Int))))
    refine Wx.rd (v := .bool false) (Rd.to (v := .bool (decide (hi ≠ (sillV (sdC 6 zs) (sdH 6 zs) (one % ((sdH 6 zs).length : Int)))))) (rd_neq rfl rfl) (congrArg (Value.bool) (show (false : Bool) = (decide (hi ≠ (sillV (sdC 6 zs) (sdH 6 zs) (one % ((sdH 6 zs).length : Int)))) : Bool) from (decide_eq_false (fun z => z hhi)).symm).symm)) rfl ?_
    refine Wx.rd (v := .bool false) (rd_move rfl) rfl ?_
    refine Wx.gyes rfl rfl rfl ?_
    refine Wx.rd (v := .agg #[.int .i64 (sdR 6 zs), .int .i64 (sdC 6 zs), v_8]) (rd_loadXs (ds := [.int .i64 (sdR 6 zs), .int .i64 (sdC 6 zs), v_8]) hS 4 rfl rfl rfl rfl Try.isAgg24 Try.sizeOf24) rfl ?_
    refine Wx.gyes rfl rfl rfl ?_
    refine Wx.rd (v := v_27) (rd_move rfl) rfl ?_
    refine Wx.gyes rfl rfl rfl ?_
    refine Wx.rd (v := v_27) (rd_move rfl) rfl ?_
    refine Wx.gyes rfl rfl rfl ?_
    refine Wx.rd (v := .int .i64 ((wayP (sdC 6 zs) (sdH 6 zs) (one % ((sdH 6 zs).length : Int))).length : Int)) (rd_lenR hS 1 rfl rfl Try.underlying22) rfl ?_
    refine Wx.gyes rfl rfl rfl ?_
    refine Wx.rd (v := .int .i64 (((wayP (sdC 6 zs) (sdH 6 zs) (one % ((sdH 6 zs).length : Int))).length : Int) - 1)) (rd_sub rfl rfl (in_i64 (by omega) (by omega))) rfl ?_
    refine Wx.gyes rfl rfl rfl ?_
    refine Wx.indexR hS 1 rfl rfl rfl Try.underlying22 Try.sizeOf3 (by first | omega | (simp only [List.length_set, List.length_append, List.length_cons, List.length_nil, List.length_replicate]; omega)) (by first | omega | (simp only [List.length_set, List.length_append, List.length_cons, List.length_nil, List.length_replicate]; omega)) rfl (fun g_62 hg_63 => ?_)
    refine Wx.gyes rfl rfl rfl ?_
    refine Wx.rd (v := .int .i64 (ix 0 (wayP (sdC 6 zs) (sdH 6 zs) (one % ((sdH 6 zs).length : Int))) (((wayP (sdC 6 zs) (sdH 6 zs) (one % ((sdH 6 zs).length : Int))).length : Int) - 1))) (rd_loadRI' hS 1 rfl hg_63 rfl (by first | omega | (simp only [List.length_set, List.length_append, List.length_cons, List.length_nil, List.length_replicate]; omega)) (by first | omega | (simp only [List.length_set, List.length_append, List.length_cons, List.length_nil, List.length_replicate]; omega)) Try.isAgg3 Try.sizeOf3) rfl ?_
    have bd_64 := bd_i64 (hS.rowInK' 1 rfl (by first | omega | (simp only [List.length_set, List.length_append, List.length_cons, List.length_nil, List.length_replicate]; omega)) (by first | omega | (simp only [List.length_set, List.length_append, List.length_cons, List.length_nil, List.length_replicate]; omega)) : InK .i64 (ix 0 (wayP (sdC 6 zs) (sdH 6 zs) (one % ((sdH 6 zs).length : Int))) (((wayP (sdC 6 zs) (sdH 6 zs) (one % ((sdH 6 zs).length : Int))).length : Int) - 1)))
    refine Wx.gyes rfl rfl rfl ?_
    refine Wx.rd (v := .int .i64 ((sdH 6 zs).length : Int)) (rd_move rfl) rfl ?_
    refine Wx.gyes rfl rfl rfl ?_
    refine Wx.callV (v := .bool (nearB (sdC 6 zs) (sdH 6 zs).length (ix 0 (wayP (sdC 6 zs) (sdH 6 zs) (one % ((sdH 6 zs).length : Int))) (((wayP (sdC 6 zs) (sdH 6 zs) (one % ((sdH 6 zs).length : Int))).length : Int) - 1)) ((sdH 6 zs).length : Int))) (run_callF Try.call43 rfl) (fun w_65 hw_66 => (F43 (in_i64 (by omega) (by omega)) (in_i64 (by omega) (by omega)) ((hS.v 3 rfl).ext hw_66) (in_i64 (by omega) (by omega)) (in_i64 (by omega) (by omega)) ⟨by omega, by omega⟩ ⟨by omega, by omega⟩ ⟨c1_, c2_⟩ n36)) rfl ?_
    rw [show (nearB (sdC 6 zs) (sdH 6 zs).length (ix 0 (wayP (sdC 6 zs) (sdH 6 zs) (one % ((sdH 6 zs).length : Int))) (((wayP (sdC 6 zs) (sdH 6 zs) (one % ((sdH 6 zs).length : Int))).length : Int) - 1)) ((sdH 6 zs).length : Int) : Bool) = true from ((near_last hwz).trans (way_last p_ok hp))]
    refine Wx.gyes rfl rfl rfl ?_
    refine Wx.rd (v := .bool false) (rd_not (c := true) rfl) rfl ?_
    refine Wx.rd (v := .bool false) (rd_pickF rfl rfl) rfl ?_
    refine Wx.rd (v := .bool false) (rd_move rfl) rfl ?_
    refine Wx.gyes rfl rfl rfl ?_
    refine Wx.rd (v := .agg #[.int .i64 (sdR 6 zs), .int .i64 (sdC 6 zs), v_8]) (rd_loadXs (ds := [.int .i64 (sdR 6 zs), .int .i64 (sdC 6 zs), v_8]) hS 4 rfl rfl rfl rfl Try.isAgg24 Try.sizeOf24) rfl ?_
    refine Wx.gyes rfl rfl rfl ?_
    refine Wx.rd (v := v_33) (rd_move rfl) rfl ?_
    refine Wx.gyes rfl rfl rfl ?_
    refine Wx.rd (v := v_21) (rd_move rfl) rfl ?_
    refine Wx.gyes rfl rfl rfl ?_
    refine Wx.rd (v := .int .i64 (one % ((sdH 6 zs).length : Int))) (rd_move rfl) rfl ?_
    refine Wx.gyes rfl rfl rfl ?_
    refine Wx.indexR hS 2 rfl rfl rfl Try.underlying22 Try.sizeOf3 (by first | omega | (simp only [List.length_set, List.length_append, List.length_cons, List.length_nil, List.length_replicate]; omega)) (by first | omega | (simp only [List.length_set, List.length_append, List.length_cons, List.length_nil, List.length_replicate]; omega)) rfl (fun g_67 hg_68 => ?_)
    refine Wx.gyes rfl rfl rfl ?_
    refine Wx.rd (v := .int .i64 (sillV (sdC 6 zs) (sdH 6 zs) (one % ((sdH 6 zs).length : Int)))) (Rd.to (v := .int .i64 (ix 0 (sillsE (sdR 6 zs) (sdC 6 zs) (sdH 6 zs)) (one % ((sdH 6 zs).length : Int)))) (rd_loadRI' hS 2 rfl hg_68 rfl (by first | omega | (simp only [List.length_set, List.length_append, List.length_cons, List.length_nil, List.length_replicate]; omega)) (by first | omega | (simp only [List.length_set, List.length_append, List.length_cons, List.length_nil, List.length_replicate]; omega)) Try.isAgg3 Try.sizeOf3) (congrArg (Value.int .i64) (show (sillV (sdC 6 zs) (sdH 6 zs) (one % ((sdH 6 zs).length : Int)) : Int) = (ix 0 (sillsE (sdR 6 zs) (sdC 6 zs) (sdH 6 zs)) (one % ((sdH 6 zs).length : Int)) : Int) from (sills_ix p_ok hp0 hp1).symm).symm)) rfl ?_
    have bd_69 := bd_i64 (hS.rowInK' 2 rfl (by first | omega | (simp only [List.length_set, List.length_append, List.length_cons, List.length_nil, List.length_replicate]; omega)) (by first | omega | (simp only [List.length_set, List.length_append, List.length_cons, List.length_nil, List.length_replicate]; omega)) : InK .i64 (ix 0 (sillsE (sdR 6 zs) (sdC 6 zs) (sdH 6 zs)) (one % ((sdH 6 zs).length : Int))))
    refine Wx.gyes rfl rfl rfl ?_
    refine Wx.callV (v := .int .i64 (provesE (sdR 6 zs) (sdC 6 zs) (sdH 6 zs) (basinV (sdC 6 zs) (sdH 6 zs) (one % ((sdH 6 zs).length : Int))) (sillV (sdC 6 zs) (sdH 6 zs) (one % ((sdH 6 zs).length : Int))))) (run_callF Try.call35 rfl) (fun w_70 hw_71 => (F35 (in_i64 (by omega) (by omega)) (in_i64 (by omega) (by omega)) ((hS.v 3 rfl).ext hw_71) ((hS.lend 0 rfl).ext hw_71) (in_i64 (by omega) (by omega)))) rfl ?_
    rw [show (provesE (sdR 6 zs) (sdC 6 zs) (sdH 6 zs) (basinV (sdC 6 zs) (sdH 6 zs) (one % ((sdH 6 zs).length : Int))) (sillV (sdC 6 zs) (sdH 6 zs) (one % ((sdH 6 zs).length : Int))) : Int) = 0 from (basin_proves p_ok hp)]
    refine Wx.gyes rfl rfl rfl ?_
    refine Wx.rd (v := .bool false) (Rd.to (v := .bool (decide ((0 : Int) ≠ 0))) (rd_neq rfl rfl) rfl) rfl ?_
    refine Wx.rd (v := .bool false) (rd_pickF rfl rfl) rfl ?_
    refine Wx.nilQ (fun w_72 hx_73 => ?_)
    have hS := hS.ext hx_73
    refine W.condF rfl rfl ?_
    refine W.skip ?_
    refine W.seq ?_
    refine W.reg ?_
    refine Wx.lit (t := (tI .i64)) (ys := [1000]) (vs := [.int .i64 1000]) elMs_22 hS rfl rfl ⟨(V.mkInt (in_i64 (by omega) (by omega))), trivial⟩ (by decide) rfl (fun v_74 w_75 hx_76 hS => ?_)
    refine Wx.rd (v := .int .i64 ((sdH 6 zs).length : Int)) (rd_move rfl) rfl ?_
    refine Wx.callF (run_callF Try.call51 rfl) (F51 (a := 1000) (hS.lend 0 rfl) (in_i64 (by omega) (by omega)) (by omega) (by omega)) rfl ?_
    rintro r_77 w_78 hx_79 ⟨_, rfl, hv_80⟩
    have hS := hS.pushFr hx_79 hv_80
    refine Wx.rd (v := r_77) (rd_assign rfl) rfl ?_
    refine Wx.nil ?_
    refine W.seq ?_
    refine W.seq ?_
    refine W.reg ?_
    refine Wx.rd (v := .int .i64 ((sdH 6 zs).length : Int)) (rd_move rfl) rfl ?_
    refine Wx.rd (v := .int .i64 0) (rd_move rfl) rfl ?_
    refine Wx.nil ?_
    refine W.block ?_
    refine W.loop [18, 19, 151, 152, 153, 154, 155, 156, 157, 158, 159, 160, 161, 162, 163, 164, 165, 166, 167, 168, 169, 170, 171, 172, 173, 174, 175, 176, 177, 178, 179, 180, 181, 182, 183, 184, 185, 186, 187, 188, 189, 190, 191, 192, 193, 194, 195, 196] (fun x : Int × (List Int) => match x with | (rd, far) => [(151, .int .i64 rd)]) (fun (x : Int × (List Int)) w' => match x with | (rd, far) => St w O w' [.row (tI .i64) 3 r_77 far, .row (tI .i64) 3 v_74 [1000], .row (tI .i64) 3 v_33 (basinV (sdC 6 zs) (sdH 6 zs) (one % ((sdH 6 zs).length : Int))), .row (tI .i64) 3 v_27 (wayP (sdC 6 zs) (sdH 6 zs) (one % ((sdH 6 zs).length : Int))), .row (tI .i64) 3 v_21 (sillsE (sdR 6 zs) (sdC 6 zs) (sdH 6 zs)), Ob.v (tSl (tI .i64)) (sdH 6 zs) v_8, .box g_11 24 [.int .i64 (sdR 6 zs), .int .i64 (sdC 6 zs), v_8], .box g_1 60 (List.map (Value.int .u8) zs)] ∧ 0 ≤ rd ∧ rd ≤ ((sdH 6 zs).length : Int) ∧ FarB (sdC 6 zs) (sdH 6 zs) (sillV (sdC 6 zs) (sdH 6 zs) (one % ((sdH 6 zs).length : Int))) (rd + 1) 0 far) (fun x : Int × (List Int) => match x with | (rd, far) => (((sdH 6 zs).length : Int) - rd).toNat) (0, List.replicate ((sdH 6 zs).length : Int).toNat 1000) ⟨rfl, trivial⟩ ⟨hS, (by first | omega | simp), (by first | omega | simp), (fb_start)⟩ ?_
    rintro ⟨rd, far⟩ u_83 w_82 ⟨hS, r0, r1, r2⟩
    refine W.seq ?_
    refine W.reg ?_
    refine Wx.rd (v := .bool (decide (rd < ((sdH 6 zs).length : Int)))) (rd_lss rfl rfl) rfl ?_
    refine Wx.nil ?_
    refine W.seq ?_
    refine W.condD rfl (fun c4 => ?_) (fun c4 => ?_)
    · -- yes
      have hszr := r2.1
      refine W.skip ?_
      refine W.seq ?_
      refine W.block ?_
      refine W.seq ?_
      refine W.reg ?_
      refine Wx.rd (v := r_77) (rd_move rfl) rfl ?_
      refine Wx.rd (v := .int .i64 (far.length : Int)) (rd_lenR hS 0 rfl rfl Try.underlying22) rfl ?_
      refine Wx.rd (v := .int .i64 0) (rd_move rfl) rfl ?_
      refine Wx.nil ?_
      refine W.block ?_
      refine W.loop [18, 19, 155, 156, 157, 158, 159, 160, 161, 162, 163, 164, 165, 166, 167, 168, 169, 170, 171, 172, 173, 174, 175, 176, 177, 178, 179, 180, 181, 182, 183, 184, 185, 186, 187, 188, 189, 190, 191, 192, 193, 194, 195] (fun x : Int × (List Int) => match x with | (u, far2) => [(155, .int .i64 u)]) (fun (x : Int × (List Int)) w' => match x with | (u, far2) => St w O w' [.row (tI .i64) 3 r_77 far2, .row (tI .i64) 3 v_74 [1000], .row (tI .i64) 3 v_33 (basinV (sdC 6 zs) (sdH 6 zs) (one % ((sdH 6 zs).length : Int))), .row (tI .i64) 3 v_27 (wayP (sdC 6 zs) (sdH 6 zs) (one % ((sdH 6 zs).length : Int))), .row (tI .i64) 3 v_21 (sillsE (sdR 6 zs) (sdC 6 zs) (sdH 6 zs)), Ob.v (tSl (tI .i64)) (sdH 6 zs) v_8, .box g_11 24 [.int .i64 (sdR 6 zs), .int .i64 (sdC 6 zs), v_8], .box g_1 60 (List.map (Value.int .u8) zs)] ∧ 0 ≤ u ∧ u ≤ ((sdH 6 zs).length : Int) ∧ FarB (sdC 6 zs) (sdH 6 zs) (sillV (sdC 6 zs) (sdH 6 zs) (one % ((sdH 6 zs).length : Int))) (rd + 1) u far2) (fun x : Int × (List Int) => match x with | (u, far2) => (((sdH 6 zs).length : Int) - u).toNat) (0, far) ⟨rfl, trivial⟩ ⟨hS, (by first | omega | simp), (by first | omega | simp), (r2)⟩ ?_
      rintro ⟨u, far2⟩ u_85 w_84 ⟨hS, g0, g1, g2⟩
      refine W.seq ?_
      refine W.reg ?_
      refine Wx.rd (v := .bool (decide (u < (far.length : Int)))) (rd_lss rfl rfl) rfl ?_
      refine Wx.nil ?_
      refine W.seq ?_
      refine W.condD rfl (fun c5 => ?_) (fun c5 => ?_)
      · -- yes
        have hau := p_ok.at g0 (show u < ((sdH 6 zs).length : Int) by omega)
        have hsz := g2.1
        have hfu := (g2.2 u g0 (by omega)).1
        refine W.skip ?_
        refine W.seq ?_
        refine W.block ?_
        refine W.seq ?_
        refine W.reg ?_
        refine Wx.rd (v := .int .i64 u) (rd_move rfl) rfl ?_
        refine Wx.rd (v := .int .i64 u) (rd_assign rfl) rfl ?_
        refine Wx.nil ?_
        refine W.seq ?_
        refine W.seq ?_
        refine W.reg ?_
        refine Wx.rd (v := .pointer (some ⟨g_11, 2, none⟩)) (rd_fieldAddr rfl foMs_24_2) rfl ?_
        refine Wx.rd (v := v_8) (rd_loadX hS 6 rfl rfl rfl Try.isAgg22) rfl ?_
        refine Wx.rd (v := .int .i64 u) (rd_move rfl) rfl ?_
        refine Wx.ex (rd_index 0 (hS.v 5 rfl) rfl rfl Try.underlying22 Try.sizeOf3 (by first | omega | (simp only [List.length_set, List.length_append, List.length_cons, List.length_nil, List.length_replicate]; omega)) (by first | omega | (simp only [List.length_set, List.length_append, List.length_cons, List.length_nil, List.length_replicate]; omega))) rfl (fun p_86 hp_87 => ?_)
        refine Wx.rd (v := .int .i64 (ix 0 (sdH 6 zs) u)) (rd_loadI hp_87 rfl Try.isAgg3 Try.sizeOf3) rfl ?_
        have bd_88 := bd_i64 hp_87.inK
        refine Wx.rd (v := .int .i64 hi) (rd_move rfl) rfl ?_
        refine Wx.rd (v := .bool (decide (hi < (ix 0 (sdH 6 zs) u)))) (rd_gtr rfl rfl) rfl ?_
        refine Wx.nil ?_
        refine W.condD rfl (fun c6 => ?_) (fun c6 => ?_)
        · -- yes
          refine W.exit rfl ?_
          refine W.reg ?_
          refine Wx.rd (v := .int .i64 (u + 1)) (rd_add rfl rfl (in_i64 (by omega) (by omega))) rfl ?_
          refine Wx.rd (v := .int .i64 (u + 1)) (rd_move rfl) rfl ?_
          refine Wx.nil ?_
          refine ⟨(u + 1, far2), (by show (((sdH 6 zs).length : Int) - (u + 1)).toNat < (((sdH 6 zs).length : Int) - u).toNat; omega), ?_, ?_, Out.look rfl Out.self⟩
          · exact ⟨hS, (by first | omega | assumption), (by first | omega | assumption), (fb_skip g2 (by omega))⟩
          · exact ⟨rfl, trivial⟩
        · -- no
          refine W.skip ?_
          refine W.seq ?_
          refine W.seq ?_
          refine W.reg ?_
          refine Wx.rd (v := .agg #[.int .i64 (sdR 6 zs), .int .i64 (sdC 6 zs), v_8]) (rd_loadXs (ds := [.int .i64 (sdR 6 zs), .int .i64 (sdC 6 zs), v_8]) hS 6 rfl rfl rfl rfl Try.isAgg24 Try.sizeOf24) rfl ?_
          refine Wx.rd (v := .int .i64 u) (rd_move rfl) rfl ?_
          refine Wx.rd (v := .int .i64 ((sdH 6 zs).length : Int)) (rd_move rfl) rfl ?_
          refine Wx.callF (run_callF Try.call43 rfl) (F43 (in_i64 (by omega) (by omega)) (in_i64 (by omega) (by omega)) (hS.v 5 rfl) (in_i64 (by omega) (by omega)) (in_i64 (by omega) (by omega)) ⟨by omega, by omega⟩ ⟨by omega, by omega⟩ ⟨c1_, c2_⟩ n36) rfl ?_
          rintro r_89 w_90 hx_91 rfl
          have hS := hS.ext hx_91
          rw [show (nearB (sdC 6 zs) (sdH 6 zs).length u ((sdH 6 zs).length : Int) : Bool) = lastB (sdC 6 zs) (sdH 6 zs) u from (near_last ⟨g0, by omega⟩)]
          refine Wx.nil ?_
          refine W.cutK [169, 170, 171] (fun (far3 : List Int) => []) (fun (far3 : List Int) w' => St w O w' [.row (tI .i64) 3 r_77 far3, .row (tI .i64) 3 v_74 [1000], .row (tI .i64) 3 v_33 (basinV (sdC 6 zs) (sdH 6 zs) (one % ((sdH 6 zs).length : Int))), .row (tI .i64) 3 v_27 (wayP (sdC 6 zs) (sdH 6 zs) (one % ((sdH 6 zs).length : Int))), .row (tI .i64) 3 v_21 (sillsE (sdR 6 zs) (sdC 6 zs) (sdH 6 zs)), Ob.v (tSl (tI .i64)) (sdH 6 zs) v_8, .box g_11 24 [.int .i64 (sdR 6 zs), .int .i64 (sdC 6 zs), v_8], .box g_1 60 (List.map (Value.int .u8) zs)] ∧ FarC (sdC 6 zs) (sdH 6 zs) (sillV (sdC 6 zs) (sdH 6 zs) (one % ((sdH 6 zs).length : Int))) (rd + 1) u 0 far3) ?_ ?_
          · -- up to the cut
            refine W.cond rfl (fun c7 => ?_) (fun c7 => ?_)
            · -- yes
              try simp only [Bool.and_eq_true, Bool.or_eq_true, Bool.not_eq_true', Bool.and_eq_false_iff, Bool.or_eq_false_iff, Bool.not_eq_false', decide_eq_true_eq, decide_eq_false_iff_not, not_or, Bool.false_eq_true, Bool.true_eq_false, false_or, or_false, not_false_eq_true] at c7
              refine W.reg ?_
              refine Wx.rd (v := r_77) (rd_move rfl) rfl ?_
              refine Wx.rd (v := .int .i64 u) (rd_move rfl) rfl ?_
              refine Wx.indexR hS 0 rfl rfl rfl Try.underlying22 Try.sizeOf3 (by first | omega | (simp only [List.length_set, List.length_append, List.length_cons, List.length_nil, List.length_replicate]; omega)) (by first | omega | (simp only [List.length_set, List.length_append, List.length_cons, List.length_nil, List.length_replicate]; omega)) rfl (fun g_92 hg_93 => ?_)
              refine Wx.storeR (j := u.toNat) (z := 1) hS 0 rfl hg_93 rfl (by first | omega | (simp only [List.length_set, List.length_append, List.length_cons, List.length_nil, List.length_replicate]; omega)) rfl (V.mkInt (in_i64 (by omega) (by omega))) Try.sizeOf3 (fun w_94 hz_95 hS => ?_)
              refine Wx.nil ?_
              refine ⟨List.set far2 u.toNat 1, ?_, ?_, Out.look rfl Out.refl⟩
              · exact ⟨hS, (fc_last g2 g0 (by omega) (by omega) c7)⟩
              · exact trivial
            · -- no
              try simp only [Bool.and_eq_true, Bool.or_eq_true, Bool.not_eq_true', Bool.and_eq_false_iff, Bool.or_eq_false_iff, Bool.not_eq_false', decide_eq_true_eq, decide_eq_false_iff_not, not_or, Bool.false_eq_true, Bool.true_eq_false, false_or, or_false, not_false_eq_true] at c7
              refine W.skip ?_
              refine ⟨far2, ?_, ?_, Out.look rfl Out.refl⟩
              · exact ⟨hS, (fc_no g2 (by simpa using c7))⟩
              · exact trivial
          rintro far3 u_97 w_96 ⟨hS, f3⟩
          refine W.seq ?_
          refine W.reg ?_
          refine Wx.rd (v := r_77) (rd_move rfl) rfl ?_
          refine Wx.rd (v := .int .i64 (far3.length : Int)) (rd_lenR hS 0 rfl rfl Try.underlying22) rfl ?_
          refine Wx.rd (v := .int .i64 0) (rd_move rfl) rfl ?_
          refine Wx.nil ?_
          refine W.block ?_
          have hsz3 := f3.1.1
          refine W.loop [19, 174, 175, 176, 177, 178, 179, 180, 181, 182, 183, 184, 185, 186, 187, 188, 189, 190, 191, 192, 193, 194] (fun x : Int × (List Int) => match x with | (q, far4) => [(174, .int .i64 q)]) (fun (x : Int × (List Int)) w' => match x with | (q, far4) => St w O w' [.row (tI .i64) 3 r_77 far4, .row (tI .i64) 3 v_74 [1000], .row (tI .i64) 3 v_33 (basinV (sdC 6 zs) (sdH 6 zs) (one % ((sdH 6 zs).length : Int))), .row (tI .i64) 3 v_27 (wayP (sdC 6 zs) (sdH 6 zs) (one % ((sdH 6 zs).length : Int))), .row (tI .i64) 3 v_21 (sillsE (sdR 6 zs) (sdC 6 zs) (sdH 6 zs)), Ob.v (tSl (tI .i64)) (sdH 6 zs) v_8, .box g_11 24 [.int .i64 (sdR 6 zs), .int .i64 (sdC 6 zs), v_8], .box g_1 60 (List.map (Value.int .u8) zs)] ∧ 0 ≤ q ∧ q ≤ ((sdH 6 zs).length : Int) ∧ FarC (sdC 6 zs) (sdH 6 zs) (sillV (sdC 6 zs) (sdH 6 zs) (one % ((sdH 6 zs).length : Int))) (rd + 1) u q far4) (fun x : Int × (List Int) => match x with | (q, far4) => (((sdH 6 zs).length : Int) - q).toNat) (0, far3) ⟨rfl, trivial⟩ ⟨hS, (by first | omega | simp), (by first | omega | simp), (f3)⟩ ?_
          rintro ⟨q, far4⟩ u_99 w_98 ⟨hS, q0, q1, q2⟩
          refine W.seq ?_
          refine W.reg ?_
          refine Wx.rd (v := .bool (decide (q < (far3.length : Int)))) (rd_lss rfl rfl) rfl ?_
          refine Wx.nil ?_
          refine W.seq ?_
          refine W.condD rfl (fun c8 => ?_) (fun c8 => ?_)
          · -- yes
            have hfu2 := (q2.1.2 u g0 (by omega)).1
            have hfq := (q2.1.2 q q0 (by omega)).1
            have hsz2 := q2.1.1
            refine W.skip ?_
            refine W.seq ?_
            refine W.block ?_
            refine W.seq ?_
            refine W.reg ?_
            refine Wx.rd (v := .int .i64 q) (rd_move rfl) rfl ?_
            refine Wx.rd (v := .int .i64 q) (rd_assign rfl) rfl ?_
            refine Wx.nil ?_
            refine W.seq ?_
            refine W.reg ?_
            refine Wx.rd (v := .agg #[.int .i64 (sdR 6 zs), .int .i64 (sdC 6 zs), v_8]) (rd_loadXs (ds := [.int .i64 (sdR 6 zs), .int .i64 (sdC 6 zs), v_8]) hS 6 rfl rfl rfl rfl Try.isAgg24 Try.sizeOf24) rfl ?_
            refine Wx.rd (v := .int .i64 u) (rd_move rfl) rfl ?_
            refine Wx.rd (v := .int .i64 q) (rd_move rfl) rfl ?_
            refine Wx.callF (run_callF Try.call43 rfl) (F43 (in_i64 (by omega) (by omega)) (in_i64 (by omega) (by omega)) (hS.v 5 rfl) (in_i64 (by omega) (by omega)) (in_i64 (by omega) (by omega)) ⟨by omega, by omega⟩ ⟨by omega, by omega⟩ ⟨c1_, c2_⟩ n36) rfl ?_
            rintro r_100 w_101 hx_102 rfl
            have hS := hS.ext hx_102
            rw [show (nearB (sdC 6 zs) (sdH 6 zs).length u q : Bool) = adjB (sdC 6 zs) u q from (near_adj ⟨g0, by omega⟩ ⟨q0, by omega⟩)]
            refine Wx.nil ?_
            refine W.cond rfl (fun c9 => ?_) (fun c9 => ?_)
            · -- yes
              try simp only [Bool.and_eq_true, Bool.or_eq_true, Bool.not_eq_true', Bool.and_eq_false_iff, Bool.or_eq_false_iff, Bool.not_eq_false', decide_eq_true_eq, decide_eq_false_iff_not, not_or, Bool.false_eq_true, Bool.true_eq_false, false_or, or_false, not_false_eq_true] at c9
              refine W.regT 13 mixedMs_ (by kernel_rfl) ?_
              refine Wx.rd (v := r_77) (rd_move rfl) rfl ?_
              refine Wx.rd (v := .int .i64 u) (rd_move rfl) rfl ?_
              refine Wx.rd (v := r_77) (rd_move rfl) rfl ?_
              refine Wx.rd (v := .int .i64 u) (rd_move rfl) rfl ?_
              refine Wx.indexR hS 0 rfl rfl rfl Try.underlying22 Try.sizeOf3 (by first | omega | (simp only [List.length_set, List.length_append, List.length_cons, List.length_nil, List.length_replicate]; omega)) (by first | omega | (simp only [List.length_set, List.length_append, List.length_cons, List.length_nil, List.length_replicate]; omega)) rfl (fun g_103 hg_104 => ?_)
              refine Wx.rd (v := .int .i64 (ix 0 far4 u)) (rd_loadRI' hS 0 rfl hg_104 rfl (by first | omega | (simp only [List.length_set, List.length_append, List.length_cons, List.length_nil, List.length_replicate]; omega)) (by first | omega | (simp only [List.length_set, List.length_append, List.length_cons, List.length_nil, List.length_replicate]; omega)) Try.isAgg3 Try.sizeOf3) rfl ?_
              have bd_105 := bd_i64 (hS.rowInK' 0 rfl (by first | omega | (simp only [List.length_set, List.length_append, List.length_cons, List.length_nil, List.length_replicate]; omega)) (by first | omega | (simp only [List.length_set, List.length_append, List.length_cons, List.length_nil, List.length_replicate]; omega)) : InK .i64 (ix 0 far4 u))
              refine Wx.rd (v := r_77) (rd_move rfl) rfl ?_
              refine Wx.rd (v := .int .i64 q) (rd_move rfl) rfl ?_
              refine Wx.indexR hS 0 rfl rfl rfl Try.underlying22 Try.sizeOf3 (by first | omega | (simp only [List.length_set, List.length_append, List.length_cons, List.length_nil, List.length_replicate]; omega)) (by first | omega | (simp only [List.length_set, List.length_append, List.length_cons, List.length_nil, List.length_replicate]; omega)) rfl (fun g_106 hg_107 => ?_)
              refine Wx.rd (v := .int .i64 (ix 0 far4 q)) (rd_loadRI' hS 0 rfl hg_107 rfl (by first | omega | (simp only [List.length_set, List.length_append, List.length_cons, List.length_nil, List.length_replicate]; omega)) (by first | omega | (simp only [List.length_set, List.length_append, List.length_cons, List.length_nil, List.length_replicate]; omega)) Try.isAgg3 Try.sizeOf3) rfl ?_
              have bd_108 := bd_i64 (hS.rowInK' 0 rfl (by first | omega | (simp only [List.length_set, List.length_append, List.length_cons, List.length_nil, List.length_replicate]; omega)) (by first | omega | (simp only [List.length_set, List.length_append, List.length_cons, List.length_nil, List.length_replicate]; omega)) : InK .i64 (ix 0 far4 q))
              refine Wx.rd (v := .int .i64 ((ix 0 far4 q) + 1)) (rd_add rfl rfl (in_i64 (by omega) (by omega))) rfl ?_
              refine Wx.rd (v := .int .i64 (min (ix 0 far4 u) ((ix 0 far4 q) + 1))) (rd_min rfl rfl) rfl ?_
              refine Wx.indexR hS 0 rfl rfl rfl Try.underlying22 Try.sizeOf3 (by first | omega | (simp only [List.length_set, List.length_append, List.length_cons, List.length_nil, List.length_replicate]; omega)) (by first | omega | (simp only [List.length_set, List.length_append, List.length_cons, List.length_nil, List.length_replicate]; omega)) rfl (fun g_109 hg_110 => ?_)
              refine Wx.nilQ (fun w_111 hx_112 => ?_)
              have hS := hS.ext hx_112
              refine Wx.storeR (j := u.toNat) (z := min (ix 0 far4 u) ((ix 0 far4 q) + 1)) hS 0 rfl hg_110 rfl (by first | omega | (simp only [List.length_set, List.length_append, List.length_cons, List.length_nil, List.length_replicate]; omega)) rfl (V.mkInt (in_i64 (by omega) (by omega))) Try.sizeOf3 (fun w_113 hz_114 hS => ?_)
              refine Wx.nil ?_
              refine W.reg ?_
              refine Wx.rd (v := .int .i64 (q + 1)) (rd_add rfl rfl (in_i64 (by omega) (by omega))) rfl ?_
              refine Wx.rd (v := .int .i64 (q + 1)) (rd_move rfl) rfl ?_
              refine Wx.nil ?_
              refine ⟨(q + 1, List.set far4 u.toNat (min (ix 0 far4 u) ((ix 0 far4 q) + 1))), (by show (((sdH 6 zs).length : Int) - (q + 1)).toNat < (((sdH 6 zs).length : Int) - q).toNat; omega), ?_, ?_, Out.look rfl Out.self⟩
              · exact ⟨hS, (by first | omega | assumption), (by first | omega | assumption), (fc_adj c1_ q2 g0 (by omega) q0 (by omega) (by omega) c9)⟩
              · exact ⟨rfl, trivial⟩
            · -- no
              try simp only [Bool.and_eq_true, Bool.or_eq_true, Bool.not_eq_true', Bool.and_eq_false_iff, Bool.or_eq_false_iff, Bool.not_eq_false', decide_eq_true_eq, decide_eq_false_iff_not, not_or, Bool.false_eq_true, Bool.true_eq_false, false_or, or_false, not_false_eq_true] at c9
              refine W.skip ?_
              refine W.reg ?_
              refine Wx.rd (v := .int .i64 (q + 1)) (rd_add rfl rfl (in_i64 (by omega) (by omega))) rfl ?_
              refine Wx.rd (v := .int .i64 (q + 1)) (rd_move rfl) rfl ?_
              refine Wx.nil ?_
              refine ⟨(q + 1, far4), (by show (((sdH 6 zs).length : Int) - (q + 1)).toNat < (((sdH 6 zs).length : Int) - q).toNat; omega), ?_, ?_, Out.look rfl Out.self⟩
              · exact ⟨hS, (by first | omega | assumption), (by first | omega | assumption), (fc_skip q2 (by simpa using c9))⟩
              · exact ⟨rfl, trivial⟩
          · -- no
            refine W.exit rfl ?_
            refine W.reg ?_
            refine Wx.rd (v := .int .i64 (u + 1)) (rd_add rfl rfl (in_i64 (by omega) (by omega))) rfl ?_
            refine Wx.rd (v := .int .i64 (u + 1)) (rd_move rfl) rfl ?_
            refine Wx.nil ?_
            refine ⟨(u + 1, far4), (by show (((sdH 6 zs).length : Int) - (u + 1)).toNat < (((sdH 6 zs).length : Int) - u).toNat; omega), ?_, ?_, Out.look rfl (Out.hav rfl (Out.look rfl (Out.hav rfl (Out.look rfl Out.self))))⟩
            · exact ⟨hS, (by first | omega | assumption), (by first | omega | assumption), (fc_end q2 (by omega) g0)⟩
            · exact ⟨rfl, trivial⟩
      · -- no
        refine W.exit rfl ?_
        refine W.reg ?_
        refine Wx.rd (v := .int .i64 (rd + 1)) (rd_add rfl rfl (in_i64 (by omega) (by omega))) rfl ?_
        refine Wx.rd (v := .int .i64 (rd + 1)) (rd_move rfl) rfl ?_
        refine Wx.nil ?_
        refine ⟨(rd + 1, far2), (by show (((sdH 6 zs).length : Int) - (rd + 1)).toNat < (((sdH 6 zs).length : Int) - rd).toNat; omega), ?_, ?_, Out.look rfl (Out.hav rfl (Out.look rfl Out.self))⟩
        · exact ⟨hS, (by first | omega | assumption), (by first | omega | assumption), (fb_row g2 (by omega))⟩
        · exact ⟨rfl, trivial⟩
    · -- no
      have hfw := far_way p_ok r2 (by omega) hp
      have hsz := r2.1
      refine W.exit rfl ?_
      refine W.seq ?_
      refine W.seq ?_
      refine W.regQ mixedMs_ (by kernel_rfl) ?_
      refine Wx.rd (v := v_27) (rd_move rfl) rfl ?_
      refine Wx.rd (v := .int .i64 ((wayP (sdC 6 zs) (sdH 6 zs) (one % ((sdH 6 zs).length : Int))).length : Int)) (rd_lenR hS 3 rfl rfl Try.underlying22) rfl ?_
      refine Wx.rd (v := r_77) (rd_move rfl) rfl ?_
      refine Wx.rd (v := .int .i64 (one % ((sdH 6 zs).length : Int))) (rd_move rfl) rfl ?_
      refine Wx.indexR hS 0 rfl rfl rfl Try.underlying22 Try.sizeOf3 (by first | omega | (simp only [List.length_set, List.length_append, List.length_cons, List.length_nil, List.length_replicate]; omega)) (by first | omega | (simp only [List.length_set, List.length_append, List.length_cons, List.length_nil, List.length_replicate]; omega)) rfl (fun g_115 hg_116 => ?_)
      refine Wx.rd (v := .int .i64 (ix 0 far (one % ((sdH 6 zs).length : Int)))) (rd_loadRI' hS 0 rfl hg_116 rfl (by first | omega | (simp only [List.length_set, List.length_append, List.length_cons, List.length_nil, List.length_replicate]; omega)) (by first | omega | (simp only [List.length_set, List.length_append, List.length_cons, List.length_nil, List.length_replicate]; omega)) Try.isAgg3 Try.sizeOf3) rfl ?_
      have bd_117 := bd_i64 (hS.rowInK' 0 rfl (by first | omega | (simp only [List.length_set, List.length_append, List.length_cons, List.length_nil, List.length_replicate]; omega)) (by first | omega | (simp only [List.length_set, List.length_append, List.length_cons, List.length_nil, List.length_replicate]; omega)) : InK .i64 (ix 0 far (one % ((sdH 6 zs).length : Int))))
      refine Wx.rd (v := .bool false) (Rd.to (v := .bool (decide (((wayP (sdC 6 zs) (sdH 6 zs) (one % ((sdH 6 zs).length : Int))).length : Int) ≠ (ix 0 far (one % ((sdH 6 zs).length : Int)))))) (rd_neq rfl rfl) (congrArg (Value.bool) (show (false : Bool) = (decide (((wayP (sdC 6 zs) (sdH 6 zs) (one % ((sdH 6 zs).length : Int))).length : Int) ≠ (ix 0 far (one % ((sdH 6 zs).length : Int)))) : Bool) from (decide_eq_false (fun z => z hfw.symm)).symm).symm)) rfl ?_
      refine Wx.rd (v := .bool false) (rd_move rfl) rfl ?_
      refine Wx.gyes rfl rfl rfl ?_
      refine Wx.rd (v := .pointer (some ⟨g_11, 2, none⟩)) (rd_fieldAddr rfl foMs_24_2) rfl ?_
      refine Wx.gyes rfl rfl rfl ?_
      refine Wx.rd (v := v_8) (rd_loadX hS 6 rfl rfl rfl Try.isAgg22) rfl ?_
      refine Wx.gyes rfl rfl rfl ?_
      refine Wx.rd (v := .int .i64 (one % ((sdH 6 zs).length : Int))) (rd_move rfl) rfl ?_
      refine Wx.gyes rfl rfl rfl ?_
      refine Wx.ex (rd_index 0 (hS.v 5 rfl) rfl rfl Try.underlying22 Try.sizeOf3 (by first | omega | (simp only [List.length_set, List.length_append, List.length_cons, List.length_nil, List.length_replicate]; omega)) (by first | omega | (simp only [List.length_set, List.length_append, List.length_cons, List.length_nil, List.length_replicate]; omega))) rfl (fun p_118 hp_119 => ?_)
      refine Wx.gyes rfl rfl rfl ?_
      refine Wx.rd (v := .int .i64 (ix 0 (sdH 6 zs) (one % ((sdH 6 zs).length : Int)))) (rd_loadI hp_119 rfl Try.isAgg3 Try.sizeOf3) rfl ?_
      have bd_120 := bd_i64 hp_119.inK
      refine Wx.gyes rfl rfl rfl ?_
      refine Wx.rd (v := .int .i64 hi) (rd_move rfl) rfl ?_
      refine Wx.gyes rfl rfl rfl ?_
      refine Wx.rd (v := .bool (decide ((ix 0 (sdH 6 zs) (one % ((sdH 6 zs).length : Int))) < hi))) (rd_lss rfl rfl) rfl ?_
      refine Wx.gyes rfl rfl rfl ?_
      refine Wx.rd (v := v_33) (rd_move rfl) rfl ?_
      refine Wx.gyes rfl rfl rfl ?_
      refine Wx.rd (v := .int .i64 (one % ((sdH 6 zs).length : Int))) (rd_move rfl) rfl ?_
      refine Wx.gyes rfl rfl rfl ?_
      refine Wx.callV (v := .bool (hasL (basinV (sdC 6 zs) (sdH 6 zs) (one % ((sdH 6 zs).length : Int))) (one % ((sdH 6 zs).length : Int)))) (run_callF Try.call44 rfl) (fun w_121 hw_122 => (F44 ((hS.lend 2 rfl).ext hw_122) (in_i64 (by omega) (by omega)))) rfl ?_
      rw [show (hasL (basinV (sdC 6 zs) (sdH 6 zs) (one % ((sdH 6 zs).length : Int))) (one % ((sdH 6 zs).length : Int)) : Bool) = decide (ix 0 (sdH 6 zs) (one % ((sdH 6 zs).length : Int)) < (sillV (sdC 6 zs) (sdH 6 zs) (one % ((sdH 6 zs).length : Int)))) from (basin_has hp)]
      refine Wx.gyes rfl rfl rfl ?_
      refine Wx.rd (v := .bool false) (Rd.to (v := .bool (!((decide ((ix 0 (sdH 6 zs) (one % ((sdH 6 zs).length : Int))) < hi)) == (decide (ix 0 (sdH 6 zs) (one % ((sdH 6 zs).length : Int)) < (sillV (sdC 6 zs) (sdH 6 zs) (one % ((sdH 6 zs).length : Int)))))))) (rd_neqB rfl rfl Try.underlying4) (congrArg (Value.bool) (show (false : Bool) = (!((decide ((ix 0 (sdH 6 zs) (one % ((sdH 6 zs).length : Int))) < hi)) == (decide (ix 0 (sdH 6 zs) (one % ((sdH 6 zs).length : Int)) < (sillV (sdC 6 zs) (sdH 6 zs) (one % ((sdH 6 zs).length : Int)))))) : Bool) from (by rw [hhi, beq_self_eq_true]; rfl)).symm)) rfl ?_
      refine Wx.rd (v := .bool false) (rd_pickF rfl rfl) rfl ?_
      refine Wx.nilQ (fun w_123 hx_124 => ?_)
      have hS := hS.ext hx_124
      refine W.condF rfl rfl ?_
      refine W.skip ?_
      refine W.seq ?_
      refine W.seq ?_
      refine W.reg ?_
      refine Wx.rd (v := v_33) (rd_move rfl) rfl ?_
      refine Wx.rd (v := .int .i64 ((basinV (sdC 6 zs) (sdH 6 zs) (one % ((sdH 6 zs).length : Int))).length : Int)) (rd_lenR hS 2 rfl rfl Try.underlying22) rfl ?_
      refine Wx.rd (v := .int .i64 0) (rd_move rfl) rfl ?_
      refine Wx.nil ?_
      refine W.block ?_
      refine W.loop [4, 21, 219, 220, 221, 222, 223, 224, 225, 226, 227, 228, 229, 230, 231, 232, 233, 234, 235, 236, 237, 238, 239, 240, 241, 242, 243, 244, 245, 246, 247, 248, 249, 250] (fun (j : Int) => [(219, .int .i64 j)]) (fun (j : Int) w' => St w O w' [.row (tI .i64) 3 r_77 far, .row (tI .i64) 3 v_74 [1000], .row (tI .i64) 3 v_33 (basinV (sdC 6 zs) (sdH 6 zs) (one % ((sdH 6 zs).length : Int))), .row (tI .i64) 3 v_27 (wayP (sdC 6 zs) (sdH 6 zs) (one % ((sdH 6 zs).length : Int))), .row (tI .i64) 3 v_21 (sillsE (sdR 6 zs) (sdC 6 zs) (sdH 6 zs)), Ob.v (tSl (tI .i64)) (sdH 6 zs) v_8, .box g_11 24 [.int .i64 (sdR 6 zs), .int .i64 (sdC 6 zs), v_8], .box g_1 60 (List.map (Value.int .u8) zs)] ∧ 0 ≤ j ∧ j ≤ (basinV (sdC 6 zs) (sdH 6 zs) (one % ((sdH 6 zs).length : Int))).length) (fun (j : Int) => ((basinV (sdC 6 zs) (sdH 6 zs) (one % ((sdH 6 zs).length : Int))).length - j).toNat) 0 ⟨rfl, trivial⟩ ⟨hS, (by first | omega | simp), (by first | omega | simp)⟩ ?_
      rintro j u_126 w_125 ⟨hS, j0, j1⟩
      refine W.seq ?_
      refine W.reg ?_
      refine Wx.rd (v := .bool (decide (j < ((basinV (sdC 6 zs) (sdH 6 zs) (one % ((sdH 6 zs).length : Int))).length : Int)))) (rd_lss rfl rfl) rfl ?_
      refine Wx.nil ?_
      refine W.seq ?_
      refine W.condD rfl (fun c11 => ?_) (fun c11 => ?_)
      · -- yes
        have hbm := ix_inl j0 c11
        have hbw := basin_low hp hbm
        have hbj := p_ok.at hbw.1.1 hbw.1.2
        refine W.skip ?_
        refine W.seq ?_
        refine W.block ?_
        refine W.seq ?_
        refine W.reg ?_
        refine Wx.indexR hS 2 rfl rfl rfl Try.underlying22 Try.sizeOf3 (by first | omega | (simp only [List.length_set, List.length_append, List.length_cons, List.length_nil, List.length_replicate]; omega)) (by first | omega | (simp only [List.length_set, List.length_append, List.length_cons, List.length_nil, List.length_replicate]; omega)) rfl (fun g_127 hg_128 => ?_)
        refine Wx.rd (v := .int .i64 (ix 0 (basinV (sdC 6 zs) (sdH 6 zs) (one % ((sdH 6 zs).length : Int))) j)) (rd_loadRI' hS 2 rfl hg_128 rfl (by first | omega | (simp only [List.length_set, List.length_append, List.length_cons, List.length_nil, List.length_replicate]; omega)) (by first | omega | (simp only [List.length_set, List.length_append, List.length_cons, List.length_nil, List.length_replicate]; omega)) Try.isAgg3 Try.sizeOf3) rfl ?_
        have bd_129 := bd_i64 (hS.rowInK' 2 rfl (by first | omega | (simp only [List.length_set, List.length_append, List.length_cons, List.length_nil, List.length_replicate]; omega)) (by first | omega | (simp only [List.length_set, List.length_append, List.length_cons, List.length_nil, List.length_replicate]; omega)) : InK .i64 (ix 0 (basinV (sdC 6 zs) (sdH 6 zs) (one % ((sdH 6 zs).length : Int))) j))
        refine Wx.rd (v := .int .i64 (ix 0 (basinV (sdC 6 zs) (sdH 6 zs) (one % ((sdH 6 zs).length : Int))) j)) (rd_assign rfl) rfl ?_
        refine Wx.nil ?_
        refine W.seq ?_
        refine W.regQ mixedMs_ (by kernel_rfl) ?_
        refine Wx.rd (v := .int .i64 (ix 0 (basinV (sdC 6 zs) (sdH 6 zs) (one % ((sdH 6 zs).length : Int))) j)) (rd_move rfl) rfl ?_
        refine Wx.rd (v := .bool false) (Rd.to (v := .bool (decide ((ix 0 (basinV (sdC 6 zs) (sdH 6 zs) (one % ((sdH 6 zs).length : Int))) j) < 0))) (rd_lss rfl rfl) (congrArg (Value.bool) (show (false : Bool) = (decide ((ix 0 (basinV (sdC 6 zs) (sdH 6 zs) (one % ((sdH 6 zs).length : Int))) j) < 0) : Bool) from (decide_eq_false (by omega)).symm).symm)) rfl ?_
        refine Wx.rd (v := .bool false) (rd_move rfl) rfl ?_
        refine Wx.gyes rfl rfl rfl ?_
        refine Wx.rd (v := .int .i64 (ix 0 (basinV (sdC 6 zs) (sdH 6 zs) (one % ((sdH 6 zs).length : Int))) j)) (rd_move rfl) rfl ?_
        refine Wx.gyes rfl rfl rfl ?_
        refine Wx.rd (v := .int .i64 ((sdH 6 zs).length : Int)) (rd_move rfl) rfl ?_
        refine Wx.gyes rfl rfl rfl ?_
        refine Wx.rd (v := .bool false) (Rd.to (v := .bool (decide (((sdH 6 zs).length : Int) ≤ (ix 0 (basinV (sdC 6 zs) (sdH 6 zs) (one % ((sdH 6 zs).length : Int))) j)))) (rd_geq rfl rfl) (congrArg (Value.bool) (show (false : Bool) = (decide (((sdH 6 zs).length : Int) ≤ (ix 0 (basinV (sdC 6 zs) (sdH 6 zs) (one % ((sdH 6 zs).length : Int))) j)) : Bool) from (decide_eq_false (by omega)).symm).symm)) rfl ?_
        refine Wx.rd (v := .bool false) (rd_pickF rfl rfl) rfl ?_
        refine Wx.rd (v := .bool false) (rd_move rfl) rfl ?_
        refine Wx.gyes rfl rfl rfl ?_
        refine Wx.rd (v := v_21) (rd_move rfl) rfl ?_
        refine Wx.gyes rfl rfl rfl ?_
        refine Wx.rd (v := .int .i64 (ix 0 (basinV (sdC 6 zs) (sdH 6 zs) (one % ((sdH 6 zs).length : Int))) j)) (rd_move rfl) rfl ?_
        refine Wx.gyes rfl rfl rfl ?_
        refine Wx.indexR hS 4 rfl rfl rfl Try.underlying22 Try.sizeOf3 (by first | omega | (simp only [List.length_set, List.length_append, List.length_cons, List.length_nil, List.length_replicate]; omega)) (by first | omega | (simp only [List.length_set, List.length_append, List.length_cons, List.length_nil, List.length_replicate]; omega)) rfl (fun g_130 hg_131 => ?_)
        refine Wx.gyes rfl rfl rfl ?_
        refine Wx.rd (v := .int .i64 (sillV (sdC 6 zs) (sdH 6 zs) (ix 0 (basinV (sdC 6 zs) (sdH 6 zs) (one % ((sdH 6 zs).length : Int))) j))) (Rd.to (v := .int .i64 (ix 0 (sillsE (sdR 6 zs) (sdC 6 zs) (sdH 6 zs)) (ix 0 (basinV (sdC 6 zs) (sdH 6 zs) (one % ((sdH 6 zs).length : Int))) j))) (rd_loadRI' hS 4 rfl hg_131 rfl (by first | omega | (simp only [List.length_set, List.length_append, List.length_cons, List.length_nil, List.length_replicate]; omega)) (by first | omega | (simp only [List.length_set, List.length_append, List.length_cons, List.length_nil, List.length_replicate]; omega)) Try.isAgg3 Try.sizeOf3) (congrArg (Value.int .i64) (show (sillV (sdC 6 zs) (sdH 6 zs) (ix 0 (basinV (sdC 6 zs) (sdH 6 zs) (one % ((sdH 6 zs).length : Int))) j) : Int) = (ix 0 (sillsE (sdR 6 zs) (sdC 6 zs) (sdH 6 zs)) (ix 0 (basinV (sdC 6 zs) (sdH 6 zs) (one % ((sdH 6 zs).length : Int))) j) : Int) from (sills_ix p_ok hbw.1.1 hbw.1.2).symm).symm)) rfl ?_
        have bd_132 := bd_i64 (hS.rowInK' 4 rfl (by first | omega | (simp only [List.length_set, List.length_append, List.length_cons, List.length_nil, List.length_replicate]; omega)) (by first | omega | (simp only [List.length_set, List.length_append, List.length_cons, List.length_nil, List.length_replicate]; omega)) : InK .i64 (ix 0 (sillsE (sdR 6 zs) (sdC 6 zs) (sdH 6 zs)) (ix 0 (basinV (sdC 6 zs) (sdH 6 zs) (one % ((sdH 6 zs).length : Int))) j)))
        refine Wx.gyes rfl rfl rfl ?_
        refine Wx.rd (v := v_21) (rd_move rfl) rfl ?_
        refine Wx.gyes rfl rfl rfl ?_
        refine Wx.rd (v := .int .i64 (one % ((sdH 6 zs).length : Int))) (rd_move rfl) rfl ?_
        refine Wx.gyes rfl rfl rfl ?_
        refine Wx.indexR hS 4 rfl rfl rfl Try.underlying22 Try.sizeOf3 (by first | omega | (simp only [List.length_set, List.length_append, List.length_cons, List.length_nil, List.length_replicate]; omega)) (by first | omega | (simp only [List.length_set, List.length_append, List.length_cons, List.length_nil, List.length_replicate]; omega)) rfl (fun g_133 hg_134 => ?_)
        refine Wx.gyes rfl rfl rfl ?_
        refine Wx.rd (v := .int .i64 (sillV (sdC 6 zs) (sdH 6 zs) (one % ((sdH 6 zs).length : Int)))) (Rd.to (v := .int .i64 (ix 0 (sillsE (sdR 6 zs) (sdC 6 zs) (sdH 6 zs)) (one % ((sdH 6 zs).length : Int)))) (rd_loadRI' hS 4 rfl hg_134 rfl (by first | omega | (simp only [List.length_set, List.length_append, List.length_cons, List.length_nil, List.length_replicate]; omega)) (by first | omega | (simp only [List.length_set, List.length_append, List.length_cons, List.length_nil, List.length_replicate]; omega)) Try.isAgg3 Try.sizeOf3) (congrArg (Value.int .i64) (show (sillV (sdC 6 zs) (sdH 6 zs) (one % ((sdH 6 zs).length : Int)) : Int) = (ix 0 (sillsE (sdR 6 zs) (sdC 6 zs) (sdH 6 zs)) (one % ((sdH 6 zs).length : Int)) : Int) from (sills_ix p_ok hp0 hp1).symm).symm)) rfl ?_
        have bd_135 := bd_i64 (hS.rowInK' 4 rfl (by first | omega | (simp only [List.length_set, List.length_append, List.length_cons, List.length_nil, List.length_replicate]; omega)) (by first | omega | (simp only [List.length_set, List.length_append, List.length_cons, List.length_nil, List.length_replicate]; omega)) : InK .i64 (ix 0 (sillsE (sdR 6 zs) (sdC 6 zs) (sdH 6 zs)) (one % ((sdH 6 zs).length : Int))))
        refine Wx.gyes rfl rfl rfl ?_
        refine Wx.rd (v := .bool false) (Rd.to (v := .bool (decide ((sillV (sdC 6 zs) (sdH 6 zs) (ix 0 (basinV (sdC 6 zs) (sdH 6 zs) (one % ((sdH 6 zs).length : Int))) j)) ≠ (sillV (sdC 6 zs) (sdH 6 zs) (one % ((sdH 6 zs).length : Int)))))) (rd_neq rfl rfl) (congrArg (Value.bool) (show (false : Bool) = (decide ((sillV (sdC 6 zs) (sdH 6 zs) (ix 0 (basinV (sdC 6 zs) (sdH 6 zs) (one % ((sdH 6 zs).length : Int))) j)) ≠ (sillV (sdC 6 zs) (sdH 6 zs) (one % ((sdH 6 zs).length : Int)))) : Bool) from (decide_eq_false (fun z => z (basin_sill p_ok hp hbm))).symm).symm)) rfl ?_
        refine Wx.rd (v := .bool false) (rd_pickF rfl rfl) rfl ?_
        refine Wx.rd (v := .bool false) (rd_move rfl) rfl ?_
        refine Wx.gyes rfl rfl rfl ?_
        refine Wx.rd (v := .pointer (some ⟨g_11, 2, none⟩)) (rd_fieldAddr rfl foMs_24_2) rfl ?_
        refine Wx.gyes rfl rfl rfl ?_
        refine Wx.rd (v := v_8) (rd_loadX hS 6 rfl rfl rfl Try.isAgg22) rfl ?_
        refine Wx.gyes rfl rfl rfl ?_
        refine Wx.rd (v := .int .i64 (ix 0 (basinV (sdC 6 zs) (sdH 6 zs) (one % ((sdH 6 zs).length : Int))) j)) (rd_move rfl) rfl ?_
        refine Wx.gyes rfl rfl rfl ?_
        refine Wx.ex (rd_index 0 (hS.v 5 rfl) rfl rfl Try.underlying22 Try.sizeOf3 (by first | omega | (simp only [List.length_set, List.length_append, List.length_cons, List.length_nil, List.length_replicate]; omega)) (by first | omega | (simp only [List.length_set, List.length_append, List.length_cons, List.length_nil, List.length_replicate]; omega))) rfl (fun p_136 hp_137 => ?_)
        refine Wx.gyes rfl rfl rfl ?_
        refine Wx.rd (v := .int .i64 (ix 0 (sdH 6 zs) (ix 0 (basinV (sdC 6 zs) (sdH 6 zs) (one % ((sdH 6 zs).length : Int))) j))) (rd_loadI hp_137 rfl Try.isAgg3 Try.sizeOf3) rfl ?_
        have bd_138 := bd_i64 hp_137.inK
        refine Wx.gyes rfl rfl rfl ?_
        refine Wx.rd (v := .int .i64 hi) (rd_move rfl) rfl ?_
        refine Wx.gyes rfl rfl rfl ?_
        refine Wx.rd (v := .bool false) (Rd.to (v := .bool (decide (hi ≤ (ix 0 (sdH 6 zs) (ix 0 (basinV (sdC 6 zs) (sdH 6 zs) (one % ((sdH 6 zs).length : Int))) j))))) (rd_geq rfl rfl) (congrArg (Value.bool) (show (false : Bool) = (decide (hi ≤ (ix 0 (sdH 6 zs) (ix 0 (basinV (sdC 6 zs) (sdH 6 zs) (one % ((sdH 6 zs).length : Int))) j))) : Bool) from (decide_eq_false (by omega)).symm).symm)) rfl ?_
        refine Wx.rd (v := .bool false) (rd_pickF rfl rfl) rfl ?_
        refine Wx.nilQ (fun w_139 hx_140 => ?_)
        have hS := hS.ext hx_140
        refine W.condF rfl rfl ?_
        refine W.skip ?_
        refine W.reg ?_
        refine Wx.rd (v := .int .i64 (j + 1)) (rd_add rfl rfl (in_i64 (by omega) (by omega))) rfl ?_
        refine Wx.rd (v := .int .i64 (j + 1)) (rd_move rfl) rfl ?_
        refine Wx.nil ?_
        refine ⟨j + 1, (by show ((basinV (sdC 6 zs) (sdH 6 zs) (one % ((sdH 6 zs).length : Int))).length - (j + 1)).toNat < ((basinV (sdC 6 zs) (sdH 6 zs) (one % ((sdH 6 zs).length : Int))).length - j).toNat; omega), ?_, ?_, Out.look rfl Out.self⟩
        · exact ⟨hS, (by first | omega | assumption), (by first | omega | assumption)⟩
        · exact ⟨rfl, trivial⟩
      · -- no
        refine W.exit rfl ?_
        refine W.seq ?_
        refine W.reg ?_
        refine Wx.callF (run_callF Try.call16 rfl) (F16) rfl ?_
        rintro r_141 w_142 hx_143 rfl
        have hS := hS.ext hx_143
        refine Wx.rd (v := .bool true) (rd_assign rfl) rfl ?_
        refine Wx.nil ?_
        exact W.ret ⟨.bool true, ResIs.one, hS.bel, rfl⟩
end Go.Proofs.Ytjhimoeodkaihaa

namespace Go.Wk
open Go.RowKit Go.ChangeShapes

section
variable {H : Type} {enc : TypeId × Value → H} {P : Program} {W : World}

theorem inK_of_wf {k : IntKind} {n : Int} (h : (Lit.int k n).wf = true) : InK k n := by
  cases k <;> simp [Lit.wf, IntKind.min, IntKind.max, IntKind.bits, IntKind.signed] at h <;> simp only [InK, lo, hi] <;> omega

structure Rds {α : Type} (enc : TypeId × Value → H) (P : Program) (W : World) (t : Ty α) (e : TypeId) : Prop where
  n : P.cellsOf e = t.n
  pos : 0 < t.n
  get : ∀ fuel cs x, DataW.trod enc P W 0 (fun _ => true) true fuel e cs = some x → ∃ y, t.rep [] W y cs

theorem list_of {α : Type} {p : Nat → α → Prop} : ∀ n : Nat, (∀ i, i < n → ∃ y, p i y) → ∃ ys : List α, ys.length = n ∧ ∀ i y, ys[i]? = some y → p i y
  | 0, _ => ⟨[], rfl, by simp⟩
  | n + 1, h => by
    obtain ⟨ys, h1, h2⟩ := list_of n (fun i hi => h i (by omega))
    obtain ⟨y, hy⟩ := h n (by omega)
    refine ⟨ys ++ [y], by simp [h1], fun i z hz => ?_⟩
    by_cases hi : i < ys.length
    · rw [List.getElem?_append_left hi] at hz; exact h2 i z hz
    · rw [List.getElem?_append_right (by omega)] at hz
      have : i - ys.length = 0 := by
        rcases Nat.eq_zero_or_pos (i - ys.length) with h | h
        · exact h
        · rw [List.getElem?_eq_none (by simp; omega)] at hz; cases hz
      rw [this] at hz
      simp at hz
      subst hz
      have : i = n := by omega
      rw [this]; exact hy

def RdI (enc : TypeId × Value → H) (P : Program) (W : World) (k : IntKind) (m : Nat) (e : TypeId) : Prop :=
  ∀ fuel cs x, DataW.trod enc P W 0 (fun _ => true) true fuel e cs = some x → ∃ zs : List Int, zs.length = m ∧ cs = zs.map (Value.int k) ∧ ∀ z ∈ zs, InK k z
theorem RdI.int {k : IntKind} {e : TypeId} (hu : P.underlying e = some (.int k)) : RdI enc P W k 1 e := by
  intro fuel cs x h
  obtain ⟨n, rfl, _, h3⟩ := DataW.trod_int hu h
  exact ⟨[n], rfl, rfl, by simpa using inK_of_wf h3⟩
theorem RdI.array {k : IntKind} {n : Nat} {e t : TypeId} (hu : P.underlying t = some (.array n e)) (he : P.underlying e = some (.int k)) (hc : P.cellsOf e = 1) (hn : P.cellsOf t = n) : RdI enc P W k n t := by
  intro fuel cs x h
  obtain ⟨xs, m, _, _, hl, hx, hel⟩ := DataW.trod_array hu h
  rw [hc] at hel
  rw [hn] at hl
  have h1 : ∀ i, i < n → ∃ z, cs[i]? = some (.int k z) ∧ InK k z := by
    intro i hi
    have := hel i hi
    cases hxi : xs[i]? with
    | none => rw [List.getElem?_eq_none_iff] at hxi; omega
    | some y =>
      rw [hxi] at this
      obtain ⟨z, hz, _, hw⟩ := DataW.trod_int he this
      refine ⟨z, ?_, inK_of_wf hw⟩
      have h2 := congrArg (fun l : List Value => l[0]?) hz
      simp only [List.getElem?_take, List.getElem?_drop] at h2
      simpa using h2
  obtain ⟨zs, z1, z2⟩ := list_of (p := fun i z => cs[i]? = some (.int k z) ∧ InK k z) n h1
  refine ⟨zs, z1, List.ext_getElem? fun i => ?_, fun z hz => ?_⟩
  · rw [List.getElem?_map]
    by_cases hi : i < n
    · have hzi : zs[i]? = some zs[i] := List.getElem?_eq_getElem (by omega)
      rw [hzi, (z2 i _ hzi).1]; rfl
    · rw [List.getElem?_eq_none (by omega), List.getElem?_eq_none (by omega)]; rfl
  · obtain ⟨i, hi⟩ := List.getElem?_of_mem hz
    exact (z2 i z hi).2
theorem RdI.struct3 {k : IntKind} {t : TypeId} {f0 f1 f2 : Field} {m0 m1 m2 : Nat} (hu : P.underlying t = some (.struct #[f0, f1, f2])) (h0 : RdI enc P W k m0 f0.type) (h1 : RdI enc P W k m1 f1.type) (h2 : RdI enc P W k m2 f2.type)
    (c0 : P.cellsOf f0.type = m0) (c1 : P.cellsOf f1.type = m1) (c2 : P.cellsOf f2.type = m2) (o0 : f0.offset = 0) (o1 : f1.offset = m0) (o2 : f2.offset = m0 + m1) (hC : P.cellsOf t = m0 + m1 + m2) : RdI enc P W k (m0 + m1 + m2) t := by
  intro fuel cs x h
  obtain ⟨y0, y1, y2, n, _, hl, r0, r1, r2⟩ := Go.Deep.trod_struct3 hu h
  rw [c0, o0] at r0
  rw [c1, o1] at r1
  rw [c2, o2] at r2
  rw [hC] at hl
  obtain ⟨z0, l0, e0, i0⟩ := h0 _ _ _ r0
  obtain ⟨z1, l1, e1, i1⟩ := h1 _ _ _ r1
  obtain ⟨z2, l2, e2, i2⟩ := h2 _ _ _ r2
  refine ⟨z0 ++ z1 ++ z2, by simp only [List.length_append, l0, l1, l2], ?_, fun z hz => ?_⟩
  · have h3 : List.take m2 (List.drop (m0 + m1) cs) = List.drop m1 (List.drop m0 cs) := by rw [List.drop_drop]; exact List.take_of_length_le (by simp; omega)
    rw [List.map_append, List.map_append, ← e0, ← e1, ← e2, List.drop_zero, h3, List.append_assoc, List.take_append_drop, List.take_append_drop]
  · rcases List.mem_append.1 hz with hz | hz
    · rcases List.mem_append.1 hz with hz | hz
      · exact i0 z hz
      · exact i1 z hz
    · exact i2 z hz
theorem RdI.v {k : IntKind} {t : TypeId} {m : Nat} {cs : Array Value} {d : DataW H} {p : List MemPlace} (h : RdI enc P W k m t) (hx : DataW.Trod enc P W 0 (fun _ => true) true t (.agg cs) d p) : ∃ zs : List Int, zs.length = m ∧ cs = (zs.map (Value.int k)).toArray ∧ ∀ z ∈ zs, InK k z := by
  obtain ⟨fuel, hf⟩ := hx
  obtain ⟨zs, h1, h2, h3⟩ := h _ _ _ hf
  refine ⟨zs, h1, ?_, h3⟩
  rw [← h2]
  simp [Value.cells]
end
end Go.Wk

namespace Go.Wk
open Go.RowKit Go.ChangeShapes
section
variable {H : Type} {enc : TypeId × Value → H} {P : Program} {W : World}
end
end Go.Wk

namespace Go.Wk
open Go.RowKit Go.ChangeShapes
section
variable {H : Type} {enc : TypeId × Value → H} {P : Program} {W : World}
end
section
variable {P : Program} {σ : Fr} {w : World} {x : Operand} {ty : TypeId}
end
end Go.Wk

namespace Go.Wk
open Go.RowKit Go.ChangeShapes
section
variable {H : Type} {enc : TypeId × Value → H} {P : Program} {W : World}
end
end Go.Wk

namespace Go.Proofs.Ytjhimoeodkaihaa.ebbProved
open Go.ChangeShapes Go.WideShapes Go.ChangeAt Go.RowKit Go.Joins Go.Wk
set_option linter.unusedVariables false

theorem own : ownKnob Try.prog.godebug = none := by kernel_rfl
theorem laidOut : laidOutB Try.prog = true := by kernel_rfl
theorem cells5 : Try.prog.cellsOf 5 = 1 := by kernel_rfl
theorem cells58 : Try.prog.cellsOf 58 = 36 := by kernel_rfl
theorem cells60 : Try.prog.cellsOf 60 = 38 := by kernel_rfl

set_option maxRecDepth 100000 in
theorem lifted (os : Os) (started : os.Started) (H : Type) (enc : TypeId × Value → H) :
    ReturnsInHanded {} Try.checked os 13 .any (Rows.ebbProvedSpec.pre6 enc Try.prog Try.f13 Rows.ebbProvedRow.domain false) (Rows.ebbProvedSpec.post enc Try.prog Try.f13 false true false false) := by
  refine returnsInHanded_of_change (C := Try.checked) own started (by kernel_rfl) Try.func13
    (ChangeSpec.witness6 (enc := enc) (C := Try.checked) false ⟨#[], #[.agg #[.int .u8 0, .int .u8 0, .int .u8 0, .int .u8 0, .int .u8 0, .int .u8 0, .int .u8 0, .int .u8 0, .int .u8 0, .int .u8 0, .int .u8 0, .int .u8 0, .int .u8 0, .int .u8 0, .int .u8 0, .int .u8 0, .int .u8 0, .int .u8 0, .int .u8 0, .int .u8 0, .int .u8 0, .int .u8 0, .int .u8 0, .int .u8 0, .int .u8 0, .int .u8 0, .int .u8 0, .int .u8 0, .int .u8 0, .int .u8 0, .int .u8 0, .int .u8 0, .int .u8 0, .int .u8 0, .int .u8 0, .int .u8 0, .int .u8 0, .int .u8 0], .int .u8 0], []⟩ 8 (by kernel_rfl) (by kernel_rfl) (by kernel_rfl) (by kernel_rfl)) ?_
  intro W base args ds gs before hval0 hW hcnd _
  have hval : ∀ (j : Nat) t v, Try.f13.params[j]? = some t → args[j]? = some v → Value.okWide Try.prog W .any base t v := hval0
  have hW' := hW
  obtain ⟨p, q, hA0, hV, rfl, hfz, hnd⟩ := hW
  have hA : DataW.TrodAll enc Try.prog W 0 (fun _ => true) true Try.f13.params.toList args.toList ds p := hA0
  rw [Try.params13] at hA hval
  obtain ⟨v0, vs0, d0, ds0, p0, q0, hargs, rfl, rfl, h0, r0⟩ := trodAll_cons hA
  obtain ⟨v1, vs1, d1, ds1, p1, q1, rfl, rfl, rfl, h1, r1⟩ := trodAll_cons r0
  obtain ⟨rfl, rfl, rfl⟩ := trodAll_nil r1
  obtain rfl : args = #[v0, v1] := by cases args; simp_all
  obtain ⟨rfl, rfl⟩ := trodVars_none hV
  have k0 := h0
  have lt0 : ∀ x ∈ p0, x.block < W.heap.size := by obtain ⟨m, hm⟩ := k0; exact DataW.trod_lt m _ _ _ hm
  obtain ⟨cs0, rfl, hsz0⟩ := okWide_struct Try.underlying60 (hval 0 60 v0 rfl rfl)
  obtain ⟨zs0, hz0, rfl, hin0⟩ := RdI.v (RdI.struct3 Try.underlying60 (RdI.int Try.underlying5) (RdI.int Try.underlying5) (RdI.array Try.underlying58 Try.underlying5 cells5 cells58) cells5 cells5 cells58 rfl rfl rfl cells60) h0
  obtain ⟨a1, rfl, rfl, rfl, u1⟩ := open_int Try.underlying5 (hval 1 5 v1 rfl rfl) h1
  clear hA0 hval0
  refine (F13 hz0 hin0 (inK_of_wf u1) (fun b (h : some b ∈ ([] : List (Option Nat))) => nomatch h)).mono fun e W' hE => ?_
  obtain ⟨r, he, bel, hr⟩ := hE
  subst he
  subst hr
  exact ⟨_, rfl, _, _, _, [], _, [], hW', trodAll_mk1 (shut_bool Try.underlying4 _), (trodAll_cons_mk (Below.trod laidOut (by kernel_rfl) (of_decide_eq_true (by kernel_rfl)) k0 bel lt0) (trodAll_cons_mk (shut_int Try.underlying5 u1) trodAll_mk0)), rfl, bel.frame _, fun h => by cases h⟩

theorem over : Rows.ebbProvedRow.holds Try.pinned (OpenSpec.ofChange Rows.ebbProvedSpec) :=
  OpenClaim.holds_of_wide 13 Try.f13 rfl rfl rfl rfl rfl rfl rfl ⟨rfl, rfl, rfl, rfl, rfl⟩ rfl rfl rfl rfl rfl (by kernel_rfl) Try.func13 (by kernel_rfl)
    (of_decide_eq_true (by kernel_rfl)) (by unfold Func.isWrapper; first | (rw [if_pos (by decide +kernel)]; kernel_rfl) | (rw [if_neg (by decide +kernel)]; exact ⟨rfl, rfl⟩))
    (fun os started H enc _ => lifted os started H enc)

end Go.Proofs.Ytjhimoeodkaihaa.ebbProved
namespace Go.Proofs.Ytjhimoeodkaihaa
/-- The statement. -/
theorem ebbProved_proved : Rows.EbbProvedSaid := ebbProved.over
#print axioms ebbProved_proved
end Go.Proofs.Ytjhimoeodkaihaa
