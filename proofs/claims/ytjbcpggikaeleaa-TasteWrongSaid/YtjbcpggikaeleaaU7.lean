/-
  WHAT IS PROVED HERE, TEXT BY TEXT (several texts of one prover, joined to one file; the conditions stand in each statement):
  * WHAT IS PROVED HERE: what functions of layer 10 hand back, each out of its own code; the conditions stand in each statement.
  * WHAT IS PROVED HERE: what functions of layer 10 hand back, each out of its own code; the conditions stand in each statement.
  * WHAT IS PROVED HERE: what functions of layer 10 hand back, each out of its own code; the conditions stand in each statement.
  * WHAT IS PROVED HERE: what functions of layer 10 hand back, each out of its own code; the conditions stand in each statement.
  * WHAT IS PROVED HERE: what functions of layer 10 hand back, each out of its own code; the conditions stand in each statement.
  * WHAT IS PROVED HERE: what functions of layer 10 hand back, each out of its own code; the conditions stand in each statement.
  * WHAT IS PROVED HERE: what functions of layer 10 hand back, each out of its own code; the conditions stand in each statement.
  * WHAT IS PROVED HERE: what functions of layer 10 hand back, each out of its own code; the conditions stand in each statement.
  * WHAT IS PROVED HERE: the given statement of TasteWrong: for every input it returns true, and each argument reads as it did. Conditions: none.
-/
import Derived.Test.YtjbcpggikaeleaaProg
import Derived.Test.YtjbcpggikaeleaaU2
import Derived.Test.YtjbcpggikaeleaaU6
import Derived.Test.YtjbcpggikaeleaaU3
import Derived.Test.YtjbcpggikaeleaaRows
import Derived.WalkKit
import Derived.ProofKit
import Derived.OpenShut
import Derived.Carry
import Derived.Lib.SmallJoins

set_option linter.unusedVariables false
set_option linter.unusedSimpArgs false

namespace Go.Proofs.Ytjbcpggikaeleaa
open Go.Wk Go.RowKit Go.Lib
set_option linter.unusedVariables false
set_option linter.unusedSimpArgs false
theorem elKl_39 : ElemI Try.prog 39 3 (.int .i64 0) 1 8 := ElemI.of Try.underlying39 (by kernel_rfl) (by first | rfl | kernel_rfl) (by decide)
theorem mixedKl_ : Try.prog.follows .mixedOrders = true := by kernel_rfl

set_option maxHeartbeats 1000000 in
theorem F86 {v : Value} {l : List ((List Int) × (List Int))} {a : Int} {b : Int} {O : List (Option Nat)} {w : World} (h_v : V (tSl (tP (tSl (tI .i64)) (tSl (tI .i64)))) l v O w) (i_a : InK .i64 a) (i_b : InK .i64 b) (p_ok : SalesOK l) (p_a : 0 ≤ a) (p_a2 : a < (l.length : Int)) (hO : ∀ b, some b ∈ O → b < w.heap.size) : Calls Try.prog 86 #[v, .int .i64 a, .int .i64 b] w (Ret w (fun r _ => r = .bool (beatsV (gS l) (bS l) l.length a b))) := by
  have b_b := bd_i64 i_b
  have b_a := bd_i64 i_a
  have hl6 := p_ok.1
  obtain ⟨gd, hgd, hok⟩ := p_ok.at
  have a_v := h_v
  have l_v := h_v.len63
  have hS := St.start w O hO
  refine enterR Try.func86 rfl Try.ntmps86 Try.results86 rfl ?_
  refine W.seq ?_
  refine W.reg ?_
  refine Wx.rd (v := .bool false) (rd_assign rfl) rfl ?_
  refine Wx.nil ?_
  refine W.seq ?_
  refine W.seq ?_
  refine W.reg ?_
  refine Wx.rd (v := .int .i64 2) (rd_assign rfl) rfl ?_
  refine Wx.nil ?_
  refine W.block ?_
  refine W.loop [6, 7, 8, 9, 10, 11, 12, 13, 14, 15, 16, 17, 18, 19, 20, 21, 22, 23, 24, 25, 26, 27, 28, 29, 30, 31, 32, 33, 34, 35, 36, 37, 38, 39, 40, 41, 42, 43, 44, 45, 46, 47, 48, 49, 50, 51, 52, 53, 54, 55, 56, 57, 58, 59, 60, 61, 62, 63, 64, 65, 66, 67, 68, 69, 70, 71, 72] (fun (m : Int) => [(7, .int .i64 m)]) (fun (m : Int) w' => St w O w' [] ∧ 2 ≤ m ∧ (m ≤ l.length + 1 ∨ m = 2) ∧ beatM (gS l) (bS l) l.length a b (rng m (l.length + 1)) = beatsV (gS l) (bS l) l.length a b) (fun (m : Int) => (l.length + 1 - m).toNat) 2 ⟨rfl, trivial⟩ ⟨hS, (by first | omega | simp), (by first | omega | simp), (rfl)⟩ ?_
  rintro m u_2 w_1 ⟨hS, k0, h1, h2⟩
  refine W.seq ?_
  refine W.seq ?_
  refine W.reg ?_
  refine Wx.rd (v := .int .i64 m) (rd_move rfl) rfl ?_
  refine Wx.rd (v := v) (rd_move rfl) rfl ?_
  refine Wx.rd (v := .int .i64 (l.length : Int)) (rd_lenV rfl (hS.arg a_v) Try.underlying25) rfl ?_
  refine Wx.rd (v := .bool (decide (m ≤ (l.length : Int)))) (rd_leq rfl rfl) rfl ?_
  refine Wx.nil ?_
  refine W.condD rfl (fun c0 => ?_) (fun c0 => ?_)
  · -- yes
    refine W.skip ?_
    refine W.seq ?_
    refine W.block ?_
    refine W.seq ?_
    refine W.reg ?_
    refine Wx.rd (v := v) (rd_move rfl) rfl ?_
    refine Wx.rd (v := .int .i64 a) (rd_move rfl) rfl ?_
    refine Wx.lit (t := (tI .i64)) (ys := [a]) (vs := [.int .i64 a]) elKl_39 hS rfl rfl ⟨(V.mkInt (in_i64 (by omega) (by omega))), trivial⟩ (by decide) rfl (fun v_3 w_4 hx_5 hS => ?_)
    refine Wx.rd (v := .int .i64 m) (rd_move rfl) rfl ?_
    have hS := hS.freeze 0 rfl
    refine Wx.callF (run_callF Try.call75 rfl) (F75 (hS.arg a_v) (hS.v 0 rfl) (in_i64 (by omega) (by omega)) p_ok (by simp) (by simp; omega) (by omega) (by simp; omega) hS.fb_lt) rfl ?_
    rintro r_7 w_8 hx_9 ⟨_, rfl, hv_10⟩
    have hS := hS.pushFrO hx_9 hv_10
    have hpb := paths_bd (G := gS l) (n := l.length) (many := m) (b := [a]) hl6 (by simp; omega)
    refine Wx.rd (v := r_7) (rd_assign rfl) rfl ?_
    refine Wx.nil ?_
    refine W.seq ?_
    refine W.reg ?_
    refine Wx.rd (v := .int .i64 0) (rd_assign rfl) rfl ?_
    refine Wx.nil ?_
    refine W.block ?_
    have hS := hS.freeze 0 rfl
    refine W.loop [6, 9, 10, 11, 23, 24, 25, 26, 27, 28, 29, 30, 31, 32, 33, 34, 35, 36, 37, 38, 39, 40, 41, 42, 43, 44, 45, 46, 47, 48, 49, 50, 51, 52, 53, 54, 55, 56, 57, 58, 59, 60, 61, 62, 63, 64, 65, 66, 67, 68, 69, 70, 71, 72] (fun (i : Int) => [(9, .int .i64 i)]) (fun (i : Int) w' => St w O w' [Ob.v (tSl (tSl (tI .i64))) (pathsV (gS l) l.length m [a]) r_7, Ob.v (tSl (tI .i64)) [a] v_3] ∧ 0 ≤ i ∧ i ≤ ((pathsV (gS l) l.length m [a]).length : Int) ∧ (((pathsV (gS l) l.length m [a]).drop i.toNat).any (beatP (bS l) b m) || beatM (gS l) (bS l) l.length a b (rng (m + 1) (l.length + 1))) = beatsV (gS l) (bS l) l.length a b) (fun (i : Int) => ((pathsV (gS l) l.length m [a]).length - i).toNat) 0 ⟨rfl, trivial⟩ ⟨hS, (by first | omega | simp), (by first | omega | simp), (by rw [← h2, beatM_next (m := m) (by omega)]; rfl)⟩ ?_
    rintro i u_14 w_13 ⟨hS, i0, i1, i2⟩
    refine W.seq ?_
    refine W.seq ?_
    refine W.reg ?_
    refine Wx.rd (v := .int .i64 i) (rd_move rfl) rfl ?_
    refine Wx.rd (v := r_7) (rd_move rfl) rfl ?_
    refine Wx.rd (v := .int .i64 ((pathsV (gS l) l.length m [a]).length : Int)) (rd_lenV rfl (hS.v 0 rfl) Try.underlying104) rfl ?_
    refine Wx.rd (v := .bool (decide (i < ((pathsV (gS l) l.length m [a]).length : Int)))) (rd_lss rfl rfl) rfl ?_
    refine Wx.nil ?_
    refine W.condD rfl (fun c1 => ?_) (fun c1 => ?_)
    · -- yes
      obtain ⟨hq1, hq2⟩ := path_at (by omega) ⟨p_a, p_a2⟩ i0 c1
      obtain ⟨hf1, hf2⟩ := any_next i0 c1 i2
      refine W.skip ?_
      refine W.seq ?_
      refine W.block ?_
      refine W.seq ?_
      refine W.reg ?_
      refine Wx.rd (v := .bool false) (rd_assign rfl) rfl ?_
      refine Wx.nil ?_
      refine W.seq ?_
      refine W.seq ?_
      refine W.reg ?_
      refine Wx.rd (v := .int .i64 0) (rd_assign rfl) rfl ?_
      refine Wx.nil ?_
      refine W.block ?_
      refine W.loop [10, 11, 29, 30, 31, 32, 33, 34, 35, 36, 37, 38, 39, 40, 41, 42, 43, 44, 45, 46, 47, 48, 49, 50, 51, 52, 53, 54, 55, 56, 57, 58, 59] (fun x : Bool × Int => match x with | (bt, j) => [(10, .bool bt), (11, .int .i64 j)]) (fun (x : Bool × Int) w' => match x with | (bt, j) => St w O w' [Ob.v (tSl (tSl (tI .i64))) (pathsV (gS l) l.length m [a]) r_7, Ob.v (tSl (tI .i64)) [a] v_3] ∧ 0 ≤ j ∧ j ≤ m - 1 ∧ bt = (rng 0 j).any (stepB (bS l) (ix [] (pathsV (gS l) l.length m [a]) i))) (fun x : Bool × Int => match x with | (bt, j) => (m - 1 - j).toNat) (false, 0) ⟨rfl, rfl, trivial⟩ ⟨hS, (by first | omega | simp), (by first | omega | simp), (rfl)⟩ ?_
      rintro ⟨bt, j⟩ u_16 w_15 ⟨hS, j0, j1, j2⟩
      refine W.seq ?_
      refine W.seq ?_
      refine W.reg ?_
      refine Wx.rd (v := .int .i64 j) (rd_move rfl) rfl ?_
      refine Wx.rd (v := .int .i64 (j + 1)) (rd_add rfl rfl (in_i64 (by omega) (by omega))) rfl ?_
      refine Wx.rd (v := .int .i64 m) (rd_move rfl) rfl ?_
      refine Wx.rd (v := .bool (decide ((j + 1) < m))) (rd_lss rfl rfl) rfl ?_
      refine Wx.nil ?_
      refine W.condD rfl (fun c2 => ?_) (fun c2 => ?_)
      · -- yes
        have hx1 := ix_in (lo := 0) (hi := (l.length : Int) - 1) (fun x hx => by have := hq2 x hx; omega) j0 (show j < (((ix [] (pathsV (gS l) l.length m [a]) i)).length : Int) by omega)
        have hx2 := ix_in (lo := 0) (hi := (l.length : Int) - 1) (fun x hx => by have := hq2 x hx; omega) (show 0 ≤ j + 1 by omega) (show j + 1 < (((ix [] (pathsV (gS l) l.length m [a]) i)).length : Int) by omega)
        refine W.skip ?_
        refine W.seq ?_
        refine W.block ?_
        refine W.regQ mixedKl_ (by kernel_rfl) ?_
        refine Wx.rd (v := .bool bt) (rd_move rfl) rfl ?_
        refine Wx.rd (v := .bool bt) (rd_move rfl) rfl ?_
        refine Wx.cutQ (X := Unit) 23 [37, 38, 39, 40, 41, 42, 43, 44, 45, 46, 47, 48, 49, 50, 51, 52, 53, 54, 55, 56, 57, 58, 59] (fun _ => [(59, .bool (bt || betterS (((ix ([], []) l (ix 0 (ix [] (pathsV (gS l) l.length m [a]) i) j)).1), ((ix ([], []) l (ix 0 (ix [] (pathsV (gS l) l.length m [a]) i) j)).2)) (((ix ([], []) l (ix 0 (ix [] (pathsV (gS l) l.length m [a]) i) (j + 1))).1), ((ix ([], []) l (ix 0 (ix [] (pathsV (gS l) l.length m [a]) i) (j + 1))).2))))]) (fun _ => True) ?_ ?_
        · rcases Bool.eq_false_or_eq_true bt with g_17 | g_17
          · -- True
            have gp_18 := g_17
            try simp only [Bool.and_eq_true, Bool.or_eq_true, Bool.not_eq_true', Bool.and_eq_false_iff, Bool.or_eq_false_iff, Bool.not_eq_false', decide_eq_true_eq, decide_eq_false_iff_not, not_or, Bool.false_eq_true, Bool.true_eq_false, false_or, or_false, not_false_eq_true] at gp_18
            refine Wx.gnoB rfl rfl (congrArg Value.bool g_17) rfl rfl ?_
            refine Wx.gnoB rfl rfl (congrArg Value.bool g_17) rfl rfl ?_
            refine Wx.gnoB rfl rfl (congrArg Value.bool g_17) rfl rfl ?_
            refine Wx.gnoB rfl rfl (congrArg Value.bool g_17) rfl rfl ?_
            refine Wx.gnoB rfl rfl (congrArg Value.bool g_17) rfl rfl ?_
            refine Wx.gnoB rfl rfl (congrArg Value.bool g_17) rfl rfl ?_
            refine Wx.gnoB rfl rfl (congrArg Value.bool g_17) rfl rfl ?_
            refine Wx.gnoB rfl rfl (congrArg Value.bool g_17) rfl rfl ?_
            refine Wx.gnoB rfl rfl (congrArg Value.bool g_17) rfl rfl ?_
            refine Wx.gnoB rfl rfl (congrArg Value.bool g_17) rfl rfl ?_
            refine Wx.gnoB rfl rfl (congrArg Value.bool g_17) rfl rfl ?_
            refine Wx.gnoB rfl rfl (congrArg Value.bool g_17) rfl rfl ?_
            refine Wx.gnoB rfl rfl (congrArg Value.bool g_17) rfl rfl ?_
            refine Wx.gnoB rfl rfl (congrArg Value.bool g_17) rfl rfl ?_
            refine Wx.gnoB rfl rfl (congrArg Value.bool g_17) rfl rfl ?_
            refine Wx.gnoB rfl rfl (congrArg Value.bool g_17) rfl rfl ?_
            refine Wx.gnoB rfl rfl (congrArg Value.bool g_17) rfl rfl ?_
            refine Wx.gnoB rfl rfl (congrArg Value.bool g_17) rfl rfl ?_
            refine Wx.gnoB rfl rfl (congrArg Value.bool g_17) rfl rfl ?_
            refine Wx.gnoB rfl rfl (congrArg Value.bool g_17) rfl rfl ?_
            refine Wx.gnoB rfl rfl (congrArg Value.bool g_17) rfl rfl ?_
            refine Wx.gnoB rfl rfl (congrArg Value.bool g_17) rfl rfl ?_
            refine Wx.rd (v := .bool true) (rd_pickT (congrArg Value.bool g_17) rfl) rfl ?_
            refine Wx.nilQ (fun _ _ => ⟨(), trivial, ⟨?_, trivial⟩, Out.look rfl Out.refl⟩)
            show Value.bool true = Value.bool (bt || betterS (((ix ([], []) l (ix 0 (ix [] (pathsV (gS l) l.length m [a]) i) j)).1), ((ix ([], []) l (ix 0 (ix [] (pathsV (gS l) l.length m [a]) i) j)).2)) (((ix ([], []) l (ix 0 (ix [] (pathsV (gS l) l.length m [a]) i) (j + 1))).1), ((ix ([], []) l (ix 0 (ix [] (pathsV (gS l) l.length m [a]) i) (j + 1))).2)))
            first | rw [g_17, Bool.true_or] | (rw [g_17]; rfl)
          · -- False
            have gp_19 := g_17
            try simp only [Bool.and_eq_true, Bool.or_eq_true, Bool.not_eq_true', Bool.and_eq_false_iff, Bool.or_eq_false_iff, Bool.not_eq_false', decide_eq_true_eq, decide_eq_false_iff_not, not_or, Bool.false_eq_true, Bool.true_eq_false, false_or, or_false, not_false_eq_true] at gp_19
            refine Wx.gyes rfl rfl (congrArg Value.bool g_17) ?_
            refine Wx.rd (v := v) (rd_move rfl) rfl ?_
            refine Wx.gyes rfl rfl (congrArg Value.bool g_17) ?_
            refine Wx.rd (v := r_7) (rd_move rfl) rfl ?_
            refine Wx.gyes rfl rfl (congrArg Value.bool g_17) ?_
            refine Wx.rd (v := .int .i64 i) (rd_move rfl) rfl ?_
            refine Wx.gyes rfl rfl (congrArg Value.bool g_17) ?_
            refine Wx.ex (rd_index [] (hS.v 0 rfl) rfl rfl Try.underlying104 Try.sizeOf39 (by first | omega | (simp only [List.length_set, List.length_append, List.length_cons, List.length_nil, List.length_replicate]; omega)) (by first | omega | (simp only [List.length_set, List.length_append, List.length_cons, List.length_nil, List.length_replicate]; omega))) rfl (fun p_20 hp_21 => ?_)
            refine Wx.gyes rfl rfl (congrArg Value.bool g_17) ?_
            refine Wx.ex (rd_load hp_21 rfl Try.isAgg39 Try.sizeOf39) rfl (fun v_22 hv_23 => ?_)
            have ln_24 := hv_23.len63
            have hS := hS.add hv_23
            refine Wx.gyes rfl rfl (congrArg Value.bool g_17) ?_
            refine Wx.rd (v := .int .i64 j) (rd_move rfl) rfl ?_
            refine Wx.gyes rfl rfl (congrArg Value.bool g_17) ?_
            refine Wx.ex (rd_index 0 (hS.v 0 rfl) rfl rfl Try.underlying39 Try.sizeOf3 (by first | omega | (simp only [List.length_set, List.length_append, List.length_cons, List.length_nil, List.length_replicate]; omega)) (by first | omega | (simp only [List.length_set, List.length_append, List.length_cons, List.length_nil, List.length_replicate]; omega))) rfl (fun p_26 hp_27 => ?_)
            refine Wx.gyes rfl rfl (congrArg Value.bool g_17) ?_
            refine Wx.rd (v := .int .i64 (ix 0 (ix [] (pathsV (gS l) l.length m [a]) i) j)) (rd_loadI hp_27 rfl Try.isAgg3 Try.sizeOf3) rfl ?_
            have bd_28 := bd_i64 hp_27.inK
            refine Wx.gyes rfl rfl (congrArg Value.bool g_17) ?_
            refine Wx.ex (rd_index ([], []) (hS.arg a_v) rfl rfl Try.underlying25 Try.sizeOf88 (by first | omega | (simp only [List.length_set, List.length_append, List.length_cons, List.length_nil, List.length_replicate]; omega)) (by first | omega | (simp only [List.length_set, List.length_append, List.length_cons, List.length_nil, List.length_replicate]; omega))) rfl (fun p_29 hp_30 => ?_)
            refine Wx.gyes rfl rfl (congrArg Value.bool g_17) ?_
            refine Wx.ex (rd_load hp_30 rfl Try.isAgg88 Try.sizeOf88) rfl (fun v_31 hv_32 => ?_)
            obtain ⟨v_33, v_34, rfl, hv_35, hv_36⟩ := hv_32.s2
            have hS := hS.add (hv_35)
            have ln_38 := (hS.v 0 rfl).len63
            have hS := hS.add (V.upF (hv_36))
            have ln_40 := (hS.v 0 rfl).len63
            refine Wx.gyes rfl rfl (congrArg Value.bool g_17) ?_
            refine Wx.rd (v := v) (rd_move rfl) rfl ?_
            refine Wx.gyes rfl rfl (congrArg Value.bool g_17) ?_
            refine Wx.rd (v := r_7) (rd_move rfl) rfl ?_
            refine Wx.gyes rfl rfl (congrArg Value.bool g_17) ?_
            refine Wx.rd (v := .int .i64 i) (rd_move rfl) rfl ?_
            refine Wx.gyes rfl rfl (congrArg Value.bool g_17) ?_
            refine Wx.ex (rd_index [] (hS.v 3 rfl) rfl rfl Try.underlying104 Try.sizeOf39 (by first | omega | (simp only [List.length_set, List.length_append, List.length_cons, List.length_nil, List.length_replicate]; omega)) (by first | omega | (simp only [List.length_set, List.length_append, List.length_cons, List.length_nil, List.length_replicate]; omega))) rfl (fun p_41 hp_42 => ?_)
            refine Wx.gyes rfl rfl (congrArg Value.bool g_17) ?_
            refine Wx.ex (rd_load hp_42 rfl Try.isAgg39 Try.sizeOf39) rfl (fun v_43 hv_44 => ?_)
            have ln_45 := hv_44.len63
            have hS := hS.add hv_44
            refine Wx.gyes rfl rfl (congrArg Value.bool g_17) ?_
            refine Wx.rd (v := .int .i64 j) (rd_move rfl) rfl ?_
            refine Wx.gyes rfl rfl (congrArg Value.bool g_17) ?_
            refine Wx.rd (v := .int .i64 (j + 1)) (rd_add rfl rfl (in_i64 (by omega) (by omega))) rfl ?_
            refine Wx.gyes rfl rfl (congrArg Value.bool g_17) ?_
            refine Wx.ex (rd_index 0 (hS.v 0 rfl) rfl rfl Try.underlying39 Try.sizeOf3 (by first | omega | (simp only [List.length_set, List.length_append, List.length_cons, List.length_nil, List.length_replicate]; omega)) (by first | omega | (simp only [List.length_set, List.length_append, List.length_cons, List.length_nil, List.length_replicate]; omega))) rfl (fun p_47 hp_48 => ?_)
            refine Wx.gyes rfl rfl (congrArg Value.bool g_17) ?_
            refine Wx.rd (v := .int .i64 (ix 0 (ix [] (pathsV (gS l) l.length m [a]) i) (j + 1))) (rd_loadI hp_48 rfl Try.isAgg3 Try.sizeOf3) rfl ?_
            have bd_49 := bd_i64 hp_48.inK
            refine Wx.gyes rfl rfl (congrArg Value.bool g_17) ?_
            refine Wx.ex (rd_index ([], []) (hS.arg a_v) rfl rfl Try.underlying25 Try.sizeOf88 (by first | omega | (simp only [List.length_set, List.length_append, List.length_cons, List.length_nil, List.length_replicate]; omega)) (by first | omega | (simp only [List.length_set, List.length_append, List.length_cons, List.length_nil, List.length_replicate]; omega))) rfl (fun p_50 hp_51 => ?_)
            refine Wx.gyes rfl rfl (congrArg Value.bool g_17) ?_
            refine Wx.ex (rd_load hp_51 rfl Try.isAgg88 Try.sizeOf88) rfl (fun v_52 hv_53 => ?_)
            obtain ⟨v_54, v_55, rfl, hv_56, hv_57⟩ := hv_53.s2
            have hS := hS.add (hv_56)
            have ln_59 := (hS.v 0 rfl).len63
            have hS := hS.add (V.upF (hv_57))
            have ln_61 := (hS.v 0 rfl).len63
            refine Wx.gyes rfl rfl (congrArg Value.bool g_17) ?_
            refine Wx.callV (v := .bool (betterS (((ix ([], []) l (ix 0 (ix [] (pathsV (gS l) l.length m [a]) i) j)).1), ((ix ([], []) l (ix 0 (ix [] (pathsV (gS l) l.length m [a]) i) j)).2)) (((ix ([], []) l (ix 0 (ix [] (pathsV (gS l) l.length m [a]) i) (j + 1))).1), ((ix ([], []) l (ix 0 (ix [] (pathsV (gS l) l.length m [a]) i) (j + 1))).2)))) (run_callF Try.call70 rfl) (fun w_62 hw_63 => (F70 ((hS.v 4 rfl).ext hw_63) ((hS.v 3 rfl).ext hw_63) ((hS.v 1 rfl).ext hw_63) ((hS.v 0 rfl).ext hw_63) (hok (ix 0 (ix [] (pathsV (gS l) l.length m [a]) i) j) (by omega) (by omega)).b1 (hok (ix 0 (ix [] (pathsV (gS l) l.length m [a]) i) j) (by omega) (by omega)).b2 (hok (ix 0 (ix [] (pathsV (gS l) l.length m [a]) i) (j + 1)) (by omega) (by omega)).b2 (by have := (hok (ix 0 (ix [] (pathsV (gS l) l.length m [a]) i) j) (by omega) (by omega)).l1; omega) (by have h1 := (hok (ix 0 (ix [] (pathsV (gS l) l.length m [a]) i) j) (by omega) (by omega)).l1; have h2 := (hok (ix 0 (ix [] (pathsV (gS l) l.length m [a]) i) j) (by omega) (by omega)).l2; omega) (by have h1 := (hok (ix 0 (ix [] (pathsV (gS l) l.length m [a]) i) j) (by omega) (by omega)).l1; have h2 := (hok (ix 0 (ix [] (pathsV (gS l) l.length m [a]) i) (j + 1)) (by omega) (by omega)).l2; omega))) rfl ?_
            refine Wx.rd (v := .bool (betterS (((ix ([], []) l (ix 0 (ix [] (pathsV (gS l) l.length m [a]) i) j)).1), ((ix ([], []) l (ix 0 (ix [] (pathsV (gS l) l.length m [a]) i) j)).2)) (((ix ([], []) l (ix 0 (ix [] (pathsV (gS l) l.length m [a]) i) (j + 1))).1), ((ix ([], []) l (ix 0 (ix [] (pathsV (gS l) l.length m [a]) i) (j + 1))).2)))) (rd_pickF (congrArg Value.bool g_17) rfl) rfl ?_
            refine Wx.nilQ (fun _ _ => ⟨(), trivial, ⟨?_, trivial⟩, Out.look rfl Out.refl⟩)
            show Value.bool (betterS (((ix ([], []) l (ix 0 (ix [] (pathsV (gS l) l.length m [a]) i) j)).1), ((ix ([], []) l (ix 0 (ix [] (pathsV (gS l) l.length m [a]) i) j)).2)) (((ix ([], []) l (ix 0 (ix [] (pathsV (gS l) l.length m [a]) i) (j + 1))).1), ((ix ([], []) l (ix 0 (ix [] (pathsV (gS l) l.length m [a]) i) (j + 1))).2))) = Value.bool (bt || betterS (((ix ([], []) l (ix 0 (ix [] (pathsV (gS l) l.length m [a]) i) j)).1), ((ix ([], []) l (ix 0 (ix [] (pathsV (gS l) l.length m [a]) i) j)).2)) (((ix ([], []) l (ix 0 (ix [] (pathsV (gS l) l.length m [a]) i) (j + 1))).1), ((ix ([], []) l (ix 0 (ix [] (pathsV (gS l) l.length m [a]) i) (j + 1))).2)))
            first | rw [g_17, Bool.false_or] | (rw [g_17]; rfl)
        rintro ⟨⟩ u_65 -
        refine Wx.rd (v := .bool (bt || betterS (((ix ([], []) l (ix 0 (ix [] (pathsV (gS l) l.length m [a]) i) j)).1), ((ix ([], []) l (ix 0 (ix [] (pathsV (gS l) l.length m [a]) i) j)).2)) (((ix ([], []) l (ix 0 (ix [] (pathsV (gS l) l.length m [a]) i) (j + 1))).1), ((ix ([], []) l (ix 0 (ix [] (pathsV (gS l) l.length m [a]) i) (j + 1))).2)))) (rd_assign rfl) rfl ?_
        refine Wx.nilQ (fun w_66 hx_67 => ?_)
        have hS := hS.ext hx_67
        refine W.reg ?_
        refine Wx.rd (v := .int .i64 j) (rd_move rfl) rfl ?_
        refine Wx.rd (v := .int .i64 (j + 1)) (rd_add rfl rfl (in_i64 (by omega) (by omega))) rfl ?_
        refine Wx.rd (v := .int .i64 (j + 1)) (rd_assign rfl) rfl ?_
        refine Wx.nil ?_
        refine ⟨((bt || betterS (((ix ([], []) l (ix 0 (ix [] (pathsV (gS l) l.length m [a]) i) j)).1), ((ix ([], []) l (ix 0 (ix [] (pathsV (gS l) l.length m [a]) i) j)).2)) (((ix ([], []) l (ix 0 (ix [] (pathsV (gS l) l.length m [a]) i) (j + 1))).1), ((ix ([], []) l (ix 0 (ix [] (pathsV (gS l) l.length m [a]) i) (j + 1))).2))), j + 1), (by show (m - 1 - (j + 1)).toNat < (m - 1 - j).toNat; omega), ?_, ?_, Out.look rfl (Out.hav rfl (Out.look rfl Out.self))⟩
        · exact ⟨hS, (by first | omega | assumption), (by first | omega | assumption), (by rw [rng_snoc j0, List.any_append, ← j2]; simp only [List.any_cons, List.any_nil, Bool.or_false]; rfl)⟩
        · exact ⟨rfl, rfl, trivial⟩
      · -- no
        refine W.exit rfl ?_
        refine W.seq ?_
        refine W.reg ?_
        refine Wx.rd (v := r_7) (rd_move rfl) rfl ?_
        refine Wx.rd (v := .int .i64 i) (rd_move rfl) rfl ?_
        refine Wx.ex (rd_index [] (hS.v 0 rfl) rfl rfl Try.underlying104 Try.sizeOf39 (by first | omega | (simp only [List.length_set, List.length_append, List.length_cons, List.length_nil, List.length_replicate]; omega)) (by first | omega | (simp only [List.length_set, List.length_append, List.length_cons, List.length_nil, List.length_replicate]; omega))) rfl (fun p_68 hp_69 => ?_)
        refine Wx.ex (rd_load hp_69 rfl Try.isAgg39 Try.sizeOf39) rfl (fun v_70 hv_71 => ?_)
        have ln_72 := hv_71.len63
        have hS := hS.add hv_71
        refine Wx.rd (v := .int .i64 m) (rd_move rfl) rfl ?_
        refine Wx.rd (v := .int .i64 (m - 1)) (rd_sub rfl rfl (in_i64 (by omega) (by omega))) rfl ?_
        refine Wx.ex (rd_index 0 (hS.v 0 rfl) rfl rfl Try.underlying39 Try.sizeOf3 (by first | omega | (simp only [List.length_set, List.length_append, List.length_cons, List.length_nil, List.length_replicate]; omega)) (by first | omega | (simp only [List.length_set, List.length_append, List.length_cons, List.length_nil, List.length_replicate]; omega))) rfl (fun p_74 hp_75 => ?_)
        refine Wx.rd (v := .int .i64 (ix 0 (ix [] (pathsV (gS l) l.length m [a]) i) (m - 1))) (rd_loadI hp_75 rfl Try.isAgg3 Try.sizeOf3) rfl ?_
        have bd_76 := bd_i64 hp_75.inK
        refine Wx.rd (v := .int .i64 b) (rd_move rfl) rfl ?_
        refine Wx.rd (v := .bool (decide ((ix 0 (ix [] (pathsV (gS l) l.length m [a]) i) (m - 1)) = b))) (rd_eql rfl rfl) rfl ?_
        refine Wx.rd (v := .bool (decide ((ix 0 (ix [] (pathsV (gS l) l.length m [a]) i) (m - 1)) = b))) (rd_move rfl) rfl ?_
        refine Wx.cut (X := Unit) 2 [71, 72] (fun _ => [(72, .bool (decide ((ix 0 (ix [] (pathsV (gS l) l.length m [a]) i) (m - 1)) = b) && bt))]) (fun _ w' => St w O w' [Ob.v (tSl (tI .i64)) (ix [] (pathsV (gS l) l.length m [a]) i) v_70, Ob.v (tSl (tSl (tI .i64))) (pathsV (gS l) l.length m [a]) r_7, Ob.v (tSl (tI .i64)) [a] v_3]) ?_ ?_
        · rcases Bool.eq_false_or_eq_true (decide ((ix 0 (ix [] (pathsV (gS l) l.length m [a]) i) (m - 1)) = b)) with g_77 | g_77
          · -- True
            have gp_78 := of_decide_eq_true g_77
            refine Wx.gyes rfl rfl (congrArg Value.bool g_77) ?_
            refine Wx.rd (v := .bool bt) (rd_move rfl) rfl ?_
            refine Wx.rd (v := .bool bt) (rd_pickT (congrArg Value.bool g_77) rfl) rfl ?_
            refine Wx.nil ⟨(), hS, ⟨?_, trivial⟩, Out.look rfl Out.refl⟩
            show Value.bool bt = Value.bool (decide ((ix 0 (ix [] (pathsV (gS l) l.length m [a]) i) (m - 1)) = b) && bt)
            first | rw [g_77, Bool.true_and] | (rw [g_77]; rfl)
          · -- False
            have gp_79 := of_decide_eq_false g_77
            refine Wx.gnoB rfl rfl (congrArg Value.bool g_77) rfl rfl ?_
            refine Wx.rd (v := .bool false) (rd_pickF (congrArg Value.bool g_77) rfl) rfl ?_
            refine Wx.nil ⟨(), hS, ⟨?_, trivial⟩, Out.look rfl Out.refl⟩
            show Value.bool false = Value.bool (decide ((ix 0 (ix [] (pathsV (gS l) l.length m [a]) i) (m - 1)) = b) && bt)
            first | rw [g_77, Bool.false_and] | (rw [g_77]; rfl)
        rintro ⟨⟩ u_81 w_80 hS
        refine Wx.nil ?_
        refine W.cond rfl (fun c3 => ?_) (fun c3 => ?_)
        · -- yes
          try simp only [Bool.and_eq_true, Bool.or_eq_true, Bool.not_eq_true', Bool.and_eq_false_iff, Bool.or_eq_false_iff, Bool.not_eq_false', decide_eq_true_eq, decide_eq_false_iff_not, not_or, Bool.false_eq_true, Bool.true_eq_false, false_or, or_false, not_false_eq_true] at c3
          refine W.seq ?_
          refine W.reg ?_
          refine Wx.rd (v := .bool true) (rd_assign rfl) rfl ?_
          refine Wx.nil ?_
          have hj : j = m - 1 := by omega
          subst hj
          have e0_0 : (beatsV (gS l) (bS l) l.length a b) = true := by exact hf1 (by rw [beatP, ← j2, c3.2, decide_eq_true c3.1]; rfl)
          exact W.ret ⟨.bool true, ResIs.one, hS.bel, (by rw [e0_0])⟩
        · -- no
          try simp only [Bool.and_eq_true, Bool.or_eq_true, Bool.not_eq_true', Bool.and_eq_false_iff, Bool.or_eq_false_iff, Bool.not_eq_false', decide_eq_true_eq, decide_eq_false_iff_not, not_or, Bool.false_eq_true, Bool.true_eq_false, false_or, or_false, not_false_eq_true] at c3
          refine W.skip ?_
          refine W.reg ?_
          refine Wx.rd (v := .int .i64 i) (rd_move rfl) rfl ?_
          refine Wx.rd (v := .int .i64 (i + 1)) (rd_add rfl rfl (in_i64 (by omega) (by omega))) rfl ?_
          refine Wx.rd (v := .int .i64 (i + 1)) (rd_assign rfl) rfl ?_
          refine Wx.nil ?_
          have hj : j = m - 1 := by omega
          subst hj
          refine ⟨i + 1, (by show ((pathsV (gS l) l.length m [a]).length - (i + 1)).toNat < ((pathsV (gS l) l.length m [a]).length - i).toNat; omega), ?_, ?_, Out.look rfl (Out.hav rfl (Out.look rfl (Out.hav rfl (Out.look rfl Out.self))))⟩
          · exact ⟨hS.tl, (by first | omega | assumption), (by first | omega | assumption), (hf2 (by rw [beatP, ← j2, Bool.and_eq_false_iff, decide_eq_false_iff_not]; exact c3.symm))⟩
          · exact ⟨rfl, trivial⟩
    · -- no
      refine W.exit rfl ?_
      refine W.reg ?_
      refine Wx.rd (v := .int .i64 m) (rd_move rfl) rfl ?_
      refine Wx.rd (v := .int .i64 (m + 1)) (rd_add rfl rfl (in_i64 (by omega) (by omega))) rfl ?_
      refine Wx.rd (v := .int .i64 (m + 1)) (rd_assign rfl) rfl ?_
      refine Wx.nil ?_
      refine ⟨m + 1, (by show (l.length + 1 - (m + 1)).toNat < (l.length + 1 - m).toNat; omega), ?_, ?_, Out.look rfl (Out.hav rfl (Out.look rfl Out.self))⟩
      · exact ⟨St.tl (hS.tl), (by first | omega | assumption), (by first | omega | assumption), (by rw [← i2, drop_end (by omega)]; rfl)⟩
      · exact ⟨rfl, trivial⟩
  · -- no
    refine W.exit rfl ?_
    refine W.seq ?_
    refine W.reg ?_
    refine Wx.rd (v := .bool false) (rd_assign rfl) rfl ?_
    refine Wx.nil ?_
    have e1_0 : (beatsV (gS l) (bS l) l.length a b) = false := by rw [← h2, beatM_end (by omega)]
    exact W.ret ⟨.bool false, ResIs.one, hS.bel, (by rw [e1_0])⟩
end Go.Proofs.Ytjbcpggikaeleaa

namespace Go.Proofs.Ytjbcpggikaeleaa
open Go.Wk Go.RowKit Go.Lib
set_option linter.unusedVariables false
set_option linter.unusedSimpArgs false
theorem elKn_39 : ElemI Try.prog 39 3 (.int .i64 0) 1 8 := ElemI.of Try.underlying39 (by kernel_rfl) (by first | rfl | kernel_rfl) (by decide)

set_option maxHeartbeats 1000000 in
theorem F42 {g : Int} {v : Value} {l : List ((List Int) × (List Int))} {O : List (Option Nat)} {w : World} (i_g : InK .i64 g) (h_v : V (tSl (tP (tSl (tI .i64)) (tSl (tI .i64)))) l v O w) (hO : ∀ b, some b ∈ O → b < w.heap.size) : Calls Try.prog 42 #[.int .i64 g, v] w (Ret w (fun r w' => ∃ rv, r = .tuple #[rv, .int .i64 (ranksX g l)] ∧ Fresh (tI .i64) 3 (ranksL g l) rv w.heap.size w')) := by
  have b_g := bd_i64 i_g
  have a_v := h_v
  have l_v := h_v.len63
  have hS := St.start w O hO
  refine enterR Try.func42 rfl Try.ntmps42 Try.results42 rfl ?_
  refine W.seq ?_
  refine W.reg ?_
  refine Wx.rd (v := (.slice none 0 0)) (rd_assign rfl) rfl ?_
  refine Wx.rd (v := .int .i64 0) (rd_assign rfl) rfl ?_
  refine Wx.nil ?_
  refine W.seq ?_
  refine W.reg ?_
  refine Wx.rd (v := .int .i64 g) (rd_move rfl) rfl ?_
  refine Wx.rd (v := v) (rd_move rfl) rfl ?_
  refine Wx.callF (run_callF Try.call26 rfl) (F26 i_g (hS.arg a_v)) rfl ?_
  rintro r_1 w_2 hx_3 rfl
  have hS := hS.ext hx_3
  refine Wx.rd (v := .int .i64 (checkE g l)) (rd_assign rfl) rfl ?_
  refine Wx.nil ?_
  refine W.seq ?_
  refine W.seq ?_
  refine W.reg ?_
  refine Wx.rd (v := .int .i64 (checkE g l)) (rd_move rfl) rfl ?_
  refine Wx.rd (v := .bool (decide ((checkE g l) = 0))) (rd_eql rfl rfl) rfl ?_
  refine Wx.rd (v := .bool (decide ((checkE g l) = 0))) (rd_move rfl) rfl ?_
  refine Wx.cut (X := Unit) 5 [17, 18, 19, 20, 21] (fun _ => [(21, .bool (decide ((checkE g l) = 0) && decide (0 < ((ringsV (gS l) (bS l) l.length).length : Int))))]) (fun _ w' => St w O w' []) ?_ ?_
  · rcases Bool.eq_false_or_eq_true (decide ((checkE g l) = 0)) with g_4 | g_4
    · -- True
      have gp_5 := of_decide_eq_true g_4
      refine Wx.gyes rfl rfl (congrArg Value.bool g_4) ?_
      refine Wx.rd (v := v) (rd_move rfl) rfl ?_
      refine Wx.gyes rfl rfl (congrArg Value.bool g_4) ?_
      refine Wx.callF (run_callF Try.call77 rfl) (F77 (hS.arg a_v) (SalesOK.of (of_decide_eq_true (by assumption))) hS.fb_lt) rfl ?_
      rintro r_6 w_7 hx_8 ⟨_, rfl, hv_9⟩
      have hS := hS.pushFrO hx_8 hv_9
      refine Wx.gyes rfl rfl (congrArg Value.bool g_4) ?_
      refine Wx.rd (v := .int .i64 ((ringsV (gS l) (bS l) l.length).length : Int)) (rd_lenR hS 0 rfl rfl Try.underlying104) rfl ?_
      refine Wx.gyes rfl rfl (congrArg Value.bool g_4) ?_
      refine Wx.rd (v := .bool (decide (0 < ((ringsV (gS l) (bS l) l.length).length : Int)))) (rd_gtr rfl rfl) rfl ?_
      refine Wx.rd (v := .bool (decide (0 < ((ringsV (gS l) (bS l) l.length).length : Int)))) (rd_pickT (congrArg Value.bool g_4) rfl) rfl ?_
      refine Wx.nil ⟨(), hS.tl, ⟨?_, trivial⟩, Out.look rfl Out.refl⟩
      show Value.bool (decide (0 < ((ringsV (gS l) (bS l) l.length).length : Int))) = Value.bool (decide ((checkE g l) = 0) && decide (0 < ((ringsV (gS l) (bS l) l.length).length : Int)))
      first | rw [g_4, Bool.true_and] | (rw [g_4]; rfl)
    · -- False
      have gp_11 := of_decide_eq_false g_4
      refine Wx.gnoB rfl rfl (congrArg Value.bool g_4) rfl rfl ?_
      refine Wx.gnoB rfl rfl (congrArg Value.bool g_4) rfl rfl ?_
      refine Wx.gnoB rfl rfl (congrArg Value.bool g_4) rfl rfl ?_
      refine Wx.gnoB rfl rfl (congrArg Value.bool g_4) rfl rfl ?_
      refine Wx.rd (v := .bool false) (rd_pickF (congrArg Value.bool g_4) rfl) rfl ?_
      refine Wx.nil ⟨(), hS, ⟨?_, trivial⟩, Out.look rfl Out.refl⟩
      show Value.bool false = Value.bool (decide ((checkE g l) = 0) && decide (0 < ((ringsV (gS l) (bS l) l.length).length : Int)))
      first | rw [g_4, Bool.false_and] | (rw [g_4]; rfl)
  rintro ⟨⟩ u_13 w_12 hS
  refine Wx.nil ?_
  refine W.cutK [6] (fun (e : Int) => [(6, .int .i64 e)]) (fun (e : Int) w' => St w O w' [] ∧ e = ranksX g l) ?_ ?_
  · -- up to the cut
    refine W.cond rfl (fun c0 => ?_) (fun c0 => ?_)
    · -- yes
      try simp only [Bool.and_eq_true, Bool.or_eq_true, Bool.not_eq_true', Bool.and_eq_false_iff, Bool.or_eq_false_iff, Bool.not_eq_false', decide_eq_true_eq, decide_eq_false_iff_not, not_or, Bool.false_eq_true, Bool.true_eq_false, false_or, or_false, not_false_eq_true] at c0
      refine W.reg ?_
      refine Wx.rd (v := .int .i64 13) (rd_assign rfl) rfl ?_
      refine Wx.nil ?_
      refine ⟨13, ?_, ?_, Out.look rfl Out.refl⟩
      · exact ⟨hS, (ranksX_yes c0.1 c0.2)⟩
      · exact ⟨rfl, trivial⟩
    · -- no
      try simp only [Bool.and_eq_true, Bool.or_eq_true, Bool.not_eq_true', Bool.and_eq_false_iff, Bool.or_eq_false_iff, Bool.not_eq_false', decide_eq_true_eq, decide_eq_false_iff_not, not_or, Bool.false_eq_true, Bool.true_eq_false, false_or, or_false, not_false_eq_true] at c0
      refine W.skip ?_
      refine ⟨checkE g l, ?_, ?_, Out.look rfl Out.refl⟩
      · exact ⟨hS, (ranksX_no c0)⟩
      · exact ⟨rfl, trivial⟩
  rintro e u_15 w_14 ⟨hS, he⟩
  refine W.seq ?_
  refine W.seq ?_
  refine W.reg ?_
  refine Wx.rd (v := .int .i64 e) (rd_move rfl) rfl ?_
  refine Wx.rd (v := .bool (decide (e ≠ 0))) (rd_neq rfl rfl) rfl ?_
  refine Wx.nil ?_
  refine W.condD rfl (fun c1 => ?_) (fun c1 => ?_)
  · -- yes
    refine W.seq ?_
    refine W.reg ?_
    refine Wx.rd (v := .int .i64 e) (rd_move rfl) rfl ?_
    refine Wx.rd (v := (.slice none 0 0)) (rd_assign rfl) rfl ?_
    refine Wx.rd (v := .int .i64 e) (rd_assign rfl) rfl ?_
    refine Wx.nil ?_
    have e0_0 : ranksL g l = [] := by rw [ranksL, if_neg (by omega)]
    have e0_1 : (ranksX g l) = (e : Int) := by exact he.symm
    exact W.ret ⟨.tuple #[(.slice none 0 0), .int .i64 e], ResIs.two, hS.bel, ⟨(.slice none 0 0), (by rw [e0_1]), (by rw [e0_0]; exact ((hS.addNil (tI .i64) 3).fr 0 rfl flat_int))⟩⟩
  · -- no
    have hr0 : ranksX g l = 0 := by omega
    have hsok := ranksX_ok hr0
    have hl6 := hsok.1
    refine W.skip ?_
    refine W.seq ?_
    refine W.reg ?_
    refine Wx.rd (v := (.slice none 0 0)) (rd_assign rfl) rfl ?_
    refine Wx.nil ?_
    refine W.seq ?_
    refine W.seq ?_
    refine W.reg ?_
    refine Wx.rd (v := .int .i64 0) (rd_assign rfl) rfl ?_
    refine Wx.nil ?_
    refine W.block ?_
    have hS := hS.addNil (tI .i64) 3
    refine W.loop [7, 8, 9, 10, 25, 26, 27, 28, 29, 30, 31, 32, 33, 34, 35, 36, 37, 38, 39, 40, 41, 42, 43, 44, 45, 46, 47, 48, 49, 50, 51] (fun x : Int × Value × (List Int) => match x with | (a, ov, out) => [(8, .int .i64 a), (7, ov)]) (fun (x : Int × Value × (List Int)) w' => match x with | (a, ov, out) => St w O w' [.row (tI .i64) 3 ov out] ∧ 0 ≤ a ∧ a ≤ l.length ∧ out ++ (rng a l.length).map (fun a => cntR (beatsV (gS l) (bS l) l.length) a (rng 0 l.length)) = (rng 0 l.length).map (fun a => cntR (beatsV (gS l) (bS l) l.length) a (rng 0 l.length)) ∧ (out.length : Int) = a) (fun x : Int × Value × (List Int) => match x with | (a, ov, out) => (l.length - a).toNat) (0, (.slice none 0 0), []) ⟨rfl, rfl, trivial⟩ ⟨hS, (by first | omega | simp), (by first | omega | simp), (rfl), (rfl)⟩ ?_
    rintro ⟨a, ov, out⟩ u_17 w_16 ⟨hS, k0, h1, h2, h3⟩
    refine W.seq ?_
    refine W.seq ?_
    refine W.reg ?_
    refine Wx.rd (v := .int .i64 a) (rd_move rfl) rfl ?_
    refine Wx.rd (v := v) (rd_move rfl) rfl ?_
    refine Wx.rd (v := .int .i64 (l.length : Int)) (rd_lenV rfl (hS.arg a_v) Try.underlying25) rfl ?_
    refine Wx.rd (v := .bool (decide (a < (l.length : Int)))) (rd_lss rfl rfl) rfl ?_
    refine Wx.nil ?_
    refine W.condD rfl (fun c2 => ?_) (fun c2 => ?_)
    · -- yes
      refine W.skip ?_
      refine W.seq ?_
      refine W.block ?_
      refine W.seq ?_
      refine W.reg ?_
      refine Wx.rd (v := .int .i64 0) (rd_assign rfl) rfl ?_
      refine Wx.nil ?_
      refine W.seq ?_
      refine W.seq ?_
      refine W.reg ?_
      refine Wx.rd (v := .int .i64 0) (rd_assign rfl) rfl ?_
      refine Wx.nil ?_
      refine W.block ?_
      refine W.loop [9, 10, 31, 32, 33, 34, 35, 36, 37, 38, 39, 40, 41, 42, 43, 44, 45, 46, 47] (fun x : Int × Int => match x with | (n, b) => [(9, .int .i64 n), (10, .int .i64 b)]) (fun (x : Int × Int) w' => match x with | (n, b) => St w O w' [.row (tI .i64) 3 ov out] ∧ 0 ≤ b ∧ b ≤ l.length ∧ n + cntR (beatsV (gS l) (bS l) l.length) a (rng b l.length) = cntR (beatsV (gS l) (bS l) l.length) a (rng 0 l.length) ∧ 0 ≤ n ∧ n ≤ b) (fun x : Int × Int => match x with | (n, b) => (l.length - b).toNat) (0, 0) ⟨rfl, rfl, trivial⟩ ⟨hS, (by first | omega | simp), (by first | omega | simp), (by omega), (by first | omega | simp), (by first | omega | simp)⟩ ?_
      rintro ⟨n, b⟩ u_19 w_18 ⟨hS, g0, g1, g2, g3, g4⟩
      refine W.seq ?_
      refine W.seq ?_
      refine W.reg ?_
      refine Wx.rd (v := .int .i64 b) (rd_move rfl) rfl ?_
      refine Wx.rd (v := v) (rd_move rfl) rfl ?_
      refine Wx.rd (v := .int .i64 (l.length : Int)) (rd_lenV rfl (hS.arg a_v) Try.underlying25) rfl ?_
      refine Wx.rd (v := .bool (decide (b < (l.length : Int)))) (rd_lss rfl rfl) rfl ?_
      refine Wx.nil ?_
      refine W.condD rfl (fun c3 => ?_) (fun c3 => ?_)
      · -- yes
        refine W.skip ?_
        refine W.seq ?_
        refine W.block ?_
        refine W.seq ?_
        refine W.reg ?_
        refine Wx.rd (v := .int .i64 a) (rd_move rfl) rfl ?_
        refine Wx.rd (v := .int .i64 b) (rd_move rfl) rfl ?_
        refine Wx.rd (v := .bool (decide (a ≠ b))) (rd_neq rfl rfl) rfl ?_
        refine Wx.rd (v := .bool (decide (a ≠ b))) (rd_move rfl) rfl ?_
        refine Wx.cut (X := Unit) 5 [41, 42, 43, 44, 45] (fun _ => [(45, .bool (decide (a ≠ b) && beatsV (gS l) (bS l) l.length a b))]) (fun _ w' => St w O w' [.row (tI .i64) 3 ov out]) ?_ ?_
        · rcases Bool.eq_false_or_eq_true (decide (a ≠ b)) with g_20 | g_20
          · -- True
            have gp_21 := of_decide_eq_true g_20
            refine Wx.gyes rfl rfl (congrArg Value.bool g_20) ?_
            refine Wx.rd (v := v) (rd_move rfl) rfl ?_
            refine Wx.gyes rfl rfl (congrArg Value.bool g_20) ?_
            refine Wx.rd (v := .int .i64 a) (rd_move rfl) rfl ?_
            refine Wx.gyes rfl rfl (congrArg Value.bool g_20) ?_
            refine Wx.rd (v := .int .i64 b) (rd_move rfl) rfl ?_
            refine Wx.gyes rfl rfl (congrArg Value.bool g_20) ?_
            refine Wx.callF (run_callF Try.call86 rfl) (F86 (hS.arg a_v) (in_i64 (by omega) (by omega)) (in_i64 (by omega) (by omega)) hsok (by omega) (by omega) hS.fb_lt) rfl ?_
            rintro r_22 w_23 hx_24 rfl
            have hS := hS.ext hx_24
            refine Wx.rd (v := .bool (beatsV (gS l) (bS l) l.length a b)) (rd_pickT (congrArg Value.bool g_20) rfl) rfl ?_
            refine Wx.nil ⟨(), hS, ⟨?_, trivial⟩, Out.look rfl Out.refl⟩
            show Value.bool (beatsV (gS l) (bS l) l.length a b) = Value.bool (decide (a ≠ b) && beatsV (gS l) (bS l) l.length a b)
            first | rw [g_20, Bool.true_and] | (rw [g_20]; rfl)
          · -- False
            have gp_25 := of_decide_eq_false g_20
            refine Wx.gnoB rfl rfl (congrArg Value.bool g_20) rfl rfl ?_
            refine Wx.gnoB rfl rfl (congrArg Value.bool g_20) rfl rfl ?_
            refine Wx.gnoB rfl rfl (congrArg Value.bool g_20) rfl rfl ?_
            refine Wx.gnoB rfl rfl (congrArg Value.bool g_20) rfl rfl ?_
            refine Wx.rd (v := .bool false) (rd_pickF (congrArg Value.bool g_20) rfl) rfl ?_
            refine Wx.nil ⟨(), hS, ⟨?_, trivial⟩, Out.look rfl Out.refl⟩
            show Value.bool false = Value.bool (decide (a ≠ b) && beatsV (gS l) (bS l) l.length a b)
            first | rw [g_20, Bool.false_and] | (rw [g_20]; rfl)
        rintro ⟨⟩ u_27 w_26 hS
        refine Wx.nil ?_
        refine W.cond rfl (fun c4 => ?_) (fun c4 => ?_)
        · -- yes
          try simp only [Bool.and_eq_true, Bool.or_eq_true, Bool.not_eq_true', Bool.and_eq_false_iff, Bool.or_eq_false_iff, Bool.not_eq_false', decide_eq_true_eq, decide_eq_false_iff_not, not_or, Bool.false_eq_true, Bool.true_eq_false, false_or, or_false, not_false_eq_true] at c4
          refine W.reg ?_
          refine Wx.rd (v := .int .i64 n) (rd_move rfl) rfl ?_
          refine Wx.rd (v := .int .i64 (n + 1)) (rd_add rfl rfl (in_i64 (by omega) (by omega))) rfl ?_
          refine Wx.rd (v := .int .i64 (n + 1)) (rd_assign rfl) rfl ?_
          refine Wx.nil ?_
          refine W.reg ?_
          refine Wx.rd (v := .int .i64 b) (rd_move rfl) rfl ?_
          refine Wx.rd (v := .int .i64 (b + 1)) (rd_add rfl rfl (in_i64 (by omega) (by omega))) rfl ?_
          refine Wx.rd (v := .int .i64 (b + 1)) (rd_assign rfl) rfl ?_
          refine Wx.nil ?_
          refine ⟨(n + 1, b + 1), (by show (l.length - (b + 1)).toNat < (l.length - b).toNat; omega), ?_, ?_, Out.look rfl (Out.hav rfl (Out.look rfl Out.self))⟩
          · exact ⟨hS, (by first | omega | assumption), (by first | omega | assumption), (by rw [← g2, cntR_yes c3 c4]; omega), (by first | omega | assumption), (by first | omega | assumption)⟩
          · exact ⟨rfl, rfl, trivial⟩
        · -- no
          try simp only [Bool.and_eq_true, Bool.or_eq_true, Bool.not_eq_true', Bool.and_eq_false_iff, Bool.or_eq_false_iff, Bool.not_eq_false', decide_eq_true_eq, decide_eq_false_iff_not, not_or, Bool.false_eq_true, Bool.true_eq_false, false_or, or_false, not_false_eq_true] at c4
          refine W.skip ?_
          refine W.reg ?_
          refine Wx.rd (v := .int .i64 b) (rd_move rfl) rfl ?_
          refine Wx.rd (v := .int .i64 (b + 1)) (rd_add rfl rfl (in_i64 (by omega) (by omega))) rfl ?_
          refine Wx.rd (v := .int .i64 (b + 1)) (rd_assign rfl) rfl ?_
          refine Wx.nil ?_
          refine ⟨(n, b + 1), (by show (l.length - (b + 1)).toNat < (l.length - b).toNat; omega), ?_, ?_, Out.look rfl (Out.hav rfl (Out.look rfl Out.self))⟩
          · exact ⟨hS, (by first | omega | assumption), (by first | omega | assumption), (by rw [← g2, cntR_no c3 (c4.imp Decidable.not_not.1 id)]), (by first | omega | assumption), (by first | omega | assumption)⟩
          · exact ⟨rfl, rfl, trivial⟩
      · -- no
        refine W.exit rfl ?_
        refine W.reg ?_
        refine Wx.rd (v := ov) (rd_move rfl) rfl ?_
        refine Wx.rd (v := .int .i64 n) (rd_move rfl) rfl ?_
        refine Wx.lit (t := (tI .i64)) (ys := [n]) (vs := [.int .i64 n]) elKn_39 hS rfl rfl ⟨(V.mkInt (in_i64 (by omega) (by omega))), trivial⟩ (by decide) rfl (fun v_28 w_29 hx_30 hS => ?_)
        refine Wx.append elKn_39 hS 1 rfl rfl rfl (Src.ofR hS 0 rfl) (by simp only [maxLen]; simp; omega) (by simp; omega) rfl (fun v_31 w_32 hz_33 hS => ?_)
        refine Wx.rd (v := v_31) (rd_assign rfl) rfl ?_
        refine Wx.nil ?_
        refine W.reg ?_
        refine Wx.rd (v := .int .i64 a) (rd_move rfl) rfl ?_
        refine Wx.rd (v := .int .i64 (a + 1)) (rd_add rfl rfl (in_i64 (by omega) (by omega))) rfl ?_
        refine Wx.rd (v := .int .i64 (a + 1)) (rd_assign rfl) rfl ?_
        refine Wx.nil ?_
        have hcn : cntR (beatsV (gS l) (bS l) l.length) a (rng 0 l.length) = n := by rw [← g2, cntR_end (by omega)]; omega
        refine ⟨(a + 1, v_31, out ++ [n]), (by show (l.length - (a + 1)).toNat < (l.length - a).toNat; omega), ?_, ?_, Out.look rfl (Out.hav rfl (Out.look rfl Out.self))⟩
        · exact ⟨hS.tl, (by first | omega | assumption), (by first | omega | assumption), (by rw [← h2, rng_cons c2, List.map_cons, hcn]; simp), (by simp; omega)⟩
        · exact ⟨rfl, rfl, trivial⟩
    · -- no
      refine W.exit rfl ?_
      refine W.seq ?_
      refine W.reg ?_
      refine Wx.rd (v := ov) (rd_move rfl) rfl ?_
      refine Wx.rd (v := ov) (rd_assign rfl) rfl ?_
      refine Wx.rd (v := .int .i64 0) (rd_assign rfl) rfl ?_
      refine Wx.nil ?_
      have e1_0 : ranksL g l = out := by rw [ranksL, if_pos hr0, ← h2, rng_nil (i := a) (by omega), List.map_nil, List.append_nil]
      have e1_1 : (ranksX g l) = (0 : Int) := by exact hr0
      exact W.ret ⟨.tuple #[ov, .int .i64 0], ResIs.two, hS.bel, ⟨ov, (by rw [e1_1]), (by rw [e1_0]; exact (hS.fr 0 rfl flat_int))⟩⟩
end Go.Proofs.Ytjbcpggikaeleaa

namespace Go.Proofs.Ytjbcpggikaeleaa
open Go.Wk Go.RowKit Go.Lib
set_option linter.unusedVariables false
set_option linter.unusedSimpArgs false
end Go.Proofs.Ytjbcpggikaeleaa

namespace Go.Proofs.Ytjbcpggikaeleaa
open Go.Wk Go.RowKit Go.Lib
set_option linter.unusedVariables false
set_option linter.unusedSimpArgs false
end Go.Proofs.Ytjbcpggikaeleaa

namespace Go.Proofs.Ytjbcpggikaeleaa
open Go.Wk Go.RowKit Go.Lib
set_option linter.unusedVariables false
set_option linter.unusedSimpArgs false
end Go.Proofs.Ytjbcpggikaeleaa

namespace Go.Proofs.Ytjbcpggikaeleaa
open Go.Wk Go.RowKit Go.Lib
set_option linter.unusedVariables false
set_option linter.unusedSimpArgs false
end Go.Proofs.Ytjbcpggikaeleaa

namespace Go.Proofs.Ytjbcpggikaeleaa
open Go.Wk Go.RowKit Go.Lib
set_option linter.unusedVariables false
set_option linter.unusedSimpArgs false
theorem elLf_25 : ElemI Try.prog 25 88 (.agg #[(.slice none 0 0), (.slice none 0 0)]) 2 48 := ElemI.of Try.underlying25 (by kernel_rfl) (by first | rfl | kernel_rfl) (by decide)
theorem elLf_39 : ElemI Try.prog 39 3 (.int .i64 0) 1 8 := ElemI.of Try.underlying39 (by kernel_rfl) (by first | rfl | kernel_rfl) (by decide)

set_option maxHeartbeats 2000000 in
theorem F84_rec : ∀ (fuel : Nat) {v : Value} {l : List ((List Int) × (List Int))} {bv : Value} {bg : List Int} {m : Int} {O : List (Option Nat)} {w : World} (h_v : V (tSl (tP (tSl (tI .i64)) (tSl (tI .i64)))) l v O w) (h_bv : V (tSl (tI .i64)) bg bv O w) (i_m : InK .i64 m) (p_ok : SalesOK l) (p_0 : 0 ≤ m) (p_bg : (bg.length : Int) + m ≤ 100) (p_b : ∀ x ∈ bg, 0 ≤ x ∧ x < (l.length : Int)) (hO : ∀ b, some b ∈ O → b < w.heap.size) (hfuel : m.toNat < fuel), Calls Try.prog 84 #[v, bv, .int .i64 m] w (Ret w (fun r w' => ∃ rv, r = .tuple #[rv, .bool ((wrgF l m.toNat bg).2)] ∧ V (tSl (tI .i64)) ((wrgF l m.toNat bg).1) rv O w')) := by
  intro fuel
  induction fuel with
  | zero => intros; omega
  | succ fuel IH =>
  intro v l bv bg m O w h_v h_bv i_m p_ok p_0 p_bg p_b hO hfuel
  have b_m := bd_i64 i_m
  have hl6 := p_ok.1
  have a_v := h_v
  have l_v := h_v.len63
  have a_bv := h_bv
  have l_bv := h_bv.len63
  have hS := St.start w O hO
  refine enterR Try.func84 rfl Try.ntmps84 Try.results84 rfl ?_
  refine W.seq ?_
  refine W.reg ?_
  refine Wx.rd (v := (.slice none 0 0)) (rd_assign rfl) rfl ?_
  refine Wx.rd (v := .bool false) (rd_assign rfl) rfl ?_
  refine Wx.nil ?_
  refine W.seq ?_
  refine W.seq ?_
  refine W.reg ?_
  refine Wx.rd (v := .int .i64 m) (rd_move rfl) rfl ?_
  refine Wx.rd (v := .bool (decide (m = 0))) (rd_eql rfl rfl) rfl ?_
  refine Wx.nil ?_
  refine W.condD rfl (fun c0 => ?_) (fun c0 => ?_)
  · -- yes
    refine W.seq ?_
    refine W.reg ?_
    refine Wx.rd (v := (.slice none 0 0)) (rd_assign rfl) rfl ?_
    refine Wx.nil ?_
    refine W.seq ?_
    refine W.seq ?_
    refine W.reg ?_
    refine Wx.rd (v := .int .i64 0) (rd_assign rfl) rfl ?_
    refine Wx.nil ?_
    refine W.block ?_
    have hS := hS.addNil (tP (tSl (tI .i64)) (tSl (tI .i64))) 88
    refine W.loop [8, 9, 16, 17, 18, 19, 20, 21, 22, 23, 24, 25, 26, 27, 28, 29, 30, 31, 32] (fun x : Int × Value × (List ((List Int) × (List Int))) => match x with | (k, ov, out) => [(9, .int .i64 k), (8, ov)]) (fun (x : Int × Value × (List ((List Int) × (List Int)))) w' => match x with | (k, ov, out) => St w O w' [.row (tP (tSl (tI .i64)) (tSl (tI .i64))) 88 ov out] ∧ 0 ≤ k ∧ k ≤ l.length ∧ out = lfP l (hasL bg) k ∧ (out.length : Int) ≤ k) (fun x : Int × Value × (List ((List Int) × (List Int))) => match x with | (k, ov, out) => (l.length - k).toNat) (0, (.slice none 0 0), []) ⟨rfl, rfl, trivial⟩ ⟨hS, (by first | omega | simp), (by first | omega | simp), (rfl), (by decide)⟩ ?_
    rintro ⟨k, ov, out⟩ u_2 w_1 ⟨hS, h0, h1, h2, h3⟩
    refine W.seq ?_
    refine W.seq ?_
    refine W.reg ?_
    refine Wx.rd (v := .int .i64 k) (rd_move rfl) rfl ?_
    refine Wx.rd (v := v) (rd_move rfl) rfl ?_
    refine Wx.rd (v := .int .i64 (l.length : Int)) (rd_lenV rfl (hS.arg a_v) Try.underlying25) rfl ?_
    refine Wx.rd (v := .bool (decide (k < (l.length : Int)))) (rd_lss rfl rfl) rfl ?_
    refine Wx.nil ?_
    refine W.condD rfl (fun c1 => ?_) (fun c1 => ?_)
    · -- yes
      refine W.skip ?_
      refine W.seq ?_
      refine W.block ?_
      refine W.seq ?_
      refine W.reg ?_
      refine Wx.rd (v := bv) (rd_move rfl) rfl ?_
      refine Wx.rd (v := .int .i64 k) (rd_move rfl) rfl ?_
      refine Wx.callF (run_callF Try.call78 rfl) (F78 (hS.arg a_bv) (in_i64 (by omega) (by omega))) rfl ?_
      rintro r_3 w_4 hx_5 rfl
      have hS := hS.ext hx_5
      refine Wx.rd (v := .bool (!(hasL bg k))) (rd_not rfl) rfl ?_
      refine Wx.nil ?_
      refine W.cond rfl (fun c2 => ?_) (fun c2 => ?_)
      · -- yes
        try simp only [Bool.and_eq_true, Bool.or_eq_true, Bool.not_eq_true', Bool.and_eq_false_iff, Bool.or_eq_false_iff, Bool.not_eq_false', decide_eq_true_eq, decide_eq_false_iff_not, not_or, Bool.false_eq_true, Bool.true_eq_false, false_or, or_false, not_false_eq_true] at c2
        refine W.reg ?_
        refine Wx.rd (v := ov) (rd_move rfl) rfl ?_
        refine Wx.rd (v := v) (rd_move rfl) rfl ?_
        refine Wx.rd (v := .int .i64 k) (rd_move rfl) rfl ?_
        refine Wx.ex (rd_index ([], []) (hS.arg a_v) rfl rfl Try.underlying25 Try.sizeOf88 (by first | omega | (simp only [List.length_set, List.length_append, List.length_cons, List.length_nil, List.length_replicate]; omega)) (by first | omega | (simp only [List.length_set, List.length_append, List.length_cons, List.length_nil, List.length_replicate]; omega))) rfl (fun p_6 hp_7 => ?_)
        refine Wx.ex (rd_load hp_7 rfl Try.isAgg88 Try.sizeOf88) rfl (fun v_8 hv_9 => ?_)
        obtain ⟨v_10, v_11, rfl, hv_12, hv_13⟩ := hv_9.s2
        have hS := hS.add (hv_12)
        have ln_15 := (hS.v 0 rfl).len63
        have hS := hS.add (V.upF (hv_13))
        have ln_17 := (hS.v 0 rfl).len63
        refine Wx.lit (t := (tP (tSl (tI .i64)) (tSl (tI .i64)))) (ys := [(ix ([], []) l k)]) (vs := [.agg #[v_10, v_11]]) elLf_25 hS rfl rfl ⟨(V.mkS2 (z := (ix ([], []) l k)) (hS.v 1 rfl) (hS.v 0 rfl)), trivial⟩ (by decide) rfl (fun v_18 w_19 hx_20 hS => ?_)
        refine Wx.append elLf_25 hS 3 rfl rfl rfl (Src.ofR hS 0 rfl) (by simp only [maxLen]; simp; omega) (by simp; omega) rfl (fun v_21 w_22 hz_23 hS => ?_)
        refine Wx.rd (v := v_21) (rd_assign rfl) rfl ?_
        refine Wx.nil ?_
        refine W.reg ?_
        refine Wx.rd (v := .int .i64 k) (rd_move rfl) rfl ?_
        refine Wx.rd (v := .int .i64 (k + 1)) (rd_add rfl rfl (in_i64 (by omega) (by omega))) rfl ?_
        refine Wx.rd (v := .int .i64 (k + 1)) (rd_assign rfl) rfl ?_
        refine Wx.nil ?_
        refine ⟨(k + 1, v_21, out ++ [(ix ([], []) l k)]), (by show (l.length - (k + 1)).toNat < (l.length - k).toNat; omega), ?_, ?_, Out.look rfl Out.self⟩
        · exact ⟨St.tl (St.tl (hS.tl)), (by first | omega | assumption), (by first | omega | assumption), (by rw [h2, lfP_yes h0 c2]), (by simp only [List.length_append, List.length_cons, List.length_nil]; omega)⟩
        · exact ⟨rfl, rfl, trivial⟩
      · -- no
        try simp only [Bool.and_eq_true, Bool.or_eq_true, Bool.not_eq_true', Bool.and_eq_false_iff, Bool.or_eq_false_iff, Bool.not_eq_false', decide_eq_true_eq, decide_eq_false_iff_not, not_or, Bool.false_eq_true, Bool.true_eq_false, false_or, or_false, not_false_eq_true] at c2
        refine W.skip ?_
        refine W.reg ?_
        refine Wx.rd (v := .int .i64 k) (rd_move rfl) rfl ?_
        refine Wx.rd (v := .int .i64 (k + 1)) (rd_add rfl rfl (in_i64 (by omega) (by omega))) rfl ?_
        refine Wx.rd (v := .int .i64 (k + 1)) (rd_assign rfl) rfl ?_
        refine Wx.nil ?_
        refine ⟨(k + 1, ov, out), (by show (l.length - (k + 1)).toNat < (l.length - k).toNat; omega), ?_, ?_, Out.look rfl Out.self⟩
        · exact ⟨hS, (by first | omega | assumption), (by first | omega | assumption), (by rw [h2, lfP_no h0 c2]), (by first | omega | assumption)⟩
        · exact ⟨rfl, rfl, trivial⟩
    · -- no
      have hlf : out = leftL l bg := by rw [h2, show k = l.length by omega]; rfl
      refine W.exit rfl ?_
      refine W.seq ?_
      refine W.reg ?_
      refine Wx.rd (v := bv) (rd_move rfl) rfl ?_
      refine Wx.rd (v := ov) (rd_move rfl) rfl ?_
      have hS := hS.freeze 0 rfl
      refine Wx.callF (run_callF Try.call77 rfl) (F77 (hS.v 0 rfl) (by rw [hlf]; exact sok_left p_ok _) hS.fb_lt) rfl ?_
      rintro r_25 w_26 hx_27 ⟨_, rfl, hv_28⟩
      have hS := hS.pushFrO hx_27 hv_28
      refine Wx.rd (v := .int .i64 ((ringsV (gS out) (bS out) out.length).length : Int)) (rd_lenR hS 0 rfl rfl Try.underlying104) rfl ?_
      refine Wx.rd (v := .bool (decide (((ringsV (gS out) (bS out) out.length).length : Int) = 0))) (rd_eql rfl rfl) rfl ?_
      refine Wx.rd (v := bv) (rd_assign rfl) rfl ?_
      refine Wx.rd (v := .bool (decide (((ringsV (gS out) (bS out) out.length).length : Int) = 0))) (rd_assign rfl) rfl ?_
      refine Wx.nil ?_
      have e0_0 : (wrgF l m.toNat bg).1 = bg := by exact (wrgF_zero c0).1
      have e0_1 : ((wrgF l m.toNat bg).2) = (decide (((ringsV (gS out) (bS out) out.length).length : Int) = 0)) := by rw [(wrgF_zero c0).2, ← hlf]
      exact W.ret ⟨.tuple #[bv, .bool (decide (((ringsV (gS out) (bS out) out.length).length : Int) = 0))], ResIs.two, hS.bel, ⟨bv, (by rw [e0_1]), (by rw [e0_0]; exact (V.mv (hS.arg a_bv) (.less (fun _ h => List.mem_append.2 (.inr h)))))⟩⟩
  · -- no
    refine W.skip ?_
    refine W.seq ?_
    refine W.reg ?_
    refine Wx.rd (v := .int .i64 0) (rd_assign rfl) rfl ?_
    refine Wx.nil ?_
    refine W.seq ?_
    refine W.seq ?_
    refine W.reg ?_
    refine Wx.rd (v := bv) (rd_move rfl) rfl ?_
    refine Wx.rd (v := .int .i64 (bg.length : Int)) (rd_lenV rfl (hS.arg a_bv) Try.underlying39) rfl ?_
    refine Wx.rd (v := .bool (decide (0 < (bg.length : Int)))) (rd_gtr rfl rfl) rfl ?_
    refine Wx.nil ?_
    refine W.cutK [10, 41, 42, 43, 44, 45, 46, 47] (fun (fr : Int) => [(10, .int .i64 fr)]) (fun (fr : Int) w' => St w O w' [] ∧ fr = nxtI bg ∧ 0 ≤ fr ∧ fr ≤ l.length) ?_ ?_
    · -- up to the cut
      refine W.condD rfl (fun c3 => ?_) (fun c3 => ?_)
      · -- yes
        refine W.reg ?_
        have htp := top_in (by omega) p_b
        refine Wx.rd (v := bv) (rd_move rfl) rfl ?_
        refine Wx.rd (v := bv) (rd_move rfl) rfl ?_
        refine Wx.rd (v := .int .i64 (bg.length : Int)) (rd_lenV rfl (hS.arg a_bv) Try.underlying39) rfl ?_
        refine Wx.rd (v := .int .i64 ((bg.length : Int) - 1)) (rd_sub rfl rfl (in_i64 (by omega) (by omega))) rfl ?_
        refine Wx.ex (rd_index 0 (hS.arg a_bv) rfl rfl Try.underlying39 Try.sizeOf3 (by first | omega | (simp only [List.length_set, List.length_append, List.length_cons, List.length_nil, List.length_replicate]; omega)) (by first | omega | (simp only [List.length_set, List.length_append, List.length_cons, List.length_nil, List.length_replicate]; omega))) rfl (fun p_30 hp_31 => ?_)
        refine Wx.rd (v := .int .i64 (ix 0 bg ((bg.length : Int) - 1))) (rd_loadI hp_31 rfl Try.isAgg3 Try.sizeOf3) rfl ?_
        have bd_32 := bd_i64 hp_31.inK
        refine Wx.rd (v := .int .i64 ((ix 0 bg ((bg.length : Int) - 1)) + 1)) (rd_add rfl rfl (in_i64 (by omega) (by omega))) rfl ?_
        refine Wx.rd (v := .int .i64 ((ix 0 bg ((bg.length : Int) - 1)) + 1)) (rd_assign rfl) rfl ?_
        refine Wx.nil ?_
        refine ⟨(ix 0 bg ((bg.length : Int) - 1)) + 1, ?_, ?_, Out.look rfl Out.refl⟩
        · exact ⟨hS, (nxt_yes c3), (by first | omega | assumption), (by first | omega | assumption)⟩
        · exact ⟨rfl, trivial⟩
      · -- no
        refine W.skip ?_
        refine ⟨0, ?_, ?_, Out.look rfl Out.refl⟩
        · exact ⟨hS, (nxt_no c3), (by first | omega | assumption), (by first | omega | assumption)⟩
        · exact ⟨rfl, trivial⟩
    rintro fr u_34 w_33 ⟨hS, hf, hf0, hf1⟩
    refine W.seq ?_
    refine W.seq ?_
    refine W.reg ?_
    refine Wx.rd (v := .int .i64 fr) (rd_move rfl) rfl ?_
    refine Wx.rd (v := .int .i64 fr) (rd_assign rfl) rfl ?_
    refine Wx.nil ?_
    refine W.block ?_
    refine W.loop [6, 7, 11, 12, 13, 49, 50, 51, 52, 53, 54, 55, 56, 57, 58, 59, 60, 61, 62, 63, 64, 65, 66, 67, 68, 69] (fun (i : Int) => [(11, .int .i64 i)]) (fun (i : Int) w' => St w O w' [] ∧ 0 ≤ i ∧ i ≤ l.length ∧ wrgQ l (m - 1).toNat bg i = wrgF l m.toNat bg) (fun (i : Int) => (l.length - i).toNat) fr ⟨rfl, trivial⟩ ⟨hS, (by first | omega | simp), (by first | omega | simp), (by rw [hf, wrgF_more (by omega)])⟩ ?_
    rintro i u_36 w_35 ⟨hS, h0, h1, h2⟩
    refine W.seq ?_
    refine W.seq ?_
    refine W.reg ?_
    refine Wx.rd (v := .int .i64 i) (rd_move rfl) rfl ?_
    refine Wx.rd (v := v) (rd_move rfl) rfl ?_
    refine Wx.rd (v := .int .i64 (l.length : Int)) (rd_lenV rfl (hS.arg a_v) Try.underlying25) rfl ?_
    refine Wx.rd (v := .bool (decide (i < (l.length : Int)))) (rd_lss rfl rfl) rfl ?_
    refine Wx.nil ?_
    refine W.condD rfl (fun c4 => ?_) (fun c4 => ?_)
    · -- yes
      refine W.skip ?_
      refine W.seq ?_
      refine W.block ?_
      refine W.seq ?_
      refine W.reg ?_
      refine Wx.rd (v := v) (rd_move rfl) rfl ?_
      refine Wx.lit (t := (tI .i64)) (ys := []) (vs := []) elLf_39 hS rfl rfl trivial (by decide) rfl (fun v_37 w_38 hx_39 hS => ?_)
      refine Wx.rd (v := bv) (rd_move rfl) rfl ?_
      refine Wx.append elLf_39 hS 0 rfl rfl rfl (Src.ofV (hS.arg a_bv)) (by simp only [maxLen]; simp; omega) (by simp; omega) rfl (fun v_40 w_41 hz_42 hS => ?_)
      refine Wx.rd (v := .int .i64 i) (rd_move rfl) rfl ?_
      refine Wx.lit (t := (tI .i64)) (ys := [i]) (vs := [.int .i64 i]) elLf_39 hS rfl rfl ⟨(V.mkInt (in_i64 (by omega) (by omega))), trivial⟩ (by decide) rfl (fun v_43 w_44 hx_45 hS => ?_)
      refine Wx.append elLf_39 hS 1 rfl rfl rfl (Src.ofR hS 0 rfl) (by simp only [maxLen]; simp; omega) (by simp; omega) rfl (fun v_46 w_47 hz_48 hS => ?_)
      refine Wx.rd (v := .int .i64 m) (rd_move rfl) rfl ?_
      refine Wx.rd (v := .int .i64 (m - 1)) (rd_sub rfl rfl (in_i64 (by omega) (by omega))) rfl ?_
      have hS := hS.freeze 1 rfl
      refine Wx.callF (run_callF Try.call84 rfl) (IH (hS.arg a_v) (hS.v 0 rfl) (in_i64 (by omega) (by omega)) p_ok (by omega) (by simp; omega) (snoc_in p_b h0 (by omega)) hS.fb_lt (by omega)) rfl ?_
      rintro r_50 w_51 hx_52 ⟨v_53, rfl, hv_54⟩
      have ln_56 := hv_54.len63
      have hS := hS.ext hx_52
      have hS := hS.add hv_54
      refine Wx.rd (v := .tuple #[v_53, .bool ((wrgF l (m - 1).toNat ([] ++ bg ++ [i])).2)]) (rd_move rfl) rfl ?_
      refine Wx.rd (v := v_53) (rd_extract rfl rfl) rfl ?_
      refine Wx.rd (v := .bool ((wrgF l (m - 1).toNat ([] ++ bg ++ [i])).2)) (rd_extract rfl rfl) rfl ?_
      refine Wx.rd (v := v_53) (rd_assign rfl) rfl ?_
      refine Wx.rd (v := .bool ((wrgF l (m - 1).toNat ([] ++ bg ++ [i])).2)) (rd_assign rfl) rfl ?_
      refine Wx.nil ?_
      refine W.seq ?_
      refine W.reg ?_
      refine Wx.rd (v := .bool ((wrgF l (m - 1).toNat ([] ++ bg ++ [i])).2)) (rd_move rfl) rfl ?_
      refine Wx.nil ?_
      refine W.cond rfl (fun c5 => ?_) (fun c5 => ?_)
      · -- yes
        try simp only [Bool.and_eq_true, Bool.or_eq_true, Bool.not_eq_true', Bool.and_eq_false_iff, Bool.or_eq_false_iff, Bool.not_eq_false', decide_eq_true_eq, decide_eq_false_iff_not, not_or, Bool.false_eq_true, Bool.true_eq_false, false_or, or_false, not_false_eq_true] at c5
        refine W.seq ?_
        refine W.reg ?_
        refine Wx.rd (v := v_53) (rd_move rfl) rfl ?_
        refine Wx.rd (v := v_53) (rd_assign rfl) rfl ?_
        refine Wx.rd (v := .bool true) (rd_assign rfl) rfl ?_
        refine Wx.nil ?_
        have e1_0 : (wrgF l m.toNat bg).1 = (wrgF l (m - 1).toNat ([] ++ bg ++ [i])).1 := by rw [← h2]; exact congrArg Prod.fst (wrgQ_yes (bg := bg) c4 c5)
        have e1_1 : ((wrgF l m.toNat bg).2) = true := by rw [← h2, wrgQ_yes (bg := bg) c4 c5]; exact c5
        exact W.ret ⟨.tuple #[v_53, .bool true], ResIs.two, hS.bel, ⟨v_53, (by rw [e1_1]), (by rw [e1_0]; exact (V.mv (hS.v 0 rfl) (.less (fun _ h => List.mem_append.2 (.inr h)))))⟩⟩
      · -- no
        try simp only [Bool.and_eq_true, Bool.or_eq_true, Bool.not_eq_true', Bool.and_eq_false_iff, Bool.or_eq_false_iff, Bool.not_eq_false', decide_eq_true_eq, decide_eq_false_iff_not, not_or, Bool.false_eq_true, Bool.true_eq_false, false_or, or_false, not_false_eq_true] at c5
        refine W.skip ?_
        refine W.reg ?_
        refine Wx.rd (v := .int .i64 i) (rd_move rfl) rfl ?_
        refine Wx.rd (v := .int .i64 (i + 1)) (rd_add rfl rfl (in_i64 (by omega) (by omega))) rfl ?_
        refine Wx.rd (v := .int .i64 (i + 1)) (rd_assign rfl) rfl ?_
        refine Wx.nil ?_
        refine ⟨i + 1, (by show (l.length - (i + 1)).toNat < (l.length - i).toNat; omega), ?_, ?_, Out.look rfl Out.self⟩
        · exact ⟨St.tl (St.tl (hS.tl)), (by first | omega | assumption), (by first | omega | assumption), (by rw [← h2, wrgQ_no (bg := bg) c4 c5])⟩
        · exact ⟨rfl, trivial⟩
    · -- no
      refine W.exit rfl ?_
      refine W.seq ?_
      refine W.reg ?_
      refine Wx.rd (v := (.slice none 0 0)) (rd_assign rfl) rfl ?_
      refine Wx.rd (v := .bool false) (rd_assign rfl) rfl ?_
      refine Wx.nil ?_
      have e2_0 : (wrgF l m.toNat bg).1 = [] := by rw [← h2, wrgQ_end (by omega)]
      have e2_1 : ((wrgF l m.toNat bg).2) = false := by rw [← h2, wrgQ_end (by omega)]
      exact W.ret ⟨.tuple #[(.slice none 0 0), .bool false], ResIs.two, hS.bel, ⟨(.slice none 0 0), (by rw [e2_1]), (by rw [e2_0]; exact (V.nil (t := (tI .i64))))⟩⟩
theorem F84 {v : Value} {l : List ((List Int) × (List Int))} {bv : Value} {bg : List Int} {m : Int} {O : List (Option Nat)} {w : World} (h_v : V (tSl (tP (tSl (tI .i64)) (tSl (tI .i64)))) l v O w) (h_bv : V (tSl (tI .i64)) bg bv O w) (i_m : InK .i64 m) (p_ok : SalesOK l) (p_0 : 0 ≤ m) (p_bg : (bg.length : Int) + m ≤ 100) (p_b : ∀ x ∈ bg, 0 ≤ x ∧ x < (l.length : Int)) (hO : ∀ b, some b ∈ O → b < w.heap.size) : Calls Try.prog 84 #[v, bv, .int .i64 m] w (Ret w (fun r w' => ∃ rv, r = .tuple #[rv, .bool ((wrgF l m.toNat bg).2)] ∧ V (tSl (tI .i64)) ((wrgF l m.toNat bg).1) rv O w')) := F84_rec _ h_v h_bv i_m p_ok p_0 p_bg p_b hO (Nat.lt_succ_self _)

theorem F40 {g : Int} {v : Value} {l : List ((List Int) × (List Int))} {O : List (Option Nat)} {w : World} (i_g : InK .i64 g) (h_v : V (tSl (tP (tSl (tI .i64)) (tSl (tI .i64)))) l v O w) (hO : ∀ b, some b ∈ O → b < w.heap.size) : Calls Try.prog 40 #[.int .i64 g, v] w (Ret w (fun r w' => ∃ rv, r = .tuple #[rv, .int .i64 (checkE g l)] ∧ V (tSl (tI .i64)) (wrongE g l) rv O w')) := by
  have b_g := bd_i64 i_g
  have a_v := h_v
  have l_v := h_v.len63
  have hS := St.start w O hO
  refine enterR Try.func40 rfl Try.ntmps40 Try.results40 rfl ?_
  refine W.seq ?_
  refine W.reg ?_
  refine Wx.rd (v := (.slice none 0 0)) (rd_assign rfl) rfl ?_
  refine Wx.rd (v := .int .i64 0) (rd_assign rfl) rfl ?_
  refine Wx.nil ?_
  refine W.seq ?_
  refine W.reg ?_
  refine Wx.rd (v := .int .i64 g) (rd_move rfl) rfl ?_
  refine Wx.rd (v := v) (rd_move rfl) rfl ?_
  refine Wx.callF (run_callF Try.call26 rfl) (F26 i_g (hS.arg a_v)) rfl ?_
  rintro r_1 w_2 hx_3 rfl
  have hS := hS.ext hx_3
  refine Wx.rd (v := .int .i64 (checkE g l)) (rd_assign rfl) rfl ?_
  refine Wx.nil ?_
  refine W.seq ?_
  refine W.seq ?_
  refine W.reg ?_
  refine Wx.rd (v := .int .i64 (checkE g l)) (rd_move rfl) rfl ?_
  refine Wx.rd (v := .bool (decide ((checkE g l) ≠ 0))) (rd_neq rfl rfl) rfl ?_
  refine Wx.nil ?_
  refine W.condD rfl (fun c0 => ?_) (fun c0 => ?_)
  · -- yes
    refine W.seq ?_
    refine W.reg ?_
    refine Wx.rd (v := .int .i64 (checkE g l)) (rd_move rfl) rfl ?_
    refine Wx.rd (v := (.slice none 0 0)) (rd_assign rfl) rfl ?_
    refine Wx.rd (v := .int .i64 (checkE g l)) (rd_assign rfl) rfl ?_
    refine Wx.nil ?_
    have e0_0 : wrongE g l = [] := by rw [wrongE, if_neg c0]
    exact W.ret ⟨.tuple #[(.slice none 0 0), .int .i64 (checkE g l)], ResIs.two, hS.bel, ⟨(.slice none 0 0), rfl, (by rw [e0_0]; exact (V.nil (t := (tI .i64))))⟩⟩
  · -- no
    have h0c : checkE g l = 0 := by omega
    have hsok := SalesOK.of h0c
    have hl6 := hsok.1
    refine W.skip ?_
    refine W.seq ?_
    refine W.reg ?_
    refine Wx.rd (v := .int .i64 0) (rd_assign rfl) rfl ?_
    refine Wx.nil ?_
    refine W.seq ?_
    refine W.reg ?_
    refine Wx.rd (v := v) (rd_move rfl) rfl ?_
    refine Wx.rd (v := .int .i64 0) (rd_move rfl) rfl ?_
    refine Wx.callF (run_callF Try.call84 rfl) (F84 (hS.arg a_v) (V.nil (t := (tI .i64))) (in_i64 (by omega) (by omega)) hsok (by omega) (by simp) (by simp) hS.fb_lt) rfl ?_
    rintro r_4 w_5 hx_6 ⟨v_7, rfl, hv_8⟩
    have ln_10 := hv_8.len63
    have hS := hS.ext hx_6
    have hS := hS.add hv_8
    refine Wx.rd (v := .tuple #[v_7, .bool ((wrgF l (0 : Int).toNat ([] : List Int)).2)]) (rd_move rfl) rfl ?_
    refine Wx.rd (v := v_7) (rd_extract rfl rfl) rfl ?_
    refine Wx.rd (v := .bool ((wrgF l (0 : Int).toNat ([] : List Int)).2)) (rd_extract rfl rfl) rfl ?_
    refine Wx.rd (v := v_7) (rd_assign rfl) rfl ?_
    refine Wx.rd (v := .bool ((wrgF l (0 : Int).toNat ([] : List Int)).2)) (rd_assign rfl) rfl ?_
    refine Wx.nil ?_
    refine W.seq ?_
    refine W.block ?_
    have hv_12 : V (tSl (tI .i64)) ((wrgF l (0 : Int).toNat ([] : List Int)).1) v_7 _ _ := (hS.v 0 rfl)
    have hS := hS.add (hv_12)
    refine W.loop [7, 8, 9, 22, 23, 24, 25, 26, 27, 28, 29, 30, 31] (fun x : Int × Value × (List Int) × Bool => match x with | (m, lv, lr, fd) => [(7, .int .i64 m), (8, lv), (9, .bool fd)]) (fun (x : Int × Value × (List Int) × Bool) w' => match x with | (m, lv, lr, fd) => St w O w' [Ob.v (tSl (tI .i64)) lr lv, Ob.v (tSl (tI .i64)) ((wrgF l (0 : Int).toNat ([] : List Int)).1) v_7] ∧ 0 ≤ m ∧ m ≤ l.length ∧ lr = (wrgF l m.toNat []).1 ∧ fd = (wrgF l m.toNat []).2 ∧ (∀ k : Nat, (k : Int) < m → (wrgF l k []).2 = false)) (fun x : Int × Value × (List Int) × Bool => match x with | (m, lv, lr, fd) => (l.length - m).toNat) (0, v_7, (wrgF l (0 : Int).toNat ([] : List Int)).1, (wrgF l (0 : Int).toNat ([] : List Int)).2) ⟨rfl, rfl, rfl, trivial⟩ ⟨hS, (by first | omega | simp), (by first | omega | simp), (rfl), (rfl), (fun k hk => by omega)⟩ ?_
    rintro ⟨m, lv, lr, fd⟩ u_14 w_13 ⟨hS, h0, h1, h2, h3, h4⟩
    refine W.seq ?_
    refine W.seq ?_
    refine W.reg ?_
    refine Wx.rd (v := .bool fd) (rd_move rfl) rfl ?_
    refine Wx.rd (v := .bool (!fd)) (rd_not rfl) rfl ?_
    refine Wx.nil ?_
    refine W.cond rfl (fun c1 => ?_) (fun c1 => ?_)
    · -- yes
      try simp only [Bool.and_eq_true, Bool.or_eq_true, Bool.not_eq_true', Bool.and_eq_false_iff, Bool.or_eq_false_iff, Bool.not_eq_false', decide_eq_true_eq, decide_eq_false_iff_not, not_or, Bool.false_eq_true, Bool.true_eq_false, false_or, or_false, not_false_eq_true] at c1
      have hmn : m ≠ l.length := fun e => by have q := wrg_all l; rw [h3, e, show ((l.length : Int)).toNat = l.length by omega, q] at c1; cases c1
      refine W.skip ?_
      refine W.block ?_
      refine W.seq ?_
      refine W.reg ?_
      refine Wx.rd (v := .int .i64 m) (rd_move rfl) rfl ?_
      refine Wx.rd (v := .int .i64 (m + 1)) (rd_add rfl rfl (in_i64 (by omega) (by omega))) rfl ?_
      refine Wx.rd (v := .int .i64 (m + 1)) (rd_assign rfl) rfl ?_
      refine Wx.nil ?_
      refine W.reg ?_
      refine Wx.rd (v := v) (rd_move rfl) rfl ?_
      refine Wx.rd (v := .int .i64 (m + 1)) (rd_move rfl) rfl ?_
      refine Wx.callF (run_callF Try.call84 rfl) (F84 (hS.arg a_v) (V.nil (t := (tI .i64))) (in_i64 (by omega) (by omega)) hsok (by omega) (by simp; omega) (by simp) hS.fb_lt) rfl ?_
      rintro r_15 w_16 hx_17 ⟨v_18, rfl, hv_19⟩
      have ln_21 := hv_19.len63
      have hS := hS.ext hx_17
      have hS := hS.add hv_19
      refine Wx.rd (v := .tuple #[v_18, .bool ((wrgF l (m + 1).toNat ([] : List Int)).2)]) (rd_move rfl) rfl ?_
      refine Wx.rd (v := v_18) (rd_extract rfl rfl) rfl ?_
      refine Wx.rd (v := .bool ((wrgF l (m + 1).toNat ([] : List Int)).2)) (rd_extract rfl rfl) rfl ?_
      refine Wx.rd (v := v_18) (rd_assign rfl) rfl ?_
      refine Wx.rd (v := .bool ((wrgF l (m + 1).toNat ([] : List Int)).2)) (rd_assign rfl) rfl ?_
      refine Wx.nil ?_
      have hv_22 : V (tSl (tI .i64)) ((wrgF l (m + 1).toNat ([] : List Int)).1) v_18 _ _ := (hS.v 0 rfl)
      refine ⟨(m + 1, v_18, (wrgF l (m + 1).toNat ([] : List Int)).1, (wrgF l (m + 1).toNat ([] : List Int)).2), (by show (l.length - (m + 1)).toNat < (l.length - m).toNat; omega), ?_, ?_, Out.look rfl Out.self⟩
      · exact ⟨(St.add (St.tl (St.tl (hS))) (V.tlF (V.tlF (hv_22)))), (by first | omega | assumption), (by first | omega | assumption), (rfl), (rfl), (fun k hk => by by_cases e : (k : Int) = m; (rw [show k = m.toNat by omega, ← h3]; exact c1); exact h4 k (by omega))⟩
      · exact ⟨rfl, rfl, rfl, trivial⟩
    · -- no
      try simp only [Bool.and_eq_true, Bool.or_eq_true, Bool.not_eq_true', Bool.and_eq_false_iff, Bool.or_eq_false_iff, Bool.not_eq_false', decide_eq_true_eq, decide_eq_false_iff_not, not_or, Bool.false_eq_true, Bool.true_eq_false, false_or, or_false, not_false_eq_true] at c1
      refine W.exit rfl ?_
      refine W.seq ?_
      refine W.reg ?_
      refine Wx.rd (v := lv) (rd_move rfl) rfl ?_
      refine Wx.rd (v := lv) (rd_assign rfl) rfl ?_
      refine Wx.rd (v := .int .i64 0) (rd_assign rfl) rfl ?_
      refine Wx.nil ?_
      have e1_0 : wrongE g l = lr := by rw [wrongE, if_pos h0c, h2]; exact (wrg_first (by rw [← h3]; simpa using c1) (fun k hk => h4 k (by omega))).symm
      have e1_1 : (checkE g l) = (0 : Int) := by exact h0c
      exact W.ret ⟨.tuple #[lv, .int .i64 0], ResIs.two, hS.bel, ⟨lv, (by rw [e1_1]), (by rw [e1_0]; exact (V.mv (hS.v 0 rfl) (.less (fun _ h => List.mem_append.2 (.inr h)))))⟩⟩
end Go.Proofs.Ytjbcpggikaeleaa

namespace Go.Proofs.Ytjbcpggikaeleaa
open Go.Wk Go.RowKit Go.Lib
set_option linter.unusedVariables false
set_option linter.unusedSimpArgs false


theorem F6 {g : Int} {v : Value} {l : List ((List Int) × (List Int))} {O : List (Option Nat)} {w : World} (i_g : InK .i64 g) (h_v : V (tSl (tP (tSl (tI .i64)) (tSl (tI .i64)))) l v O w) (hO : ∀ b, some b ∈ O → b < w.heap.size) : Calls Try.prog 6 #[.int .i64 g, v] w (Ret w (fun r _ => r = .bool true)) := by
  have b_g := bd_i64 i_g
  have a_v := h_v
  have l_v := h_v.len63
  have hS := St.start w O hO
  refine enterR Try.func6 rfl Try.ntmps6 Try.results6 rfl ?_
  refine W.seq ?_
  refine W.reg ?_
  refine Wx.rd (v := .bool false) (rd_assign rfl) rfl ?_
  refine Wx.nil ?_
  refine W.seq ?_
  refine W.seq ?_
  refine W.reg ?_
  refine Wx.rd (v := v) (rd_move rfl) rfl ?_
  refine Wx.callF (run_callF Try.call15 rfl) (F15 (hS.arg a_v) hS.fb_lt) rfl ?_
  rintro r_1 w_2 hx_3 rfl
  have hS := hS.ext hx_3
  refine Wx.nil ?_
  refine W.cond rfl (fun c0 => ?_) (fun c0 => ?_)
  · -- yes
    try simp only [Bool.and_eq_true, Bool.or_eq_true, Bool.not_eq_true', Bool.and_eq_false_iff, Bool.or_eq_false_iff, Bool.not_eq_false', decide_eq_true_eq, decide_eq_false_iff_not, not_or, Bool.false_eq_true, Bool.true_eq_false, false_or, or_false, not_false_eq_true] at c0
    refine W.seq ?_
    refine W.reg ?_
    refine Wx.callF (run_callF Try.call16 rfl) (F16 hS.fb_lt) rfl ?_
    rintro r_4 w_5 hx_6 rfl
    have hS := hS.ext hx_6
    refine Wx.rd (v := .bool true) (rd_assign rfl) rfl ?_
    refine Wx.nil ?_
    exact W.ret ⟨.bool true, ResIs.one, hS.bel, rfl⟩
  · -- no
    try simp only [Bool.and_eq_true, Bool.or_eq_true, Bool.not_eq_true', Bool.and_eq_false_iff, Bool.or_eq_false_iff, Bool.not_eq_false', decide_eq_true_eq, decide_eq_false_iff_not, not_or, Bool.false_eq_true, Bool.true_eq_false, false_or, or_false, not_false_eq_true] at c0
    have hl30 := large_no c0
    refine W.skip ?_
    refine W.seq ?_
    refine W.reg ?_
    refine Wx.rd (v := v) (rd_move rfl) rfl ?_
    refine Wx.callF (run_callF Try.call17 rfl) (F17 (hS.arg a_v) (by omega) hS.fb_lt) rfl ?_
    rintro r_7 w_8 hx_9 ⟨_, rfl, hv_10⟩
    have hS := hS.pushFrO hx_9 hv_10
    refine Wx.rd (v := r_7) (rd_assign rfl) rfl ?_
    refine Wx.nil ?_
    refine W.seq ?_
    refine W.reg ?_
    refine Wx.rd (v := .int .i64 g) (rd_move rfl) rfl ?_
    refine Wx.rd (v := v) (rd_move rfl) rfl ?_
    refine Wx.callF (run_callF Try.call39 rfl) (F39 i_g (hS.arg a_v) hS.fb_lt) rfl ?_
    rintro r_12 w_13 hx_14 ⟨v_15, rfl, hv_16⟩
    have ln_18 := hv_16.len63
    have hS := hS.ext hx_14
    have hS := hS.add hv_16
    refine Wx.rd (v := .tuple #[v_15, .int .i64 (checkE g l)]) (rd_move rfl) rfl ?_
    refine Wx.rd (v := v_15) (rd_extract rfl rfl) rfl ?_
    refine Wx.rd (v := .int .i64 (checkE g l)) (rd_extract rfl rfl) rfl ?_
    refine Wx.rd (v := v_15) (rd_assign rfl) rfl ?_
    refine Wx.rd (v := .int .i64 (checkE g l)) (rd_assign rfl) rfl ?_
    refine Wx.nil ?_
    refine W.seq ?_
    refine W.reg ?_
    refine Wx.rd (v := .int .i64 g) (rd_move rfl) rfl ?_
    refine Wx.rd (v := r_7) (rd_move rfl) rfl ?_
    have hS := hS.freeze 1 rfl
    refine Wx.callF (run_callF Try.call40 rfl) (F40 i_g (hS.v 0 rfl) hS.fb_lt) rfl ?_
    rintro r_20 w_21 hx_22 ⟨v_23, rfl, hv_24⟩
    have ln_26 := hv_24.len63
    have hS := hS.ext hx_22
    have hS := hS.add hv_24
    refine Wx.rd (v := .tuple #[v_23, .int .i64 (checkE g l)]) (rd_move rfl) rfl ?_
    refine Wx.rd (v := v_23) (rd_extract rfl rfl) rfl ?_
    refine Wx.rd (v := .int .i64 (checkE g l)) (rd_extract rfl rfl) rfl ?_
    refine Wx.rd (v := v_23) (rd_assign rfl) rfl ?_
    refine Wx.rd (v := .int .i64 (checkE g l)) (rd_assign rfl) rfl ?_
    refine Wx.nil ?_
    refine W.seq ?_
    refine W.reg ?_
    refine Wx.rd (v := .int .i64 g) (rd_move rfl) rfl ?_
    refine Wx.rd (v := v) (rd_move rfl) rfl ?_
    refine Wx.callF (run_callF Try.call41 rfl) (F41 i_g (hS.arg a_v) hS.fb_lt) rfl ?_
    rintro r_27 w_28 hx_29 ⟨v_30, rfl, hv_31⟩
    have hS := hS.pushFr hx_29 hv_31
    refine Wx.rd (v := .tuple #[v_30, .int .i64 (ranksX g l)]) (rd_move rfl) rfl ?_
    refine Wx.rd (v := v_30) (rd_extract rfl rfl) rfl ?_
    refine Wx.rd (v := .int .i64 (ranksX g l)) (rd_extract rfl rfl) rfl ?_
    refine Wx.rd (v := v_30) (rd_assign rfl) rfl ?_
    refine Wx.rd (v := .int .i64 (ranksX g l)) (rd_assign rfl) rfl ?_
    refine Wx.nil ?_
    refine W.seq ?_
    refine W.reg ?_
    refine Wx.rd (v := .int .i64 g) (rd_move rfl) rfl ?_
    refine Wx.rd (v := r_7) (rd_move rfl) rfl ?_
    refine Wx.callF (run_callF Try.call42 rfl) (F42 i_g (hS.v 2 rfl) hS.fb_lt) rfl ?_
    rintro r_33 w_34 hx_35 ⟨v_36, rfl, hv_37⟩
    have hS := hS.pushFr hx_35 hv_37
    refine Wx.rd (v := .tuple #[v_36, .int .i64 (ranksX g l)]) (rd_move rfl) rfl ?_
    refine Wx.rd (v := v_36) (rd_extract rfl rfl) rfl ?_
    refine Wx.rd (v := .int .i64 (ranksX g l)) (rd_extract rfl rfl) rfl ?_
    refine Wx.rd (v := v_36) (rd_assign rfl) rfl ?_
    refine Wx.rd (v := .int .i64 (ranksX g l)) (rd_assign rfl) rfl ?_
    refine Wx.nil ?_
    refine W.seq ?_
    refine W.reg ?_
    refine Wx.rd (v := v_15) (rd_move rfl) rfl ?_
    refine Wx.rd (v := v_23) (rd_move rfl) rfl ?_
    refine Wx.callF (run_callF Try.call33 rfl) (F33 (hS.v 4 rfl) (hS.v 2 rfl)) rfl ?_
    rintro r_39 w_40 hx_41 rfl
    have hS := hS.ext hx_41
    rw [show (decide ((wrongE g l) = (wrongE g l)) : Bool) = true from (decide_eq_true rfl)]
    refine Wx.rd (v := .bool true) (rd_move rfl) rfl ?_
    refine Wx.gyes rfl rfl rfl ?_
    refine Wx.rd (v := .int .i64 (checkE g l)) (rd_move rfl) rfl ?_
    refine Wx.gyes rfl rfl rfl ?_
    refine Wx.rd (v := .int .i64 (checkE g l)) (rd_move rfl) rfl ?_
    refine Wx.gyes rfl rfl rfl ?_
    refine Wx.rd (v := .bool true) (Rd.to (v := .bool (decide ((checkE g l) = (checkE g l)))) (rd_eql rfl rfl) (congrArg (Value.bool) (show (true : Bool) = (decide ((checkE g l) = (checkE g l)) : Bool) from (decide_eq_true rfl).symm).symm)) rfl ?_
    refine Wx.rd (v := .bool true) (rd_pickT rfl rfl) rfl ?_
    refine Wx.rd (v := .bool true) (rd_move rfl) rfl ?_
    refine Wx.gyes rfl rfl rfl ?_
    refine Wx.rd (v := v_30) (rd_move rfl) rfl ?_
    refine Wx.gyes rfl rfl rfl ?_
    refine Wx.rd (v := v_36) (rd_move rfl) rfl ?_
    refine Wx.gyes rfl rfl rfl ?_
    refine Wx.callF (run_callF Try.call33 rfl) (F33 (hS.lend 1 rfl) (hS.lend 0 rfl)) rfl ?_
    rintro r_42 w_43 hx_44 rfl
    have hS := hS.ext hx_44
    rw [show (decide ((ranksL g l) = (ranksL g l)) : Bool) = true from (decide_eq_true rfl)]
    refine Wx.rd (v := .bool true) (rd_pickT rfl rfl) rfl ?_
    refine Wx.rd (v := .bool true) (rd_move rfl) rfl ?_
    refine Wx.gyes rfl rfl rfl ?_
    refine Wx.rd (v := .int .i64 (ranksX g l)) (rd_move rfl) rfl ?_
    refine Wx.gyes rfl rfl rfl ?_
    refine Wx.rd (v := .int .i64 (ranksX g l)) (rd_move rfl) rfl ?_
    refine Wx.gyes rfl rfl rfl ?_
    refine Wx.rd (v := .bool true) (Rd.to (v := .bool (decide ((ranksX g l) = (ranksX g l)))) (rd_eql rfl rfl) (congrArg (Value.bool) (show (true : Bool) = (decide ((ranksX g l) = (ranksX g l)) : Bool) from (decide_eq_true rfl).symm).symm)) rfl ?_
    refine Wx.rd (v := .bool true) (rd_pickT rfl rfl) rfl ?_
    refine Wx.rd (v := .bool true) (rd_move rfl) rfl ?_
    refine Wx.gyes rfl rfl rfl ?_
    refine Wx.callF (run_callF Try.call16 rfl) (F16 hS.fb_lt) rfl ?_
    rintro r_45 w_46 hx_47 rfl
    have hS := hS.ext hx_47
    refine Wx.rd (v := .bool true) (rd_pickT rfl rfl) rfl ?_
    refine Wx.rd (v := .bool true) (rd_assign rfl) rfl ?_
    refine Wx.nil ?_
    exact W.ret ⟨.bool true, ResIs.one, hS.bel, rfl⟩
end Go.Proofs.Ytjbcpggikaeleaa

namespace Go.Proofs.Ytjbcpggikaeleaa.tasteWrong
open Go.ChangeShapes Go.WideShapes Go.ChangeAt Go.RowKit Go.Joins Go.Wk
set_option linter.unusedVariables false

theorem own : ownKnob Try.prog.godebug = none := by kernel_rfl
theorem laidOut : laidOutB Try.prog = true := by kernel_rfl
theorem cells3 : Try.prog.cellsOf 3 = 1 := by kernel_rfl
theorem cells22 : Try.prog.cellsOf 22 = 1 := by kernel_rfl
theorem cells39 : Try.prog.cellsOf 39 = 1 := by kernel_rfl
theorem cells62 : Try.prog.cellsOf 62 = 2 := by kernel_rfl

set_option maxRecDepth 100000 in
theorem lifted (os : Os) (started : os.Started) (H : Type) (enc : TypeId × Value → H) :
    ReturnsInHanded {} Try.checked os 6 .any (Rows.tasteWrongSpec.pre6 enc Try.prog Try.f6 Rows.tasteWrongRow.domain false) (Rows.tasteWrongSpec.post enc Try.prog Try.f6 false true false false) := by
  refine returnsInHanded_of_change (C := Try.checked) own started (by kernel_rfl) Try.func6
    (ChangeSpec.witness6 (enc := enc) (C := Try.checked) false ⟨#[], #[.int .i64 0, .slice none 0 0], []⟩ 8 (by kernel_rfl) (by kernel_rfl) (by kernel_rfl) (by kernel_rfl)) ?_
  intro W base args ds gs before hval0 hW hcnd _
  have hval : ∀ (j : Nat) t v, Try.f6.params[j]? = some t → args[j]? = some v → Value.okWide Try.prog W .any base t v := hval0
  have hW' := hW
  obtain ⟨p, q, hA0, hV, rfl, hfz, hnd⟩ := hW
  have hA : DataW.TrodAll enc Try.prog W 0 (fun _ => true) true Try.f6.params.toList args.toList ds p := hA0
  rw [Try.params6] at hA hval
  obtain ⟨v0, vs0, d0, ds0, p0, q0, hargs, rfl, rfl, h0, r0⟩ := trodAll_cons hA
  obtain ⟨v1, vs1, d1, ds1, p1, q1, rfl, rfl, rfl, h1, r1⟩ := trodAll_cons r0
  obtain ⟨rfl, rfl, rfl⟩ := trodAll_nil r1
  obtain rfl : args = #[v0, v1] := by cases args; simp_all
  obtain ⟨rfl, rfl⟩ := trodVars_none hV
  obtain ⟨a0, rfl, rfl, rfl, u0⟩ := open_int Try.underlying3 (hval 0 3 v0 rfl rfl) h0
  have k1 := h1
  have lt1 : ∀ x ∈ p1, x.block < W.heap.size := by obtain ⟨m, hm⟩ := k1; exact DataW.trod_lt m _ _ _ hm
  obtain ⟨ad1, len1, cap1, rfl⟩ := okWide_slice Try.underlying22 (hval 1 22 v1 rfl rfl)
  obtain ⟨xs1, hv1⟩ := Rds.v (Rds.sl (Rds.s2 Try.underlying62 (Rds.sl (Rds.int Try.underlying3 cells3) Try.underlying39 cells39) (Rds.sl (Rds.int Try.underlying3 cells3) Try.underlying39 cells39) rfl rfl cells62) Try.underlying22 cells22) h1 rfl
  clear hA0 hval0
  refine (F6 (inK_of_wf u0) hv1 (fun b (h : some b ∈ ([] : List (Option Nat))) => nomatch h)).mono fun e W' hE => ?_
  obtain ⟨r, he, bel, hr⟩ := hE
  subst he
  subst hr
  exact ⟨_, rfl, _, _, _, [], _, [], hW', trodAll_mk1 (shut_bool Try.underlying4 _), (trodAll_cons_mk (shut_int Try.underlying3 u0) (trodAll_cons_mk (Below.trod laidOut (by kernel_rfl) (of_decide_eq_true (by kernel_rfl)) k1 bel lt1) trodAll_mk0)), rfl, bel.frame _, fun h => by cases h⟩

theorem over : Rows.tasteWrongRow.holds Try.pinned (OpenSpec.ofChange Rows.tasteWrongSpec) :=
  OpenClaim.holds_of_wide 6 Try.f6 rfl rfl rfl rfl rfl rfl rfl ⟨rfl, rfl, rfl, rfl, rfl⟩ rfl rfl rfl rfl rfl (by kernel_rfl) Try.func6 (by kernel_rfl)
    (of_decide_eq_true (by kernel_rfl)) (by unfold Func.isWrapper; first | (rw [if_pos (by decide +kernel)]; kernel_rfl) | (rw [if_neg (by decide +kernel)]; exact ⟨rfl, rfl⟩))
    (fun os started H enc _ => lifted os started H enc)

end Go.Proofs.Ytjbcpggikaeleaa.tasteWrong
namespace Go.Proofs.Ytjbcpggikaeleaa
/-- The statement. -/
theorem tasteWrong_proved : Rows.TasteWrongSaid := tasteWrong.over
#print axioms tasteWrong_proved
end Go.Proofs.Ytjbcpggikaeleaa
