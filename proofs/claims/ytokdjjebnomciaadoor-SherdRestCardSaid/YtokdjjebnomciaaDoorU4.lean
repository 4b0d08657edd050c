/-
  WHAT IS PROVED HERE, TEXT BY TEXT (several texts of one prover, joined to one file; the conditions stand in each statement):
  * WHAT IS PROVED HERE: what functions of layer 5 hand back, each out of its own code; the conditions stand in each statement.
  * WHAT IS PROVED HERE: what functions of layer 5 hand back, each out of its own code; the conditions stand in each statement.
  * WHAT IS PROVED HERE: what functions of layer 5 hand back, each out of its own code; the conditions stand in each statement.
  * WHAT IS PROVED HERE: what functions of layer 5 hand back, each out of its own code; the conditions stand in each statement.
  * WHAT IS PROVED HERE: what functions of layer 5 hand back, each out of its own code; the conditions stand in each statement.
-/
import Derived.Test.YtokdjjebnomciaaDoorProg
import Derived.Test.YtokdjjebnomciaaDoorU2
import Derived.Test.YtokdjjebnomciaaDoorU3

set_option linter.unusedVariables false
set_option linter.unusedSimpArgs false

namespace Go.Proofs.YtokdjjebnomciaaDoor
open Go.Wk Go.RowKit Go.Lib
set_option linter.unusedVariables false
set_option linter.unusedSimpArgs false
theorem mixedHk_ : Tryd.prog.follows .mixedOrders = true := by kernel_rfl
theorem elHk_22 : ElemI Tryd.prog 22 58 (.agg #[.int .i64 0, .int .i64 0]) 2 16 := ElemI.of Tryd.underlying22 (by kernel_rfl) (by first | rfl | kernel_rfl) (by decide)

theorem F29 {xv : Value} {xs : List (Int × Int)} {Fr_xv : List (Option Nat)} {yv : Value} {ys : List (Int × Int)} {Fr_yv : List (Option Nat)} {w : World} (h_xv : V (tSl (tP (tI .i64) (tI .i64))) xs xv Fr_xv w) (h_yv : V (tSl (tP (tI .i64) (tI .i64))) ys yv Fr_yv w) : Calls Tryd.prog 29 #[xv, yv] w (Ret w (fun r _ => r = .bool (decide (xs = ys)))) := by
  have a_xv := h_xv.any
  have l_xv := h_xv.len63
  have a_yv := h_yv.any
  have l_yv := h_yv.len63
  have hS := St.start0 w
  refine enterR Tryd.func29 rfl Tryd.ntmps29 Tryd.results29 rfl ?_
  refine W.seq ?_
  refine W.reg ?_
  refine Wx.rd (v := .bool false) (rd_assign rfl) rfl ?_
  refine Wx.nil ?_
  refine W.seq ?_
  refine W.seq ?_
  refine W.reg ?_
  refine Wx.rd (v := xv) (rd_move rfl) rfl ?_
  refine Wx.rd (v := .int .i64 (xs.length : Int)) (rd_lenV rfl (hS.arg a_xv) Tryd.underlying22) rfl ?_
  refine Wx.rd (v := yv) (rd_move rfl) rfl ?_
  refine Wx.rd (v := .int .i64 (ys.length : Int)) (rd_lenV rfl (hS.arg a_yv) Tryd.underlying22) rfl ?_
  refine Wx.rd (v := .bool (decide ((xs.length : Int) ≠ (ys.length : Int)))) (rd_neq rfl rfl) rfl ?_
  refine Wx.nil ?_
  refine W.condD rfl (fun c0 => ?_) (fun c0 => ?_)
  · -- yes
    refine W.seq ?_
    refine W.reg ?_
    refine Wx.rd (v := .bool false) (rd_assign rfl) rfl ?_
    refine Wx.nil ?_
    have e0_0 : (decide (xs = ys)) = false := by exact decide_eq_false (fun h : xs = ys => c0 (by rw [h]))
    exact W.ret ⟨.bool false, ResIs.one, hS.bel, (by rw [e0_0])⟩
  · -- no
    refine W.skip ?_
    refine W.seq ?_
    refine W.seq ?_
    refine W.reg ?_
    refine Wx.rd (v := .int .i64 0) (rd_assign rfl) rfl ?_
    refine Wx.nil ?_
    refine W.block ?_
    refine W.loop [4, 5, 11, 12, 13, 14, 15, 16, 17, 18, 19, 20, 21, 22, 23, 24, 25] (fun (k : Int) => [(5, .int .i64 k)]) (fun (k : Int) w' => St w [] w' [] ∧ 0 ≤ k ∧ k ≤ xs.length ∧ decide (xs.drop k.toNat = ys.drop k.toNat) = decide (xs = ys)) (fun (k : Int) => (xs.length - k).toNat) 0 ⟨rfl, trivial⟩ ⟨hS, (by first | omega | simp), (by first | omega | simp), (by simp)⟩ ?_
    rintro k u_2 w_1 ⟨hS, h0, h1, h2⟩
    refine W.seq ?_
    refine W.seq ?_
    refine W.reg ?_
    refine Wx.rd (v := .int .i64 k) (rd_move rfl) rfl ?_
    refine Wx.rd (v := xv) (rd_move rfl) rfl ?_
    refine Wx.rd (v := .int .i64 (xs.length : Int)) (rd_lenV rfl (hS.arg a_xv) Tryd.underlying22) rfl ?_
    refine Wx.rd (v := .bool (decide (k < (xs.length : Int)))) (rd_lss rfl rfl) rfl ?_
    refine Wx.nil ?_
    refine W.condD rfl (fun c1 => ?_) (fun c1 => ?_)
    · -- yes
      refine W.skip ?_
      refine W.seq ?_
      refine W.block ?_
      refine W.seq ?_
      refine W.regQ mixedHk_ (by kernel_rfl) ?_
      refine Wx.rd (v := xv) (rd_move rfl) rfl ?_
      refine Wx.rd (v := .int .i64 k) (rd_move rfl) rfl ?_
      refine Wx.ex (rd_index (0, 0) (hS.arg a_xv) rfl rfl Tryd.underlying22 Tryd.sizeOf58 (by first | omega | (simp only [List.length_set, List.length_append, List.length_cons, List.length_nil, List.length_replicate]; omega)) (by first | omega | (simp only [List.length_set, List.length_append, List.length_cons, List.length_nil, List.length_replicate]; omega))) rfl (fun p_3 hp_4 => ?_)
      refine Wx.ex (rd_load hp_4 rfl Tryd.isAgg58 Tryd.sizeOf58) rfl (fun v_5 hv_6 => ?_)
      obtain ⟨rfl, bd_7, bd_8⟩ := hv_6.i2
      have bd_7 := bd_i64 bd_7
      have bd_8 := bd_i64 bd_8
      refine Wx.rd (v := yv) (rd_move rfl) rfl ?_
      refine Wx.rd (v := .int .i64 k) (rd_move rfl) rfl ?_
      refine Wx.ex (rd_index (0, 0) (hS.arg a_yv) rfl rfl Tryd.underlying22 Tryd.sizeOf58 (by first | omega | (simp only [List.length_set, List.length_append, List.length_cons, List.length_nil, List.length_replicate]; omega)) (by first | omega | (simp only [List.length_set, List.length_append, List.length_cons, List.length_nil, List.length_replicate]; omega))) rfl (fun p_9 hp_10 => ?_)
      refine Wx.ex (rd_load hp_10 rfl Tryd.isAgg58 Tryd.sizeOf58) rfl (fun v_11 hv_12 => ?_)
      obtain ⟨rfl, bd_13, bd_14⟩ := hv_12.i2
      have bd_13 := bd_i64 bd_13
      have bd_14 := bd_i64 bd_14
      refine Wx.rd (v := .bool (!(decide ((ix (0, 0) xs k).1 = (ix (0, 0) ys k).1) && decide ((ix (0, 0) xs k).2 = (ix (0, 0) ys k).2)))) (rd_neqA2 rfl rfl Tryd.underlying58 Tryd.underlying3 Tryd.sizeOf3 Tryd.eqGuardType58) rfl ?_
      refine Wx.nilQ (fun w_15 hx_16 => ?_)
      have hS := hS.ext hx_16
      refine W.cond rfl (fun c2 => ?_) (fun c2 => ?_)
      · -- yes
        try simp only [Bool.and_eq_true, Bool.or_eq_true, Bool.not_eq_true', Bool.and_eq_false_iff, Bool.or_eq_false_iff, Bool.not_eq_false', decide_eq_true_eq, decide_eq_false_iff_not, not_or, Bool.false_eq_true, Bool.true_eq_false, false_or, or_false, not_false_eq_true] at c2
        refine W.seq ?_
        refine W.reg ?_
        refine Wx.rd (v := .bool false) (rd_assign rfl) rfl ?_
        refine Wx.nil ?_
        have he : ¬ ix (0, 0) xs k = ix (0, 0) ys k := fun hh => by rw [hh] at c2; omega
        have e1_0 : (decide (xs = ys)) = false := by rw [← h2, drop_ix (d := (0, 0)) h0 c1, drop_ix (d := (0, 0)) (xs := ys) h0 (by omega)]; simp [he]
        exact W.ret ⟨.bool false, ResIs.one, hS.bel, (by rw [e1_0])⟩
      · -- no
        try simp only [Bool.and_eq_true, Bool.or_eq_true, Bool.not_eq_true', Bool.and_eq_false_iff, Bool.or_eq_false_iff, Bool.not_eq_false', decide_eq_true_eq, decide_eq_false_iff_not, not_or, Bool.false_eq_true, Bool.true_eq_false, false_or, or_false, not_false_eq_true] at c2
        refine W.skip ?_
        refine W.reg ?_
        refine Wx.rd (v := .int .i64 k) (rd_move rfl) rfl ?_
        refine Wx.rd (v := .int .i64 (k + 1)) (rd_add rfl rfl (in_i64 (by omega) (by omega))) rfl ?_
        refine Wx.rd (v := .int .i64 (k + 1)) (rd_assign rfl) rfl ?_
        refine Wx.nil ?_
        have he : ix (0, 0) xs k = ix (0, 0) ys k := Prod.ext (by omega) (by omega)
        refine ⟨k + 1, (by show (xs.length - (k + 1)).toNat < (xs.length - k).toNat; omega), ?_, ?_, Out.look rfl Out.self⟩
        · exact ⟨hS, (by first | omega | assumption), (by first | omega | assumption), (by rw [← h2, drop_ix (d := (0, 0)) h0 c1, drop_ix (d := (0, 0)) (xs := ys) h0 (by omega)]; simp [he])⟩
        · exact ⟨rfl, trivial⟩
    · -- no
      refine W.exit rfl ?_
      refine W.seq ?_
      refine W.reg ?_
      refine Wx.rd (v := .bool true) (rd_assign rfl) rfl ?_
      refine Wx.nil ?_
      have e2_0 : (decide (xs = ys)) = true := by rw [← h2, drop_end (by omega), drop_end (xs := ys) (by omega)]; simp
      exact W.ret ⟨.bool true, ResIs.one, hS.bel, (by rw [e2_0])⟩

theorem F48 {lv : Value} {l : List Int} {O : List (Option Nat)} {w : World} (h_lv : V (tSl (tI .i64)) l lv O w) (p_l : (l.length : Int) ≤ 100) (hO : ∀ b, some b ∈ O → b < w.heap.size) : Calls Tryd.prog 48 #[lv] w (Ret w (fun r w' => ∃ rv, r = rv ∧ Fresh (tP (tI .i64) (tI .i64)) 58 (pairsU l) rv w.heap.size w')) := by
  have a_lv := h_lv
  have l_lv := h_lv.len63
  have hS := St.start w O hO
  refine enterR Tryd.func48 rfl Tryd.ntmps48 Tryd.results48 rfl ?_
  refine W.seq ?_
  refine W.reg ?_
  refine Wx.rd (v := (.slice none 0 0)) (rd_assign rfl) rfl ?_
  refine Wx.nil ?_
  refine W.seq ?_
  refine W.reg ?_
  refine Wx.rd (v := (.slice none 0 0)) (rd_assign rfl) rfl ?_
  refine Wx.nil ?_
  refine W.seq ?_
  refine W.seq ?_
  refine W.reg ?_
  refine Wx.rd (v := .int .i64 0) (rd_assign rfl) rfl ?_
  refine Wx.nil ?_
  refine W.block ?_
  have hS := hS.addNil (tP (tI .i64) (tI .i64)) 58
  refine W.loop [3, 4, 5, 6, 7, 8, 9, 10, 11, 12, 13, 14, 15, 16, 17, 18, 19, 20, 21, 22, 23, 24] (fun x : Int × Value × (List (Int × Int)) => match x with | (i, ov, out) => [(4, .int .i64 i), (3, ov)]) (fun (x : Int × Value × (List (Int × Int))) w' => match x with | (i, ov, out) => St w O w' [.row (tP (tI .i64) (tI .i64)) 58 ov out] ∧ 0 ≤ i ∧ i ≤ l.length ∧ out ++ pairsU (l.drop i.toNat) = pairsU l ∧ (out.length : Int) ≤ i) (fun x : Int × Value × (List (Int × Int)) => match x with | (i, ov, out) => (l.length - i).toNat) (0, (.slice none 0 0), []) ⟨rfl, rfl, trivial⟩ ⟨hS, (by first | omega | simp), (by first | omega | simp), (rfl), (Int.le_refl 0)⟩ ?_
  rintro ⟨i, ov, out⟩ u_2 w_1 ⟨hS, h0, h1, h2, h3⟩
  refine W.seq ?_
  refine W.seq ?_
  refine W.reg ?_
  refine Wx.rd (v := .int .i64 i) (rd_move rfl) rfl ?_
  refine Wx.rd (v := .int .i64 (i + 1)) (rd_add rfl rfl (in_i64 (by omega) (by omega))) rfl ?_
  refine Wx.rd (v := lv) (rd_move rfl) rfl ?_
  refine Wx.rd (v := .int .i64 (l.length : Int)) (rd_lenV rfl (hS.arg a_lv) Tryd.underlying60) rfl ?_
  refine Wx.rd (v := .bool (decide ((i + 1) < (l.length : Int)))) (rd_lss rfl rfl) rfl ?_
  refine Wx.nil ?_
  refine W.condD rfl (fun c0 => ?_) (fun c0 => ?_)
  · -- yes
    refine W.skip ?_
    refine W.seq ?_
    refine W.block ?_
    refine W.regP mixedHk_ (fun w_3 hx_4 => ?_)
    have hS := hS.ext hx_4
    refine Wp.rd (v := ov) 0 rfl (by kernel_rfl) (fun _ => (rd_move rfl)) rfl ?_
    refine Wp.rd (v := lv) 1 rfl (by kernel_rfl) (fun _ => (rd_move rfl)) rfl ?_
    refine Wp.rd (v := .int .i64 i) 2 rfl (by kernel_rfl) (fun _ => (rd_move rfl)) rfl ?_
    refine Wp.rd (v := lv) 5 rfl (by kernel_rfl) (fun _ => (rd_move rfl)) rfl ?_
    refine Wp.rd (v := .int .i64 i) 6 rfl (by kernel_rfl) (fun _ => (rd_move rfl)) rfl ?_
    refine Wp.rd (v := .int .i64 (i + 1)) 7 rfl (by kernel_rfl) (fun _ => (rd_add rfl rfl (in_i64 (by omega) (by omega)))) rfl ?_
    refine Wp.br [3, 8] (by kernel_rfl) (by decide) ⟨⟨_, rfl, ?_⟩, ⟨_, rfl, ?_⟩, trivial⟩
    · -- operation 3
      refine Wx.ex (rd_index 0 (hS.arg a_lv) rfl rfl Tryd.underlying60 Tryd.sizeOf3 (by first | omega | (simp only [List.length_set, List.length_append, List.length_cons, List.length_nil, List.length_replicate]; omega)) (by first | omega | (simp only [List.length_set, List.length_append, List.length_cons, List.length_nil, List.length_replicate]; omega))) rfl (fun p_5 hp_6 => ?_)
      refine Wx.nil ?_
      refine Wp.br [4, 8] (by kernel_rfl) (by decide) ⟨⟨_, rfl, ?_⟩, ⟨_, rfl, ?_⟩, trivial⟩
      · -- operation 4
        refine Wx.rd (v := .int .i64 (ix 0 l i)) (rd_loadI hp_6 rfl Tryd.isAgg3 Tryd.sizeOf3) rfl ?_
        have bd_7 := bd_i64 hp_6.inK
        refine Wx.nil ?_
        refine Wp.br [8] (by kernel_rfl) (by decide) ⟨⟨_, rfl, ?_⟩, trivial⟩
        refine Wx.ex (rd_index 0 (hS.arg a_lv) rfl rfl Tryd.underlying60 Tryd.sizeOf3 (by first | omega | (simp only [List.length_set, List.length_append, List.length_cons, List.length_nil, List.length_replicate]; omega)) (by first | omega | (simp only [List.length_set, List.length_append, List.length_cons, List.length_nil, List.length_replicate]; omega))) rfl (fun p_8 hp_9 => ?_)
        refine Wx.nil ?_
        refine Wp.br [9] (by kernel_rfl) (by decide) ⟨⟨_, rfl, ?_⟩, trivial⟩
        refine Wx.rd (v := .int .i64 (ix 0 l (i + 1))) (rd_loadI hp_9 rfl Tryd.isAgg3 Tryd.sizeOf3) rfl ?_
        have bd_10 := bd_i64 hp_9.inK
        refine Wx.nil ?_
        refine Wp.rd (v := .agg #[.int .i64 (ix 0 l i), .int .i64 (ix 0 l (i + 1))]) 10 rfl (by kernel_rfl) (fun _ => (rd_build (vs := [(0, .int .i64 (ix 0 l i)), (1, .int .i64 (ix 0 l (i + 1)))]) rfl (by kernel_rfl))) rfl ?_
        refine Wp.br [11] (by kernel_rfl) (by decide) ⟨⟨_, rfl, ?_⟩, trivial⟩
        refine Wx.lit (t := (tP (tI .i64) (tI .i64))) (ys := [(ix 0 l i, ix 0 l (i + 1))]) (vs := [.agg #[.int .i64 (ix 0 l i), .int .i64 (ix 0 l (i + 1))]]) elHk_22 hS rfl rfl ⟨(V.mk2 (in_i64 (by omega) (by omega)) (in_i64 (by omega) (by omega))), trivial⟩ (by decide) rfl (fun v_11 w_12 hx_13 hS => ?_)
        refine Wx.nil ?_
        refine Wp.br [12] (by kernel_rfl) (by decide) ⟨⟨_, rfl, ?_⟩, trivial⟩
        refine Wx.append elHk_22 hS 1 rfl rfl rfl (Src.ofR hS 0 rfl) (by simp only [maxLen]; simp; omega) (by simp; omega) rfl (fun v_14 w_15 hz_16 hS => ?_)
        refine Wx.nil ?_
        refine Wp.rd (v := v_14) 13 rfl (by kernel_rfl) (fun _ => (rd_assign rfl)) rfl ?_
        refine Wp.done (by kernel_rfl) ?_
        refine W.reg ?_
        refine Wx.rd (v := .int .i64 i) (rd_move rfl) rfl ?_
        refine Wx.rd (v := .int .i64 (i + 2)) (rd_add rfl rfl (in_i64 (by omega) (by omega))) rfl ?_
        refine Wx.rd (v := .int .i64 (i + 2)) (rd_assign rfl) rfl ?_
        refine Wx.nil ?_
        refine ⟨(i + 2, v_14, out ++ [(ix 0 l i, ix 0 l (i + 1))]), (by show (l.length - (i + 2)).toNat < (l.length - i).toNat; omega), ?_, ?_, Out.look rfl Out.self⟩
        · exact ⟨hS.tl, (by first | omega | assumption), (by first | omega | assumption), (by rw [← h2, pairsU_step h0 c0]; simp), (by simp only [List.length_append, List.length_cons, List.length_nil]; omega)⟩
        · exact ⟨rfl, rfl, trivial⟩
      · -- operation 8
        refine Wx.ex (rd_index 0 (hS.arg a_lv) rfl rfl Tryd.underlying60 Tryd.sizeOf3 (by first | omega | (simp only [List.length_set, List.length_append, List.length_cons, List.length_nil, List.length_replicate]; omega)) (by first | omega | (simp only [List.length_set, List.length_append, List.length_cons, List.length_nil, List.length_replicate]; omega))) rfl (fun p_17 hp_18 => ?_)
        refine Wx.nil ?_
        refine Wp.br [4, 9] (by kernel_rfl) (by decide) ⟨⟨_, rfl, ?_⟩, ⟨_, rfl, ?_⟩, trivial⟩
        · -- operation 4
          refine Wx.rd (v := .int .i64 (ix 0 l i)) (rd_loadI hp_6 rfl Tryd.isAgg3 Tryd.sizeOf3) rfl ?_
          have bd_19 := bd_i64 hp_6.inK
          refine Wx.nil ?_
          refine Wp.br [9] (by kernel_rfl) (by decide) ⟨⟨_, rfl, ?_⟩, trivial⟩
          refine Wx.rd (v := .int .i64 (ix 0 l (i + 1))) (rd_loadI hp_18 rfl Tryd.isAgg3 Tryd.sizeOf3) rfl ?_
          have bd_20 := bd_i64 hp_18.inK
          refine Wx.nil ?_
          refine Wp.rd (v := .agg #[.int .i64 (ix 0 l i), .int .i64 (ix 0 l (i + 1))]) 10 rfl (by kernel_rfl) (fun _ => (rd_build (vs := [(0, .int .i64 (ix 0 l i)), (1, .int .i64 (ix 0 l (i + 1)))]) rfl (by kernel_rfl))) rfl ?_
          refine Wp.br [11] (by kernel_rfl) (by decide) ⟨⟨_, rfl, ?_⟩, trivial⟩
          refine Wx.lit (t := (tP (tI .i64) (tI .i64))) (ys := [(ix 0 l i, ix 0 l (i + 1))]) (vs := [.agg #[.int .i64 (ix 0 l i), .int .i64 (ix 0 l (i + 1))]]) elHk_22 hS rfl rfl ⟨(V.mk2 (in_i64 (by omega) (by omega)) (in_i64 (by omega) (by omega))), trivial⟩ (by decide) rfl (fun v_21 w_22 hx_23 hS => ?_)
          refine Wx.nil ?_
          refine Wp.br [12] (by kernel_rfl) (by decide) ⟨⟨_, rfl, ?_⟩, trivial⟩
          refine Wx.append elHk_22 hS 1 rfl rfl rfl (Src.ofR hS 0 rfl) (by simp only [maxLen]; simp; omega) (by simp; omega) rfl (fun v_24 w_25 hz_26 hS => ?_)
          refine Wx.nil ?_
          refine Wp.rd (v := v_24) 13 rfl (by kernel_rfl) (fun _ => (rd_assign rfl)) rfl ?_
          refine Wp.done (by kernel_rfl) ?_
          refine W.reg ?_
          refine Wx.rd (v := .int .i64 i) (rd_move rfl) rfl ?_
          refine Wx.rd (v := .int .i64 (i + 2)) (rd_add rfl rfl (in_i64 (by omega) (by omega))) rfl ?_
          refine Wx.rd (v := .int .i64 (i + 2)) (rd_assign rfl) rfl ?_
          refine Wx.nil ?_
          refine ⟨(i + 2, v_24, out ++ [(ix 0 l i, ix 0 l (i + 1))]), (by show (l.length - (i + 2)).toNat < (l.length - i).toNat; omega), ?_, ?_, Out.look rfl Out.self⟩
          · exact ⟨hS.tl, (by first | omega | assumption), (by first | omega | assumption), (by rw [← h2, pairsU_step h0 c0]; simp), (by simp only [List.length_append, List.length_cons, List.length_nil]; omega)⟩
          · exact ⟨rfl, rfl, trivial⟩
        · -- operation 9
          refine Wx.rd (v := .int .i64 (ix 0 l (i + 1))) (rd_loadI hp_18 rfl Tryd.isAgg3 Tryd.sizeOf3) rfl ?_
          have bd_27 := bd_i64 hp_18.inK
          refine Wx.nil ?_
          refine Wp.br [4] (by kernel_rfl) (by decide) ⟨⟨_, rfl, ?_⟩, trivial⟩
          refine Wx.rd (v := .int .i64 (ix 0 l i)) (rd_loadI hp_6 rfl Tryd.isAgg3 Tryd.sizeOf3) rfl ?_
          have bd_28 := bd_i64 hp_6.inK
          refine Wx.nil ?_
          refine Wp.rd (v := .agg #[.int .i64 (ix 0 l i), .int .i64 (ix 0 l (i + 1))]) 10 rfl (by kernel_rfl) (fun _ => (rd_build (vs := [(0, .int .i64 (ix 0 l i)), (1, .int .i64 (ix 0 l (i + 1)))]) rfl (by kernel_rfl))) rfl ?_
          refine Wp.br [11] (by kernel_rfl) (by decide) ⟨⟨_, rfl, ?_⟩, trivial⟩
          refine Wx.lit (t := (tP (tI .i64) (tI .i64))) (ys := [(ix 0 l i, ix 0 l (i + 1))]) (vs := [.agg #[.int .i64 (ix 0 l i), .int .i64 (ix 0 l (i + 1))]]) elHk_22 hS rfl rfl ⟨(V.mk2 (in_i64 (by omega) (by omega)) (in_i64 (by omega) (by omega))), trivial⟩ (by decide) rfl (fun v_29 w_30 hx_31 hS => ?_)
          refine Wx.nil ?_
          refine Wp.br [12] (by kernel_rfl) (by decide) ⟨⟨_, rfl, ?_⟩, trivial⟩
          refine Wx.append elHk_22 hS 1 rfl rfl rfl (Src.ofR hS 0 rfl) (by simp only [maxLen]; simp; omega) (by simp; omega) rfl (fun v_32 w_33 hz_34 hS => ?_)
          refine Wx.nil ?_
          refine Wp.rd (v := v_32) 13 rfl (by kernel_rfl) (fun _ => (rd_assign rfl)) rfl ?_
          refine Wp.done (by kernel_rfl) ?_
          refine W.reg ?_
          refine Wx.rd (v := .int .i64 i) (rd_move rfl) rfl ?_
          refine Wx.rd (v := .int .i64 (i + 2)) (rd_add rfl rfl (in_i64 (by omega) (by omega))) rfl ?_
          refine Wx.rd (v := .int .i64 (i + 2)) (rd_assign rfl) rfl ?_
          refine Wx.nil ?_
          refine ⟨(i + 2, v_32, out ++ [(ix 0 l i, ix 0 l (i + 1))]), (by show (l.length - (i + 2)).toNat < (l.length - i).toNat; omega), ?_, ?_, Out.look rfl Out.self⟩
          · exact ⟨hS.tl, (by first | omega | assumption), (by first | omega | assumption), (by rw [← h2, pairsU_step h0 c0]; simp), (by simp only [List.length_append, List.length_cons, List.length_nil]; omega)⟩
          · exact ⟨rfl, rfl, trivial⟩
    · -- operation 8
      refine Wx.ex (rd_index 0 (hS.arg a_lv) rfl rfl Tryd.underlying60 Tryd.sizeOf3 (by first | omega | (simp only [List.length_set, List.length_append, List.length_cons, List.length_nil, List.length_replicate]; omega)) (by first | omega | (simp only [List.length_set, List.length_append, List.length_cons, List.length_nil, List.length_replicate]; omega))) rfl (fun p_35 hp_36 => ?_)
      refine Wx.nil ?_
      refine Wp.br [3, 9] (by kernel_rfl) (by decide) ⟨⟨_, rfl, ?_⟩, ⟨_, rfl, ?_⟩, trivial⟩
      · -- operation 3
        refine Wx.ex (rd_index 0 (hS.arg a_lv) rfl rfl Tryd.underlying60 Tryd.sizeOf3 (by first | omega | (simp only [List.length_set, List.length_append, List.length_cons, List.length_nil, List.length_replicate]; omega)) (by first | omega | (simp only [List.length_set, List.length_append, List.length_cons, List.length_nil, List.length_replicate]; omega))) rfl (fun p_37 hp_38 => ?_)
        refine Wx.nil ?_
        refine Wp.br [4, 9] (by kernel_rfl) (by decide) ⟨⟨_, rfl, ?_⟩, ⟨_, rfl, ?_⟩, trivial⟩
        · -- operation 4
          refine Wx.rd (v := .int .i64 (ix 0 l i)) (rd_loadI hp_38 rfl Tryd.isAgg3 Tryd.sizeOf3) rfl ?_
          have bd_39 := bd_i64 hp_38.inK
          refine Wx.nil ?_
          refine Wp.br [9] (by kernel_rfl) (by decide) ⟨⟨_, rfl, ?_⟩, trivial⟩
          refine Wx.rd (v := .int .i64 (ix 0 l (i + 1))) (rd_loadI hp_36 rfl Tryd.isAgg3 Tryd.sizeOf3) rfl ?_
          have bd_40 := bd_i64 hp_36.inK
          refine Wx.nil ?_
          refine Wp.rd (v := .agg #[.int .i64 (ix 0 l i), .int .i64 (ix 0 l (i + 1))]) 10 rfl (by kernel_rfl) (fun _ => (rd_build (vs := [(0, .int .i64 (ix 0 l i)), (1, .int .i64 (ix 0 l (i + 1)))]) rfl (by kernel_rfl))) rfl ?_
          refine Wp.br [11] (by kernel_rfl) (by decide) ⟨⟨_, rfl, ?_⟩, trivial⟩
          refine Wx.lit (t := (tP (tI .i64) (tI .i64))) (ys := [(ix 0 l i, ix 0 l (i + 1))]) (vs := [.agg #[.int .i64 (ix 0 l i), .int .i64 (ix 0 l (i + 1))]]) elHk_22 hS rfl rfl ⟨(V.mk2 (in_i64 (by omega) (by omega)) (in_i64 (by omega) (by omega))), trivial⟩ (by decide) rfl (fun v_41 w_42 hx_43 hS => ?_)
          refine Wx.nil ?_
          refine Wp.br [12] (by kernel_rfl) (by decide) ⟨⟨_, rfl, ?_⟩, trivial⟩
          refine Wx.append elHk_22 hS 1 rfl rfl rfl (Src.ofR hS 0 rfl) (by simp only [maxLen]; simp; omega) (by simp; omega) rfl (fun v_44 w_45 hz_46 hS => ?_)
          refine Wx.nil ?_
          refine Wp.rd (v := v_44) 13 rfl (by kernel_rfl) (fun _ => (rd_assign rfl)) rfl ?_
          refine Wp.done (by kernel_rfl) ?_
          refine W.reg ?_
          refine Wx.rd (v := .int .i64 i) (rd_move rfl) rfl ?_
          refine Wx.rd (v := .int .i64 (i + 2)) (rd_add rfl rfl (in_i64 (by omega) (by omega))) rfl ?_
          refine Wx.rd (v := .int .i64 (i + 2)) (rd_assign rfl) rfl ?_
          refine Wx.nil ?_
          refine ⟨(i + 2, v_44, out ++ [(ix 0 l i, ix 0 l (i + 1))]), (by show (l.length - (i + 2)).toNat < (l.length - i).toNat; omega), ?_, ?_, Out.look rfl Out.self⟩
          · exact ⟨hS.tl, (by first | omega | assumption), (by first | omega | assumption), (by rw [← h2, pairsU_step h0 c0]; simp), (by simp only [List.length_append, List.length_cons, List.length_nil]; omega)⟩
          · exact ⟨rfl, rfl, trivial⟩
        · -- operation 9
          refine Wx.rd (v := .int .i64 (ix 0 l (i + 1))) (rd_loadI hp_36 rfl Tryd.isAgg3 Tryd.sizeOf3) rfl ?_
          have bd_47 := bd_i64 hp_36.inK
          refine Wx.nil ?_
          refine Wp.br [4] (by kernel_rfl) (by decide) ⟨⟨_, rfl, ?_⟩, trivial⟩
          refine Wx.rd (v := .int .i64 (ix 0 l i)) (rd_loadI hp_38 rfl Tryd.isAgg3 Tryd.sizeOf3) rfl ?_
          have bd_48 := bd_i64 hp_38.inK
          refine Wx.nil ?_
          refine Wp.rd (v := .agg #[.int .i64 (ix 0 l i), .int .i64 (ix 0 l (i + 1))]) 10 rfl (by kernel_rfl) (fun _ => (rd_build (vs := [(0, .int .i64 (ix 0 l i)), (1, .int .i64 (ix 0 l (i + 1)))]) rfl (by kernel_rfl))) rfl ?_
          refine Wp.br [11] (by kernel_rfl) (by decide) ⟨⟨_, rfl, ?_⟩, trivial⟩
          refine Wx.lit (t := (tP (tI .i64) (tI .i64))) (ys := [(ix 0 l i, ix 0 l (i + 1))]) (vs := [.agg #[.int .i64 (ix 0 l i), .int .i64 (ix 0 l (i + 1))]]) elHk_22 hS rfl rfl ⟨(V.mk2 (in_i64 (by omega) (by omega)) (in_i64 (by omega) (by omega))), trivial⟩ (by decide) rfl (fun v_49 w_50 hx_51 hS => ?_)
          refine Wx.nil ?_
          refine Wp.br [12] (by kernel_rfl) (by decide) ⟨⟨_, rfl, ?_⟩, trivial⟩
          refine Wx.append elHk_22 hS 1 rfl rfl rfl (Src.ofR hS 0 rfl) (by simp only [maxLen]; simp; omega) (by simp; omega) rfl (fun v_52 w_53 hz_54 hS => ?_)
          refine Wx.nil ?_
          refine Wp.rd (v := v_52) 13 rfl (by kernel_rfl) (fun _ => (rd_assign rfl)) rfl ?_
          refine Wp.done (by kernel_rfl) ?_
          refine W.reg ?_
          refine Wx.rd (v := .int .i64 i) (rd_move rfl) rfl ?_
          refine Wx.rd (v := .int .i64 (i + 2)) (rd_add rfl rfl (in_i64 (by omega) (by omega))) rfl ?_
          refine Wx.rd (v := .int .i64 (i + 2)) (rd_assign rfl) rfl ?_
          refine Wx.nil ?_
          refine ⟨(i + 2, v_52, out ++ [(ix 0 l i, ix 0 l (i + 1))]), (by show (l.length - (i + 2)).toNat < (l.length - i).toNat; omega), ?_, ?_, Out.look rfl Out.self⟩
          · exact ⟨hS.tl, (by first | omega | assumption), (by first | omega | assumption), (by rw [← h2, pairsU_step h0 c0]; simp), (by simp only [List.length_append, List.length_cons, List.length_nil]; omega)⟩
          · exact ⟨rfl, rfl, trivial⟩
      · -- operation 9
        refine Wx.rd (v := .int .i64 (ix 0 l (i + 1))) (rd_loadI hp_36 rfl Tryd.isAgg3 Tryd.sizeOf3) rfl ?_
        have bd_55 := bd_i64 hp_36.inK
        refine Wx.nil ?_
        refine Wp.br [3] (by kernel_rfl) (by decide) ⟨⟨_, rfl, ?_⟩, trivial⟩
        refine Wx.ex (rd_index 0 (hS.arg a_lv) rfl rfl Tryd.underlying60 Tryd.sizeOf3 (by first | omega | (simp only [List.length_set, List.length_append, List.length_cons, List.length_nil, List.length_replicate]; omega)) (by first | omega | (simp only [List.length_set, List.length_append, List.length_cons, List.length_nil, List.length_replicate]; omega))) rfl (fun p_56 hp_57 => ?_)
        refine Wx.nil ?_
        refine Wp.br [4] (by kernel_rfl) (by decide) ⟨⟨_, rfl, ?_⟩, trivial⟩
        refine Wx.rd (v := .int .i64 (ix 0 l i)) (rd_loadI hp_57 rfl Tryd.isAgg3 Tryd.sizeOf3) rfl ?_
        have bd_58 := bd_i64 hp_57.inK
        refine Wx.nil ?_
        refine Wp.rd (v := .agg #[.int .i64 (ix 0 l i), .int .i64 (ix 0 l (i + 1))]) 10 rfl (by kernel_rfl) (fun _ => (rd_build (vs := [(0, .int .i64 (ix 0 l i)), (1, .int .i64 (ix 0 l (i + 1)))]) rfl (by kernel_rfl))) rfl ?_
        refine Wp.br [11] (by kernel_rfl) (by decide) ⟨⟨_, rfl, ?_⟩, trivial⟩
        refine Wx.lit (t := (tP (tI .i64) (tI .i64))) (ys := [(ix 0 l i, ix 0 l (i + 1))]) (vs := [.agg #[.int .i64 (ix 0 l i), .int .i64 (ix 0 l (i + 1))]]) elHk_22 hS rfl rfl ⟨(V.mk2 (in_i64 (by omega) (by omega)) (in_i64 (by omega) (by omega))), trivial⟩ (by decide) rfl (fun v_59 w_60 hx_61 hS => ?_)
        refine Wx.nil ?_
        refine Wp.br [12] (by kernel_rfl) (by decide) ⟨⟨_, rfl, ?_⟩, trivial⟩
        refine Wx.append elHk_22 hS 1 rfl rfl rfl (Src.ofR hS 0 rfl) (by simp only [maxLen]; simp; omega) (by simp; omega) rfl (fun v_62 w_63 hz_64 hS => ?_)
        refine Wx.nil ?_
        refine Wp.rd (v := v_62) 13 rfl (by kernel_rfl) (fun _ => (rd_assign rfl)) rfl ?_
        refine Wp.done (by kernel_rfl) ?_
        refine W.reg ?_
        refine Wx.rd (v := .int .i64 i) (rd_move rfl) rfl ?_
        refine Wx.rd (v := .int .i64 (i + 2)) (rd_add rfl rfl (in_i64 (by omega) (by omega))) rfl ?_
        refine Wx.rd (v := .int .i64 (i + 2)) (rd_assign rfl) rfl ?_
        refine Wx.nil ?_
        refine ⟨(i + 2, v_62, out ++ [(ix 0 l i, ix 0 l (i + 1))]), (by show (l.length - (i + 2)).toNat < (l.length - i).toNat; omega), ?_, ?_, Out.look rfl Out.self⟩
        · exact ⟨hS.tl, (by first | omega | assumption), (by first | omega | assumption), (by rw [← h2, pairsU_step h0 c0]; simp), (by simp only [List.length_append, List.length_cons, List.length_nil]; omega)⟩
        · exact ⟨rfl, rfl, trivial⟩
  · -- no
    refine W.exit rfl ?_
    refine W.seq ?_
    refine W.reg ?_
    refine Wx.rd (v := ov) (rd_move rfl) rfl ?_
    refine Wx.rd (v := ov) (rd_assign rfl) rfl ?_
    refine Wx.nil ?_
    have e0_0 : pairsU l = out := by rw [← h2, pairsU_end h0 c0, List.append_nil]
    exact W.ret ⟨ov, ResIs.one, hS.bel, ⟨ov, rfl, (by rw [e0_0]; exact (hS.fr 0 rfl flat_i2))⟩⟩
end Go.Proofs.YtokdjjebnomciaaDoor

namespace Go.Proofs.YtokdjjebnomciaaDoor
open Go.Wk Go.RowKit Go.Lib
set_option linter.unusedVariables false
set_option linter.unusedSimpArgs false
theorem elHm_60 : ElemI Tryd.prog 60 3 (.int .i64 0) 1 8 := ElemI.of Tryd.underlying60 (by kernel_rfl) (by first | rfl | kernel_rfl) (by decide)

theorem F16 {O : List (Option Nat)} {w : World} (hO : ∀ b, some b ∈ O → b < w.heap.size) (hG : Laid w) : Calls Tryd.prog 16 #[] w (Ret w (fun r _ => r = .bool true)) := by
  have hS := St.start w O hO
  refine enterR Tryd.func16 rfl Tryd.ntmps16 Tryd.results16 rfl ?_
  refine W.seq ?_
  refine W.reg ?_
  refine Wx.rd (v := .bool false) (rd_assign rfl) rfl ?_
  refine Wx.nil ?_
  refine W.seq ?_
  refine W.reg ?_
  refine Wx.callF (run_callF Tryd.call21 rfl) (F21 (by first | assumption | (simp only [maxLen]; omega) | (simp only [ByteArray.size_extract, ByteArray.size_append, maxLen] at *; omega) | decide) (hG.ext hS.bel)) rfl ?_
  rintro r_1 w_2 hx_3 rfl
  have hS := hS.ext hx_3
  refine Wx.rd (v := .tuple #[.int .i64 (mostV rQ), .int .i64 (rimE rQ)]) (rd_move rfl) rfl ?_
  refine Wx.rd (v := .int .i64 (mostV rQ)) (rd_extract rfl rfl) rfl ?_
  refine Wx.rd (v := .int .i64 (rimE rQ)) (rd_extract rfl rfl) rfl ?_
  refine Wx.rd (v := .int .i64 1) (Rd.to (v := .int .i64 (mostV rQ)) (rd_assign rfl) (congrArg (Value.int .i64) (show (1 : Int) = (mostV rQ : Int) from (by decide +kernel)).symm)) rfl ?_
  refine Wx.rd (v := .int .i64 0) (Rd.to (v := .int .i64 (rimE rQ)) (rd_assign rfl) (congrArg (Value.int .i64) (show (0 : Int) = (rimE rQ : Int) from (by decide +kernel)).symm)) rfl ?_
  refine Wx.nil ?_
  refine W.seq ?_
  refine W.reg ?_
  refine Wx.callF (run_callF Tryd.call25 rfl) (F25 (by first | assumption | (simp only [maxLen]; omega) | (simp only [ByteArray.size_extract, ByteArray.size_append, maxLen] at *; omega) | decide) (hG.ext hS.bel)) rfl ?_
  rintro r_4 w_5 hx_6 ⟨v_7, rfl, hv_8⟩
  have hS := hS.pushFr hx_6 hv_8
  refine Wx.rd (v := .tuple #[v_7, .int .i64 (rimE rR)]) (rd_move rfl) rfl ?_
  refine Wx.rd (v := v_7) (rd_extract rfl rfl) rfl ?_
  refine Wx.rd (v := .int .i64 (rimE rR)) (rd_extract rfl rfl) rfl ?_
  refine Wx.rd (v := v_7) (rd_assign rfl) rfl ?_
  refine Wx.rd (v := .int .i64 0) (Rd.to (v := .int .i64 (rimE rR)) (rd_assign rfl) (congrArg (Value.int .i64) (show (0 : Int) = (rimE rR : Int) from (by decide +kernel)).symm)) rfl ?_
  refine Wx.nil ?_
  refine W.seq ?_
  refine W.reg ?_
  refine Wx.callF (run_callF Tryd.call23 rfl) (F23 (by first | assumption | (simp only [maxLen]; omega) | (simp only [ByteArray.size_extract, ByteArray.size_append, maxLen] at *; omega) | decide) (hG.ext hS.bel)) rfl ?_
  rintro r_10 w_11 hx_12 rfl
  have hS := hS.ext hx_12
  refine Wx.rd (v := .tuple #[.int .i64 (countV rR), .int .i64 (rimE rR)]) (rd_move rfl) rfl ?_
  refine Wx.rd (v := .int .i64 (countV rR)) (rd_extract rfl rfl) rfl ?_
  refine Wx.rd (v := .int .i64 (rimE rR)) (rd_extract rfl rfl) rfl ?_
  refine Wx.rd (v := .int .i64 2) (Rd.to (v := .int .i64 (countV rR)) (rd_assign rfl) (congrArg (Value.int .i64) (show (2 : Int) = (countV rR : Int) from (by decide +kernel)).symm)) rfl ?_
  refine Wx.rd (v := .int .i64 0) (Rd.to (v := .int .i64 (rimE rR)) (rd_assign rfl) (congrArg (Value.int .i64) (show (0 : Int) = (rimE rR : Int) from (by decide +kernel)).symm)) rfl ?_
  refine Wx.nil ?_
  refine W.seq ?_
  refine W.reg ?_
  refine Wx.callF (run_callF Tryd.call27 rfl) (F27 (by first | assumption | (simp only [maxLen]; omega) | (simp only [ByteArray.size_extract, ByteArray.size_append, maxLen] at *; omega) | decide) (hG.ext hS.bel)) rfl ?_
  rintro r_13 w_14 hx_15 ⟨v_16, rfl, hv_17⟩
  have hS := hS.pushFr hx_15 hv_17
  refine Wx.rd (v := .tuple #[v_16, .int .i64 (rimE rP)]) (rd_move rfl) rfl ?_
  refine Wx.rd (v := v_16) (rd_extract rfl rfl) rfl ?_
  refine Wx.rd (v := .int .i64 (rimE rP)) (rd_extract rfl rfl) rfl ?_
  refine Wx.rd (v := v_16) (rd_assign rfl) rfl ?_
  refine Wx.rd (v := .int .i64 0) (Rd.to (v := .int .i64 (rimE rP)) (rd_assign rfl) (congrArg (Value.int .i64) (show (0 : Int) = (rimE rP : Int) from (by decide +kernel)).symm)) rfl ?_
  refine Wx.nil ?_
  refine W.seq ?_
  refine W.reg ?_
  refine Wx.callF (run_callF Tryd.call30 rfl) (F30 (by first | assumption | (simp only [maxLen]; omega) | (simp only [ByteArray.size_extract, ByteArray.size_append, maxLen] at *; omega) | decide) hS.fb_lt (hG.ext hS.bel)) rfl ?_
  rintro r_19 w_20 hx_21 ⟨v_22, rfl, hv_23⟩
  have ln_25 := hv_23.len63
  have hS := hS.ext hx_21
  have hS := hS.add hv_23
  refine Wx.rd (v := .tuple #[v_22, .int .i64 (rimE rP)]) (rd_move rfl) rfl ?_
  refine Wx.rd (v := v_22) (rd_extract rfl rfl) rfl ?_
  refine Wx.rd (v := .int .i64 (rimE rP)) (rd_extract rfl rfl) rfl ?_
  refine Wx.rd (v := v_22) (rd_assign rfl) rfl ?_
  refine Wx.rd (v := .int .i64 0) (Rd.to (v := .int .i64 (rimE rP)) (rd_assign rfl) (congrArg (Value.int .i64) (show (0 : Int) = (rimE rP : Int) from (by decide +kernel)).symm)) rfl ?_
  refine Wx.nil ?_
  refine W.seq ?_
  refine W.reg ?_
  refine Wx.callF (run_callF Tryd.call32 rfl) (F32 (by first | assumption | (simp only [maxLen]; omega) | (simp only [ByteArray.size_extract, ByteArray.size_append, maxLen] at *; omega) | decide) (hG.ext hS.bel)) rfl ?_
  rintro r_26 w_27 hx_28 rfl
  have hS := hS.ext hx_28
  refine Wx.rd (v := .tuple #[.string (restE rQ), .int .i64 (rimE rQ)]) (rd_move rfl) rfl ?_
  refine Wx.rd (v := .string (restE rQ)) (rd_extract rfl rfl) rfl ?_
  refine Wx.rd (v := .int .i64 (rimE rQ)) (rd_extract rfl rfl) rfl ?_
  refine Wx.rd (v := .string (restE rQ)) (rd_assign rfl) rfl ?_
  refine Wx.rd (v := .int .i64 0) (Rd.to (v := .int .i64 (rimE rQ)) (rd_assign rfl) (congrArg (Value.int .i64) (show (0 : Int) = (rimE rQ : Int) from (by decide +kernel)).symm)) rfl ?_
  refine Wx.nil ?_
  refine W.seq ?_
  refine W.seq ?_
  refine W.reg ?_
  refine Wx.rd (v := .int .i64 0) (rd_move rfl) rfl ?_
  refine Wx.rd (v := .bool (decide ((0 : Int) ≠ 0))) (rd_neq rfl rfl) rfl ?_
  refine Wx.rd (v := .bool (decide ((0 : Int) ≠ 0))) (rd_move rfl) rfl ?_
  refine Wx.cut (X := Unit) 3 [48, 49, 50] (fun _ => [(50, .bool (decide ((0 : Int) ≠ 0) || decide ((0 : Int) ≠ 0)))]) (fun _ w' => St w O w' [Ob.v (tSl (tP (tI .i64) (tI .i64))) (stepsV rP) v_22, .row (tP (tI .i64) (tI .i64)) 58 v_16 (forcedP rP), .row (tP (tI .i64) (tI .i64)) 58 v_7 (firstV rR)]) ?_ ?_
  · rcases Bool.eq_false_or_eq_true (decide ((0 : Int) ≠ 0)) with g_29 | g_29
    · -- True
      have gp_30 := of_decide_eq_true g_29
      refine Wx.gnoB rfl rfl (congrArg Value.bool g_29) rfl rfl ?_
      refine Wx.gnoB rfl rfl (congrArg Value.bool g_29) rfl rfl ?_
      refine Wx.rd (v := .bool true) (rd_pickT (congrArg Value.bool g_29) rfl) rfl ?_
      refine Wx.nil ⟨(), hS, ⟨?_, trivial⟩, Out.look rfl Out.refl⟩
      show Value.bool true = Value.bool (decide ((0 : Int) ≠ 0) || decide ((0 : Int) ≠ 0))
      rw [g_29]; rfl
    · -- False
      have gp_31 := of_decide_eq_false g_29
      refine Wx.gyes rfl rfl (congrArg Value.bool g_29) ?_
      refine Wx.rd (v := .int .i64 0) (rd_move rfl) rfl ?_
      refine Wx.gyes rfl rfl (congrArg Value.bool g_29) ?_
      refine Wx.rd (v := .bool (decide ((0 : Int) ≠ 0))) (rd_neq rfl rfl) rfl ?_
      refine Wx.rd (v := .bool (decide ((0 : Int) ≠ 0))) (rd_pickF (congrArg Value.bool g_29) rfl) rfl ?_
      refine Wx.nil ⟨(), hS, ⟨?_, trivial⟩, Out.look rfl Out.refl⟩
      show Value.bool (decide ((0 : Int) ≠ 0)) = Value.bool (decide ((0 : Int) ≠ 0) || decide ((0 : Int) ≠ 0))
      rw [g_29]; rfl
  rintro ⟨⟩ u_33 w_32 hS
  refine Wx.rd (v := .bool (decide ((0 : Int) ≠ 0) || decide ((0 : Int) ≠ 0))) (rd_move rfl) rfl ?_
  refine Wx.cut (X := Unit) 3 [52, 53, 54] (fun _ => [(54, .bool ((decide ((0 : Int) ≠ 0) || decide ((0 : Int) ≠ 0)) || decide ((0 : Int) ≠ 0)))]) (fun _ w' => St w O w' [Ob.v (tSl (tP (tI .i64) (tI .i64))) (stepsV rP) v_22, .row (tP (tI .i64) (tI .i64)) 58 v_16 (forcedP rP), .row (tP (tI .i64) (tI .i64)) 58 v_7 (firstV rR)]) ?_ ?_
  · rcases Bool.eq_false_or_eq_true (decide ((0 : Int) ≠ 0) || decide ((0 : Int) ≠ 0)) with g_34 | g_34
    · -- True
      have gp_35 := g_34
      try simp only [Bool.and_eq_true, Bool.or_eq_true, Bool.not_eq_true', Bool.and_eq_false_iff, Bool.or_eq_false_iff, Bool.not_eq_false', decide_eq_true_eq, decide_eq_false_iff_not, not_or, Bool.false_eq_true, Bool.true_eq_false, false_or, or_false, not_false_eq_true] at gp_35
      refine Wx.gnoB rfl rfl (congrArg Value.bool g_34) rfl rfl ?_
      refine Wx.gnoB rfl rfl (congrArg Value.bool g_34) rfl rfl ?_
      refine Wx.rd (v := .bool true) (rd_pickT (congrArg Value.bool g_34) rfl) rfl ?_
      refine Wx.nil ⟨(), hS, ⟨?_, trivial⟩, Out.look rfl Out.refl⟩
      show Value.bool true = Value.bool ((decide ((0 : Int) ≠ 0) || decide ((0 : Int) ≠ 0)) || decide ((0 : Int) ≠ 0))
      rw [g_34]; rfl
    · -- False
      have gp_36 := g_34
      try simp only [Bool.and_eq_true, Bool.or_eq_true, Bool.not_eq_true', Bool.and_eq_false_iff, Bool.or_eq_false_iff, Bool.not_eq_false', decide_eq_true_eq, decide_eq_false_iff_not, not_or, Bool.false_eq_true, Bool.true_eq_false, false_or, or_false, not_false_eq_true] at gp_36
      refine Wx.gyes rfl rfl (congrArg Value.bool g_34) ?_
      refine Wx.rd (v := .int .i64 0) (rd_move rfl) rfl ?_
      refine Wx.gyes rfl rfl (congrArg Value.bool g_34) ?_
      refine Wx.rd (v := .bool (decide ((0 : Int) ≠ 0))) (rd_neq rfl rfl) rfl ?_
      refine Wx.rd (v := .bool (decide ((0 : Int) ≠ 0))) (rd_pickF (congrArg Value.bool g_34) rfl) rfl ?_
      refine Wx.nil ⟨(), hS, ⟨?_, trivial⟩, Out.look rfl Out.refl⟩
      show Value.bool (decide ((0 : Int) ≠ 0)) = Value.bool ((decide ((0 : Int) ≠ 0) || decide ((0 : Int) ≠ 0)) || decide ((0 : Int) ≠ 0))
      rw [g_34]; rfl
  rintro ⟨⟩ u_38 w_37 hS
  refine Wx.rd (v := .bool ((decide ((0 : Int) ≠ 0) || decide ((0 : Int) ≠ 0)) || decide ((0 : Int) ≠ 0))) (rd_move rfl) rfl ?_
  refine Wx.cut (X := Unit) 3 [56, 57, 58] (fun _ => [(58, .bool (((decide ((0 : Int) ≠ 0) || decide ((0 : Int) ≠ 0)) || decide ((0 : Int) ≠ 0)) || decide ((0 : Int) ≠ 0)))]) (fun _ w' => St w O w' [Ob.v (tSl (tP (tI .i64) (tI .i64))) (stepsV rP) v_22, .row (tP (tI .i64) (tI .i64)) 58 v_16 (forcedP rP), .row (tP (tI .i64) (tI .i64)) 58 v_7 (firstV rR)]) ?_ ?_
  · rcases Bool.eq_false_or_eq_true ((decide ((0 : Int) ≠ 0) || decide ((0 : Int) ≠ 0)) || decide ((0 : Int) ≠ 0)) with g_39 | g_39
    · -- True
      have gp_40 := g_39
      try simp only [Bool.and_eq_true, Bool.or_eq_true, Bool.not_eq_true', Bool.and_eq_false_iff, Bool.or_eq_false_iff, Bool.not_eq_false', decide_eq_true_eq, decide_eq_false_iff_not, not_or, Bool.false_eq_true, Bool.true_eq_false, false_or, or_false, not_false_eq_true] at gp_40
      refine Wx.gnoB rfl rfl (congrArg Value.bool g_39) rfl rfl ?_
      refine Wx.gnoB rfl rfl (congrArg Value.bool g_39) rfl rfl ?_
      refine Wx.rd (v := .bool true) (rd_pickT (congrArg Value.bool g_39) rfl) rfl ?_
      refine Wx.nil ⟨(), hS, ⟨?_, trivial⟩, Out.look rfl Out.refl⟩
      show Value.bool true = Value.bool (((decide ((0 : Int) ≠ 0) || decide ((0 : Int) ≠ 0)) || decide ((0 : Int) ≠ 0)) || decide ((0 : Int) ≠ 0))
      rw [g_39]; rfl
    · -- False
      have gp_41 := g_39
      try simp only [Bool.and_eq_true, Bool.or_eq_true, Bool.not_eq_true', Bool.and_eq_false_iff, Bool.or_eq_false_iff, Bool.not_eq_false', decide_eq_true_eq, decide_eq_false_iff_not, not_or, Bool.false_eq_true, Bool.true_eq_false, false_or, or_false, not_false_eq_true] at gp_41
      refine Wx.gyes rfl rfl (congrArg Value.bool g_39) ?_
      refine Wx.rd (v := .int .i64 0) (rd_move rfl) rfl ?_
      refine Wx.gyes rfl rfl (congrArg Value.bool g_39) ?_
      refine Wx.rd (v := .bool (decide ((0 : Int) ≠ 0))) (rd_neq rfl rfl) rfl ?_
      refine Wx.rd (v := .bool (decide ((0 : Int) ≠ 0))) (rd_pickF (congrArg Value.bool g_39) rfl) rfl ?_
      refine Wx.nil ⟨(), hS, ⟨?_, trivial⟩, Out.look rfl Out.refl⟩
      show Value.bool (decide ((0 : Int) ≠ 0)) = Value.bool (((decide ((0 : Int) ≠ 0) || decide ((0 : Int) ≠ 0)) || decide ((0 : Int) ≠ 0)) || decide ((0 : Int) ≠ 0))
      rw [g_39]; rfl
  rintro ⟨⟩ u_43 w_42 hS
  refine Wx.rd (v := .bool (((decide ((0 : Int) ≠ 0) || decide ((0 : Int) ≠ 0)) || decide ((0 : Int) ≠ 0)) || decide ((0 : Int) ≠ 0))) (rd_move rfl) rfl ?_
  refine Wx.cut (X := Unit) 3 [60, 61, 62] (fun _ => [(62, .bool ((((decide ((0 : Int) ≠ 0) || decide ((0 : Int) ≠ 0)) || decide ((0 : Int) ≠ 0)) || decide ((0 : Int) ≠ 0)) || decide ((0 : Int) ≠ 0)))]) (fun _ w' => St w O w' [Ob.v (tSl (tP (tI .i64) (tI .i64))) (stepsV rP) v_22, .row (tP (tI .i64) (tI .i64)) 58 v_16 (forcedP rP), .row (tP (tI .i64) (tI .i64)) 58 v_7 (firstV rR)]) ?_ ?_
  · rcases Bool.eq_false_or_eq_true (((decide ((0 : Int) ≠ 0) || decide ((0 : Int) ≠ 0)) || decide ((0 : Int) ≠ 0)) || decide ((0 : Int) ≠ 0)) with g_44 | g_44
    · -- True
      have gp_45 := g_44
      try simp only [Bool.and_eq_true, Bool.or_eq_true, Bool.not_eq_true', Bool.and_eq_false_iff, Bool.or_eq_false_iff, Bool.not_eq_false', decide_eq_true_eq, decide_eq_false_iff_not, not_or, Bool.false_eq_true, Bool.true_eq_false, false_or, or_false, not_false_eq_true] at gp_45
      refine Wx.gnoB rfl rfl (congrArg Value.bool g_44) rfl rfl ?_
      refine Wx.gnoB rfl rfl (congrArg Value.bool g_44) rfl rfl ?_
      refine Wx.rd (v := .bool true) (rd_pickT (congrArg Value.bool g_44) rfl) rfl ?_
      refine Wx.nil ⟨(), hS, ⟨?_, trivial⟩, Out.look rfl Out.refl⟩
      show Value.bool true = Value.bool ((((decide ((0 : Int) ≠ 0) || decide ((0 : Int) ≠ 0)) || decide ((0 : Int) ≠ 0)) || decide ((0 : Int) ≠ 0)) || decide ((0 : Int) ≠ 0))
      rw [g_44]; rfl
    · -- False
      have gp_46 := g_44
      try simp only [Bool.and_eq_true, Bool.or_eq_true, Bool.not_eq_true', Bool.and_eq_false_iff, Bool.or_eq_false_iff, Bool.not_eq_false', decide_eq_true_eq, decide_eq_false_iff_not, not_or, Bool.false_eq_true, Bool.true_eq_false, false_or, or_false, not_false_eq_true] at gp_46
      refine Wx.gyes rfl rfl (congrArg Value.bool g_44) ?_
      refine Wx.rd (v := .int .i64 0) (rd_move rfl) rfl ?_
      refine Wx.gyes rfl rfl (congrArg Value.bool g_44) ?_
      refine Wx.rd (v := .bool (decide ((0 : Int) ≠ 0))) (rd_neq rfl rfl) rfl ?_
      refine Wx.rd (v := .bool (decide ((0 : Int) ≠ 0))) (rd_pickF (congrArg Value.bool g_44) rfl) rfl ?_
      refine Wx.nil ⟨(), hS, ⟨?_, trivial⟩, Out.look rfl Out.refl⟩
      show Value.bool (decide ((0 : Int) ≠ 0)) = Value.bool ((((decide ((0 : Int) ≠ 0) || decide ((0 : Int) ≠ 0)) || decide ((0 : Int) ≠ 0)) || decide ((0 : Int) ≠ 0)) || decide ((0 : Int) ≠ 0))
      rw [g_44]; rfl
  rintro ⟨⟩ u_48 w_47 hS
  refine Wx.rd (v := .bool ((((decide ((0 : Int) ≠ 0) || decide ((0 : Int) ≠ 0)) || decide ((0 : Int) ≠ 0)) || decide ((0 : Int) ≠ 0)) || decide ((0 : Int) ≠ 0))) (rd_move rfl) rfl ?_
  refine Wx.cut (X := Unit) 3 [64, 65, 66] (fun _ => [(66, .bool (((((decide ((0 : Int) ≠ 0) || decide ((0 : Int) ≠ 0)) || decide ((0 : Int) ≠ 0)) || decide ((0 : Int) ≠ 0)) || decide ((0 : Int) ≠ 0)) || decide ((0 : Int) ≠ 0)))]) (fun _ w' => St w O w' [Ob.v (tSl (tP (tI .i64) (tI .i64))) (stepsV rP) v_22, .row (tP (tI .i64) (tI .i64)) 58 v_16 (forcedP rP), .row (tP (tI .i64) (tI .i64)) 58 v_7 (firstV rR)]) ?_ ?_
  · rcases Bool.eq_false_or_eq_true ((((decide ((0 : Int) ≠ 0) || decide ((0 : Int) ≠ 0)) || decide ((0 : Int) ≠ 0)) || decide ((0 : Int) ≠ 0)) || decide ((0 : Int) ≠ 0)) with g_49 | g_49
    · -- True
      have gp_50 := g_49
      try simp only [Bool.and_eq_true, Bool.or_eq_true, Bool.not_eq_true', Bool.and_eq_false_iff, Bool.or_eq_false_iff, Bool.not_eq_false', decide_eq_true_eq, decide_eq_false_iff_not, not_or, Bool.false_eq_true, Bool.true_eq_false, false_or, or_false, not_false_eq_true] at gp_50
      refine Wx.gnoB rfl rfl (congrArg Value.bool g_49) rfl rfl ?_
      refine Wx.gnoB rfl rfl (congrArg Value.bool g_49) rfl rfl ?_
      refine Wx.rd (v := .bool true) (rd_pickT (congrArg Value.bool g_49) rfl) rfl ?_
      refine Wx.nil ⟨(), hS, ⟨?_, trivial⟩, Out.look rfl Out.refl⟩
      show Value.bool true = Value.bool (((((decide ((0 : Int) ≠ 0) || decide ((0 : Int) ≠ 0)) || decide ((0 : Int) ≠ 0)) || decide ((0 : Int) ≠ 0)) || decide ((0 : Int) ≠ 0)) || decide ((0 : Int) ≠ 0))
      rw [g_49]; rfl
    · -- False
      have gp_51 := g_49
      try simp only [Bool.and_eq_true, Bool.or_eq_true, Bool.not_eq_true', Bool.and_eq_false_iff, Bool.or_eq_false_iff, Bool.not_eq_false', decide_eq_true_eq, decide_eq_false_iff_not, not_or, Bool.false_eq_true, Bool.true_eq_false, false_or, or_false, not_false_eq_true] at gp_51
      refine Wx.gyes rfl rfl (congrArg Value.bool g_49) ?_
      refine Wx.rd (v := .int .i64 0) (rd_move rfl) rfl ?_
      refine Wx.gyes rfl rfl (congrArg Value.bool g_49) ?_
      refine Wx.rd (v := .bool (decide ((0 : Int) ≠ 0))) (rd_neq rfl rfl) rfl ?_
      refine Wx.rd (v := .bool (decide ((0 : Int) ≠ 0))) (rd_pickF (congrArg Value.bool g_49) rfl) rfl ?_
      refine Wx.nil ⟨(), hS, ⟨?_, trivial⟩, Out.look rfl Out.refl⟩
      show Value.bool (decide ((0 : Int) ≠ 0)) = Value.bool (((((decide ((0 : Int) ≠ 0) || decide ((0 : Int) ≠ 0)) || decide ((0 : Int) ≠ 0)) || decide ((0 : Int) ≠ 0)) || decide ((0 : Int) ≠ 0)) || decide ((0 : Int) ≠ 0))
      rw [g_49]; rfl
  rintro ⟨⟩ u_53 w_52 hS
  refine Wx.nil ?_
  refine W.cond rfl (fun c0 => ?_) (fun c0 => ?_)
  · -- yes
    try simp only [Bool.and_eq_true, Bool.or_eq_true, Bool.not_eq_true', Bool.and_eq_false_iff, Bool.or_eq_false_iff, Bool.not_eq_false', decide_eq_true_eq, decide_eq_false_iff_not, not_or, Bool.false_eq_true, Bool.true_eq_false, false_or, or_false, not_false_eq_true] at c0
    refine W.seq ?_
    refine W.reg ?_
    refine Wx.rd (v := .bool false) (rd_assign rfl) rfl ?_
    refine Wx.nil ?_
    have e0_0 : false = true := by first | rfl | omega
    exact W.ret ⟨.bool false, ResIs.one, hS.bel, (by rw [e0_0])⟩
  · -- no
    try simp only [Bool.and_eq_true, Bool.or_eq_true, Bool.not_eq_true', Bool.and_eq_false_iff, Bool.or_eq_false_iff, Bool.not_eq_false', decide_eq_true_eq, decide_eq_false_iff_not, not_or, Bool.false_eq_true, Bool.true_eq_false, false_or, or_false, not_false_eq_true] at c0
    refine W.skip ?_
    refine W.seq ?_
    refine W.reg ?_
    refine Wx.callF (run_callF Tryd.call34 rfl) (F34 (by first | assumption | (simp only [maxLen]; omega) | (simp only [ByteArray.size_extract, ByteArray.size_append, maxLen] at *; omega) | decide) (hG.ext hS.bel)) rfl ?_
    rintro r_54 w_55 hx_56 rfl
    have hS := hS.ext hx_56
    refine Wx.rd (v := .tuple #[.bool (fullP rP), .int .i64 (rimE rP)]) (rd_move rfl) rfl ?_
    refine Wx.rd (v := .bool (fullP rP)) (rd_extract rfl rfl) rfl ?_
    refine Wx.rd (v := .int .i64 (rimE rP)) (rd_extract rfl rfl) rfl ?_
    refine Wx.rd (v := .bool true) (Rd.to (v := .bool (fullP rP)) (rd_assign rfl) (congrArg (Value.bool) (show (true : Bool) = (fullP rP : Bool) from (by decide +kernel)).symm)) rfl ?_
    refine Wx.rd (v := .int .i64 0) (Rd.to (v := .int .i64 (rimE rP)) (rd_assign rfl) (congrArg (Value.int .i64) (show (0 : Int) = (rimE rP : Int) from (by decide +kernel)).symm)) rfl ?_
    refine Wx.nil ?_
    refine W.seq ?_
    refine W.reg ?_
    refine Wx.callF (run_callF Tryd.call34 rfl) (F34 (by first | assumption | (simp only [maxLen]; omega) | (simp only [ByteArray.size_extract, ByteArray.size_append, maxLen] at *; omega) | decide) (hG.ext hS.bel)) rfl ?_
    rintro r_57 w_58 hx_59 rfl
    have hS := hS.ext hx_59
    refine Wx.rd (v := .tuple #[.bool (fullP rQ), .int .i64 (rimE rQ)]) (rd_move rfl) rfl ?_
    refine Wx.rd (v := .bool (fullP rQ)) (rd_extract rfl rfl) rfl ?_
    refine Wx.rd (v := .int .i64 (rimE rQ)) (rd_extract rfl rfl) rfl ?_
    refine Wx.rd (v := .bool false) (Rd.to (v := .bool (fullP rQ)) (rd_assign rfl) (congrArg (Value.bool) (show (false : Bool) = (fullP rQ : Bool) from (by decide +kernel)).symm)) rfl ?_
    refine Wx.rd (v := .int .i64 0) (Rd.to (v := .int .i64 (rimE rQ)) (rd_assign rfl) (congrArg (Value.int .i64) (show (0 : Int) = (rimE rQ : Int) from (by decide +kernel)).symm)) rfl ?_
    refine Wx.nil ?_
    refine W.seq ?_
    refine W.reg ?_
    refine Wx.callF (run_callF Tryd.call36 rfl) (F36 (by first | assumption | (simp only [maxLen]; omega) | (simp only [ByteArray.size_extract, ByteArray.size_append, maxLen] at *; omega) | decide) (hG.ext hS.bel)) rfl ?_
    rintro r_60 w_61 hx_62 rfl
    have hS := hS.ext hx_62
    refine Wx.rd (v := .tuple #[.string (coreV r1), .int .i64 (rimE r1)]) (rd_move rfl) rfl ?_
    refine Wx.rd (v := .string (coreV r1)) (rd_extract rfl rfl) rfl ?_
    refine Wx.rd (v := .int .i64 (rimE r1)) (rd_extract rfl rfl) rfl ?_
    refine Wx.rd (v := .string (coreV r1)) (rd_assign rfl) rfl ?_
    refine Wx.rd (v := .int .i64 0) (Rd.to (v := .int .i64 (rimE r1)) (rd_assign rfl) (congrArg (Value.int .i64) (show (0 : Int) = (rimE r1 : Int) from (by decide +kernel)).symm)) rfl ?_
    refine Wx.nil ?_
    refine W.seq ?_
    refine W.reg ?_
    refine Wx.callF (run_callF Tryd.call38 rfl) (F38 (by first | assumption | (simp only [maxLen]; omega) | (simp only [ByteArray.size_extract, ByteArray.size_append, maxLen] at *; omega) | decide) (in_i64 (by omega) (by omega)) (hG.ext hS.bel)) rfl ?_
    rintro r_63 w_64 hx_65 rfl
    have hS := hS.ext hx_65
    refine Wx.rd (v := .tuple #[.string (turnS rQ 1), .int .i64 (turnE rQ 1)]) (rd_move rfl) rfl ?_
    refine Wx.rd (v := .string (turnS rQ 1)) (rd_extract rfl rfl) rfl ?_
    refine Wx.rd (v := .int .i64 (turnE rQ 1)) (rd_extract rfl rfl) rfl ?_
    refine Wx.rd (v := .string (turnS rQ 1)) (rd_assign rfl) rfl ?_
    refine Wx.rd (v := .int .i64 0) (Rd.to (v := .int .i64 (turnE rQ 1)) (rd_assign rfl) (congrArg (Value.int .i64) (show (0 : Int) = (turnE rQ 1 : Int) from (by decide +kernel)).symm)) rfl ?_
    refine Wx.nil ?_
    refine W.seq ?_
    refine W.reg ?_
    refine Wx.callF (run_callF Tryd.call40 rfl) (F40 (by first | assumption | (simp only [maxLen]; omega) | (simp only [ByteArray.size_extract, ByteArray.size_append, maxLen] at *; omega) | decide) (hG.ext hS.bel)) rfl ?_
    rintro r_66 w_67 hx_68 rfl
    have hS := hS.ext hx_68
    refine Wx.rd (v := .tuple #[.string (oppV r2), .int .i64 (rimE r2)]) (rd_move rfl) rfl ?_
    refine Wx.rd (v := .string (oppV r2)) (rd_extract rfl rfl) rfl ?_
    refine Wx.rd (v := .int .i64 (rimE r2)) (rd_extract rfl rfl) rfl ?_
    refine Wx.rd (v := .string (oppV r2)) (rd_assign rfl) rfl ?_
    refine Wx.rd (v := .int .i64 0) (Rd.to (v := .int .i64 (rimE r2)) (rd_assign rfl) (congrArg (Value.int .i64) (show (0 : Int) = (rimE r2 : Int) from (by decide +kernel)).symm)) rfl ?_
    refine Wx.nil ?_
    refine W.seq ?_
    refine W.reg ?_
    refine Wx.callF (run_callF Tryd.call42 rfl) (F42 (by first | assumption | (simp only [maxLen]; omega) | (simp only [ByteArray.size_extract, ByteArray.size_append, maxLen] at *; omega) | decide) (by first | assumption | (simp only [maxLen]; omega) | (simp only [ByteArray.size_extract, ByteArray.size_append, maxLen] at *; omega) | decide) (hG.ext hS.bel)) rfl ?_
    rintro r_69 w_70 hx_71 rfl
    have hS := hS.ext hx_71
    refine Wx.rd (v := .tuple #[.bool (alikeP r3 r4), .int .i64 (alikeE r3 r4)]) (rd_move rfl) rfl ?_
    refine Wx.rd (v := .bool (alikeP r3 r4)) (rd_extract rfl rfl) rfl ?_
    refine Wx.rd (v := .int .i64 (alikeE r3 r4)) (rd_extract rfl rfl) rfl ?_
    refine Wx.rd (v := .bool true) (Rd.to (v := .bool (alikeP r3 r4)) (rd_assign rfl) (congrArg (Value.bool) (show (true : Bool) = (alikeP r3 r4 : Bool) from (by decide +kernel)).symm)) rfl ?_
    refine Wx.rd (v := .int .i64 0) (Rd.to (v := .int .i64 (alikeE r3 r4)) (rd_assign rfl) (congrArg (Value.int .i64) (show (0 : Int) = (alikeE r3 r4 : Int) from (by decide +kernel)).symm)) rfl ?_
    refine Wx.nil ?_
    refine W.seq ?_
    refine W.reg ?_
    refine Wx.callF (run_callF Tryd.call42 rfl) (F42 (by first | assumption | (simp only [maxLen]; omega) | (simp only [ByteArray.size_extract, ByteArray.size_append, maxLen] at *; omega) | decide) (by first | assumption | (simp only [maxLen]; omega) | (simp only [ByteArray.size_extract, ByteArray.size_append, maxLen] at *; omega) | decide) (hG.ext hS.bel)) rfl ?_
    rintro r_72 w_73 hx_74 rfl
    have hS := hS.ext hx_74
    refine Wx.rd (v := .tuple #[.bool (alikeP r5 r6), .int .i64 (alikeE r5 r6)]) (rd_move rfl) rfl ?_
    refine Wx.rd (v := .bool (alikeP r5 r6)) (rd_extract rfl rfl) rfl ?_
    refine Wx.rd (v := .int .i64 (alikeE r5 r6)) (rd_extract rfl rfl) rfl ?_
    refine Wx.rd (v := .bool false) (Rd.to (v := .bool (alikeP r5 r6)) (rd_assign rfl) (congrArg (Value.bool) (show (false : Bool) = (alikeP r5 r6 : Bool) from (by decide +kernel)).symm)) rfl ?_
    refine Wx.rd (v := .int .i64 0) (Rd.to (v := .int .i64 (alikeE r5 r6)) (rd_assign rfl) (congrArg (Value.int .i64) (show (0 : Int) = (alikeE r5 r6 : Int) from (by decide +kernel)).symm)) rfl ?_
    refine Wx.nil ?_
    refine W.seq ?_
    refine W.reg ?_
    refine Wx.rd (v := .int .i64 0) (rd_move rfl) rfl ?_
    refine Wx.rd (v := .bool (decide ((0 : Int) = 0))) (rd_eql rfl rfl) rfl ?_
    refine Wx.rd (v := .bool (decide ((0 : Int) = 0))) (rd_move rfl) rfl ?_
    refine Wx.cut (X := Unit) 3 [98, 99, 100] (fun _ => [(100, .bool (decide ((0 : Int) = 0) && decide ((0 : Int) = 0)))]) (fun _ w' => St w O w' [Ob.v (tSl (tP (tI .i64) (tI .i64))) (stepsV rP) v_22, .row (tP (tI .i64) (tI .i64)) 58 v_16 (forcedP rP), .row (tP (tI .i64) (tI .i64)) 58 v_7 (firstV rR)]) ?_ ?_
    · rcases Bool.eq_false_or_eq_true (decide ((0 : Int) = 0)) with g_75 | g_75
      · -- True
        have gp_76 := of_decide_eq_true g_75
        refine Wx.gyes rfl rfl (congrArg Value.bool g_75) ?_
        refine Wx.rd (v := .int .i64 0) (rd_move rfl) rfl ?_
        refine Wx.gyes rfl rfl (congrArg Value.bool g_75) ?_
        refine Wx.rd (v := .bool (decide ((0 : Int) = 0))) (rd_eql rfl rfl) rfl ?_
        refine Wx.rd (v := .bool (decide ((0 : Int) = 0))) (rd_pickT (congrArg Value.bool g_75) rfl) rfl ?_
        refine Wx.nil ⟨(), hS, ⟨?_, trivial⟩, Out.look rfl Out.refl⟩
        show Value.bool (decide ((0 : Int) = 0)) = Value.bool (decide ((0 : Int) = 0) && decide ((0 : Int) = 0))
        rw [g_75]; rfl
      · -- False
        have gp_77 := of_decide_eq_false g_75
        refine Wx.gnoB rfl rfl (congrArg Value.bool g_75) rfl rfl ?_
        refine Wx.gnoB rfl rfl (congrArg Value.bool g_75) rfl rfl ?_
        refine Wx.rd (v := .bool false) (rd_pickF (congrArg Value.bool g_75) rfl) rfl ?_
        refine Wx.nil ⟨(), hS, ⟨?_, trivial⟩, Out.look rfl Out.refl⟩
        show Value.bool false = Value.bool (decide ((0 : Int) = 0) && decide ((0 : Int) = 0))
        rw [g_75]; rfl
    rintro ⟨⟩ u_79 w_78 hS
    refine Wx.rd (v := .bool (decide ((0 : Int) = 0) && decide ((0 : Int) = 0))) (rd_move rfl) rfl ?_
    refine Wx.cut (X := Unit) 3 [102, 103, 104] (fun _ => [(104, .bool ((decide ((0 : Int) = 0) && decide ((0 : Int) = 0)) && decide ((0 : Int) = 0)))]) (fun _ w' => St w O w' [Ob.v (tSl (tP (tI .i64) (tI .i64))) (stepsV rP) v_22, .row (tP (tI .i64) (tI .i64)) 58 v_16 (forcedP rP), .row (tP (tI .i64) (tI .i64)) 58 v_7 (firstV rR)]) ?_ ?_
    · rcases Bool.eq_false_or_eq_true (decide ((0 : Int) = 0) && decide ((0 : Int) = 0)) with g_80 | g_80
      · -- True
        have gp_81 := g_80
        try simp only [Bool.and_eq_true, Bool.or_eq_true, Bool.not_eq_true', Bool.and_eq_false_iff, Bool.or_eq_false_iff, Bool.not_eq_false', decide_eq_true_eq, decide_eq_false_iff_not, not_or, Bool.false_eq_true, Bool.true_eq_false, false_or, or_false, not_false_eq_true] at gp_81
        refine Wx.gyes rfl rfl (congrArg Value.bool g_80) ?_
        refine Wx.rd (v := .int .i64 0) (rd_move rfl) rfl ?_
        refine Wx.gyes rfl rfl (congrArg Value.bool g_80) ?_
        refine Wx.rd (v := .bool (decide ((0 : Int) = 0))) (rd_eql rfl rfl) rfl ?_
        refine Wx.rd (v := .bool (decide ((0 : Int) = 0))) (rd_pickT (congrArg Value.bool g_80) rfl) rfl ?_
        refine Wx.nil ⟨(), hS, ⟨?_, trivial⟩, Out.look rfl Out.refl⟩
        show Value.bool (decide ((0 : Int) = 0)) = Value.bool ((decide ((0 : Int) = 0) && decide ((0 : Int) = 0)) && decide ((0 : Int) = 0))
        rw [g_80]; rfl
      · -- False
        have gp_82 := g_80
        try simp only [Bool.and_eq_true, Bool.or_eq_true, Bool.not_eq_true', Bool.and_eq_false_iff, Bool.or_eq_false_iff, Bool.not_eq_false', decide_eq_true_eq, decide_eq_false_iff_not, not_or, Bool.false_eq_true, Bool.true_eq_false, false_or, or_false, not_false_eq_true] at gp_82
        refine Wx.gnoB rfl rfl (congrArg Value.bool g_80) rfl rfl ?_
        refine Wx.gnoB rfl rfl (congrArg Value.bool g_80) rfl rfl ?_
        refine Wx.rd (v := .bool false) (rd_pickF (congrArg Value.bool g_80) rfl) rfl ?_
        refine Wx.nil ⟨(), hS, ⟨?_, trivial⟩, Out.look rfl Out.refl⟩
        show Value.bool false = Value.bool ((decide ((0 : Int) = 0) && decide ((0 : Int) = 0)) && decide ((0 : Int) = 0))
        rw [g_80]; rfl
    rintro ⟨⟩ u_84 w_83 hS
    refine Wx.rd (v := .bool ((decide ((0 : Int) = 0) && decide ((0 : Int) = 0)) && decide ((0 : Int) = 0))) (rd_move rfl) rfl ?_
    refine Wx.cut (X := Unit) 3 [106, 107, 108] (fun _ => [(108, .bool (((decide ((0 : Int) = 0) && decide ((0 : Int) = 0)) && decide ((0 : Int) = 0)) && decide ((0 : Int) = 0)))]) (fun _ w' => St w O w' [Ob.v (tSl (tP (tI .i64) (tI .i64))) (stepsV rP) v_22, .row (tP (tI .i64) (tI .i64)) 58 v_16 (forcedP rP), .row (tP (tI .i64) (tI .i64)) 58 v_7 (firstV rR)]) ?_ ?_
    · rcases Bool.eq_false_or_eq_true ((decide ((0 : Int) = 0) && decide ((0 : Int) = 0)) && decide ((0 : Int) = 0)) with g_85 | g_85
      · -- True
        have gp_86 := g_85
        try simp only [Bool.and_eq_true, Bool.or_eq_true, Bool.not_eq_true', Bool.and_eq_false_iff, Bool.or_eq_false_iff, Bool.not_eq_false', decide_eq_true_eq, decide_eq_false_iff_not, not_or, Bool.false_eq_true, Bool.true_eq_false, false_or, or_false, not_false_eq_true] at gp_86
        refine Wx.gyes rfl rfl (congrArg Value.bool g_85) ?_
        refine Wx.rd (v := .int .i64 0) (rd_move rfl) rfl ?_
        refine Wx.gyes rfl rfl (congrArg Value.bool g_85) ?_
        refine Wx.rd (v := .bool (decide ((0 : Int) = 0))) (rd_eql rfl rfl) rfl ?_
        refine Wx.rd (v := .bool (decide ((0 : Int) = 0))) (rd_pickT (congrArg Value.bool g_85) rfl) rfl ?_
        refine Wx.nil ⟨(), hS, ⟨?_, trivial⟩, Out.look rfl Out.refl⟩
        show Value.bool (decide ((0 : Int) = 0)) = Value.bool (((decide ((0 : Int) = 0) && decide ((0 : Int) = 0)) && decide ((0 : Int) = 0)) && decide ((0 : Int) = 0))
        rw [g_85]; rfl
      · -- False
        have gp_87 := g_85
        try simp only [Bool.and_eq_true, Bool.or_eq_true, Bool.not_eq_true', Bool.and_eq_false_iff, Bool.or_eq_false_iff, Bool.not_eq_false', decide_eq_true_eq, decide_eq_false_iff_not, not_or, Bool.false_eq_true, Bool.true_eq_false, false_or, or_false, not_false_eq_true] at gp_87
        refine Wx.gnoB rfl rfl (congrArg Value.bool g_85) rfl rfl ?_
        refine Wx.gnoB rfl rfl (congrArg Value.bool g_85) rfl rfl ?_
        refine Wx.rd (v := .bool false) (rd_pickF (congrArg Value.bool g_85) rfl) rfl ?_
        refine Wx.nil ⟨(), hS, ⟨?_, trivial⟩, Out.look rfl Out.refl⟩
        show Value.bool false = Value.bool (((decide ((0 : Int) = 0) && decide ((0 : Int) = 0)) && decide ((0 : Int) = 0)) && decide ((0 : Int) = 0))
        rw [g_85]; rfl
    rintro ⟨⟩ u_89 w_88 hS
    refine Wx.rd (v := .bool (((decide ((0 : Int) = 0) && decide ((0 : Int) = 0)) && decide ((0 : Int) = 0)) && decide ((0 : Int) = 0))) (rd_move rfl) rfl ?_
    refine Wx.cut (X := Unit) 3 [110, 111, 112] (fun _ => [(112, .bool ((((decide ((0 : Int) = 0) && decide ((0 : Int) = 0)) && decide ((0 : Int) = 0)) && decide ((0 : Int) = 0)) && decide ((0 : Int) = 0)))]) (fun _ w' => St w O w' [Ob.v (tSl (tP (tI .i64) (tI .i64))) (stepsV rP) v_22, .row (tP (tI .i64) (tI .i64)) 58 v_16 (forcedP rP), .row (tP (tI .i64) (tI .i64)) 58 v_7 (firstV rR)]) ?_ ?_
    · rcases Bool.eq_false_or_eq_true (((decide ((0 : Int) = 0) && decide ((0 : Int) = 0)) && decide ((0 : Int) = 0)) && decide ((0 : Int) = 0)) with g_90 | g_90
      · -- True
        have gp_91 := g_90
        try simp only [Bool.and_eq_true, Bool.or_eq_true, Bool.not_eq_true', Bool.and_eq_false_iff, Bool.or_eq_false_iff, Bool.not_eq_false', decide_eq_true_eq, decide_eq_false_iff_not, not_or, Bool.false_eq_true, Bool.true_eq_false, false_or, or_false, not_false_eq_true] at gp_91
        refine Wx.gyes rfl rfl (congrArg Value.bool g_90) ?_
        refine Wx.rd (v := .int .i64 0) (rd_move rfl) rfl ?_
        refine Wx.gyes rfl rfl (congrArg Value.bool g_90) ?_
        refine Wx.rd (v := .bool (decide ((0 : Int) = 0))) (rd_eql rfl rfl) rfl ?_
        refine Wx.rd (v := .bool (decide ((0 : Int) = 0))) (rd_pickT (congrArg Value.bool g_90) rfl) rfl ?_
        refine Wx.nil ⟨(), hS, ⟨?_, trivial⟩, Out.look rfl Out.refl⟩
        show Value.bool (decide ((0 : Int) = 0)) = Value.bool ((((decide ((0 : Int) = 0) && decide ((0 : Int) = 0)) && decide ((0 : Int) = 0)) && decide ((0 : Int) = 0)) && decide ((0 : Int) = 0))
        rw [g_90]; rfl
      · -- False
        have gp_92 := g_90
        try simp only [Bool.and_eq_true, Bool.or_eq_true, Bool.not_eq_true', Bool.and_eq_false_iff, Bool.or_eq_false_iff, Bool.not_eq_false', decide_eq_true_eq, decide_eq_false_iff_not, not_or, Bool.false_eq_true, Bool.true_eq_false, false_or, or_false, not_false_eq_true] at gp_92
        refine Wx.gnoB rfl rfl (congrArg Value.bool g_90) rfl rfl ?_
        refine Wx.gnoB rfl rfl (congrArg Value.bool g_90) rfl rfl ?_
        refine Wx.rd (v := .bool false) (rd_pickF (congrArg Value.bool g_90) rfl) rfl ?_
        refine Wx.nil ⟨(), hS, ⟨?_, trivial⟩, Out.look rfl Out.refl⟩
        show Value.bool false = Value.bool ((((decide ((0 : Int) = 0) && decide ((0 : Int) = 0)) && decide ((0 : Int) = 0)) && decide ((0 : Int) = 0)) && decide ((0 : Int) = 0))
        rw [g_90]; rfl
    rintro ⟨⟩ u_94 w_93 hS
    refine Wx.rd (v := .bool ((((decide ((0 : Int) = 0) && decide ((0 : Int) = 0)) && decide ((0 : Int) = 0)) && decide ((0 : Int) = 0)) && decide ((0 : Int) = 0))) (rd_move rfl) rfl ?_
    refine Wx.cut (X := Unit) 3 [114, 115, 116] (fun _ => [(116, .bool (((((decide ((0 : Int) = 0) && decide ((0 : Int) = 0)) && decide ((0 : Int) = 0)) && decide ((0 : Int) = 0)) && decide ((0 : Int) = 0)) && decide ((0 : Int) = 0)))]) (fun _ w' => St w O w' [Ob.v (tSl (tP (tI .i64) (tI .i64))) (stepsV rP) v_22, .row (tP (tI .i64) (tI .i64)) 58 v_16 (forcedP rP), .row (tP (tI .i64) (tI .i64)) 58 v_7 (firstV rR)]) ?_ ?_
    · rcases Bool.eq_false_or_eq_true ((((decide ((0 : Int) = 0) && decide ((0 : Int) = 0)) && decide ((0 : Int) = 0)) && decide ((0 : Int) = 0)) && decide ((0 : Int) = 0)) with g_95 | g_95
      · -- True
        have gp_96 := g_95
        try simp only [Bool.and_eq_true, Bool.or_eq_true, Bool.not_eq_true', Bool.and_eq_false_iff, Bool.or_eq_false_iff, Bool.not_eq_false', decide_eq_true_eq, decide_eq_false_iff_not, not_or, Bool.false_eq_true, Bool.true_eq_false, false_or, or_false, not_false_eq_true] at gp_96
        refine Wx.gyes rfl rfl (congrArg Value.bool g_95) ?_
        refine Wx.rd (v := .int .i64 0) (rd_move rfl) rfl ?_
        refine Wx.gyes rfl rfl (congrArg Value.bool g_95) ?_
        refine Wx.rd (v := .bool (decide ((0 : Int) = 0))) (rd_eql rfl rfl) rfl ?_
        refine Wx.rd (v := .bool (decide ((0 : Int) = 0))) (rd_pickT (congrArg Value.bool g_95) rfl) rfl ?_
        refine Wx.nil ⟨(), hS, ⟨?_, trivial⟩, Out.look rfl Out.refl⟩
        show Value.bool (decide ((0 : Int) = 0)) = Value.bool (((((decide ((0 : Int) = 0) && decide ((0 : Int) = 0)) && decide ((0 : Int) = 0)) && decide ((0 : Int) = 0)) && decide ((0 : Int) = 0)) && decide ((0 : Int) = 0))
        rw [g_95]; rfl
      · -- False
        have gp_97 := g_95
        try simp only [Bool.and_eq_true, Bool.or_eq_true, Bool.not_eq_true', Bool.and_eq_false_iff, Bool.or_eq_false_iff, Bool.not_eq_false', decide_eq_true_eq, decide_eq_false_iff_not, not_or, Bool.false_eq_true, Bool.true_eq_false, false_or, or_false, not_false_eq_true] at gp_97
        refine Wx.gnoB rfl rfl (congrArg Value.bool g_95) rfl rfl ?_
        refine Wx.gnoB rfl rfl (congrArg Value.bool g_95) rfl rfl ?_
        refine Wx.rd (v := .bool false) (rd_pickF (congrArg Value.bool g_95) rfl) rfl ?_
        refine Wx.nil ⟨(), hS, ⟨?_, trivial⟩, Out.look rfl Out.refl⟩
        show Value.bool false = Value.bool (((((decide ((0 : Int) = 0) && decide ((0 : Int) = 0)) && decide ((0 : Int) = 0)) && decide ((0 : Int) = 0)) && decide ((0 : Int) = 0)) && decide ((0 : Int) = 0))
        rw [g_95]; rfl
    rintro ⟨⟩ u_99 w_98 hS
    refine Wx.rd (v := .bool (((((decide ((0 : Int) = 0) && decide ((0 : Int) = 0)) && decide ((0 : Int) = 0)) && decide ((0 : Int) = 0)) && decide ((0 : Int) = 0)) && decide ((0 : Int) = 0))) (rd_move rfl) rfl ?_
    refine Wx.cut (X := Unit) 3 [118, 119, 120] (fun _ => [(120, .bool ((((((decide ((0 : Int) = 0) && decide ((0 : Int) = 0)) && decide ((0 : Int) = 0)) && decide ((0 : Int) = 0)) && decide ((0 : Int) = 0)) && decide ((0 : Int) = 0)) && decide ((0 : Int) = 0)))]) (fun _ w' => St w O w' [Ob.v (tSl (tP (tI .i64) (tI .i64))) (stepsV rP) v_22, .row (tP (tI .i64) (tI .i64)) 58 v_16 (forcedP rP), .row (tP (tI .i64) (tI .i64)) 58 v_7 (firstV rR)]) ?_ ?_
    · rcases Bool.eq_false_or_eq_true (((((decide ((0 : Int) = 0) && decide ((0 : Int) = 0)) && decide ((0 : Int) = 0)) && decide ((0 : Int) = 0)) && decide ((0 : Int) = 0)) && decide ((0 : Int) = 0)) with g_100 | g_100
      · -- True
        have gp_101 := g_100
        try simp only [Bool.and_eq_true, Bool.or_eq_true, Bool.not_eq_true', Bool.and_eq_false_iff, Bool.or_eq_false_iff, Bool.not_eq_false', decide_eq_true_eq, decide_eq_false_iff_not, not_or, Bool.false_eq_true, Bool.true_eq_false, false_or, or_false, not_false_eq_true] at gp_101
        refine Wx.gyes rfl rfl (congrArg Value.bool g_100) ?_
        refine Wx.rd (v := .int .i64 0) (rd_move rfl) rfl ?_
        refine Wx.gyes rfl rfl (congrArg Value.bool g_100) ?_
        refine Wx.rd (v := .bool (decide ((0 : Int) = 0))) (rd_eql rfl rfl) rfl ?_
        refine Wx.rd (v := .bool (decide ((0 : Int) = 0))) (rd_pickT (congrArg Value.bool g_100) rfl) rfl ?_
        refine Wx.nil ⟨(), hS, ⟨?_, trivial⟩, Out.look rfl Out.refl⟩
        show Value.bool (decide ((0 : Int) = 0)) = Value.bool ((((((decide ((0 : Int) = 0) && decide ((0 : Int) = 0)) && decide ((0 : Int) = 0)) && decide ((0 : Int) = 0)) && decide ((0 : Int) = 0)) && decide ((0 : Int) = 0)) && decide ((0 : Int) = 0))
        rw [g_100]; rfl
      · -- False
        have gp_102 := g_100
        try simp only [Bool.and_eq_true, Bool.or_eq_true, Bool.not_eq_true', Bool.and_eq_false_iff, Bool.or_eq_false_iff, Bool.not_eq_false', decide_eq_true_eq, decide_eq_false_iff_not, not_or, Bool.false_eq_true, Bool.true_eq_false, false_or, or_false, not_false_eq_true] at gp_102
        refine Wx.gnoB rfl rfl (congrArg Value.bool g_100) rfl rfl ?_
        refine Wx.gnoB rfl rfl (congrArg Value.bool g_100) rfl rfl ?_
        refine Wx.rd (v := .bool false) (rd_pickF (congrArg Value.bool g_100) rfl) rfl ?_
        refine Wx.nil ⟨(), hS, ⟨?_, trivial⟩, Out.look rfl Out.refl⟩
        show Value.bool false = Value.bool ((((((decide ((0 : Int) = 0) && decide ((0 : Int) = 0)) && decide ((0 : Int) = 0)) && decide ((0 : Int) = 0)) && decide ((0 : Int) = 0)) && decide ((0 : Int) = 0)) && decide ((0 : Int) = 0))
        rw [g_100]; rfl
    rintro ⟨⟩ u_104 w_103 hS
    refine Wx.rd (v := .bool ((((((decide ((0 : Int) = 0) && decide ((0 : Int) = 0)) && decide ((0 : Int) = 0)) && decide ((0 : Int) = 0)) && decide ((0 : Int) = 0)) && decide ((0 : Int) = 0)) && decide ((0 : Int) = 0))) (rd_move rfl) rfl ?_
    refine Wx.cut (X := Unit) 3 [122, 123, 124] (fun _ => [(124, .bool (((((((decide ((0 : Int) = 0) && decide ((0 : Int) = 0)) && decide ((0 : Int) = 0)) && decide ((0 : Int) = 0)) && decide ((0 : Int) = 0)) && decide ((0 : Int) = 0)) && decide ((0 : Int) = 0)) && decide ((1 : Int) = 1)))]) (fun _ w' => St w O w' [Ob.v (tSl (tP (tI .i64) (tI .i64))) (stepsV rP) v_22, .row (tP (tI .i64) (tI .i64)) 58 v_16 (forcedP rP), .row (tP (tI .i64) (tI .i64)) 58 v_7 (firstV rR)]) ?_ ?_
    · rcases Bool.eq_false_or_eq_true ((((((decide ((0 : Int) = 0) && decide ((0 : Int) = 0)) && decide ((0 : Int) = 0)) && decide ((0 : Int) = 0)) && decide ((0 : Int) = 0)) && decide ((0 : Int) = 0)) && decide ((0 : Int) = 0)) with g_105 | g_105
      · -- True
        have gp_106 := g_105
        try simp only [Bool.and_eq_true, Bool.or_eq_true, Bool.not_eq_true', Bool.and_eq_false_iff, Bool.or_eq_false_iff, Bool.not_eq_false', decide_eq_true_eq, decide_eq_false_iff_not, not_or, Bool.false_eq_true, Bool.true_eq_false, false_or, or_false, not_false_eq_true] at gp_106
        refine Wx.gyes rfl rfl (congrArg Value.bool g_105) ?_
        refine Wx.rd (v := .int .i64 1) (rd_move rfl) rfl ?_
        refine Wx.gyes rfl rfl (congrArg Value.bool g_105) ?_
        refine Wx.rd (v := .bool (decide ((1 : Int) = 1))) (rd_eql rfl rfl) rfl ?_
        refine Wx.rd (v := .bool (decide ((1 : Int) = 1))) (rd_pickT (congrArg Value.bool g_105) rfl) rfl ?_
        refine Wx.nil ⟨(), hS, ⟨?_, trivial⟩, Out.look rfl Out.refl⟩
        show Value.bool (decide ((1 : Int) = 1)) = Value.bool (((((((decide ((0 : Int) = 0) && decide ((0 : Int) = 0)) && decide ((0 : Int) = 0)) && decide ((0 : Int) = 0)) && decide ((0 : Int) = 0)) && decide ((0 : Int) = 0)) && decide ((0 : Int) = 0)) && decide ((1 : Int) = 1))
        rw [g_105]; rfl
      · -- False
        have gp_107 := g_105
        try simp only [Bool.and_eq_true, Bool.or_eq_true, Bool.not_eq_true', Bool.and_eq_false_iff, Bool.or_eq_false_iff, Bool.not_eq_false', decide_eq_true_eq, decide_eq_false_iff_not, not_or, Bool.false_eq_true, Bool.true_eq_false, false_or, or_false, not_false_eq_true] at gp_107
        refine Wx.gnoB rfl rfl (congrArg Value.bool g_105) rfl rfl ?_
        refine Wx.gnoB rfl rfl (congrArg Value.bool g_105) rfl rfl ?_
        refine Wx.rd (v := .bool false) (rd_pickF (congrArg Value.bool g_105) rfl) rfl ?_
        refine Wx.nil ⟨(), hS, ⟨?_, trivial⟩, Out.look rfl Out.refl⟩
        show Value.bool false = Value.bool (((((((decide ((0 : Int) = 0) && decide ((0 : Int) = 0)) && decide ((0 : Int) = 0)) && decide ((0 : Int) = 0)) && decide ((0 : Int) = 0)) && decide ((0 : Int) = 0)) && decide ((0 : Int) = 0)) && decide ((1 : Int) = 1))
        rw [g_105]; rfl
    rintro ⟨⟩ u_109 w_108 hS
    refine Wx.rd (v := .bool (((((((decide ((0 : Int) = 0) && decide ((0 : Int) = 0)) && decide ((0 : Int) = 0)) && decide ((0 : Int) = 0)) && decide ((0 : Int) = 0)) && decide ((0 : Int) = 0)) && decide ((0 : Int) = 0)) && decide ((1 : Int) = 1))) (rd_move rfl) rfl ?_
    refine Wx.cut (X := Unit) 5 [126, 127, 128, 129, 130] (fun _ => [(130, .bool ((((((((decide ((0 : Int) = 0) && decide ((0 : Int) = 0)) && decide ((0 : Int) = 0)) && decide ((0 : Int) = 0)) && decide ((0 : Int) = 0)) && decide ((0 : Int) = 0)) && decide ((0 : Int) = 0)) && decide ((1 : Int) = 1)) && true))]) (fun _ w' => St w O w' [Ob.v (tSl (tP (tI .i64) (tI .i64))) (stepsV rP) v_22, .row (tP (tI .i64) (tI .i64)) 58 v_16 (forcedP rP), .row (tP (tI .i64) (tI .i64)) 58 v_7 (firstV rR)]) ?_ ?_
    · rcases Bool.eq_false_or_eq_true (((((((decide ((0 : Int) = 0) && decide ((0 : Int) = 0)) && decide ((0 : Int) = 0)) && decide ((0 : Int) = 0)) && decide ((0 : Int) = 0)) && decide ((0 : Int) = 0)) && decide ((0 : Int) = 0)) && decide ((1 : Int) = 1)) with g_110 | g_110
      · -- True
        have gp_111 := g_110
        try simp only [Bool.and_eq_true, Bool.or_eq_true, Bool.not_eq_true', Bool.and_eq_false_iff, Bool.or_eq_false_iff, Bool.not_eq_false', decide_eq_true_eq, decide_eq_false_iff_not, not_or, Bool.false_eq_true, Bool.true_eq_false, false_or, or_false, not_false_eq_true] at gp_111
        refine Wx.gyes rfl rfl (congrArg Value.bool g_110) ?_
        refine Wx.rd (v := v_7) (rd_move rfl) rfl ?_
        refine Wx.gyes rfl rfl (congrArg Value.bool g_110) ?_
        refine Wx.lit (t := (tI .i64)) (ys := [0, 1, 2, 3]) (vs := [.int .i64 0, .int .i64 1, .int .i64 2, .int .i64 3]) elHm_60 hS rfl rfl ⟨(V.mkInt (in_i64 (by omega) (by omega))), ⟨(V.mkInt (in_i64 (by omega) (by omega))), ⟨(V.mkInt (in_i64 (by omega) (by omega))), ⟨(V.mkInt (in_i64 (by omega) (by omega))), trivial⟩⟩⟩⟩ (by decide) rfl (fun v_112 w_113 hx_114 hS => ?_)
        refine Wx.gyes rfl rfl (congrArg Value.bool g_110) ?_
        have hS := hS.freeze 0 rfl
        refine Wx.callF (run_callF Tryd.call48 rfl) (F48 (hS.v 0 rfl) (by decide) hS.fb_lt) rfl ?_
        rintro r_116 w_117 hx_118 ⟨_, rfl, hv_119⟩
        have hS := hS.pushFr hx_118 hv_119
        refine Wx.gyes rfl rfl (congrArg Value.bool g_110) ?_
        refine Wx.callF (run_callF Tryd.call29 rfl) (F29 (hS.lend 4 rfl) (hS.lend 0 rfl)) rfl ?_
        rintro r_121 w_122 hx_123 rfl
        have hS := hS.ext hx_123
        rw [show (decide ((firstV rR) = (pairsU [0, 1, 2, 3])) : Bool) = true from (by decide +kernel)]
        refine Wx.rd (v := .bool true) (rd_pickT (congrArg Value.bool g_110) rfl) rfl ?_
        refine Wx.nil ⟨(), St.tl (hS.tl), ⟨?_, trivial⟩, Out.look rfl Out.refl⟩
        show Value.bool true = Value.bool ((((((((decide ((0 : Int) = 0) && decide ((0 : Int) = 0)) && decide ((0 : Int) = 0)) && decide ((0 : Int) = 0)) && decide ((0 : Int) = 0)) && decide ((0 : Int) = 0)) && decide ((0 : Int) = 0)) && decide ((1 : Int) = 1)) && true)
        rw [g_110]; rfl
      · -- False
        have gp_124 := g_110
        try simp only [Bool.and_eq_true, Bool.or_eq_true, Bool.not_eq_true', Bool.and_eq_false_iff, Bool.or_eq_false_iff, Bool.not_eq_false', decide_eq_true_eq, decide_eq_false_iff_not, not_or, Bool.false_eq_true, Bool.true_eq_false, false_or, or_false, not_false_eq_true] at gp_124
        refine Wx.gnoB rfl rfl (congrArg Value.bool g_110) rfl rfl ?_
        refine Wx.gnoB rfl rfl (congrArg Value.bool g_110) rfl rfl ?_
        refine Wx.gnoB rfl rfl (congrArg Value.bool g_110) rfl rfl ?_
        refine Wx.gnoB rfl rfl (congrArg Value.bool g_110) rfl rfl ?_
        refine Wx.rd (v := .bool false) (rd_pickF (congrArg Value.bool g_110) rfl) rfl ?_
        refine Wx.nil ⟨(), hS, ⟨?_, trivial⟩, Out.look rfl Out.refl⟩
        show Value.bool false = Value.bool ((((((((decide ((0 : Int) = 0) && decide ((0 : Int) = 0)) && decide ((0 : Int) = 0)) && decide ((0 : Int) = 0)) && decide ((0 : Int) = 0)) && decide ((0 : Int) = 0)) && decide ((0 : Int) = 0)) && decide ((1 : Int) = 1)) && true)
        rw [g_110]; rfl
    rintro ⟨⟩ u_126 w_125 hS
    refine Wx.rd (v := .bool ((((((((decide ((0 : Int) = 0) && decide ((0 : Int) = 0)) && decide ((0 : Int) = 0)) && decide ((0 : Int) = 0)) && decide ((0 : Int) = 0)) && decide ((0 : Int) = 0)) && decide ((0 : Int) = 0)) && decide ((1 : Int) = 1)) && true)) (rd_move rfl) rfl ?_
    refine Wx.cut (X := Unit) 3 [132, 133, 134] (fun _ => [(134, .bool (((((((((decide ((0 : Int) = 0) && decide ((0 : Int) = 0)) && decide ((0 : Int) = 0)) && decide ((0 : Int) = 0)) && decide ((0 : Int) = 0)) && decide ((0 : Int) = 0)) && decide ((0 : Int) = 0)) && decide ((1 : Int) = 1)) && true) && decide ((2 : Int) = 2)))]) (fun _ w' => St w O w' [Ob.v (tSl (tP (tI .i64) (tI .i64))) (stepsV rP) v_22, .row (tP (tI .i64) (tI .i64)) 58 v_16 (forcedP rP), .row (tP (tI .i64) (tI .i64)) 58 v_7 (firstV rR)]) ?_ ?_
    · rcases Bool.eq_false_or_eq_true ((((((((decide ((0 : Int) = 0) && decide ((0 : Int) = 0)) && decide ((0 : Int) = 0)) && decide ((0 : Int) = 0)) && decide ((0 : Int) = 0)) && decide ((0 : Int) = 0)) && decide ((0 : Int) = 0)) && decide ((1 : Int) = 1)) && true) with g_127 | g_127
      · -- True
        have gp_128 := g_127
        try simp only [Bool.and_eq_true, Bool.or_eq_true, Bool.not_eq_true', Bool.and_eq_false_iff, Bool.or_eq_false_iff, Bool.not_eq_false', decide_eq_true_eq, decide_eq_false_iff_not, not_or, Bool.false_eq_true, Bool.true_eq_false, false_or, or_false, not_false_eq_true] at gp_128
        refine Wx.gyes rfl rfl (congrArg Value.bool g_127) ?_
        refine Wx.rd (v := .int .i64 2) (rd_move rfl) rfl ?_
        refine Wx.gyes rfl rfl (congrArg Value.bool g_127) ?_
        refine Wx.rd (v := .bool (decide ((2 : Int) = 2))) (rd_eql rfl rfl) rfl ?_
        refine Wx.rd (v := .bool (decide ((2 : Int) = 2))) (rd_pickT (congrArg Value.bool g_127) rfl) rfl ?_
        refine Wx.nil ⟨(), hS, ⟨?_, trivial⟩, Out.look rfl Out.refl⟩
        show Value.bool (decide ((2 : Int) = 2)) = Value.bool (((((((((decide ((0 : Int) = 0) && decide ((0 : Int) = 0)) && decide ((0 : Int) = 0)) && decide ((0 : Int) = 0)) && decide ((0 : Int) = 0)) && decide ((0 : Int) = 0)) && decide ((0 : Int) = 0)) && decide ((1 : Int) = 1)) && true) && decide ((2 : Int) = 2))
        rw [g_127]; rfl
      · -- False
        have gp_129 := g_127
        try simp only [Bool.and_eq_true, Bool.or_eq_true, Bool.not_eq_true', Bool.and_eq_false_iff, Bool.or_eq_false_iff, Bool.not_eq_false', decide_eq_true_eq, decide_eq_false_iff_not, not_or, Bool.false_eq_true, Bool.true_eq_false, false_or, or_false, not_false_eq_true] at gp_129
        refine Wx.gnoB rfl rfl (congrArg Value.bool g_127) rfl rfl ?_
        refine Wx.gnoB rfl rfl (congrArg Value.bool g_127) rfl rfl ?_
        refine Wx.rd (v := .bool false) (rd_pickF (congrArg Value.bool g_127) rfl) rfl ?_
        refine Wx.nil ⟨(), hS, ⟨?_, trivial⟩, Out.look rfl Out.refl⟩
        show Value.bool false = Value.bool (((((((((decide ((0 : Int) = 0) && decide ((0 : Int) = 0)) && decide ((0 : Int) = 0)) && decide ((0 : Int) = 0)) && decide ((0 : Int) = 0)) && decide ((0 : Int) = 0)) && decide ((0 : Int) = 0)) && decide ((1 : Int) = 1)) && true) && decide ((2 : Int) = 2))
        rw [g_127]; rfl
    rintro ⟨⟩ u_131 w_130 hS
    refine Wx.rd (v := .bool (((((((((decide ((0 : Int) = 0) && decide ((0 : Int) = 0)) && decide ((0 : Int) = 0)) && decide ((0 : Int) = 0)) && decide ((0 : Int) = 0)) && decide ((0 : Int) = 0)) && decide ((0 : Int) = 0)) && decide ((1 : Int) = 1)) && true) && decide ((2 : Int) = 2))) (rd_move rfl) rfl ?_
    refine Wx.cut (X := Unit) 5 [136, 137, 138, 139, 140] (fun _ => [(140, .bool ((((((((((decide ((0 : Int) = 0) && decide ((0 : Int) = 0)) && decide ((0 : Int) = 0)) && decide ((0 : Int) = 0)) && decide ((0 : Int) = 0)) && decide ((0 : Int) = 0)) && decide ((0 : Int) = 0)) && decide ((1 : Int) = 1)) && true) && decide ((2 : Int) = 2)) && true))]) (fun _ w' => St w O w' [Ob.v (tSl (tP (tI .i64) (tI .i64))) (stepsV rP) v_22, .row (tP (tI .i64) (tI .i64)) 58 v_16 (forcedP rP), .row (tP (tI .i64) (tI .i64)) 58 v_7 (firstV rR)]) ?_ ?_
    · rcases Bool.eq_false_or_eq_true (((((((((decide ((0 : Int) = 0) && decide ((0 : Int) = 0)) && decide ((0 : Int) = 0)) && decide ((0 : Int) = 0)) && decide ((0 : Int) = 0)) && decide ((0 : Int) = 0)) && decide ((0 : Int) = 0)) && decide ((1 : Int) = 1)) && true) && decide ((2 : Int) = 2)) with g_132 | g_132
      · -- True
        have gp_133 := g_132
        try simp only [Bool.and_eq_true, Bool.or_eq_true, Bool.not_eq_true', Bool.and_eq_false_iff, Bool.or_eq_false_iff, Bool.not_eq_false', decide_eq_true_eq, decide_eq_false_iff_not, not_or, Bool.false_eq_true, Bool.true_eq_false, false_or, or_false, not_false_eq_true] at gp_133
        refine Wx.gyes rfl rfl (congrArg Value.bool g_132) ?_
        refine Wx.rd (v := v_16) (rd_move rfl) rfl ?_
        refine Wx.gyes rfl rfl (congrArg Value.bool g_132) ?_
        refine Wx.lit (t := (tI .i64)) (ys := [0, 3, 1, 2]) (vs := [.int .i64 0, .int .i64 3, .int .i64 1, .int .i64 2]) elHm_60 hS rfl rfl ⟨(V.mkInt (in_i64 (by omega) (by omega))), ⟨(V.mkInt (in_i64 (by omega) (by omega))), ⟨(V.mkInt (in_i64 (by omega) (by omega))), ⟨(V.mkInt (in_i64 (by omega) (by omega))), trivial⟩⟩⟩⟩ (by decide) rfl (fun v_134 w_135 hx_136 hS => ?_)
        refine Wx.gyes rfl rfl (congrArg Value.bool g_132) ?_
        have hS := hS.freeze 0 rfl
        refine Wx.callF (run_callF Tryd.call48 rfl) (F48 (hS.v 0 rfl) (by decide) hS.fb_lt) rfl ?_
        rintro r_138 w_139 hx_140 ⟨_, rfl, hv_141⟩
        have hS := hS.pushFr hx_140 hv_141
        refine Wx.gyes rfl rfl (congrArg Value.bool g_132) ?_
        refine Wx.callF (run_callF Tryd.call29 rfl) (F29 (hS.lend 3 rfl) (hS.lend 0 rfl)) rfl ?_
        rintro r_143 w_144 hx_145 rfl
        have hS := hS.ext hx_145
        rw [show (decide ((forcedP rP) = (pairsU [0, 3, 1, 2])) : Bool) = true from (by decide +kernel)]
        refine Wx.rd (v := .bool true) (rd_pickT (congrArg Value.bool g_132) rfl) rfl ?_
        refine Wx.nil ⟨(), St.tl (hS.tl), ⟨?_, trivial⟩, Out.look rfl Out.refl⟩
        show Value.bool true = Value.bool ((((((((((decide ((0 : Int) = 0) && decide ((0 : Int) = 0)) && decide ((0 : Int) = 0)) && decide ((0 : Int) = 0)) && decide ((0 : Int) = 0)) && decide ((0 : Int) = 0)) && decide ((0 : Int) = 0)) && decide ((1 : Int) = 1)) && true) && decide ((2 : Int) = 2)) && true)
        rw [g_132]; rfl
      · -- False
        have gp_146 := g_132
        try simp only [Bool.and_eq_true, Bool.or_eq_true, Bool.not_eq_true', Bool.and_eq_false_iff, Bool.or_eq_false_iff, Bool.not_eq_false', decide_eq_true_eq, decide_eq_false_iff_not, not_or, Bool.false_eq_true, Bool.true_eq_false, false_or, or_false, not_false_eq_true] at gp_146
        refine Wx.gnoB rfl rfl (congrArg Value.bool g_132) rfl rfl ?_
        refine Wx.gnoB rfl rfl (congrArg Value.bool g_132) rfl rfl ?_
        refine Wx.gnoB rfl rfl (congrArg Value.bool g_132) rfl rfl ?_
        refine Wx.gnoB rfl rfl (congrArg Value.bool g_132) rfl rfl ?_
        refine Wx.rd (v := .bool false) (rd_pickF (congrArg Value.bool g_132) rfl) rfl ?_
        refine Wx.nil ⟨(), hS, ⟨?_, trivial⟩, Out.look rfl Out.refl⟩
        show Value.bool false = Value.bool ((((((((((decide ((0 : Int) = 0) && decide ((0 : Int) = 0)) && decide ((0 : Int) = 0)) && decide ((0 : Int) = 0)) && decide ((0 : Int) = 0)) && decide ((0 : Int) = 0)) && decide ((0 : Int) = 0)) && decide ((1 : Int) = 1)) && true) && decide ((2 : Int) = 2)) && true)
        rw [g_132]; rfl
    rintro ⟨⟩ u_148 w_147 hS
    refine Wx.rd (v := .bool ((((((((((decide ((0 : Int) = 0) && decide ((0 : Int) = 0)) && decide ((0 : Int) = 0)) && decide ((0 : Int) = 0)) && decide ((0 : Int) = 0)) && decide ((0 : Int) = 0)) && decide ((0 : Int) = 0)) && decide ((1 : Int) = 1)) && true) && decide ((2 : Int) = 2)) && true)) (rd_move rfl) rfl ?_
    refine Wx.cut (X := Unit) 5 [142, 143, 144, 145, 146] (fun _ => [(146, .bool (((((((((((decide ((0 : Int) = 0) && decide ((0 : Int) = 0)) && decide ((0 : Int) = 0)) && decide ((0 : Int) = 0)) && decide ((0 : Int) = 0)) && decide ((0 : Int) = 0)) && decide ((0 : Int) = 0)) && decide ((1 : Int) = 1)) && true) && decide ((2 : Int) = 2)) && true) && true))]) (fun _ w' => St w O w' [Ob.v (tSl (tP (tI .i64) (tI .i64))) (stepsV rP) v_22, .row (tP (tI .i64) (tI .i64)) 58 v_16 (forcedP rP), .row (tP (tI .i64) (tI .i64)) 58 v_7 (firstV rR)]) ?_ ?_
    · rcases Bool.eq_false_or_eq_true ((((((((((decide ((0 : Int) = 0) && decide ((0 : Int) = 0)) && decide ((0 : Int) = 0)) && decide ((0 : Int) = 0)) && decide ((0 : Int) = 0)) && decide ((0 : Int) = 0)) && decide ((0 : Int) = 0)) && decide ((1 : Int) = 1)) && true) && decide ((2 : Int) = 2)) && true) with g_149 | g_149
      · -- True
        have gp_150 := g_149
        try simp only [Bool.and_eq_true, Bool.or_eq_true, Bool.not_eq_true', Bool.and_eq_false_iff, Bool.or_eq_false_iff, Bool.not_eq_false', decide_eq_true_eq, decide_eq_false_iff_not, not_or, Bool.false_eq_true, Bool.true_eq_false, false_or, or_false, not_false_eq_true] at gp_150
        refine Wx.gyes rfl rfl (congrArg Value.bool g_149) ?_
        refine Wx.rd (v := v_22) (rd_move rfl) rfl ?_
        refine Wx.gyes rfl rfl (congrArg Value.bool g_149) ?_
        refine Wx.lit (t := (tI .i64)) (ys := [1, 2, 0, 3]) (vs := [.int .i64 1, .int .i64 2, .int .i64 0, .int .i64 3]) elHm_60 hS rfl rfl ⟨(V.mkInt (in_i64 (by omega) (by omega))), ⟨(V.mkInt (in_i64 (by omega) (by omega))), ⟨(V.mkInt (in_i64 (by omega) (by omega))), ⟨(V.mkInt (in_i64 (by omega) (by omega))), trivial⟩⟩⟩⟩ (by decide) rfl (fun v_151 w_152 hx_153 hS => ?_)
        refine Wx.gyes rfl rfl (congrArg Value.bool g_149) ?_
        have hS := hS.freeze 0 rfl
        refine Wx.callF (run_callF Tryd.call48 rfl) (F48 (hS.v 0 rfl) (by decide) hS.fb_lt) rfl ?_
        rintro r_155 w_156 hx_157 ⟨_, rfl, hv_158⟩
        have hS := hS.pushFr hx_157 hv_158
        refine Wx.gyes rfl rfl (congrArg Value.bool g_149) ?_
        refine Wx.callF (run_callF Tryd.call29 rfl) (F29 (hS.v 2 rfl) (hS.lend 0 rfl)) rfl ?_
        rintro r_160 w_161 hx_162 rfl
        have hS := hS.ext hx_162
        rw [show (decide ((stepsV rP) = (pairsU [1, 2, 0, 3])) : Bool) = true from (by decide +kernel)]
        refine Wx.rd (v := .bool true) (rd_pickT (congrArg Value.bool g_149) rfl) rfl ?_
        refine Wx.nil ⟨(), St.tl (hS.tl), ⟨?_, trivial⟩, Out.look rfl Out.refl⟩
        show Value.bool true = Value.bool (((((((((((decide ((0 : Int) = 0) && decide ((0 : Int) = 0)) && decide ((0 : Int) = 0)) && decide ((0 : Int) = 0)) && decide ((0 : Int) = 0)) && decide ((0 : Int) = 0)) && decide ((0 : Int) = 0)) && decide ((1 : Int) = 1)) && true) && decide ((2 : Int) = 2)) && true) && true)
        rw [g_149]; rfl
      · -- False
        have gp_163 := g_149
        try simp only [Bool.and_eq_true, Bool.or_eq_true, Bool.not_eq_true', Bool.and_eq_false_iff, Bool.or_eq_false_iff, Bool.not_eq_false', decide_eq_true_eq, decide_eq_false_iff_not, not_or, Bool.false_eq_true, Bool.true_eq_false, false_or, or_false, not_false_eq_true] at gp_163
        refine Wx.gnoB rfl rfl (congrArg Value.bool g_149) rfl rfl ?_
        refine Wx.gnoB rfl rfl (congrArg Value.bool g_149) rfl rfl ?_
        refine Wx.gnoB rfl rfl (congrArg Value.bool g_149) rfl rfl ?_
        refine Wx.gnoB rfl rfl (congrArg Value.bool g_149) rfl rfl ?_
        refine Wx.rd (v := .bool false) (rd_pickF (congrArg Value.bool g_149) rfl) rfl ?_
        refine Wx.nil ⟨(), hS, ⟨?_, trivial⟩, Out.look rfl Out.refl⟩
        show Value.bool false = Value.bool (((((((((((decide ((0 : Int) = 0) && decide ((0 : Int) = 0)) && decide ((0 : Int) = 0)) && decide ((0 : Int) = 0)) && decide ((0 : Int) = 0)) && decide ((0 : Int) = 0)) && decide ((0 : Int) = 0)) && decide ((1 : Int) = 1)) && true) && decide ((2 : Int) = 2)) && true) && true)
        rw [g_149]; rfl
    rintro ⟨⟩ u_165 w_164 hS
    refine Wx.rd (v := .bool (((((((((((decide ((0 : Int) = 0) && decide ((0 : Int) = 0)) && decide ((0 : Int) = 0)) && decide ((0 : Int) = 0)) && decide ((0 : Int) = 0)) && decide ((0 : Int) = 0)) && decide ((0 : Int) = 0)) && decide ((1 : Int) = 1)) && true) && decide ((2 : Int) = 2)) && true) && true)) (rd_move rfl) rfl ?_
    refine Wx.cut (X := Unit) 3 [148, 149, 150] (fun _ => [(150, .bool ((((((((((((decide ((0 : Int) = 0) && decide ((0 : Int) = 0)) && decide ((0 : Int) = 0)) && decide ((0 : Int) = 0)) && decide ((0 : Int) = 0)) && decide ((0 : Int) = 0)) && decide ((0 : Int) = 0)) && decide ((1 : Int) = 1)) && true) && decide ((2 : Int) = 2)) && true) && true) && true))]) (fun _ w' => St w O w' [Ob.v (tSl (tP (tI .i64) (tI .i64))) (stepsV rP) v_22, .row (tP (tI .i64) (tI .i64)) 58 v_16 (forcedP rP), .row (tP (tI .i64) (tI .i64)) 58 v_7 (firstV rR)]) ?_ ?_
    · rcases Bool.eq_false_or_eq_true (((((((((((decide ((0 : Int) = 0) && decide ((0 : Int) = 0)) && decide ((0 : Int) = 0)) && decide ((0 : Int) = 0)) && decide ((0 : Int) = 0)) && decide ((0 : Int) = 0)) && decide ((0 : Int) = 0)) && decide ((1 : Int) = 1)) && true) && decide ((2 : Int) = 2)) && true) && true) with g_166 | g_166
      · -- True
        have gp_167 := g_166
        try simp only [Bool.and_eq_true, Bool.or_eq_true, Bool.not_eq_true', Bool.and_eq_false_iff, Bool.or_eq_false_iff, Bool.not_eq_false', decide_eq_true_eq, decide_eq_false_iff_not, not_or, Bool.false_eq_true, Bool.true_eq_false, false_or, or_false, not_false_eq_true] at gp_167
        refine Wx.gyes rfl rfl (congrArg Value.bool g_166) ?_
        refine Wx.rd (v := .string (restE rQ)) (rd_move rfl) rfl ?_
        refine Wx.gyes rfl rfl (congrArg Value.bool g_166) ?_
        refine Wx.rd (v := .bool true) (Rd.to (v := .bool ((restE rQ) == rQ)) (rd_eqlS rfl rfl) (congrArg (Value.bool) (show (true : Bool) = ((restE rQ) == rQ : Bool) from (by decide +kernel)).symm)) rfl ?_
        refine Wx.rd (v := .bool true) (rd_pickT (congrArg Value.bool g_166) rfl) rfl ?_
        refine Wx.nil ⟨(), hS, ⟨?_, trivial⟩, Out.look rfl Out.refl⟩
        show Value.bool true = Value.bool ((((((((((((decide ((0 : Int) = 0) && decide ((0 : Int) = 0)) && decide ((0 : Int) = 0)) && decide ((0 : Int) = 0)) && decide ((0 : Int) = 0)) && decide ((0 : Int) = 0)) && decide ((0 : Int) = 0)) && decide ((1 : Int) = 1)) && true) && decide ((2 : Int) = 2)) && true) && true) && true)
        rw [g_166]; rfl
      · -- False
        have gp_168 := g_166
        try simp only [Bool.and_eq_true, Bool.or_eq_true, Bool.not_eq_true', Bool.and_eq_false_iff, Bool.or_eq_false_iff, Bool.not_eq_false', decide_eq_true_eq, decide_eq_false_iff_not, not_or, Bool.false_eq_true, Bool.true_eq_false, false_or, or_false, not_false_eq_true] at gp_168
        refine Wx.gnoB rfl rfl (congrArg Value.bool g_166) rfl rfl ?_
        refine Wx.gnoB rfl rfl (congrArg Value.bool g_166) rfl rfl ?_
        refine Wx.rd (v := .bool false) (rd_pickF (congrArg Value.bool g_166) rfl) rfl ?_
        refine Wx.nil ⟨(), hS, ⟨?_, trivial⟩, Out.look rfl Out.refl⟩
        show Value.bool false = Value.bool ((((((((((((decide ((0 : Int) = 0) && decide ((0 : Int) = 0)) && decide ((0 : Int) = 0)) && decide ((0 : Int) = 0)) && decide ((0 : Int) = 0)) && decide ((0 : Int) = 0)) && decide ((0 : Int) = 0)) && decide ((1 : Int) = 1)) && true) && decide ((2 : Int) = 2)) && true) && true) && true)
        rw [g_166]; rfl
    rintro ⟨⟩ u_170 w_169 hS
    refine Wx.rd (v := .bool ((((((((((((decide ((0 : Int) = 0) && decide ((0 : Int) = 0)) && decide ((0 : Int) = 0)) && decide ((0 : Int) = 0)) && decide ((0 : Int) = 0)) && decide ((0 : Int) = 0)) && decide ((0 : Int) = 0)) && decide ((1 : Int) = 1)) && true) && decide ((2 : Int) = 2)) && true) && true) && true)) (rd_move rfl) rfl ?_
    refine Wx.cut (X := Unit) 2 [152, 153] (fun _ => [(153, .bool (((((((((((((decide ((0 : Int) = 0) && decide ((0 : Int) = 0)) && decide ((0 : Int) = 0)) && decide ((0 : Int) = 0)) && decide ((0 : Int) = 0)) && decide ((0 : Int) = 0)) && decide ((0 : Int) = 0)) && decide ((1 : Int) = 1)) && true) && decide ((2 : Int) = 2)) && true) && true) && true) && true))]) (fun _ w' => St w O w' [Ob.v (tSl (tP (tI .i64) (tI .i64))) (stepsV rP) v_22, .row (tP (tI .i64) (tI .i64)) 58 v_16 (forcedP rP), .row (tP (tI .i64) (tI .i64)) 58 v_7 (firstV rR)]) ?_ ?_
    · rcases Bool.eq_false_or_eq_true ((((((((((((decide ((0 : Int) = 0) && decide ((0 : Int) = 0)) && decide ((0 : Int) = 0)) && decide ((0 : Int) = 0)) && decide ((0 : Int) = 0)) && decide ((0 : Int) = 0)) && decide ((0 : Int) = 0)) && decide ((1 : Int) = 1)) && true) && decide ((2 : Int) = 2)) && true) && true) && true) with g_171 | g_171
      · -- True
        have gp_172 := g_171
        try simp only [Bool.and_eq_true, Bool.or_eq_true, Bool.not_eq_true', Bool.and_eq_false_iff, Bool.or_eq_false_iff, Bool.not_eq_false', decide_eq_true_eq, decide_eq_false_iff_not, not_or, Bool.false_eq_true, Bool.true_eq_false, false_or, or_false, not_false_eq_true] at gp_172
        refine Wx.gyes rfl rfl (congrArg Value.bool g_171) ?_
        refine Wx.rd (v := .bool true) (rd_move rfl) rfl ?_
        refine Wx.rd (v := .bool true) (rd_pickT (congrArg Value.bool g_171) rfl) rfl ?_
        refine Wx.nil ⟨(), hS, ⟨?_, trivial⟩, Out.look rfl Out.refl⟩
        show Value.bool true = Value.bool (((((((((((((decide ((0 : Int) = 0) && decide ((0 : Int) = 0)) && decide ((0 : Int) = 0)) && decide ((0 : Int) = 0)) && decide ((0 : Int) = 0)) && decide ((0 : Int) = 0)) && decide ((0 : Int) = 0)) && decide ((1 : Int) = 1)) && true) && decide ((2 : Int) = 2)) && true) && true) && true) && true)
        rw [g_171]; rfl
      · -- False
        have gp_173 := g_171
        try simp only [Bool.and_eq_true, Bool.or_eq_true, Bool.not_eq_true', Bool.and_eq_false_iff, Bool.or_eq_false_iff, Bool.not_eq_false', decide_eq_true_eq, decide_eq_false_iff_not, not_or, Bool.false_eq_true, Bool.true_eq_false, false_or, or_false, not_false_eq_true] at gp_173
        refine Wx.gnoB rfl rfl (congrArg Value.bool g_171) rfl rfl ?_
        refine Wx.rd (v := .bool false) (rd_pickF (congrArg Value.bool g_171) rfl) rfl ?_
        refine Wx.nil ⟨(), hS, ⟨?_, trivial⟩, Out.look rfl Out.refl⟩
        show Value.bool false = Value.bool (((((((((((((decide ((0 : Int) = 0) && decide ((0 : Int) = 0)) && decide ((0 : Int) = 0)) && decide ((0 : Int) = 0)) && decide ((0 : Int) = 0)) && decide ((0 : Int) = 0)) && decide ((0 : Int) = 0)) && decide ((1 : Int) = 1)) && true) && decide ((2 : Int) = 2)) && true) && true) && true) && true)
        rw [g_171]; rfl
    rintro ⟨⟩ u_175 w_174 hS
    refine Wx.rd (v := .bool (((((((((((((decide ((0 : Int) = 0) && decide ((0 : Int) = 0)) && decide ((0 : Int) = 0)) && decide ((0 : Int) = 0)) && decide ((0 : Int) = 0)) && decide ((0 : Int) = 0)) && decide ((0 : Int) = 0)) && decide ((1 : Int) = 1)) && true) && decide ((2 : Int) = 2)) && true) && true) && true) && true)) (rd_move rfl) rfl ?_
    refine Wx.cut (X := Unit) 3 [155, 156, 157] (fun _ => [(157, .bool ((((((((((((((decide ((0 : Int) = 0) && decide ((0 : Int) = 0)) && decide ((0 : Int) = 0)) && decide ((0 : Int) = 0)) && decide ((0 : Int) = 0)) && decide ((0 : Int) = 0)) && decide ((0 : Int) = 0)) && decide ((1 : Int) = 1)) && true) && decide ((2 : Int) = 2)) && true) && true) && true) && true) && !false))]) (fun _ w' => St w O w' [Ob.v (tSl (tP (tI .i64) (tI .i64))) (stepsV rP) v_22, .row (tP (tI .i64) (tI .i64)) 58 v_16 (forcedP rP), .row (tP (tI .i64) (tI .i64)) 58 v_7 (firstV rR)]) ?_ ?_
    · rcases Bool.eq_false_or_eq_true (((((((((((((decide ((0 : Int) = 0) && decide ((0 : Int) = 0)) && decide ((0 : Int) = 0)) && decide ((0 : Int) = 0)) && decide ((0 : Int) = 0)) && decide ((0 : Int) = 0)) && decide ((0 : Int) = 0)) && decide ((1 : Int) = 1)) && true) && decide ((2 : Int) = 2)) && true) && true) && true) && true) with g_176 | g_176
      · -- True
        have gp_177 := g_176
        try simp only [Bool.and_eq_true, Bool.or_eq_true, Bool.not_eq_true', Bool.and_eq_false_iff, Bool.or_eq_false_iff, Bool.not_eq_false', decide_eq_true_eq, decide_eq_false_iff_not, not_or, Bool.false_eq_true, Bool.true_eq_false, false_or, or_false, not_false_eq_true] at gp_177
        refine Wx.gyes rfl rfl (congrArg Value.bool g_176) ?_
        refine Wx.rd (v := .bool false) (rd_move rfl) rfl ?_
        refine Wx.gyes rfl rfl (congrArg Value.bool g_176) ?_
        refine Wx.rd (v := .bool (!false)) (rd_not rfl) rfl ?_
        refine Wx.rd (v := .bool (!false)) (rd_pickT (congrArg Value.bool g_176) rfl) rfl ?_
        refine Wx.nil ⟨(), hS, ⟨?_, trivial⟩, Out.look rfl Out.refl⟩
        show Value.bool (!false) = Value.bool ((((((((((((((decide ((0 : Int) = 0) && decide ((0 : Int) = 0)) && decide ((0 : Int) = 0)) && decide ((0 : Int) = 0)) && decide ((0 : Int) = 0)) && decide ((0 : Int) = 0)) && decide ((0 : Int) = 0)) && decide ((1 : Int) = 1)) && true) && decide ((2 : Int) = 2)) && true) && true) && true) && true) && !false)
        rw [g_176]; rfl
      · -- False
        have gp_178 := g_176
        try simp only [Bool.and_eq_true, Bool.or_eq_true, Bool.not_eq_true', Bool.and_eq_false_iff, Bool.or_eq_false_iff, Bool.not_eq_false', decide_eq_true_eq, decide_eq_false_iff_not, not_or, Bool.false_eq_true, Bool.true_eq_false, false_or, or_false, not_false_eq_true] at gp_178
        refine Wx.gnoB rfl rfl (congrArg Value.bool g_176) rfl rfl ?_
        refine Wx.gnoB rfl rfl (congrArg Value.bool g_176) rfl rfl ?_
        refine Wx.rd (v := .bool false) (rd_pickF (congrArg Value.bool g_176) rfl) rfl ?_
        refine Wx.nil ⟨(), hS, ⟨?_, trivial⟩, Out.look rfl Out.refl⟩
        show Value.bool false = Value.bool ((((((((((((((decide ((0 : Int) = 0) && decide ((0 : Int) = 0)) && decide ((0 : Int) = 0)) && decide ((0 : Int) = 0)) && decide ((0 : Int) = 0)) && decide ((0 : Int) = 0)) && decide ((0 : Int) = 0)) && decide ((1 : Int) = 1)) && true) && decide ((2 : Int) = 2)) && true) && true) && true) && true) && !false)
        rw [g_176]; rfl
    rintro ⟨⟩ u_180 w_179 hS
    refine Wx.rd (v := .bool ((((((((((((((decide ((0 : Int) = 0) && decide ((0 : Int) = 0)) && decide ((0 : Int) = 0)) && decide ((0 : Int) = 0)) && decide ((0 : Int) = 0)) && decide ((0 : Int) = 0)) && decide ((0 : Int) = 0)) && decide ((1 : Int) = 1)) && true) && decide ((2 : Int) = 2)) && true) && true) && true) && true) && !false)) (rd_move rfl) rfl ?_
    refine Wx.cut (X := Unit) 3 [159, 160, 161] (fun _ => [(161, .bool (((((((((((((((decide ((0 : Int) = 0) && decide ((0 : Int) = 0)) && decide ((0 : Int) = 0)) && decide ((0 : Int) = 0)) && decide ((0 : Int) = 0)) && decide ((0 : Int) = 0)) && decide ((0 : Int) = 0)) && decide ((1 : Int) = 1)) && true) && decide ((2 : Int) = 2)) && true) && true) && true) && true) && !false) && true))]) (fun _ w' => St w O w' [Ob.v (tSl (tP (tI .i64) (tI .i64))) (stepsV rP) v_22, .row (tP (tI .i64) (tI .i64)) 58 v_16 (forcedP rP), .row (tP (tI .i64) (tI .i64)) 58 v_7 (firstV rR)]) ?_ ?_
    · rcases Bool.eq_false_or_eq_true ((((((((((((((decide ((0 : Int) = 0) && decide ((0 : Int) = 0)) && decide ((0 : Int) = 0)) && decide ((0 : Int) = 0)) && decide ((0 : Int) = 0)) && decide ((0 : Int) = 0)) && decide ((0 : Int) = 0)) && decide ((1 : Int) = 1)) && true) && decide ((2 : Int) = 2)) && true) && true) && true) && true) && !false) with g_181 | g_181
      · -- True
        have gp_182 := g_181
        try simp only [Bool.and_eq_true, Bool.or_eq_true, Bool.not_eq_true', Bool.and_eq_false_iff, Bool.or_eq_false_iff, Bool.not_eq_false', decide_eq_true_eq, decide_eq_false_iff_not, not_or, Bool.false_eq_true, Bool.true_eq_false, false_or, or_false, not_false_eq_true] at gp_182
        refine Wx.gyes rfl rfl (congrArg Value.bool g_181) ?_
        refine Wx.rd (v := .string (coreV r1)) (rd_move rfl) rfl ?_
        refine Wx.gyes rfl rfl (congrArg Value.bool g_181) ?_
        refine Wx.rd (v := .bool true) (Rd.to (v := .bool ((coreV r1) == ({ data := #[99] } : ByteArray))) (rd_eqlS rfl rfl) (congrArg (Value.bool) (show (true : Bool) = ((coreV r1) == ({ data := #[99] } : ByteArray) : Bool) from (by decide +kernel)).symm)) rfl ?_
        refine Wx.rd (v := .bool true) (rd_pickT (congrArg Value.bool g_181) rfl) rfl ?_
        refine Wx.nil ⟨(), hS, ⟨?_, trivial⟩, Out.look rfl Out.refl⟩
        show Value.bool true = Value.bool (((((((((((((((decide ((0 : Int) = 0) && decide ((0 : Int) = 0)) && decide ((0 : Int) = 0)) && decide ((0 : Int) = 0)) && decide ((0 : Int) = 0)) && decide ((0 : Int) = 0)) && decide ((0 : Int) = 0)) && decide ((1 : Int) = 1)) && true) && decide ((2 : Int) = 2)) && true) && true) && true) && true) && !false) && true)
        rw [g_181]; rfl
      · -- False
        have gp_183 := g_181
        try simp only [Bool.and_eq_true, Bool.or_eq_true, Bool.not_eq_true', Bool.and_eq_false_iff, Bool.or_eq_false_iff, Bool.not_eq_false', decide_eq_true_eq, decide_eq_false_iff_not, not_or, Bool.false_eq_true, Bool.true_eq_false, false_or, or_false, not_false_eq_true] at gp_183
        refine Wx.gnoB rfl rfl (congrArg Value.bool g_181) rfl rfl ?_
        refine Wx.gnoB rfl rfl (congrArg Value.bool g_181) rfl rfl ?_
        refine Wx.rd (v := .bool false) (rd_pickF (congrArg Value.bool g_181) rfl) rfl ?_
        refine Wx.nil ⟨(), hS, ⟨?_, trivial⟩, Out.look rfl Out.refl⟩
        show Value.bool false = Value.bool (((((((((((((((decide ((0 : Int) = 0) && decide ((0 : Int) = 0)) && decide ((0 : Int) = 0)) && decide ((0 : Int) = 0)) && decide ((0 : Int) = 0)) && decide ((0 : Int) = 0)) && decide ((0 : Int) = 0)) && decide ((1 : Int) = 1)) && true) && decide ((2 : Int) = 2)) && true) && true) && true) && true) && !false) && true)
        rw [g_181]; rfl
    rintro ⟨⟩ u_185 w_184 hS
    refine Wx.rd (v := .bool (((((((((((((((decide ((0 : Int) = 0) && decide ((0 : Int) = 0)) && decide ((0 : Int) = 0)) && decide ((0 : Int) = 0)) && decide ((0 : Int) = 0)) && decide ((0 : Int) = 0)) && decide ((0 : Int) = 0)) && decide ((1 : Int) = 1)) && true) && decide ((2 : Int) = 2)) && true) && true) && true) && true) && !false) && true)) (rd_move rfl) rfl ?_
    refine Wx.cut (X := Unit) 3 [163, 164, 165] (fun _ => [(165, .bool ((((((((((((((((decide ((0 : Int) = 0) && decide ((0 : Int) = 0)) && decide ((0 : Int) = 0)) && decide ((0 : Int) = 0)) && decide ((0 : Int) = 0)) && decide ((0 : Int) = 0)) && decide ((0 : Int) = 0)) && decide ((1 : Int) = 1)) && true) && decide ((2 : Int) = 2)) && true) && true) && true) && true) && !false) && true) && true))]) (fun _ w' => St w O w' [Ob.v (tSl (tP (tI .i64) (tI .i64))) (stepsV rP) v_22, .row (tP (tI .i64) (tI .i64)) 58 v_16 (forcedP rP), .row (tP (tI .i64) (tI .i64)) 58 v_7 (firstV rR)]) ?_ ?_
    · rcases Bool.eq_false_or_eq_true (((((((((((((((decide ((0 : Int) = 0) && decide ((0 : Int) = 0)) && decide ((0 : Int) = 0)) && decide ((0 : Int) = 0)) && decide ((0 : Int) = 0)) && decide ((0 : Int) = 0)) && decide ((0 : Int) = 0)) && decide ((1 : Int) = 1)) && true) && decide ((2 : Int) = 2)) && true) && true) && true) && true) && !false) && true) with g_186 | g_186
      · -- True
        have gp_187 := g_186
        try simp only [Bool.and_eq_true, Bool.or_eq_true, Bool.not_eq_true', Bool.and_eq_false_iff, Bool.or_eq_false_iff, Bool.not_eq_false', decide_eq_true_eq, decide_eq_false_iff_not, not_or, Bool.false_eq_true, Bool.true_eq_false, false_or, or_false, not_false_eq_true] at gp_187
        refine Wx.gyes rfl rfl (congrArg Value.bool g_186) ?_
        refine Wx.rd (v := .string (turnS rQ 1)) (rd_move rfl) rfl ?_
        refine Wx.gyes rfl rfl (congrArg Value.bool g_186) ?_
        refine Wx.rd (v := .bool true) (Rd.to (v := .bool ((turnS rQ 1) == ({ data := #[98, 65, 66, 97] } : ByteArray))) (rd_eqlS rfl rfl) (congrArg (Value.bool) (show (true : Bool) = ((turnS rQ 1) == ({ data := #[98, 65, 66, 97] } : ByteArray) : Bool) from (by decide +kernel)).symm)) rfl ?_
        refine Wx.rd (v := .bool true) (rd_pickT (congrArg Value.bool g_186) rfl) rfl ?_
        refine Wx.nil ⟨(), hS, ⟨?_, trivial⟩, Out.look rfl Out.refl⟩
        show Value.bool true = Value.bool ((((((((((((((((decide ((0 : Int) = 0) && decide ((0 : Int) = 0)) && decide ((0 : Int) = 0)) && decide ((0 : Int) = 0)) && decide ((0 : Int) = 0)) && decide ((0 : Int) = 0)) && decide ((0 : Int) = 0)) && decide ((1 : Int) = 1)) && true) && decide ((2 : Int) = 2)) && true) && true) && true) && true) && !false) && true) && true)
        rw [g_186]; rfl
      · -- False
        have gp_188 := g_186
        try simp only [Bool.and_eq_true, Bool.or_eq_true, Bool.not_eq_true', Bool.and_eq_false_iff, Bool.or_eq_false_iff, Bool.not_eq_false', decide_eq_true_eq, decide_eq_false_iff_not, not_or, Bool.false_eq_true, Bool.true_eq_false, false_or, or_false, not_false_eq_true] at gp_188
        refine Wx.gnoB rfl rfl (congrArg Value.bool g_186) rfl rfl ?_
        refine Wx.gnoB rfl rfl (congrArg Value.bool g_186) rfl rfl ?_
        refine Wx.rd (v := .bool false) (rd_pickF (congrArg Value.bool g_186) rfl) rfl ?_
        refine Wx.nil ⟨(), hS, ⟨?_, trivial⟩, Out.look rfl Out.refl⟩
        show Value.bool false = Value.bool ((((((((((((((((decide ((0 : Int) = 0) && decide ((0 : Int) = 0)) && decide ((0 : Int) = 0)) && decide ((0 : Int) = 0)) && decide ((0 : Int) = 0)) && decide ((0 : Int) = 0)) && decide ((0 : Int) = 0)) && decide ((1 : Int) = 1)) && true) && decide ((2 : Int) = 2)) && true) && true) && true) && true) && !false) && true) && true)
        rw [g_186]; rfl
    rintro ⟨⟩ u_190 w_189 hS
    refine Wx.rd (v := .bool ((((((((((((((((decide ((0 : Int) = 0) && decide ((0 : Int) = 0)) && decide ((0 : Int) = 0)) && decide ((0 : Int) = 0)) && decide ((0 : Int) = 0)) && decide ((0 : Int) = 0)) && decide ((0 : Int) = 0)) && decide ((1 : Int) = 1)) && true) && decide ((2 : Int) = 2)) && true) && true) && true) && true) && !false) && true) && true)) (rd_move rfl) rfl ?_
    refine Wx.cut (X := Unit) 3 [167, 168, 169] (fun _ => [(169, .bool (((((((((((((((((decide ((0 : Int) = 0) && decide ((0 : Int) = 0)) && decide ((0 : Int) = 0)) && decide ((0 : Int) = 0)) && decide ((0 : Int) = 0)) && decide ((0 : Int) = 0)) && decide ((0 : Int) = 0)) && decide ((1 : Int) = 1)) && true) && decide ((2 : Int) = 2)) && true) && true) && true) && true) && !false) && true) && true) && true))]) (fun _ w' => St w O w' [Ob.v (tSl (tP (tI .i64) (tI .i64))) (stepsV rP) v_22, .row (tP (tI .i64) (tI .i64)) 58 v_16 (forcedP rP), .row (tP (tI .i64) (tI .i64)) 58 v_7 (firstV rR)]) ?_ ?_
    · rcases Bool.eq_false_or_eq_true ((((((((((((((((decide ((0 : Int) = 0) && decide ((0 : Int) = 0)) && decide ((0 : Int) = 0)) && decide ((0 : Int) = 0)) && decide ((0 : Int) = 0)) && decide ((0 : Int) = 0)) && decide ((0 : Int) = 0)) && decide ((1 : Int) = 1)) && true) && decide ((2 : Int) = 2)) && true) && true) && true) && true) && !false) && true) && true) with g_191 | g_191
      · -- True
        have gp_192 := g_191
        try simp only [Bool.and_eq_true, Bool.or_eq_true, Bool.not_eq_true', Bool.and_eq_false_iff, Bool.or_eq_false_iff, Bool.not_eq_false', decide_eq_true_eq, decide_eq_false_iff_not, not_or, Bool.false_eq_true, Bool.true_eq_false, false_or, or_false, not_false_eq_true] at gp_192
        refine Wx.gyes rfl rfl (congrArg Value.bool g_191) ?_
        refine Wx.rd (v := .string (oppV r2)) (rd_move rfl) rfl ?_
        refine Wx.gyes rfl rfl (congrArg Value.bool g_191) ?_
        refine Wx.rd (v := .bool true) (Rd.to (v := .bool ((oppV r2) == ({ data := #[99, 66, 65] } : ByteArray))) (rd_eqlS rfl rfl) (congrArg (Value.bool) (show (true : Bool) = ((oppV r2) == ({ data := #[99, 66, 65] } : ByteArray) : Bool) from (by decide +kernel)).symm)) rfl ?_
        refine Wx.rd (v := .bool true) (rd_pickT (congrArg Value.bool g_191) rfl) rfl ?_
        refine Wx.nil ⟨(), hS, ⟨?_, trivial⟩, Out.look rfl Out.refl⟩
        show Value.bool true = Value.bool (((((((((((((((((decide ((0 : Int) = 0) && decide ((0 : Int) = 0)) && decide ((0 : Int) = 0)) && decide ((0 : Int) = 0)) && decide ((0 : Int) = 0)) && decide ((0 : Int) = 0)) && decide ((0 : Int) = 0)) && decide ((1 : Int) = 1)) && true) && decide ((2 : Int) = 2)) && true) && true) && true) && true) && !false) && true) && true) && true)
        rw [g_191]; rfl
      · -- False
        have gp_193 := g_191
        try simp only [Bool.and_eq_true, Bool.or_eq_true, Bool.not_eq_true', Bool.and_eq_false_iff, Bool.or_eq_false_iff, Bool.not_eq_false', decide_eq_true_eq, decide_eq_false_iff_not, not_or, Bool.false_eq_true, Bool.true_eq_false, false_or, or_false, not_false_eq_true] at gp_193
        refine Wx.gnoB rfl rfl (congrArg Value.bool g_191) rfl rfl ?_
        refine Wx.gnoB rfl rfl (congrArg Value.bool g_191) rfl rfl ?_
        refine Wx.rd (v := .bool false) (rd_pickF (congrArg Value.bool g_191) rfl) rfl ?_
        refine Wx.nil ⟨(), hS, ⟨?_, trivial⟩, Out.look rfl Out.refl⟩
        show Value.bool false = Value.bool (((((((((((((((((decide ((0 : Int) = 0) && decide ((0 : Int) = 0)) && decide ((0 : Int) = 0)) && decide ((0 : Int) = 0)) && decide ((0 : Int) = 0)) && decide ((0 : Int) = 0)) && decide ((0 : Int) = 0)) && decide ((1 : Int) = 1)) && true) && decide ((2 : Int) = 2)) && true) && true) && true) && true) && !false) && true) && true) && true)
        rw [g_191]; rfl
    rintro ⟨⟩ u_195 w_194 hS
    refine Wx.rd (v := .bool (((((((((((((((((decide ((0 : Int) = 0) && decide ((0 : Int) = 0)) && decide ((0 : Int) = 0)) && decide ((0 : Int) = 0)) && decide ((0 : Int) = 0)) && decide ((0 : Int) = 0)) && decide ((0 : Int) = 0)) && decide ((1 : Int) = 1)) && true) && decide ((2 : Int) = 2)) && true) && true) && true) && true) && !false) && true) && true) && true)) (rd_move rfl) rfl ?_
    refine Wx.cut (X := Unit) 2 [171, 172] (fun _ => [(172, .bool ((((((((((((((((((decide ((0 : Int) = 0) && decide ((0 : Int) = 0)) && decide ((0 : Int) = 0)) && decide ((0 : Int) = 0)) && decide ((0 : Int) = 0)) && decide ((0 : Int) = 0)) && decide ((0 : Int) = 0)) && decide ((1 : Int) = 1)) && true) && decide ((2 : Int) = 2)) && true) && true) && true) && true) && !false) && true) && true) && true) && true))]) (fun _ w' => St w O w' [Ob.v (tSl (tP (tI .i64) (tI .i64))) (stepsV rP) v_22, .row (tP (tI .i64) (tI .i64)) 58 v_16 (forcedP rP), .row (tP (tI .i64) (tI .i64)) 58 v_7 (firstV rR)]) ?_ ?_
    · rcases Bool.eq_false_or_eq_true (((((((((((((((((decide ((0 : Int) = 0) && decide ((0 : Int) = 0)) && decide ((0 : Int) = 0)) && decide ((0 : Int) = 0)) && decide ((0 : Int) = 0)) && decide ((0 : Int) = 0)) && decide ((0 : Int) = 0)) && decide ((1 : Int) = 1)) && true) && decide ((2 : Int) = 2)) && true) && true) && true) && true) && !false) && true) && true) && true) with g_196 | g_196
      · -- True
        have gp_197 := g_196
        try simp only [Bool.and_eq_true, Bool.or_eq_true, Bool.not_eq_true', Bool.and_eq_false_iff, Bool.or_eq_false_iff, Bool.not_eq_false', decide_eq_true_eq, decide_eq_false_iff_not, not_or, Bool.false_eq_true, Bool.true_eq_false, false_or, or_false, not_false_eq_true] at gp_197
        refine Wx.gyes rfl rfl (congrArg Value.bool g_196) ?_
        refine Wx.rd (v := .bool true) (rd_move rfl) rfl ?_
        refine Wx.rd (v := .bool true) (rd_pickT (congrArg Value.bool g_196) rfl) rfl ?_
        refine Wx.nil ⟨(), hS, ⟨?_, trivial⟩, Out.look rfl Out.refl⟩
        show Value.bool true = Value.bool ((((((((((((((((((decide ((0 : Int) = 0) && decide ((0 : Int) = 0)) && decide ((0 : Int) = 0)) && decide ((0 : Int) = 0)) && decide ((0 : Int) = 0)) && decide ((0 : Int) = 0)) && decide ((0 : Int) = 0)) && decide ((1 : Int) = 1)) && true) && decide ((2 : Int) = 2)) && true) && true) && true) && true) && !false) && true) && true) && true) && true)
        rw [g_196]; rfl
      · -- False
        have gp_198 := g_196
        try simp only [Bool.and_eq_true, Bool.or_eq_true, Bool.not_eq_true', Bool.and_eq_false_iff, Bool.or_eq_false_iff, Bool.not_eq_false', decide_eq_true_eq, decide_eq_false_iff_not, not_or, Bool.false_eq_true, Bool.true_eq_false, false_or, or_false, not_false_eq_true] at gp_198
        refine Wx.gnoB rfl rfl (congrArg Value.bool g_196) rfl rfl ?_
        refine Wx.rd (v := .bool false) (rd_pickF (congrArg Value.bool g_196) rfl) rfl ?_
        refine Wx.nil ⟨(), hS, ⟨?_, trivial⟩, Out.look rfl Out.refl⟩
        show Value.bool false = Value.bool ((((((((((((((((((decide ((0 : Int) = 0) && decide ((0 : Int) = 0)) && decide ((0 : Int) = 0)) && decide ((0 : Int) = 0)) && decide ((0 : Int) = 0)) && decide ((0 : Int) = 0)) && decide ((0 : Int) = 0)) && decide ((1 : Int) = 1)) && true) && decide ((2 : Int) = 2)) && true) && true) && true) && true) && !false) && true) && true) && true) && true)
        rw [g_196]; rfl
    rintro ⟨⟩ u_200 w_199 hS
    refine Wx.rd (v := .bool ((((((((((((((((((decide ((0 : Int) = 0) && decide ((0 : Int) = 0)) && decide ((0 : Int) = 0)) && decide ((0 : Int) = 0)) && decide ((0 : Int) = 0)) && decide ((0 : Int) = 0)) && decide ((0 : Int) = 0)) && decide ((1 : Int) = 1)) && true) && decide ((2 : Int) = 2)) && true) && true) && true) && true) && !false) && true) && true) && true) && true)) (rd_move rfl) rfl ?_
    refine Wx.cut (X := Unit) 3 [174, 175, 176] (fun _ => [(176, .bool (((((((((((((((((((decide ((0 : Int) = 0) && decide ((0 : Int) = 0)) && decide ((0 : Int) = 0)) && decide ((0 : Int) = 0)) && decide ((0 : Int) = 0)) && decide ((0 : Int) = 0)) && decide ((0 : Int) = 0)) && decide ((1 : Int) = 1)) && true) && decide ((2 : Int) = 2)) && true) && true) && true) && true) && !false) && true) && true) && true) && true) && !false))]) (fun _ w' => St w O w' [Ob.v (tSl (tP (tI .i64) (tI .i64))) (stepsV rP) v_22, .row (tP (tI .i64) (tI .i64)) 58 v_16 (forcedP rP), .row (tP (tI .i64) (tI .i64)) 58 v_7 (firstV rR)]) ?_ ?_
    · rcases Bool.eq_false_or_eq_true ((((((((((((((((((decide ((0 : Int) = 0) && decide ((0 : Int) = 0)) && decide ((0 : Int) = 0)) && decide ((0 : Int) = 0)) && decide ((0 : Int) = 0)) && decide ((0 : Int) = 0)) && decide ((0 : Int) = 0)) && decide ((1 : Int) = 1)) && true) && decide ((2 : Int) = 2)) && true) && true) && true) && true) && !false) && true) && true) && true) && true) with g_201 | g_201
      · -- True
        have gp_202 := g_201
        try simp only [Bool.and_eq_true, Bool.or_eq_true, Bool.not_eq_true', Bool.and_eq_false_iff, Bool.or_eq_false_iff, Bool.not_eq_false', decide_eq_true_eq, decide_eq_false_iff_not, not_or, Bool.false_eq_true, Bool.true_eq_false, false_or, or_false, not_false_eq_true] at gp_202
        refine Wx.gyes rfl rfl (congrArg Value.bool g_201) ?_
        refine Wx.rd (v := .bool false) (rd_move rfl) rfl ?_
        refine Wx.gyes rfl rfl (congrArg Value.bool g_201) ?_
        refine Wx.rd (v := .bool (!false)) (rd_not rfl) rfl ?_
        refine Wx.rd (v := .bool (!false)) (rd_pickT (congrArg Value.bool g_201) rfl) rfl ?_
        refine Wx.nil ⟨(), hS, ⟨?_, trivial⟩, Out.look rfl Out.refl⟩
        show Value.bool (!false) = Value.bool (((((((((((((((((((decide ((0 : Int) = 0) && decide ((0 : Int) = 0)) && decide ((0 : Int) = 0)) && decide ((0 : Int) = 0)) && decide ((0 : Int) = 0)) && decide ((0 : Int) = 0)) && decide ((0 : Int) = 0)) && decide ((1 : Int) = 1)) && true) && decide ((2 : Int) = 2)) && true) && true) && true) && true) && !false) && true) && true) && true) && true) && !false)
        rw [g_201]; rfl
      · -- False
        have gp_203 := g_201
        try simp only [Bool.and_eq_true, Bool.or_eq_true, Bool.not_eq_true', Bool.and_eq_false_iff, Bool.or_eq_false_iff, Bool.not_eq_false', decide_eq_true_eq, decide_eq_false_iff_not, not_or, Bool.false_eq_true, Bool.true_eq_false, false_or, or_false, not_false_eq_true] at gp_203
        refine Wx.gnoB rfl rfl (congrArg Value.bool g_201) rfl rfl ?_
        refine Wx.gnoB rfl rfl (congrArg Value.bool g_201) rfl rfl ?_
        refine Wx.rd (v := .bool false) (rd_pickF (congrArg Value.bool g_201) rfl) rfl ?_
        refine Wx.nil ⟨(), hS, ⟨?_, trivial⟩, Out.look rfl Out.refl⟩
        show Value.bool false = Value.bool (((((((((((((((((((decide ((0 : Int) = 0) && decide ((0 : Int) = 0)) && decide ((0 : Int) = 0)) && decide ((0 : Int) = 0)) && decide ((0 : Int) = 0)) && decide ((0 : Int) = 0)) && decide ((0 : Int) = 0)) && decide ((1 : Int) = 1)) && true) && decide ((2 : Int) = 2)) && true) && true) && true) && true) && !false) && true) && true) && true) && true) && !false)
        rw [g_201]; rfl
    rintro ⟨⟩ u_205 w_204 hS
    refine Wx.rd (v := .bool (((((((((((((((((((decide ((0 : Int) = 0) && decide ((0 : Int) = 0)) && decide ((0 : Int) = 0)) && decide ((0 : Int) = 0)) && decide ((0 : Int) = 0)) && decide ((0 : Int) = 0)) && decide ((0 : Int) = 0)) && decide ((1 : Int) = 1)) && true) && decide ((2 : Int) = 2)) && true) && true) && true) && true) && !false) && true) && true) && true) && true) && !false)) (rd_move rfl) rfl ?_
    refine Wx.cut (X := Unit) 5 [178, 179, 180, 181, 182] (fun _ => [(182, .bool ((((((((((((((((((((decide ((0 : Int) = 0) && decide ((0 : Int) = 0)) && decide ((0 : Int) = 0)) && decide ((0 : Int) = 0)) && decide ((0 : Int) = 0)) && decide ((0 : Int) = 0)) && decide ((0 : Int) = 0)) && decide ((1 : Int) = 1)) && true) && decide ((2 : Int) = 2)) && true) && true) && true) && true) && !false) && true) && true) && true) && true) && !false) && true))]) (fun _ w' => St w O w' [Ob.v (tSl (tP (tI .i64) (tI .i64))) (stepsV rP) v_22, .row (tP (tI .i64) (tI .i64)) 58 v_16 (forcedP rP), .row (tP (tI .i64) (tI .i64)) 58 v_7 (firstV rR)]) ?_ ?_
    · rcases Bool.eq_false_or_eq_true (((((((((((((((((((decide ((0 : Int) = 0) && decide ((0 : Int) = 0)) && decide ((0 : Int) = 0)) && decide ((0 : Int) = 0)) && decide ((0 : Int) = 0)) && decide ((0 : Int) = 0)) && decide ((0 : Int) = 0)) && decide ((1 : Int) = 1)) && true) && decide ((2 : Int) = 2)) && true) && true) && true) && true) && !false) && true) && true) && true) && true) && !false) with g_206 | g_206
      · -- True
        have gp_207 := g_206
        try simp only [Bool.and_eq_true, Bool.or_eq_true, Bool.not_eq_true', Bool.and_eq_false_iff, Bool.or_eq_false_iff, Bool.not_eq_false', decide_eq_true_eq, decide_eq_false_iff_not, not_or, Bool.false_eq_true, Bool.true_eq_false, false_or, or_false, not_false_eq_true] at gp_207
        refine Wx.gyes rfl rfl (congrArg Value.bool g_206) ?_
        refine Wx.lit (t := (tI .i64)) (ys := [0, 3, 1, 2]) (vs := [.int .i64 0, .int .i64 3, .int .i64 1, .int .i64 2]) elHm_60 hS rfl rfl ⟨(V.mkInt (in_i64 (by omega) (by omega))), ⟨(V.mkInt (in_i64 (by omega) (by omega))), ⟨(V.mkInt (in_i64 (by omega) (by omega))), ⟨(V.mkInt (in_i64 (by omega) (by omega))), trivial⟩⟩⟩⟩ (by decide) rfl (fun v_208 w_209 hx_210 hS => ?_)
        refine Wx.gyes rfl rfl (congrArg Value.bool g_206) ?_
        have hS := hS.freeze 0 rfl
        refine Wx.callF (run_callF Tryd.call48 rfl) (F48 (hS.v 0 rfl) (by decide) hS.fb_lt) rfl ?_
        rintro r_212 w_213 hx_214 ⟨_, rfl, hv_215⟩
        have hS := hS.pushFr hx_214 hv_215
        refine Wx.gyes rfl rfl (congrArg Value.bool g_206) ?_
        refine Wx.callF (run_callF Tryd.call19 rfl) (F19 (by first | assumption | (simp only [maxLen]; omega) | (simp only [ByteArray.size_extract, ByteArray.size_append, maxLen] at *; omega) | decide) (hS.lend 0 rfl) (hG.ext hS.bel)) rfl ?_
        rintro r_217 w_218 hx_219 rfl
        have hS := hS.ext hx_219
        refine Wx.gyes rfl rfl (congrArg Value.bool g_206) ?_
        refine Wx.rd (v := .bool true) (Rd.to (v := .bool (decide ((validE rP (pairsU [0, 3, 1, 2])) = 0))) (rd_eql rfl rfl) (congrArg (Value.bool) (show (true : Bool) = (decide ((validE rP (pairsU [0, 3, 1, 2])) = 0) : Bool) from (by decide +kernel)).symm)) rfl ?_
        refine Wx.rd (v := .bool true) (rd_pickT (congrArg Value.bool g_206) rfl) rfl ?_
        refine Wx.nil ⟨(), St.tl (hS.tl), ⟨?_, trivial⟩, Out.look rfl Out.refl⟩
        show Value.bool true = Value.bool ((((((((((((((((((((decide ((0 : Int) = 0) && decide ((0 : Int) = 0)) && decide ((0 : Int) = 0)) && decide ((0 : Int) = 0)) && decide ((0 : Int) = 0)) && decide ((0 : Int) = 0)) && decide ((0 : Int) = 0)) && decide ((1 : Int) = 1)) && true) && decide ((2 : Int) = 2)) && true) && true) && true) && true) && !false) && true) && true) && true) && true) && !false) && true)
        rw [g_206]; rfl
      · -- False
        have gp_220 := g_206
        try simp only [Bool.and_eq_true, Bool.or_eq_true, Bool.not_eq_true', Bool.and_eq_false_iff, Bool.or_eq_false_iff, Bool.not_eq_false', decide_eq_true_eq, decide_eq_false_iff_not, not_or, Bool.false_eq_true, Bool.true_eq_false, false_or, or_false, not_false_eq_true] at gp_220
        refine Wx.gnoB rfl rfl (congrArg Value.bool g_206) rfl rfl ?_
        refine Wx.gnoB rfl rfl (congrArg Value.bool g_206) rfl rfl ?_
        refine Wx.gnoB rfl rfl (congrArg Value.bool g_206) rfl rfl ?_
        refine Wx.gnoB rfl rfl (congrArg Value.bool g_206) rfl rfl ?_
        refine Wx.rd (v := .bool false) (rd_pickF (congrArg Value.bool g_206) rfl) rfl ?_
        refine Wx.nil ⟨(), hS, ⟨?_, trivial⟩, Out.look rfl Out.refl⟩
        show Value.bool false = Value.bool ((((((((((((((((((((decide ((0 : Int) = 0) && decide ((0 : Int) = 0)) && decide ((0 : Int) = 0)) && decide ((0 : Int) = 0)) && decide ((0 : Int) = 0)) && decide ((0 : Int) = 0)) && decide ((0 : Int) = 0)) && decide ((1 : Int) = 1)) && true) && decide ((2 : Int) = 2)) && true) && true) && true) && true) && !false) && true) && true) && true) && true) && !false) && true)
        rw [g_206]; rfl
    rintro ⟨⟩ u_222 w_221 hS
    refine Wx.rd (v := .bool ((((((((((((((((((((decide ((0 : Int) = 0) && decide ((0 : Int) = 0)) && decide ((0 : Int) = 0)) && decide ((0 : Int) = 0)) && decide ((0 : Int) = 0)) && decide ((0 : Int) = 0)) && decide ((0 : Int) = 0)) && decide ((1 : Int) = 1)) && true) && decide ((2 : Int) = 2)) && true) && true) && true) && true) && !false) && true) && true) && true) && true) && !false) && true)) (rd_move rfl) rfl ?_
    refine Wx.cut (X := Unit) 5 [184, 185, 186, 187, 188] (fun _ => [(188, .bool (((((((((((((((((((((decide ((0 : Int) = 0) && decide ((0 : Int) = 0)) && decide ((0 : Int) = 0)) && decide ((0 : Int) = 0)) && decide ((0 : Int) = 0)) && decide ((0 : Int) = 0)) && decide ((0 : Int) = 0)) && decide ((1 : Int) = 1)) && true) && decide ((2 : Int) = 2)) && true) && true) && true) && true) && !false) && true) && true) && true) && true) && !false) && true) && true))]) (fun _ w' => St w O w' [Ob.v (tSl (tP (tI .i64) (tI .i64))) (stepsV rP) v_22, .row (tP (tI .i64) (tI .i64)) 58 v_16 (forcedP rP), .row (tP (tI .i64) (tI .i64)) 58 v_7 (firstV rR)]) ?_ ?_
    · rcases Bool.eq_false_or_eq_true ((((((((((((((((((((decide ((0 : Int) = 0) && decide ((0 : Int) = 0)) && decide ((0 : Int) = 0)) && decide ((0 : Int) = 0)) && decide ((0 : Int) = 0)) && decide ((0 : Int) = 0)) && decide ((0 : Int) = 0)) && decide ((1 : Int) = 1)) && true) && decide ((2 : Int) = 2)) && true) && true) && true) && true) && !false) && true) && true) && true) && true) && !false) && true) with g_223 | g_223
      · -- True
        have gp_224 := g_223
        try simp only [Bool.and_eq_true, Bool.or_eq_true, Bool.not_eq_true', Bool.and_eq_false_iff, Bool.or_eq_false_iff, Bool.not_eq_false', decide_eq_true_eq, decide_eq_false_iff_not, not_or, Bool.false_eq_true, Bool.true_eq_false, false_or, or_false, not_false_eq_true] at gp_224
        refine Wx.gyes rfl rfl (congrArg Value.bool g_223) ?_
        refine Wx.lit (t := (tI .i64)) (ys := [0, 2, 1, 3]) (vs := [.int .i64 0, .int .i64 2, .int .i64 1, .int .i64 3]) elHm_60 hS rfl rfl ⟨(V.mkInt (in_i64 (by omega) (by omega))), ⟨(V.mkInt (in_i64 (by omega) (by omega))), ⟨(V.mkInt (in_i64 (by omega) (by omega))), ⟨(V.mkInt (in_i64 (by omega) (by omega))), trivial⟩⟩⟩⟩ (by decide) rfl (fun v_225 w_226 hx_227 hS => ?_)
        refine Wx.gyes rfl rfl (congrArg Value.bool g_223) ?_
        have hS := hS.freeze 0 rfl
        refine Wx.callF (run_callF Tryd.call48 rfl) (F48 (hS.v 0 rfl) (by decide) hS.fb_lt) rfl ?_
        rintro r_229 w_230 hx_231 ⟨_, rfl, hv_232⟩
        have hS := hS.pushFr hx_231 hv_232
        refine Wx.gyes rfl rfl (congrArg Value.bool g_223) ?_
        refine Wx.callF (run_callF Tryd.call19 rfl) (F19 (by first | assumption | (simp only [maxLen]; omega) | (simp only [ByteArray.size_extract, ByteArray.size_append, maxLen] at *; omega) | decide) (hS.lend 0 rfl) (hG.ext hS.bel)) rfl ?_
        rintro r_234 w_235 hx_236 rfl
        have hS := hS.ext hx_236
        refine Wx.gyes rfl rfl (congrArg Value.bool g_223) ?_
        refine Wx.rd (v := .bool true) (Rd.to (v := .bool (decide ((validE rQ (pairsU [0, 2, 1, 3])) = 5))) (rd_eql rfl rfl) (congrArg (Value.bool) (show (true : Bool) = (decide ((validE rQ (pairsU [0, 2, 1, 3])) = 5) : Bool) from (by decide +kernel)).symm)) rfl ?_
        refine Wx.rd (v := .bool true) (rd_pickT (congrArg Value.bool g_223) rfl) rfl ?_
        refine Wx.nil ⟨(), St.tl (hS.tl), ⟨?_, trivial⟩, Out.look rfl Out.refl⟩
        show Value.bool true = Value.bool (((((((((((((((((((((decide ((0 : Int) = 0) && decide ((0 : Int) = 0)) && decide ((0 : Int) = 0)) && decide ((0 : Int) = 0)) && decide ((0 : Int) = 0)) && decide ((0 : Int) = 0)) && decide ((0 : Int) = 0)) && decide ((1 : Int) = 1)) && true) && decide ((2 : Int) = 2)) && true) && true) && true) && true) && !false) && true) && true) && true) && true) && !false) && true) && true)
        rw [g_223]; rfl
      · -- False
        have gp_237 := g_223
        try simp only [Bool.and_eq_true, Bool.or_eq_true, Bool.not_eq_true', Bool.and_eq_false_iff, Bool.or_eq_false_iff, Bool.not_eq_false', decide_eq_true_eq, decide_eq_false_iff_not, not_or, Bool.false_eq_true, Bool.true_eq_false, false_or, or_false, not_false_eq_true] at gp_237
        refine Wx.gnoB rfl rfl (congrArg Value.bool g_223) rfl rfl ?_
        refine Wx.gnoB rfl rfl (congrArg Value.bool g_223) rfl rfl ?_
        refine Wx.gnoB rfl rfl (congrArg Value.bool g_223) rfl rfl ?_
        refine Wx.gnoB rfl rfl (congrArg Value.bool g_223) rfl rfl ?_
        refine Wx.rd (v := .bool false) (rd_pickF (congrArg Value.bool g_223) rfl) rfl ?_
        refine Wx.nil ⟨(), hS, ⟨?_, trivial⟩, Out.look rfl Out.refl⟩
        show Value.bool false = Value.bool (((((((((((((((((((((decide ((0 : Int) = 0) && decide ((0 : Int) = 0)) && decide ((0 : Int) = 0)) && decide ((0 : Int) = 0)) && decide ((0 : Int) = 0)) && decide ((0 : Int) = 0)) && decide ((0 : Int) = 0)) && decide ((1 : Int) = 1)) && true) && decide ((2 : Int) = 2)) && true) && true) && true) && true) && !false) && true) && true) && true) && true) && !false) && true) && true)
        rw [g_223]; rfl
    rintro ⟨⟩ u_239 w_238 hS
    refine Wx.rd (v := .bool (((((((((((((((((((((decide ((0 : Int) = 0) && decide ((0 : Int) = 0)) && decide ((0 : Int) = 0)) && decide ((0 : Int) = 0)) && decide ((0 : Int) = 0)) && decide ((0 : Int) = 0)) && decide ((0 : Int) = 0)) && decide ((1 : Int) = 1)) && true) && decide ((2 : Int) = 2)) && true) && true) && true) && true) && !false) && true) && true) && true) && true) && !false) && true) && true)) (rd_assign rfl) rfl ?_
    refine Wx.nil ?_
    have e1_0 : (((((((((((((((((((((decide ((0 : Int) = 0) && decide ((0 : Int) = 0)) && decide ((0 : Int) = 0)) && decide ((0 : Int) = 0)) && decide ((0 : Int) = 0)) && decide ((0 : Int) = 0)) && decide ((0 : Int) = 0)) && decide ((1 : Int) = 1)) && true) && decide ((2 : Int) = 2)) && true) && true) && true) && true) && !false) && true) && true) && true) && true) && !false) && true) && true) = true := by first | rfl | omega
    exact W.ret ⟨.bool (((((((((((((((((((((decide ((0 : Int) = 0) && decide ((0 : Int) = 0)) && decide ((0 : Int) = 0)) && decide ((0 : Int) = 0)) && decide ((0 : Int) = 0)) && decide ((0 : Int) = 0)) && decide ((0 : Int) = 0)) && decide ((1 : Int) = 1)) && true) && decide ((2 : Int) = 2)) && true) && true) && true) && true) && !false) && true) && true) && true) && true) && !false) && true) && true), ResIs.one, hS.bel, (by rw [e1_0])⟩
end Go.Proofs.YtokdjjebnomciaaDoor

namespace Go.Proofs.YtokdjjebnomciaaDoor
open Go.Wk Go.RowKit Go.Lib
set_option linter.unusedVariables false
set_option linter.unusedSimpArgs false
theorem foHs_43_1 : fldOff Tryd.prog 43 1 = some 1 := by kernel_rfl
theorem foHs_43_2 : fldOff Tryd.prog 43 2 = some 2 := by kernel_rfl
theorem foHs_43_0 : fldOff Tryd.prog 43 0 = some 0 := by kernel_rfl

set_option maxHeartbeats 2000000 in
theorem F44 {e : Int} {kd : Int} {x0 : Int} {x1 : Int} {x2 : Int} {x3 : Int} {x4 : Int} {x5 : Int} {x6 : Int} {x7 : Int} {x8 : Int} {x9 : Int} {x10 : Int} {x11 : Int} {most : Int} {w : World} (i_e : InK .u8 e) (i_kd : InK .u8 kd) (i_x0 : InK .u8 x0) (i_x1 : InK .u8 x1) (i_x2 : InK .u8 x2) (i_x3 : InK .u8 x3) (i_x4 : InK .u8 x4) (i_x5 : InK .u8 x5) (i_x6 : InK .u8 x6) (i_x7 : InK .u8 x7) (i_x8 : InK .u8 x8) (i_x9 : InK .u8 x9) (i_x10 : InK .u8 x10) (i_x11 : InK .u8 x11) (i_most : InK .i64 most) (p_m : 0 ≤ most) (p_12 : most ≤ 12) : Calls Tryd.prog 44 #[.agg #[.int .u8 e, .int .u8 kd, .int .u8 x0, .int .u8 x1, .int .u8 x2, .int .u8 x3, .int .u8 x4, .int .u8 x5, .int .u8 x6, .int .u8 x7, .int .u8 x8, .int .u8 x9, .int .u8 x10, .int .u8 x11], .int .i64 most] w (Ret w (fun r _ => r = .string (madeS e kd [x0, x1, x2, x3, x4, x5, x6, x7, x8, x9, x10, x11] most))) := by
  have b_most := bd_i64 i_most
  have b_x11 := bd_u8 i_x11
  have b_x10 := bd_u8 i_x10
  have b_x9 := bd_u8 i_x9
  have b_x8 := bd_u8 i_x8
  have b_x7 := bd_u8 i_x7
  have b_x6 := bd_u8 i_x6
  have b_x5 := bd_u8 i_x5
  have b_x4 := bd_u8 i_x4
  have b_x3 := bd_u8 i_x3
  have b_x2 := bd_u8 i_x2
  have b_x1 := bd_u8 i_x1
  have b_x0 := bd_u8 i_x0
  have b_kd := bd_u8 i_kd
  have b_e := bd_u8 i_e
  have he0 := Int.emod_nonneg e (show most + 1 ≠ 0 by omega)
  have he1 := Int.emod_lt_of_pos e (show 0 < most + 1 by omega)
  have hk0 : 1 ≤ (1 + kd % 3) ∧ (1 + kd % 3) ≤ 3 := ⟨by omega, by omega⟩
  have hzl : (((([x0, x1, x2, x3, x4, x5, x6, x7, x8, x9, x10, x11] : List Int).take (e % (most + 1)).toNat)).length : Int) ≤ 12 := by rw [List.length_take]; simp; omega
  have hS := St.start0 w
  refine enterR Tryd.func44 rfl Tryd.ntmps44 Tryd.results44 rfl ?_
  refine W.seq ?_
  refine W.reg ?_
  refine Wx.box (cs := [.int .u8 e, .int .u8 kd, .int .u8 x0, .int .u8 x1, .int .u8 x2, .int .u8 x3, .int .u8 x4, .int .u8 x5, .int .u8 x6, .int .u8 x7, .int .u8 x8, .int .u8 x9, .int .u8 x10, .int .u8 x11]) hS rfl rfl rfl (fun g_1 w_2 hx_4 hb_3 hS => ?_)
  refine Wx.rd (v := .string ({ data := #[] } : ByteArray)) (rd_assign rfl) rfl ?_
  refine Wx.nil ?_
  refine W.seq ?_
  refine W.reg ?_
  refine Wx.rd (v := .pointer (some ⟨g_1, 1, none⟩)) (rd_fieldAddr rfl foHs_43_1) rfl ?_
  refine Wx.rd (v := .int .u8 kd) (rd_loadX hS 0 rfl rfl rfl Tryd.isAgg5) rfl ?_
  refine Wx.rd (v := .int .i64 kd) (rd_convIn rfl Tryd.underlying5 Tryd.underlying3 (in_i64 (by omega) (by omega))) rfl ?_
  refine Wx.rd (v := .int .i64 (kd % 3)) (rd_rem rfl rfl (by omega) (by omega)) rfl ?_
  refine Wx.rd (v := .int .i64 (1 + (kd % 3))) (rd_add rfl rfl (in_i64 (by omega) (by omega))) rfl ?_
  refine Wx.rd (v := .int .i64 (1 + (kd % 3))) (rd_assign rfl) rfl ?_
  refine Wx.nil ?_
  refine W.seq ?_
  refine W.reg ?_
  refine Wx.rd (v := .string ({ data := #[] } : ByteArray)) (rd_assign rfl) rfl ?_
  refine Wx.nil ?_
  refine W.seq ?_
  refine W.seq ?_
  refine W.reg ?_
  refine Wx.rd (v := .pointer (some ⟨g_1, 2, none⟩)) (rd_fieldAddr rfl foHs_43_2) rfl ?_
  refine Wx.rd (v := .pointer (some ⟨g_1, 0, none⟩)) (rd_fieldAddr rfl foHs_43_0) rfl ?_
  refine Wx.rd (v := .int .u8 e) (rd_loadX hS 0 rfl rfl rfl Tryd.isAgg5) rfl ?_
  refine Wx.rd (v := .int .i64 e) (rd_convIn rfl Tryd.underlying5 Tryd.underlying3 (in_i64 (by omega) (by omega))) rfl ?_
  refine Wx.rd (v := .int .i64 most) (rd_move rfl) rfl ?_
  refine Wx.rd (v := .int .i64 (most + 1)) (rd_add rfl rfl (in_i64 (by omega) (by omega))) rfl ?_
  refine Wx.rd (v := .int .i64 (e % (most + 1))) (rd_rem rfl rfl (by omega) (by omega)) rfl ?_
  refine Wx.rd (v := (.slice (some ⟨g_1, 2, none⟩) (e % (most + 1)).toNat 12)) (rd_sliceArrH (m := 12) Tryd.underlying41 Tryd.sizeOf5 rfl rfl (by omega) (by omega)) rfl ?_
  have hS := hS.sliceBox (o := 2) (k := .u8) (m := (e % (most + 1)).toNat) (xs := ([x0, x1, x2, x3, x4, x5, x6, x7, x8, x9, x10, x11] : List Int).take (e % (most + 1)).toNat) (cap := 12) 0 rfl (by exact take_map_take (Value.int .u8) [x0, x1, x2, x3, x4, x5, x6, x7, x8, x9, x10, x11] _) (fun x hx => by have hx := List.mem_of_mem_take hx; simp only [List.mem_cons, List.not_mem_nil, or_false] at hx; rcases hx with rfl | rfl | rfl | rfl | rfl | rfl | rfl | rfl | rfl | rfl | rfl | rfl <;> assumption) (by simp; omega) (by omega) (by decide)
  refine Wx.rd (v := .int .i64 ((([x0, x1, x2, x3, x4, x5, x6, x7, x8, x9, x10, x11] : List Int).take (e % (most + 1)).toNat).length : Int)) (rd_lenV rfl (hS.v 0 rfl) Tryd.underlying102) rfl ?_
  refine Wx.rd (v := .int .i64 0) (rd_move rfl) rfl ?_
  refine Wx.nil ?_
  refine W.block ?_
  refine W.loop [6, 8, 9, 24, 25, 26, 27, 28, 29, 30, 31, 32, 33, 34, 35, 36, 37, 38, 39] (fun x : ByteArray × Int => match x with | (out, j) => [(6, .string out), (24, .int .i64 j)]) (fun (x : ByteArray × Int) w' => match x with | (out, j) => St w [] w' [Ob.v (tSl (tI .u8)) (([x0, x1, x2, x3, x4, x5, x6, x7, x8, x9, x10, x11] : List Int).take (e % (most + 1)).toNat) (.slice (some ⟨g_1, 2, none⟩) (e % (most + 1)).toNat 12)] ∧ 0 ≤ j ∧ j ≤ ((([x0, x1, x2, x3, x4, x5, x6, x7, x8, x9, x10, x11] : List Int).take (e % (most + 1)).toNat)).length ∧ out = mkB ((((([x0, x1, x2, x3, x4, x5, x6, x7, x8, x9, x10, x11] : List Int).take (e % (most + 1)).toNat)).take j.toNat).map (letK (1 + kd % 3)))) (fun x : ByteArray × Int => match x with | (out, j) => (((([x0, x1, x2, x3, x4, x5, x6, x7, x8, x9, x10, x11] : List Int).take (e % (most + 1)).toNat)).length - j).toNat) (({ data := #[] } : ByteArray), 0) ⟨rfl, rfl, trivial⟩ ⟨hS, (by first | omega | simp), (by first | omega | simp), (rfl)⟩ ?_
  rintro ⟨out, j⟩ u_7 w_6 ⟨hS, h0, h1, h2⟩
  refine W.seq ?_
  refine W.reg ?_
  refine Wx.rd (v := .bool (decide (j < ((([x0, x1, x2, x3, x4, x5, x6, x7, x8, x9, x10, x11] : List Int).take (e % (most + 1)).toNat).length : Int)))) (rd_lss rfl rfl) rfl ?_
  refine Wx.nil ?_
  refine W.seq ?_
  refine W.condD rfl (fun c0 => ?_) (fun c0 => ?_)
  · -- yes
    refine W.skip ?_
    refine W.seq ?_
    refine W.block ?_
    refine W.seq ?_
    refine W.reg ?_
    refine Wx.ex (rd_index 0 (hS.v 0 rfl) rfl rfl Tryd.underlying102 Tryd.sizeOf5 (by first | omega | (simp only [List.length_set, List.length_append, List.length_cons, List.length_nil, List.length_replicate]; omega)) (by first | omega | (simp only [List.length_set, List.length_append, List.length_cons, List.length_nil, List.length_replicate]; omega))) rfl (fun p_8 hp_9 => ?_)
    refine Wx.rd (v := .int .u8 (ix 0 (([x0, x1, x2, x3, x4, x5, x6, x7, x8, x9, x10, x11] : List Int).take (e % (most + 1)).toNat) j)) (rd_loadI hp_9 rfl Tryd.isAgg5 Tryd.sizeOf5) rfl ?_
    have bd_10 := bd_u8 hp_9.inK
    refine Wx.rd (v := .int .u8 (ix 0 (([x0, x1, x2, x3, x4, x5, x6, x7, x8, x9, x10, x11] : List Int).take (e % (most + 1)).toNat) j)) (rd_assign rfl) rfl ?_
    refine Wx.nil ?_
    refine W.seq ?_
    refine W.reg ?_
    refine Wx.rd (v := .int .u8 (ix 0 (([x0, x1, x2, x3, x4, x5, x6, x7, x8, x9, x10, x11] : List Int).take (e % (most + 1)).toNat) j)) (rd_move rfl) rfl ?_
    refine Wx.rd (v := .int .i64 (ix 0 (([x0, x1, x2, x3, x4, x5, x6, x7, x8, x9, x10, x11] : List Int).take (e % (most + 1)).toNat) j)) (rd_convIn rfl Tryd.underlying5 Tryd.underlying3 (in_i64 (by omega) (by omega))) rfl ?_
    refine Wx.rd (v := .int .i64 (1 + (kd % 3))) (rd_move rfl) rfl ?_
    refine Wx.rd (v := .int .i64 (2 * (1 + (kd % 3)))) (rd_mul rfl rfl (in_i64 (by omega) (by omega))) rfl ?_
    refine Wx.rd (v := .int .i64 ((ix 0 (([x0, x1, x2, x3, x4, x5, x6, x7, x8, x9, x10, x11] : List Int).take (e % (most + 1)).toNat) j) % (2 * (1 + (kd % 3))))) (rd_rem rfl rfl (by omega) (by omega)) rfl ?_
    refine Wx.rd (v := .int .i64 ((ix 0 (([x0, x1, x2, x3, x4, x5, x6, x7, x8, x9, x10, x11] : List Int).take (e % (most + 1)).toNat) j) % (2 * (1 + (kd % 3))))) (rd_assign rfl) rfl ?_
    refine Wx.nil ?_
    refine W.reg ?_
    have hq0 := Int.emod_nonneg (ix 0 (([x0, x1, x2, x3, x4, x5, x6, x7, x8, x9, x10, x11] : List Int).take (e % (most + 1)).toNat) j) (b := 2 * (1 + kd % 3)) (by omega)
    have hq1 := Int.emod_lt_of_pos (ix 0 (([x0, x1, x2, x3, x4, x5, x6, x7, x8, x9, x10, x11] : List Int).take (e % (most + 1)).toNat) j) (b := 2 * (1 + kd % 3)) (by omega)
    have h6 : (sixS.size : Int) = 6 := rfl
    have hos : (out.size : Int) = j := by rw [h2, mkB_size, List.length_map, List.length_take]; omega
    refine Wx.rd (v := .string out) (rd_move rfl) rfl ?_
    refine Wx.rd (v := .int .i64 ((ix 0 (([x0, x1, x2, x3, x4, x5, x6, x7, x8, x9, x10, x11] : List Int).take (e % (most + 1)).toNat) j) % (2 * (1 + (kd % 3))))) (rd_move rfl) rfl ?_
    refine Wx.rd (v := .int .i64 ((ix 0 (([x0, x1, x2, x3, x4, x5, x6, x7, x8, x9, x10, x11] : List Int).take (e % (most + 1)).toNat) j) % (2 * (1 + (kd % 3))))) (rd_move rfl) rfl ?_
    refine Wx.rd (v := .int .i64 (((ix 0 (([x0, x1, x2, x3, x4, x5, x6, x7, x8, x9, x10, x11] : List Int).take (e % (most + 1)).toNat) j) % (2 * (1 + (kd % 3)))) + 1)) (rd_add rfl rfl (in_i64 (by omega) (by omega))) rfl ?_
    refine Wx.rd (v := .string ((sixS).extract ((ix 0 (([x0, x1, x2, x3, x4, x5, x6, x7, x8, x9, x10, x11] : List Int).take (e % (most + 1)).toNat) j) % (2 * (1 + (kd % 3)))).toNat (((ix 0 (([x0, x1, x2, x3, x4, x5, x6, x7, x8, x9, x10, x11] : List Int).take (e % (most + 1)).toNat) j) % (2 * (1 + (kd % 3)))) + 1).toNat)) (rd_sliceS_LH Tryd.underlying9 rfl rfl rfl (by omega) (by omega) (by omega)) rfl ?_
    refine Wx.rd (v := .string (out ++ ((sixS).extract ((ix 0 (([x0, x1, x2, x3, x4, x5, x6, x7, x8, x9, x10, x11] : List Int).take (e % (most + 1)).toNat) j) % (2 * (1 + (kd % 3)))).toNat (((ix 0 (([x0, x1, x2, x3, x4, x5, x6, x7, x8, x9, x10, x11] : List Int).take (e % (most + 1)).toNat) j) % (2 * (1 + (kd % 3)))) + 1).toNat))) (rd_addS rfl rfl (by rw [ByteArray.size_extract]; omega)) rfl ?_
    refine Wx.rd (v := .string (out ++ ((sixS).extract ((ix 0 (([x0, x1, x2, x3, x4, x5, x6, x7, x8, x9, x10, x11] : List Int).take (e % (most + 1)).toNat) j) % (2 * (1 + (kd % 3)))).toNat (((ix 0 (([x0, x1, x2, x3, x4, x5, x6, x7, x8, x9, x10, x11] : List Int).take (e % (most + 1)).toNat) j) % (2 * (1 + (kd % 3)))) + 1).toNat))) (rd_assign rfl) rfl ?_
    refine Wx.nil ?_
    refine W.reg ?_
    refine Wx.rd (v := .int .i64 (j + 1)) (rd_add rfl rfl (in_i64 (by omega) (by omega))) rfl ?_
    refine Wx.rd (v := .int .i64 (j + 1)) (rd_move rfl) rfl ?_
    refine Wx.nil ?_
    refine ⟨(out ++ ((sixS).extract ((ix 0 (([x0, x1, x2, x3, x4, x5, x6, x7, x8, x9, x10, x11] : List Int).take (e % (most + 1)).toNat) j) % (2 * (1 + (kd % 3)))).toNat (((ix 0 (([x0, x1, x2, x3, x4, x5, x6, x7, x8, x9, x10, x11] : List Int).take (e % (most + 1)).toNat) j) % (2 * (1 + (kd % 3)))) + 1).toNat), j + 1), (by show (((([x0, x1, x2, x3, x4, x5, x6, x7, x8, x9, x10, x11] : List Int).take (e % (most + 1)).toNat)).length - (j + 1)).toNat < (((([x0, x1, x2, x3, x4, x5, x6, x7, x8, x9, x10, x11] : List Int).take (e % (most + 1)).toNat)).length - j).toNat; omega), ?_, ?_, Out.look rfl Out.self⟩
    · exact ⟨hS, (by first | omega | assumption), (by first | omega | assumption), (by rw [take_ix (d := 0) h0 c0, List.map_append, ← mkB_app, ← h2, mkB_one hq0 (by omega)]; rfl)⟩
    · exact ⟨rfl, rfl, trivial⟩
  · -- no
    refine W.exit rfl ?_
    refine W.seq ?_
    refine W.reg ?_
    refine Wx.rd (v := .string out) (rd_move rfl) rfl ?_
    refine Wx.rd (v := .string out) (rd_assign rfl) rfl ?_
    refine Wx.nil ?_
    have e0_0 : (madeS e kd [x0, x1, x2, x3, x4, x5, x6, x7, x8, x9, x10, x11] most) = out := by rw [h2, madeS, List.take_of_length_le (i := j.toNat) (by omega)]
    exact W.ret ⟨.string out, ResIs.one, hS.bel, (by rw [e0_0])⟩
end Go.Proofs.YtokdjjebnomciaaDoor

namespace Go.Proofs.YtokdjjebnomciaaDoor
open Go.Wk Go.RowKit Go.Lib
set_option linter.unusedVariables false
set_option linter.unusedSimpArgs false
theorem mixedHq_ : Tryd.prog.follows .mixedOrders = true := by kernel_rfl
theorem elHq_60 : ElemI Tryd.prog 60 3 (.int .i64 0) 1 8 := ElemI.of Tryd.underlying60 (by kernel_rfl) (by first | rfl | kernel_rfl) (by decide)

theorem F58 {a : Int} {b : Int} {w : World} (i_a : InK .u8 a) (i_b : InK .u8 b) : Calls Tryd.prog 58 #[.int .u8 a, .int .u8 b] w (Ret w (fun r _ => r = .bool (fitC a b))) := by
  have b_b := bd_u8 i_b
  have b_a := bd_u8 i_a
  have hS := St.start0 w
  refine enterR Tryd.func58 rfl Tryd.ntmps58 Tryd.results58 rfl ?_
  refine W.seq ?_
  refine W.reg ?_
  refine Wx.rd (v := .bool false) (rd_assign rfl) rfl ?_
  refine Wx.nil ?_
  refine W.seq ?_
  refine W.reg ?_
  refine Wx.rd (v := .int .u8 a) (rd_move rfl) rfl ?_
  refine Wx.rd (v := .int .u8 b) (rd_move rfl) rfl ?_
  refine Wx.rd (v := .int .u8 (max a b)) (rd_max rfl rfl) rfl ?_
  refine Wx.rd (v := .int .u8 a) (rd_move rfl) rfl ?_
  refine Wx.rd (v := .int .u8 b) (rd_move rfl) rfl ?_
  refine Wx.rd (v := .int .u8 (min a b)) (rd_min rfl rfl) rfl ?_
  refine Wx.rd (v := .int .u8 ((max a b) - (min a b))) (rd_sub rfl rfl (in_u8 (by omega) (by omega))) rfl ?_
  refine Wx.rd (v := .bool (decide (((max a b) - (min a b)) = 32))) (rd_eql rfl rfl) rfl ?_
  refine Wx.rd (v := .bool (decide (((max a b) - (min a b)) = 32))) (rd_assign rfl) rfl ?_
  refine Wx.nil ?_
  have e0_0 : (fitC a b) = (decide (((max a b) - (min a b)) = 32)) := by rw [fitC]; exact decide_eq_decide.2 ⟨fun h => by omega, fun h => by omega⟩
  exact W.ret ⟨.bool (decide (((max a b) - (min a b)) = 32)), ResIs.one, hS.bel, (by rw [e0_0])⟩

theorem F81 {s : ByteArray} {n : Int} {w : World} (s_s : s.size ≤ maxLen) (i_n : InK .i64 n) (p_n : 0 ≤ n) (p_s : (s.size : Int) ≤ 100) : Calls Tryd.prog 81 #[.string s, .int .i64 n] w (Ret w (fun r _ => r = .tuple #[.string (lessS s n), .bool (decide (atsL s ≠ []))])) := by
  have b_n := bd_i64 i_n
  have hS := St.start0 w
  refine enterR Tryd.func81 rfl Tryd.ntmps81 Tryd.results81 rfl ?_
  refine W.seq ?_
  refine W.reg ?_
  refine Wx.rd (v := .string ({ data := #[] } : ByteArray)) (rd_assign rfl) rfl ?_
  refine Wx.rd (v := .bool false) (rd_assign rfl) rfl ?_
  refine Wx.nil ?_
  refine W.seq ?_
  refine W.reg ?_
  refine Wx.rd (v := (.slice none 0 0)) (rd_assign rfl) rfl ?_
  refine Wx.nil ?_
  refine W.seq ?_
  refine W.seq ?_
  refine W.reg ?_
  refine Wx.rd (v := .int .i64 0) (rd_assign rfl) rfl ?_
  refine Wx.nil ?_
  refine W.block ?_
  have hS := hS.addNil (tI .i64) 3
  refine W.loop [6, 7, 9, 10, 11, 12, 13, 14, 15, 16, 17, 18, 19, 20, 21, 22, 23, 24, 25, 26, 27] (fun x : Int × Value × (List Int) => match x with | (i, ov, out) => [(7, .int .i64 i), (6, ov)]) (fun (x : Int × Value × (List Int)) w' => match x with | (i, ov, out) => St w [] w' [.row (tI .i64) 3 ov out] ∧ 0 ≤ i ∧ (i + 1 ≤ s.size ∨ i = 0) ∧ out = (rng 0 i).filter (fun i => fitR s i (i + 1)) ∧ (out.length : Int) ≤ i) (fun x : Int × Value × (List Int) => match x with | (i, ov, out) => (s.size - i).toNat) (0, (.slice none 0 0), []) ⟨rfl, rfl, trivial⟩ ⟨hS, (by first | omega | simp), (by first | omega | simp), (rfl), (Int.le_refl 0)⟩ ?_
  rintro ⟨i, ov, out⟩ u_2 w_1 ⟨hS, h0, h1, h2, h3⟩
  refine W.seq ?_
  refine W.seq ?_
  refine W.reg ?_
  refine Wx.rd (v := .int .i64 i) (rd_move rfl) rfl ?_
  refine Wx.rd (v := .int .i64 (i + 1)) (rd_add rfl rfl (in_i64 (by omega) (by omega))) rfl ?_
  refine Wx.rd (v := .string s) (rd_move rfl) rfl ?_
  refine Wx.rd (v := .int .i64 (s.size : Int)) (rd_lenS rfl Tryd.underlying9) rfl ?_
  refine Wx.rd (v := .bool (decide ((i + 1) < (s.size : Int)))) (rd_lss rfl rfl) rfl ?_
  refine Wx.nil ?_
  refine W.condD rfl (fun c0 => ?_) (fun c0 => ?_)
  · -- yes
    refine W.skip ?_
    refine W.seq ?_
    refine W.block ?_
    refine W.seq ?_
    refine W.regQ mixedHq_ (by kernel_rfl) ?_
    refine Wx.rd (v := .string s) (rd_move rfl) rfl ?_
    refine Wx.rd (v := .int .i64 i) (rd_move rfl) rfl ?_
    refine Wx.rd (v := .int .u8 (tabAt s i)) (rd_indexS' (by kernel_rfl) rfl Tryd.underlying9 (by omega) (by omega)) rfl ?_
    have bd_3 := tabAt_bd s i
    refine Wx.rd (v := .string s) (rd_move rfl) rfl ?_
    refine Wx.rd (v := .int .i64 i) (rd_move rfl) rfl ?_
    refine Wx.rd (v := .int .i64 (i + 1)) (rd_add rfl rfl (in_i64 (by omega) (by omega))) rfl ?_
    refine Wx.rd (v := .int .u8 (tabAt s (i + 1))) (rd_indexS' (by kernel_rfl) rfl Tryd.underlying9 (by omega) (by omega)) rfl ?_
    have bd_4 := tabAt_bd s (i + 1)
    refine Wx.callV (v := .bool (fitC (tabAt s i) (tabAt s (i + 1)))) (run_callF Tryd.call58 rfl) (fun w_5 hw_6 => (F58 (in_u8 (by omega) (by omega)) (in_u8 (by omega) (by omega)))) rfl ?_
    refine Wx.nilQ (fun w_7 hx_8 => ?_)
    have hS := hS.ext hx_8
    refine W.cond rfl (fun c1 => ?_) (fun c1 => ?_)
    · -- yes
      try simp only [Bool.and_eq_true, Bool.or_eq_true, Bool.not_eq_true', Bool.and_eq_false_iff, Bool.or_eq_false_iff, Bool.not_eq_false', decide_eq_true_eq, decide_eq_false_iff_not, not_or, Bool.false_eq_true, Bool.true_eq_false, false_or, or_false, not_false_eq_true] at c1
      refine W.reg ?_
      refine Wx.rd (v := ov) (rd_move rfl) rfl ?_
      refine Wx.rd (v := .int .i64 i) (rd_move rfl) rfl ?_
      refine Wx.lit (t := (tI .i64)) (ys := [i]) (vs := [.int .i64 i]) elHq_60 hS rfl rfl ⟨(V.mkInt (in_i64 (by omega) (by omega))), trivial⟩ (by decide) rfl (fun v_9 w_10 hx_11 hS => ?_)
      refine Wx.append elHq_60 hS 1 rfl rfl rfl (Src.ofR hS 0 rfl) (by simp only [maxLen]; simp; omega) (by simp; omega) rfl (fun v_12 w_13 hz_14 hS => ?_)
      refine Wx.rd (v := v_12) (rd_assign rfl) rfl ?_
      refine Wx.nil ?_
      refine W.reg ?_
      refine Wx.rd (v := .int .i64 i) (rd_move rfl) rfl ?_
      refine Wx.rd (v := .int .i64 (i + 1)) (rd_add rfl rfl (in_i64 (by omega) (by omega))) rfl ?_
      refine Wx.rd (v := .int .i64 (i + 1)) (rd_assign rfl) rfl ?_
      refine Wx.nil ?_
      refine ⟨(i + 1, v_12, out ++ [i]), (by show (s.size - (i + 1)).toNat < (s.size - i).toNat; omega), ?_, ?_, Out.look rfl Out.self⟩
      · exact ⟨hS.tl, (by first | omega | assumption), (by first | omega | assumption), (by rw [h2, rng_snoc h0, List.filter_append, List.filter_cons, if_pos (by exact c1)]; rfl), (by simp only [List.length_append, List.length_cons, List.length_nil]; omega)⟩
      · exact ⟨rfl, rfl, trivial⟩
    · -- no
      try simp only [Bool.and_eq_true, Bool.or_eq_true, Bool.not_eq_true', Bool.and_eq_false_iff, Bool.or_eq_false_iff, Bool.not_eq_false', decide_eq_true_eq, decide_eq_false_iff_not, not_or, Bool.false_eq_true, Bool.true_eq_false, false_or, or_false, not_false_eq_true] at c1
      refine W.skip ?_
      refine W.reg ?_
      refine Wx.rd (v := .int .i64 i) (rd_move rfl) rfl ?_
      refine Wx.rd (v := .int .i64 (i + 1)) (rd_add rfl rfl (in_i64 (by omega) (by omega))) rfl ?_
      refine Wx.rd (v := .int .i64 (i + 1)) (rd_assign rfl) rfl ?_
      refine Wx.nil ?_
      refine ⟨(i + 1, ov, out), (by show (s.size - (i + 1)).toNat < (s.size - i).toNat; omega), ?_, ?_, Out.look rfl Out.self⟩
      · exact ⟨hS, (by first | omega | assumption), (by first | omega | assumption), (by rw [h2, rng_snoc h0, List.filter_append, List.filter_cons, if_neg (by show ¬ fitC _ _ = true; rw [c1]; decide), List.filter_nil, List.append_nil]), (by first | omega | assumption)⟩
      · exact ⟨rfl, rfl, trivial⟩
  · -- no
    refine W.exit rfl ?_
    refine W.seq ?_
    refine W.seq ?_
    refine W.reg ?_
    refine Wx.rd (v := ov) (rd_move rfl) rfl ?_
    refine Wx.rd (v := .int .i64 (out.length : Int)) (rd_lenR hS 0 rfl rfl Tryd.underlying60) rfl ?_
    refine Wx.rd (v := .bool (decide ((out.length : Int) = 0))) (rd_eql rfl rfl) rfl ?_
    refine Wx.nil ?_
    refine W.condD rfl (fun c2 => ?_) (fun c2 => ?_)
    · -- yes
      have hat : atsL s = out := ats_end h0 h1 (by omega) h2
      have hat0 : atsL s = [] := by rw [hat]; exact List.eq_nil_of_length_eq_zero (by omega)
      refine W.seq ?_
      refine W.reg ?_
      refine Wx.rd (v := .string s) (rd_move rfl) rfl ?_
      refine Wx.rd (v := .string s) (rd_assign rfl) rfl ?_
      refine Wx.rd (v := .bool false) (rd_assign rfl) rfl ?_
      refine Wx.nil ?_
      have e0_0 : (lessS s n) = s := by rw [lessS, if_pos hat0]
      have e0_1 : (decide (atsL s ≠ [])) = false := by exact decide_eq_false (not_not_intro hat0)
      exact W.ret ⟨.tuple #[.string s, .bool false], ResIs.two, hS.bel, (by rw [e0_0, e0_1])⟩
    · -- no
      have hat : atsL s = out := ats_end h0 h1 (by omega) h2
      have hne : atsL s ≠ [] := by rw [hat]; rintro rfl; exact c2 rfl
      have hm := less_at (s := s) p_n hne
      obtain ⟨⟨hm0, hm1⟩, _⟩ := atsL_mem.1 hm
      rw [hat] at hm0 hm1
      refine W.skip ?_
      refine W.seq ?_
      refine W.reg ?_
      refine Wx.rd (v := ov) (rd_move rfl) rfl ?_
      refine Wx.rd (v := .int .i64 n) (rd_move rfl) rfl ?_
      refine Wx.rd (v := ov) (rd_move rfl) rfl ?_
      refine Wx.rd (v := .int .i64 (out.length : Int)) (rd_lenR hS 0 rfl rfl Tryd.underlying60) rfl ?_
      refine Wx.rd (v := .int .i64 (n % (out.length : Int))) (rd_rem rfl rfl p_n (by omega)) rfl ?_
      refine Wx.indexR hS 0 rfl rfl rfl Tryd.underlying60 Tryd.sizeOf3 (Int.emod_nonneg _ (by omega)) (Int.emod_lt_of_pos _ (by omega)) rfl (fun g_15 hg_16 => ?_)
      refine Wx.rd (v := .int .i64 (ix 0 out (n % (out.length : Int)))) (rd_loadRI' hS 0 rfl hg_16 rfl (Int.emod_nonneg _ (by omega)) (Int.emod_lt_of_pos _ (by omega)) Tryd.isAgg3 Tryd.sizeOf3) rfl ?_
      have bd_17 := bd_i64 (hS.rowInK' 0 rfl (Int.emod_nonneg _ (by omega)) (Int.emod_lt_of_pos _ (by omega)) : InK .i64 (ix 0 out (n % (out.length : Int))))
      refine Wx.rd (v := .int .i64 (ix 0 out (n % (out.length : Int)))) (rd_assign rfl) rfl ?_
      refine Wx.nil ?_
      refine W.seq ?_
      refine W.regQ mixedHq_ (by kernel_rfl) ?_
      refine Wx.rd (v := .string s) (rd_move rfl) rfl ?_
      refine Wx.rd (v := .int .i64 (ix 0 out (n % (out.length : Int)))) (rd_move rfl) rfl ?_
      refine Wx.rd (v := .string ((s).extract 0 (ix 0 out (n % (out.length : Int))).toNat)) (rd_sliceS_H Tryd.underlying9 rfl rfl (by omega) (by omega)) rfl ?_
      refine Wx.rd (v := .string s) (rd_move rfl) rfl ?_
      refine Wx.rd (v := .int .i64 (ix 0 out (n % (out.length : Int)))) (rd_move rfl) rfl ?_
      refine Wx.rd (v := .int .i64 ((ix 0 out (n % (out.length : Int))) + 2)) (rd_add rfl rfl (in_i64 (by omega) (by omega))) rfl ?_
      refine Wx.rd (v := .string ((s).extract ((ix 0 out (n % (out.length : Int))) + 2).toNat s.size)) (rd_sliceS_L Tryd.underlying9 rfl rfl (by omega) (by omega)) rfl ?_
      refine Wx.rd (v := .string (((s).extract 0 (ix 0 out (n % (out.length : Int))).toNat) ++ ((s).extract ((ix 0 out (n % (out.length : Int))) + 2).toNat s.size))) (rd_addS rfl rfl (by rw [ByteArray.size_extract, ByteArray.size_extract]; omega)) rfl ?_
      refine Wx.rd (v := .string (((s).extract 0 (ix 0 out (n % (out.length : Int))).toNat) ++ ((s).extract ((ix 0 out (n % (out.length : Int))) + 2).toNat s.size))) (rd_assign rfl) rfl ?_
      refine Wx.rd (v := .bool true) (rd_assign rfl) rfl ?_
      refine Wx.nilQ (fun w_18 hx_19 => ?_)
      have hS := hS.ext hx_19
      have e1_0 : (lessS s n) = (((s).extract 0 (ix 0 out (n % (out.length : Int))).toNat) ++ ((s).extract ((ix 0 out (n % (out.length : Int))) + 2).toNat s.size)) := by rw [lessS, if_neg hne, hat, cutS, show ix 0 out (n % (out.length : Int)) + 1 + 1 = ix 0 out (n % (out.length : Int)) + 2 by omega]
      have e1_1 : (decide (atsL s ≠ [])) = true := by exact decide_eq_true hne
      exact W.ret ⟨.tuple #[.string (((s).extract 0 (ix 0 out (n % (out.length : Int))).toNat) ++ ((s).extract ((ix 0 out (n % (out.length : Int))) + 2).toNat s.size)), .bool true], ResIs.two, hS.bel, (by rw [e1_0, e1_1])⟩

set_option maxHeartbeats 1000000 in
theorem F45 {s : ByteArray} {b0 : Int} {b1 : Int} {b2 : Int} {b3 : Int} {b4 : Int} {b5 : Int} {w : World} (s_s : s.size ≤ maxLen) (i_b0 : InK .u8 b0) (i_b1 : InK .u8 b1) (i_b2 : InK .u8 b2) (i_b3 : InK .u8 b3) (i_b4 : InK .u8 b4) (i_b5 : InK .u8 b5) (p_s : (s.size : Int) ≤ 100) : Calls Tryd.prog 45 #[.string s, .agg #[.int .u8 b0, .int .u8 b1, .int .u8 b2, .int .u8 b3, .int .u8 b4, .int .u8 b5]] w (Ret w (fun r _ => r = .string (restN s [b0, b1, b2, b3, b4, b5]))) := by
  have b_b5 := bd_u8 i_b5
  have b_b4 := bd_u8 i_b4
  have b_b3 := bd_u8 i_b3
  have b_b2 := bd_u8 i_b2
  have b_b1 := bd_u8 i_b1
  have b_b0 := bd_u8 i_b0
  have hS := St.start0 w
  refine enterR Tryd.func45 rfl Tryd.ntmps45 Tryd.results45 rfl ?_
  refine W.seq ?_
  refine W.reg ?_
  refine Wx.box (cs := [.int .u8 b0, .int .u8 b1, .int .u8 b2, .int .u8 b3, .int .u8 b4, .int .u8 b5]) hS rfl rfl rfl (fun g_1 w_2 hx_4 hb_3 hS => ?_)
  refine Wx.rd (v := .string ({ data := #[] } : ByteArray)) (rd_assign rfl) rfl ?_
  refine Wx.nil ?_
  refine W.seq ?_
  refine W.seq ?_
  refine W.reg ?_
  refine Wx.rd (v := .agg #[.int .u8 b0, .int .u8 b1, .int .u8 b2, .int .u8 b3, .int .u8 b4, .int .u8 b5]) (rd_loadXs (ds := [.int .u8 b0, .int .u8 b1, .int .u8 b2, .int .u8 b3, .int .u8 b4, .int .u8 b5]) hS 0 rfl rfl rfl rfl Tryd.isAgg44 Tryd.sizeOf44) rfl ?_
  refine Wx.rd (v := .int .i64 0) (rd_move rfl) rfl ?_
  refine Wx.nil ?_
  refine W.block ?_
  refine W.loop [0, 6, 8, 9, 10, 11, 12, 13, 14, 15, 16, 17, 18] (fun x : ByteArray × Int => match x with | (cur, k) => [(0, .string cur), (8, .int .i64 k)]) (fun (x : ByteArray × Int) w' => match x with | (cur, k) => St w [] w' [.box g_1 44 [.int .u8 b0, .int .u8 b1, .int .u8 b2, .int .u8 b3, .int .u8 b4, .int .u8 b5]] ∧ 0 ≤ k ∧ k ≤ 6 ∧ restN cur ([b0, b1, b2, b3, b4, b5].drop k.toNat) = restN s [b0, b1, b2, b3, b4, b5] ∧ (cur.size : Int) ≤ 100) (fun x : ByteArray × Int => match x with | (cur, k) => (6 - k).toNat) (s, 0) ⟨rfl, rfl, trivial⟩ ⟨hS, (by first | omega | simp), (by first | omega | simp), (rfl), (by first | omega | simp)⟩ ?_
  rintro ⟨cur, k⟩ u_6 w_5 ⟨hS, h0, h1, h2, h3⟩
  refine W.seq ?_
  refine W.reg ?_
  refine Wx.rd (v := .bool (decide (k < 6))) (rd_lss rfl rfl) rfl ?_
  refine Wx.nil ?_
  refine W.seq ?_
  refine W.condD rfl (fun c0 => ?_) (fun c0 => ?_)
  · -- yes
    refine W.skip ?_
    refine W.seq ?_
    refine W.block ?_
    refine W.seq ?_
    refine W.reg ?_
    refine Wx.rd (v := .int .u8 (ix 0 [b0, b1, b2, b3, b4, b5] k)) (rd_indexVi (d := (0 : Int)) (f := Value.int .u8) (xs := [b0, b1, b2, b3, b4, b5]) rfl rfl Tryd.underlying44 Tryd.sizeOf5 Tryd.isAgg5 rfl rfl (by omega) (by simp; omega)) rfl ?_
    have hxm := ix_mem (d := (0 : Int)) (xs := [b0, b1, b2, b3, b4, b5]) h0 (by simp; omega)
    simp only [List.mem_cons, List.not_mem_nil, or_false] at hxm
    have hxb : 0 ≤ ix 0 [b0, b1, b2, b3, b4, b5] k ∧ ix 0 [b0, b1, b2, b3, b4, b5] k ≤ 255 := by rcases hxm with h | h | h | h | h | h <;> (rw [h]; omega)
    refine Wx.rd (v := .int .u8 (ix 0 [b0, b1, b2, b3, b4, b5] k)) (rd_assign rfl) rfl ?_
    refine Wx.nil ?_
    refine W.reg ?_
    refine Wx.rd (v := .string cur) (rd_move rfl) rfl ?_
    refine Wx.rd (v := .int .u8 (ix 0 [b0, b1, b2, b3, b4, b5] k)) (rd_move rfl) rfl ?_
    refine Wx.rd (v := .int .i64 (ix 0 [b0, b1, b2, b3, b4, b5] k)) (rd_convIn rfl Tryd.underlying5 Tryd.underlying3 (in_i64 (by omega) (by omega))) rfl ?_
    refine Wx.callF (run_callF Tryd.call81 rfl) (F81 (by first | assumption | (simp only [maxLen]; omega) | (simp only [ByteArray.size_extract, ByteArray.size_append, maxLen] at *; omega) | decide) (in_i64 (by omega) (by omega)) (by omega) (by omega)) rfl ?_
    rintro r_7 w_8 hx_9 rfl
    have hS := hS.ext hx_9
    refine Wx.rd (v := .tuple #[.string (lessS cur (ix 0 [b0, b1, b2, b3, b4, b5] k)), .bool (decide (atsL cur ≠ []))]) (rd_move rfl) rfl ?_
    refine Wx.rd (v := .string (lessS cur (ix 0 [b0, b1, b2, b3, b4, b5] k))) (rd_extract rfl rfl) rfl ?_
    refine Wx.rd (v := .bool (decide (atsL cur ≠ []))) (rd_extract rfl rfl) rfl ?_
    refine Wx.rd (v := .string (lessS cur (ix 0 [b0, b1, b2, b3, b4, b5] k))) (rd_assign rfl) rfl ?_
    refine Wx.nil ?_
    refine W.reg ?_
    refine Wx.rd (v := .int .i64 (k + 1)) (rd_add rfl rfl (in_i64 (by omega) (by omega))) rfl ?_
    refine Wx.rd (v := .int .i64 (k + 1)) (rd_move rfl) rfl ?_
    refine Wx.nil ?_
    refine ⟨(lessS cur (ix 0 [b0, b1, b2, b3, b4, b5] k), k + 1), (by show (6 - (k + 1)).toNat < (6 - k).toNat; omega), ?_, ?_, Out.look rfl Out.self⟩
    · exact ⟨hS, (by first | omega | assumption), (by first | omega | assumption), (by rw [← h2, drop_ix (d := 0) h0 (by simp; omega)]; rfl), (by have := less_size cur hxb.1; omega)⟩
    · exact ⟨rfl, rfl, trivial⟩
  · -- no
    refine W.exit rfl ?_
    refine W.seq ?_
    refine W.reg ?_
    refine Wx.rd (v := .string cur) (rd_move rfl) rfl ?_
    refine Wx.rd (v := .string cur) (rd_assign rfl) rfl ?_
    refine Wx.nil ?_
    have e0_0 : (restN s [b0, b1, b2, b3, b4, b5]) = cur := by rw [← h2, show k = 6 by omega]; rfl
    exact W.ret ⟨.string cur, ResIs.one, hS.bel, (by rw [e0_0])⟩

end Go.Proofs.YtokdjjebnomciaaDoor

namespace Go.Proofs.YtokdjjebnomciaaDoor
open Go.Wk Go.RowKit Go.Lib
set_option linter.unusedVariables false
set_option linter.unusedSimpArgs false
theorem mixedHy_ : Tryd.prog.follows .mixedOrders = true := by kernel_rfl

set_option maxHeartbeats 1000000 in
theorem F89 {a : Int} {b : Int} {c : Int} {d : Int} {w : World} (i_a : InK .i64 a) (i_b : InK .i64 b) (i_c : InK .i64 c) (i_d : InK .i64 d) : Calls Tryd.prog 89 #[.agg #[.int .i64 a, .int .i64 b], .agg #[.int .i64 c, .int .i64 d]] w (Ret w (fun r _ => r = .bool (crossB (c, d) (a, b)))) := by
  have b_d := bd_i64 i_d
  have b_c := bd_i64 i_c
  have b_b := bd_i64 i_b
  have b_a := bd_i64 i_a
  have hS := St.start0 w
  refine enterR Tryd.func89 rfl Tryd.ntmps89 Tryd.results89 rfl ?_
  refine W.seq ?_
  refine W.reg ?_
  refine Wx.box (cs := [.int .i64 a, .int .i64 b]) hS rfl rfl rfl (fun g_1 w_2 hx_4 hb_3 hS => ?_)
  refine Wx.box (cs := [.int .i64 c, .int .i64 d]) hS rfl rfl rfl (fun g_5 w_6 hx_8 hb_7 hS => ?_)
  refine Wx.rd (v := .bool false) (rd_assign rfl) rfl ?_
  refine Wx.nil ?_
  refine W.seq ?_
  refine W.reg ?_
  refine Wx.rd (v := .pointer (some ⟨g_1, 0, none⟩)) (rd_indexArr (n := 0) rfl rfl Tryd.underlying58 Tryd.sizeOf3 (by decide) (by decide)) rfl ?_
  refine Wx.rd (v := .int .i64 a) (rd_loadX hS 1 rfl rfl rfl Tryd.isAgg3) rfl ?_
  refine Wx.rd (v := .pointer (some ⟨g_5, 0, none⟩)) (rd_indexArr (n := 0) rfl rfl Tryd.underlying58 Tryd.sizeOf3 (by decide) (by decide)) rfl ?_
  refine Wx.rd (v := .int .i64 c) (rd_loadX hS 0 rfl rfl rfl Tryd.isAgg3) rfl ?_
  refine Wx.rd (v := .bool (decide (a < c))) (rd_lss rfl rfl) rfl ?_
  refine Wx.rd (v := .bool (decide (a < c))) (rd_move rfl) rfl ?_
  refine Wx.cut (X := Unit) 6 [11, 12, 13, 14, 15, 16] (fun _ => [(16, .bool (decide (a < c) && decide (c < b)))]) (fun _ w' => St w [] w' [.box g_5 58 [.int .i64 c, .int .i64 d], .box g_1 58 [.int .i64 a, .int .i64 b]]) ?_ ?_
  · rcases Bool.eq_false_or_eq_true (decide (a < c)) with g_9 | g_9
    · -- True
      have gp_10 := of_decide_eq_true g_9
      refine Wx.gyes rfl rfl (congrArg Value.bool g_9) ?_
      refine Wx.rd (v := .pointer (some ⟨g_5, 0, none⟩)) (rd_indexArr (n := 0) rfl rfl Tryd.underlying58 Tryd.sizeOf3 (by decide) (by decide)) rfl ?_
      refine Wx.gyes rfl rfl (congrArg Value.bool g_9) ?_
      refine Wx.rd (v := .int .i64 c) (rd_loadX hS 0 rfl rfl rfl Tryd.isAgg3) rfl ?_
      refine Wx.gyes rfl rfl (congrArg Value.bool g_9) ?_
      refine Wx.rd (v := .pointer (some ⟨g_1, 1, none⟩)) (rd_indexArr (n := 1) rfl rfl Tryd.underlying58 Tryd.sizeOf3 (by decide) (by decide)) rfl ?_
      refine Wx.gyes rfl rfl (congrArg Value.bool g_9) ?_
      refine Wx.rd (v := .int .i64 b) (rd_loadX hS 1 rfl rfl rfl Tryd.isAgg3) rfl ?_
      refine Wx.gyes rfl rfl (congrArg Value.bool g_9) ?_
      refine Wx.rd (v := .bool (decide (c < b))) (rd_lss rfl rfl) rfl ?_
      refine Wx.rd (v := .bool (decide (c < b))) (rd_pickT (congrArg Value.bool g_9) rfl) rfl ?_
      refine Wx.nil ⟨(), hS, ⟨?_, trivial⟩, Out.look rfl Out.refl⟩
      show Value.bool (decide (c < b)) = Value.bool (decide (a < c) && decide (c < b))
      first | rw [g_9, Bool.true_and] | (rw [g_9]; rfl)
    · -- False
      have gp_11 := of_decide_eq_false g_9
      refine Wx.gnoB rfl rfl (congrArg Value.bool g_9) rfl rfl ?_
      refine Wx.gnoB rfl rfl (congrArg Value.bool g_9) rfl rfl ?_
      refine Wx.gnoB rfl rfl (congrArg Value.bool g_9) rfl rfl ?_
      refine Wx.gnoB rfl rfl (congrArg Value.bool g_9) rfl rfl ?_
      refine Wx.gnoB rfl rfl (congrArg Value.bool g_9) rfl rfl ?_
      refine Wx.rd (v := .bool false) (rd_pickF (congrArg Value.bool g_9) rfl) rfl ?_
      refine Wx.nil ⟨(), hS, ⟨?_, trivial⟩, Out.look rfl Out.refl⟩
      show Value.bool false = Value.bool (decide (a < c) && decide (c < b))
      first | rw [g_9, Bool.false_and] | (rw [g_9]; rfl)
  rintro ⟨⟩ u_13 w_12 hS
  refine Wx.rd (v := .bool (decide (a < c) && decide (c < b))) (rd_move rfl) rfl ?_
  refine Wx.cut (X := Unit) 6 [18, 19, 20, 21, 22, 23] (fun _ => [(23, .bool ((decide (a < c) && decide (c < b)) && decide (b < d)))]) (fun _ w' => St w [] w' [.box g_5 58 [.int .i64 c, .int .i64 d], .box g_1 58 [.int .i64 a, .int .i64 b]]) ?_ ?_
  · rcases Bool.eq_false_or_eq_true (decide (a < c) && decide (c < b)) with g_14 | g_14
    · -- True
      have gp_15 := g_14
      try simp only [Bool.and_eq_true, Bool.or_eq_true, Bool.not_eq_true', Bool.and_eq_false_iff, Bool.or_eq_false_iff, Bool.not_eq_false', decide_eq_true_eq, decide_eq_false_iff_not, not_or, Bool.false_eq_true, Bool.true_eq_false, false_or, or_false, not_false_eq_true] at gp_15
      refine Wx.gyes rfl rfl (congrArg Value.bool g_14) ?_
      refine Wx.rd (v := .pointer (some ⟨g_1, 1, none⟩)) (rd_indexArr (n := 1) rfl rfl Tryd.underlying58 Tryd.sizeOf3 (by decide) (by decide)) rfl ?_
      refine Wx.gyes rfl rfl (congrArg Value.bool g_14) ?_
      refine Wx.rd (v := .int .i64 b) (rd_loadX hS 1 rfl rfl rfl Tryd.isAgg3) rfl ?_
      refine Wx.gyes rfl rfl (congrArg Value.bool g_14) ?_
      refine Wx.rd (v := .pointer (some ⟨g_5, 1, none⟩)) (rd_indexArr (n := 1) rfl rfl Tryd.underlying58 Tryd.sizeOf3 (by decide) (by decide)) rfl ?_
      refine Wx.gyes rfl rfl (congrArg Value.bool g_14) ?_
      refine Wx.rd (v := .int .i64 d) (rd_loadX hS 0 rfl rfl rfl Tryd.isAgg3) rfl ?_
      refine Wx.gyes rfl rfl (congrArg Value.bool g_14) ?_
      refine Wx.rd (v := .bool (decide (b < d))) (rd_lss rfl rfl) rfl ?_
      refine Wx.rd (v := .bool (decide (b < d))) (rd_pickT (congrArg Value.bool g_14) rfl) rfl ?_
      refine Wx.nil ⟨(), hS, ⟨?_, trivial⟩, Out.look rfl Out.refl⟩
      show Value.bool (decide (b < d)) = Value.bool ((decide (a < c) && decide (c < b)) && decide (b < d))
      first | rw [g_14, Bool.true_and] | (rw [g_14]; rfl)
    · -- False
      have gp_16 := g_14
      try simp only [Bool.and_eq_true, Bool.or_eq_true, Bool.not_eq_true', Bool.and_eq_false_iff, Bool.or_eq_false_iff, Bool.not_eq_false', decide_eq_true_eq, decide_eq_false_iff_not, not_or, Bool.false_eq_true, Bool.true_eq_false, false_or, or_false, not_false_eq_true] at gp_16
      refine Wx.gnoB rfl rfl (congrArg Value.bool g_14) rfl rfl ?_
      refine Wx.gnoB rfl rfl (congrArg Value.bool g_14) rfl rfl ?_
      refine Wx.gnoB rfl rfl (congrArg Value.bool g_14) rfl rfl ?_
      refine Wx.gnoB rfl rfl (congrArg Value.bool g_14) rfl rfl ?_
      refine Wx.gnoB rfl rfl (congrArg Value.bool g_14) rfl rfl ?_
      refine Wx.rd (v := .bool false) (rd_pickF (congrArg Value.bool g_14) rfl) rfl ?_
      refine Wx.nil ⟨(), hS, ⟨?_, trivial⟩, Out.look rfl Out.refl⟩
      show Value.bool false = Value.bool ((decide (a < c) && decide (c < b)) && decide (b < d))
      first | rw [g_14, Bool.false_and] | (rw [g_14]; rfl)
  rintro ⟨⟩ u_18 w_17 hS
  refine Wx.rd (v := .bool ((decide (a < c) && decide (c < b)) && decide (b < d))) (rd_move rfl) rfl ?_
  refine Wx.cut (X := Unit) 20 [25, 26, 27, 28, 29, 30, 31, 32, 33, 34, 35, 36, 37, 38, 39, 40, 41, 42, 43, 44] (fun _ => [(44, .bool (((decide (a < c) && decide (c < b)) && decide (b < d)) || ((decide (c < a) && decide (a < d)) && decide (d < b))))]) (fun _ w' => St w [] w' [.box g_5 58 [.int .i64 c, .int .i64 d], .box g_1 58 [.int .i64 a, .int .i64 b]]) ?_ ?_
  · rcases Bool.eq_false_or_eq_true ((decide (a < c) && decide (c < b)) && decide (b < d)) with g_19 | g_19
    · -- True
      have gp_20 := g_19
      try simp only [Bool.and_eq_true, Bool.or_eq_true, Bool.not_eq_true', Bool.and_eq_false_iff, Bool.or_eq_false_iff, Bool.not_eq_false', decide_eq_true_eq, decide_eq_false_iff_not, not_or, Bool.false_eq_true, Bool.true_eq_false, false_or, or_false, not_false_eq_true] at gp_20
      refine Wx.gnoB rfl rfl (congrArg Value.bool g_19) rfl rfl ?_
      refine Wx.gnoB rfl rfl (congrArg Value.bool g_19) rfl rfl ?_
      refine Wx.gnoB rfl rfl (congrArg Value.bool g_19) rfl rfl ?_
      refine Wx.gnoB rfl rfl (congrArg Value.bool g_19) rfl rfl ?_
      refine Wx.gnoB rfl rfl (congrArg Value.bool g_19) rfl rfl ?_
      refine Wx.gnoB rfl rfl (congrArg Value.bool g_19) rfl rfl ?_
      refine Wx.gno rfl rfl rfl rfl ?_
      refine Wx.gno rfl rfl rfl rfl ?_
      refine Wx.gno rfl rfl rfl rfl ?_
      refine Wx.gno rfl rfl rfl rfl ?_
      refine Wx.gno rfl rfl rfl rfl ?_
      refine Wx.gnoB rfl rfl (congrArg Value.bool g_19) rfl rfl ?_
      refine Wx.gnoB rfl rfl (congrArg Value.bool g_19) rfl rfl ?_
      refine Wx.gno rfl rfl rfl rfl ?_
      refine Wx.gno rfl rfl rfl rfl ?_
      refine Wx.gno rfl rfl rfl rfl ?_
      refine Wx.gno rfl rfl rfl rfl ?_
      refine Wx.gno rfl rfl rfl rfl ?_
      refine Wx.gnoB rfl rfl (congrArg Value.bool g_19) rfl rfl ?_
      refine Wx.rd (v := .bool true) (rd_pickT (congrArg Value.bool g_19) rfl) rfl ?_
      refine Wx.nil ⟨(), hS, ⟨?_, trivial⟩, Out.look rfl Out.refl⟩
      show Value.bool true = Value.bool (((decide (a < c) && decide (c < b)) && decide (b < d)) || ((decide (c < a) && decide (a < d)) && decide (d < b)))
      first | rw [g_19, Bool.true_or] | (rw [g_19]; rfl)
    · -- False
      have gp_21 := g_19
      try simp only [Bool.and_eq_true, Bool.or_eq_true, Bool.not_eq_true', Bool.and_eq_false_iff, Bool.or_eq_false_iff, Bool.not_eq_false', decide_eq_true_eq, decide_eq_false_iff_not, not_or, Bool.false_eq_true, Bool.true_eq_false, false_or, or_false, not_false_eq_true] at gp_21
      refine Wx.gyes rfl rfl (congrArg Value.bool g_19) ?_
      refine Wx.rd (v := .pointer (some ⟨g_5, 0, none⟩)) (rd_indexArr (n := 0) rfl rfl Tryd.underlying58 Tryd.sizeOf3 (by decide) (by decide)) rfl ?_
      refine Wx.gyes rfl rfl (congrArg Value.bool g_19) ?_
      refine Wx.rd (v := .int .i64 c) (rd_loadX hS 0 rfl rfl rfl Tryd.isAgg3) rfl ?_
      refine Wx.gyes rfl rfl (congrArg Value.bool g_19) ?_
      refine Wx.rd (v := .pointer (some ⟨g_1, 0, none⟩)) (rd_indexArr (n := 0) rfl rfl Tryd.underlying58 Tryd.sizeOf3 (by decide) (by decide)) rfl ?_
      refine Wx.gyes rfl rfl (congrArg Value.bool g_19) ?_
      refine Wx.rd (v := .int .i64 a) (rd_loadX hS 1 rfl rfl rfl Tryd.isAgg3) rfl ?_
      refine Wx.gyes rfl rfl (congrArg Value.bool g_19) ?_
      refine Wx.rd (v := .bool (decide (c < a))) (rd_lss rfl rfl) rfl ?_
      refine Wx.gyes rfl rfl (congrArg Value.bool g_19) ?_
      refine Wx.rd (v := .bool (decide (c < a))) (rd_move rfl) rfl ?_
      refine Wx.cut (X := Unit) 6 [31, 32, 33, 34, 35, 36] (fun _ => [(36, .bool (decide (c < a) && decide (a < d)))]) (fun _ w' => St w [] w' [.box g_5 58 [.int .i64 c, .int .i64 d], .box g_1 58 [.int .i64 a, .int .i64 b]]) ?_ ?_
      · rcases Bool.eq_false_or_eq_true (decide (c < a)) with g_22 | g_22
        · -- True
          have gp_23 := of_decide_eq_true g_22
          refine Wx.gyes rfl rfl (congrArg Value.bool g_22) ?_
          refine Wx.rd (v := .pointer (some ⟨g_1, 0, none⟩)) (rd_indexArr (n := 0) rfl rfl Tryd.underlying58 Tryd.sizeOf3 (by decide) (by decide)) rfl ?_
          refine Wx.gyes rfl rfl (congrArg Value.bool g_22) ?_
          refine Wx.rd (v := .int .i64 a) (rd_loadX hS 1 rfl rfl rfl Tryd.isAgg3) rfl ?_
          refine Wx.gyes rfl rfl (congrArg Value.bool g_22) ?_
          refine Wx.rd (v := .pointer (some ⟨g_5, 1, none⟩)) (rd_indexArr (n := 1) rfl rfl Tryd.underlying58 Tryd.sizeOf3 (by decide) (by decide)) rfl ?_
          refine Wx.gyes rfl rfl (congrArg Value.bool g_22) ?_
          refine Wx.rd (v := .int .i64 d) (rd_loadX hS 0 rfl rfl rfl Tryd.isAgg3) rfl ?_
          refine Wx.gyes rfl rfl (congrArg Value.bool g_22) ?_
          refine Wx.rd (v := .bool (decide (a < d))) (rd_lss rfl rfl) rfl ?_
          refine Wx.gyes rfl rfl (congrArg Value.bool g_19) ?_
          refine Wx.rd (v := .bool (decide (a < d))) (rd_pickT (congrArg Value.bool g_22) rfl) rfl ?_
          refine Wx.nil ⟨(), hS, ⟨?_, trivial⟩, Out.look rfl Out.refl⟩
          show Value.bool (decide (a < d)) = Value.bool (decide (c < a) && decide (a < d))
          first | rw [g_22, Bool.true_and] | (rw [g_22]; rfl)
        · -- False
          have gp_24 := of_decide_eq_false g_22
          refine Wx.gnoB rfl rfl (congrArg Value.bool g_22) rfl rfl ?_
          refine Wx.gnoB rfl rfl (congrArg Value.bool g_22) rfl rfl ?_
          refine Wx.gnoB rfl rfl (congrArg Value.bool g_22) rfl rfl ?_
          refine Wx.gnoB rfl rfl (congrArg Value.bool g_22) rfl rfl ?_
          refine Wx.gnoB rfl rfl (congrArg Value.bool g_22) rfl rfl ?_
          refine Wx.gyes rfl rfl (congrArg Value.bool g_19) ?_
          refine Wx.rd (v := .bool false) (rd_pickF (congrArg Value.bool g_22) rfl) rfl ?_
          refine Wx.nil ⟨(), hS, ⟨?_, trivial⟩, Out.look rfl Out.refl⟩
          show Value.bool false = Value.bool (decide (c < a) && decide (a < d))
          first | rw [g_22, Bool.false_and] | (rw [g_22]; rfl)
      rintro ⟨⟩ u_26 w_25 hS
      refine Wx.gyes rfl rfl (congrArg Value.bool g_19) ?_
      refine Wx.rd (v := .bool (decide (c < a) && decide (a < d))) (rd_move rfl) rfl ?_
      refine Wx.cut (X := Unit) 6 [38, 39, 40, 41, 42, 43] (fun _ => [(43, .bool ((decide (c < a) && decide (a < d)) && decide (d < b)))]) (fun _ w' => St w [] w' [.box g_5 58 [.int .i64 c, .int .i64 d], .box g_1 58 [.int .i64 a, .int .i64 b]]) ?_ ?_
      · rcases Bool.eq_false_or_eq_true (decide (c < a) && decide (a < d)) with g_27 | g_27
        · -- True
          have gp_28 := g_27
          try simp only [Bool.and_eq_true, Bool.or_eq_true, Bool.not_eq_true', Bool.and_eq_false_iff, Bool.or_eq_false_iff, Bool.not_eq_false', decide_eq_true_eq, decide_eq_false_iff_not, not_or, Bool.false_eq_true, Bool.true_eq_false, false_or, or_false, not_false_eq_true] at gp_28
          refine Wx.gyes rfl rfl (congrArg Value.bool g_27) ?_
          refine Wx.rd (v := .pointer (some ⟨g_5, 1, none⟩)) (rd_indexArr (n := 1) rfl rfl Tryd.underlying58 Tryd.sizeOf3 (by decide) (by decide)) rfl ?_
          refine Wx.gyes rfl rfl (congrArg Value.bool g_27) ?_
          refine Wx.rd (v := .int .i64 d) (rd_loadX hS 0 rfl rfl rfl Tryd.isAgg3) rfl ?_
          refine Wx.gyes rfl rfl (congrArg Value.bool g_27) ?_
          refine Wx.rd (v := .pointer (some ⟨g_1, 1, none⟩)) (rd_indexArr (n := 1) rfl rfl Tryd.underlying58 Tryd.sizeOf3 (by decide) (by decide)) rfl ?_
          refine Wx.gyes rfl rfl (congrArg Value.bool g_27) ?_
          refine Wx.rd (v := .int .i64 b) (rd_loadX hS 1 rfl rfl rfl Tryd.isAgg3) rfl ?_
          refine Wx.gyes rfl rfl (congrArg Value.bool g_27) ?_
          refine Wx.rd (v := .bool (decide (d < b))) (rd_lss rfl rfl) rfl ?_
          refine Wx.gyes rfl rfl (congrArg Value.bool g_19) ?_
          refine Wx.rd (v := .bool (decide (d < b))) (rd_pickT (congrArg Value.bool g_27) rfl) rfl ?_
          refine Wx.nil ⟨(), hS, ⟨?_, trivial⟩, Out.look rfl Out.refl⟩
          show Value.bool (decide (d < b)) = Value.bool ((decide (c < a) && decide (a < d)) && decide (d < b))
          first | rw [g_27, Bool.true_and] | (rw [g_27]; rfl)
        · -- False
          have gp_29 := g_27
          try simp only [Bool.and_eq_true, Bool.or_eq_true, Bool.not_eq_true', Bool.and_eq_false_iff, Bool.or_eq_false_iff, Bool.not_eq_false', decide_eq_true_eq, decide_eq_false_iff_not, not_or, Bool.false_eq_true, Bool.true_eq_false, false_or, or_false, not_false_eq_true] at gp_29
          refine Wx.gnoB rfl rfl (congrArg Value.bool g_27) rfl rfl ?_
          refine Wx.gnoB rfl rfl (congrArg Value.bool g_27) rfl rfl ?_
          refine Wx.gnoB rfl rfl (congrArg Value.bool g_27) rfl rfl ?_
          refine Wx.gnoB rfl rfl (congrArg Value.bool g_27) rfl rfl ?_
          refine Wx.gnoB rfl rfl (congrArg Value.bool g_27) rfl rfl ?_
          refine Wx.gyes rfl rfl (congrArg Value.bool g_19) ?_
          refine Wx.rd (v := .bool false) (rd_pickF (congrArg Value.bool g_27) rfl) rfl ?_
          refine Wx.nil ⟨(), hS, ⟨?_, trivial⟩, Out.look rfl Out.refl⟩
          show Value.bool false = Value.bool ((decide (c < a) && decide (a < d)) && decide (d < b))
          first | rw [g_27, Bool.false_and] | (rw [g_27]; rfl)
      rintro ⟨⟩ u_31 w_30 hS
      refine Wx.rd (v := .bool ((decide (c < a) && decide (a < d)) && decide (d < b))) (rd_pickF (congrArg Value.bool g_19) rfl) rfl ?_
      refine Wx.nil ⟨(), hS, ⟨?_, trivial⟩, Out.look rfl (Out.hav rfl (Out.look rfl (Out.hav rfl (Out.look rfl Out.refl))))⟩
      show Value.bool ((decide (c < a) && decide (a < d)) && decide (d < b)) = Value.bool (((decide (a < c) && decide (c < b)) && decide (b < d)) || ((decide (c < a) && decide (a < d)) && decide (d < b)))
      first | rw [g_19, Bool.false_or] | (rw [g_19]; rfl)
  rintro ⟨⟩ u_33 w_32 hS
  refine Wx.rd (v := .bool (((decide (a < c) && decide (c < b)) && decide (b < d)) || ((decide (c < a) && decide (a < d)) && decide (d < b)))) (rd_assign rfl) rfl ?_
  refine Wx.nil ?_
  have e0_0 : (crossB (c, d) (a, b)) = (((decide (a < c) && decide (c < b)) && decide (b < d)) || ((decide (c < a) && decide (a < d)) && decide (d < b))) := by rfl
  exact W.ret ⟨.bool (((decide (a < c) && decide (c < b)) && decide (b < d)) || ((decide (c < a) && decide (a < d)) && decide (d < b))), ResIs.one, hS.bel, (by rw [e0_0])⟩

set_option maxHeartbeats 2000000 in
theorem F57 {rim : ByteArray} {lv : Value} {l : List (Int × Int)} {Fr_lv : List (Option Nat)} {w : World} (s_rim : rim.size ≤ maxLen) (h_lv : V (tSl (tP (tI .i64) (tI .i64))) l lv Fr_lv w) (p_s : (rim.size : Int) ≤ 100) (p_n : (l.length : Int) ≤ 1000) : Calls Tryd.prog 57 #[.string rim, lv] w (Ret w (fun r _ => r = .bool (soundB rim l))) := by
  have a_lv := h_lv.any
  have l_lv := h_lv.len63
  have hS := St.start0 w
  refine enterR Tryd.func57 rfl Tryd.ntmps57 Tryd.results57 rfl ?_
  refine W.seq ?_
  refine W.reg ?_
  refine Wx.rd (v := .bool false) (rd_assign rfl) rfl ?_
  refine Wx.nil ?_
  refine W.seq ?_
  refine W.reg ?_
  refine Wx.makeMap hS rfl (fun g_2 w_1 hx_3 hS => ?_)
  have hS : St _ _ w_1 [.raw g_2 (.map (mE (Value.int .i64) Value.bool ([] : List (Int × Bool)) 0).toArray ([] : List (Int × Bool)).length)] := hS
  refine Wx.rd (v := .map (some g_2)) (rd_assign rfl) rfl ?_
  refine Wx.nil ?_
  refine W.seq ?_
  refine W.seq ?_
  refine W.reg ?_
  refine Wx.rd (v := lv) (rd_move rfl) rfl ?_
  refine Wx.rd (v := .int .i64 (l.length : Int)) (rd_lenV rfl (hS.arg a_lv) Tryd.underlying22) rfl ?_
  refine Wx.rd (v := .int .i64 0) (rd_move rfl) rfl ?_
  refine Wx.nil ?_
  refine W.block ?_
  refine W.loop [4, 6, 7, 9, 13, 14, 15, 16, 17, 18, 19, 20, 21, 22, 23, 24, 25, 26, 27, 28, 29, 30, 31, 32, 33, 34, 35, 36, 37, 38, 39, 40, 41, 42, 43, 44, 45, 46, 47, 48, 49, 50, 51, 52, 53, 54, 55, 56, 57, 58, 59, 60, 61, 62, 63, 64, 65, 66, 67, 68, 69, 70, 71, 72, 73, 74, 75, 76, 77, 78, 79, 80, 81, 82, 83, 84, 85, 86, 87, 88, 89, 90, 91, 92] (fun x : Int × (List (Int × Bool)) => match x with | (k, m) => [(13, .int .i64 k)]) (fun (x : Int × (List (Int × Bool))) w' => match x with | (k, m) => St w [] w' [.raw g_2 (.map (mE (Value.int .i64) Value.bool m 0).toArray m.length)] ∧ 0 ≤ k ∧ k ≤ l.length ∧ validT rim (l.take k.toNat) (l.drop k.toNat) = validT rim [] l ∧ (∀ q : Int, mget false m q = usedB (l.take k.toNat) q)) (fun x : Int × (List (Int × Bool)) => match x with | (k, m) => (l.length - k).toNat) (0, ([] : List (Int × Bool))) ⟨rfl, trivial⟩ ⟨hS, (by first | omega | simp), (by first | omega | simp), (by simp), (fun q => rfl)⟩ ?_
  rintro ⟨k, m⟩ u_5 w_4 ⟨hS, h0, h1, h2, h3⟩
  refine W.seq ?_
  refine W.reg ?_
  refine Wx.rd (v := .bool (decide (k < (l.length : Int)))) (rd_lss rfl rfl) rfl ?_
  refine Wx.nil ?_
  refine W.seq ?_
  refine W.condD rfl (fun c0 => ?_) (fun c0 => ?_)
  · -- yes
    refine W.skip ?_
    refine W.seq ?_
    refine W.block ?_
    refine W.seq ?_
    refine W.reg ?_
    refine Wx.rd (v := .int .i64 k) (rd_move rfl) rfl ?_
    refine Wx.ex (rd_index (0, 0) (hS.arg a_lv) rfl rfl Tryd.underlying22 Tryd.sizeOf58 (by first | omega | (simp only [List.length_set, List.length_append, List.length_cons, List.length_nil, List.length_replicate]; omega)) (by first | omega | (simp only [List.length_set, List.length_append, List.length_cons, List.length_nil, List.length_replicate]; omega))) rfl (fun p_6 hp_7 => ?_)
    refine Wx.ex (rd_load hp_7 rfl Tryd.isAgg58 Tryd.sizeOf58) rfl (fun v_8 hv_9 => ?_)
    obtain ⟨rfl, bd_10, bd_11⟩ := hv_9.i2
    have bd_10 := bd_i64 bd_10
    have bd_11 := bd_i64 bd_11
    refine Wx.alloc (cs := [.int .i64 0, .int .i64 0]) hS Tryd.zeroValue58 rfl rfl (fun g_12 w_13 hx_15 hb_14 hS => ?_)
    refine Wx.rd (v := .int .i64 k) (rd_assign rfl) rfl ?_
    refine Wx.storeX (cs' := [.int .i64 ((ix (0, 0) l k).1), .int .i64 ((ix (0, 0) l k).2)]) (ds := [.int .i64 ((ix (0, 0) l k).1), .int .i64 ((ix (0, 0) l k).2)]) hS 0 rfl rfl rfl rfl Tryd.sizeOf58 (Nat.le_of_ble_eq_true rfl) (one_cons rfl (one_cons rfl one_nil)) rfl (fun w_16 hz_17 hS => ?_)
    refine Wx.nil ?_
    refine W.seq ?_
    refine W.seq ?_
    refine W.regQ mixedHy_ (by kernel_rfl) ?_
    refine Wx.rd (v := .pointer (some ⟨g_12, 0, none⟩)) (rd_indexArr (n := 0) rfl rfl Tryd.underlying58 Tryd.sizeOf3 (by decide) (by decide)) rfl ?_
    refine Wx.rd (v := .int .i64 ((ix (0, 0) l k).1)) (rd_loadX hS 0 rfl rfl rfl Tryd.isAgg3) rfl ?_
    refine Wx.rd (v := .bool (decide (((ix (0, 0) l k).1) < 0))) (rd_lss rfl rfl) rfl ?_
    refine Wx.rd (v := .bool (decide (((ix (0, 0) l k).1) < 0))) (rd_move rfl) rfl ?_
    refine Wx.cutQ (X := Unit) 6 [22, 23, 24, 25, 26, 27] (fun _ => [(27, .bool (decide (((ix (0, 0) l k).1) < 0) || decide (((ix (0, 0) l k).2) ≤ ((ix (0, 0) l k).1))))]) (fun _ => True) ?_ ?_
    · rcases Bool.eq_false_or_eq_true (decide (((ix (0, 0) l k).1) < 0)) with g_18 | g_18
      · -- True
        have gp_19 := of_decide_eq_true g_18
        refine Wx.gnoB rfl rfl (congrArg Value.bool g_18) rfl rfl ?_
        refine Wx.gnoB rfl rfl (congrArg Value.bool g_18) rfl rfl ?_
        refine Wx.gnoB rfl rfl (congrArg Value.bool g_18) rfl rfl ?_
        refine Wx.gnoB rfl rfl (congrArg Value.bool g_18) rfl rfl ?_
        refine Wx.gnoB rfl rfl (congrArg Value.bool g_18) rfl rfl ?_
        refine Wx.rd (v := .bool true) (rd_pickT (congrArg Value.bool g_18) rfl) rfl ?_
        refine Wx.nilQ (fun _ _ => ⟨(), trivial, ⟨?_, trivial⟩, Out.look rfl Out.refl⟩)
        show Value.bool true = Value.bool (decide (((ix (0, 0) l k).1) < 0) || decide (((ix (0, 0) l k).2) ≤ ((ix (0, 0) l k).1)))
        first | rw [g_18, Bool.true_or] | (rw [g_18]; rfl)
      · -- False
        have gp_20 := of_decide_eq_false g_18
        refine Wx.gyes rfl rfl (congrArg Value.bool g_18) ?_
        refine Wx.rd (v := .pointer (some ⟨g_12, 0, none⟩)) (rd_indexArr (n := 0) rfl rfl Tryd.underlying58 Tryd.sizeOf3 (by decide) (by decide)) rfl ?_
        refine Wx.gyes rfl rfl (congrArg Value.bool g_18) ?_
        refine Wx.rd (v := .int .i64 ((ix (0, 0) l k).1)) (rd_loadX hS 0 rfl rfl rfl Tryd.isAgg3) rfl ?_
        refine Wx.gyes rfl rfl (congrArg Value.bool g_18) ?_
        refine Wx.rd (v := .pointer (some ⟨g_12, 1, none⟩)) (rd_indexArr (n := 1) rfl rfl Tryd.underlying58 Tryd.sizeOf3 (by decide) (by decide)) rfl ?_
        refine Wx.gyes rfl rfl (congrArg Value.bool g_18) ?_
        refine Wx.rd (v := .int .i64 ((ix (0, 0) l k).2)) (rd_loadX hS 0 rfl rfl rfl Tryd.isAgg3) rfl ?_
        refine Wx.gyes rfl rfl (congrArg Value.bool g_18) ?_
        refine Wx.rd (v := .bool (decide (((ix (0, 0) l k).2) ≤ ((ix (0, 0) l k).1)))) (rd_geq rfl rfl) rfl ?_
        refine Wx.rd (v := .bool (decide (((ix (0, 0) l k).2) ≤ ((ix (0, 0) l k).1)))) (rd_pickF (congrArg Value.bool g_18) rfl) rfl ?_
        refine Wx.nilQ (fun _ _ => ⟨(), trivial, ⟨?_, trivial⟩, Out.look rfl Out.refl⟩)
        show Value.bool (decide (((ix (0, 0) l k).2) ≤ ((ix (0, 0) l k).1))) = Value.bool (decide (((ix (0, 0) l k).1) < 0) || decide (((ix (0, 0) l k).2) ≤ ((ix (0, 0) l k).1)))
        first | rw [g_18, Bool.false_or] | (rw [g_18]; rfl)
    rintro ⟨⟩ u_22 -
    refine Wx.rd (v := .bool (decide (((ix (0, 0) l k).1) < 0) || decide (((ix (0, 0) l k).2) ≤ ((ix (0, 0) l k).1)))) (rd_move rfl) rfl ?_
    refine Wx.cutQ (X := Unit) 6 [29, 30, 31, 32, 33, 34] (fun _ => [(34, .bool ((decide (((ix (0, 0) l k).1) < 0) || decide (((ix (0, 0) l k).2) ≤ ((ix (0, 0) l k).1))) || decide ((rim.size : Int) ≤ ((ix (0, 0) l k).2))))]) (fun _ => True) ?_ ?_
    · rcases Bool.eq_false_or_eq_true (decide (((ix (0, 0) l k).1) < 0) || decide (((ix (0, 0) l k).2) ≤ ((ix (0, 0) l k).1))) with g_23 | g_23
      · -- True
        have gp_24 := g_23
        try simp only [Bool.and_eq_true, Bool.or_eq_true, Bool.not_eq_true', Bool.and_eq_false_iff, Bool.or_eq_false_iff, Bool.not_eq_false', decide_eq_true_eq, decide_eq_false_iff_not, not_or, Bool.false_eq_true, Bool.true_eq_false, false_or, or_false, not_false_eq_true] at gp_24
        refine Wx.gnoB rfl rfl (congrArg Value.bool g_23) rfl rfl ?_
        refine Wx.gnoB rfl rfl (congrArg Value.bool g_23) rfl rfl ?_
        refine Wx.gnoB rfl rfl (congrArg Value.bool g_23) rfl rfl ?_
        refine Wx.gnoB rfl rfl (congrArg Value.bool g_23) rfl rfl ?_
        refine Wx.gnoB rfl rfl (congrArg Value.bool g_23) rfl rfl ?_
        refine Wx.rd (v := .bool true) (rd_pickT (congrArg Value.bool g_23) rfl) rfl ?_
        refine Wx.nilQ (fun _ _ => ⟨(), trivial, ⟨?_, trivial⟩, Out.look rfl Out.refl⟩)
        show Value.bool true = Value.bool ((decide (((ix (0, 0) l k).1) < 0) || decide (((ix (0, 0) l k).2) ≤ ((ix (0, 0) l k).1))) || decide ((rim.size : Int) ≤ ((ix (0, 0) l k).2)))
        first | rw [g_23, Bool.true_or] | (rw [g_23]; rfl)
      · -- False
        have gp_25 := g_23
        try simp only [Bool.and_eq_true, Bool.or_eq_true, Bool.not_eq_true', Bool.and_eq_false_iff, Bool.or_eq_false_iff, Bool.not_eq_false', decide_eq_true_eq, decide_eq_false_iff_not, not_or, Bool.false_eq_true, Bool.true_eq_false, false_or, or_false, not_false_eq_true] at gp_25
        refine Wx.gyes rfl rfl (congrArg Value.bool g_23) ?_
        refine Wx.rd (v := .pointer (some ⟨g_12, 1, none⟩)) (rd_indexArr (n := 1) rfl rfl Tryd.underlying58 Tryd.sizeOf3 (by decide) (by decide)) rfl ?_
        refine Wx.gyes rfl rfl (congrArg Value.bool g_23) ?_
        refine Wx.rd (v := .int .i64 ((ix (0, 0) l k).2)) (rd_loadX hS 0 rfl rfl rfl Tryd.isAgg3) rfl ?_
        refine Wx.gyes rfl rfl (congrArg Value.bool g_23) ?_
        refine Wx.rd (v := .string rim) (rd_move rfl) rfl ?_
        refine Wx.gyes rfl rfl (congrArg Value.bool g_23) ?_
        refine Wx.rd (v := .int .i64 (rim.size : Int)) (rd_lenS rfl Tryd.underlying9) rfl ?_
        refine Wx.gyes rfl rfl (congrArg Value.bool g_23) ?_
        refine Wx.rd (v := .bool (decide ((rim.size : Int) ≤ ((ix (0, 0) l k).2)))) (rd_geq rfl rfl) rfl ?_
        refine Wx.rd (v := .bool (decide ((rim.size : Int) ≤ ((ix (0, 0) l k).2)))) (rd_pickF (congrArg Value.bool g_23) rfl) rfl ?_
        refine Wx.nilQ (fun _ _ => ⟨(), trivial, ⟨?_, trivial⟩, Out.look rfl Out.refl⟩)
        show Value.bool (decide ((rim.size : Int) ≤ ((ix (0, 0) l k).2))) = Value.bool ((decide (((ix (0, 0) l k).1) < 0) || decide (((ix (0, 0) l k).2) ≤ ((ix (0, 0) l k).1))) || decide ((rim.size : Int) ≤ ((ix (0, 0) l k).2)))
        first | rw [g_23, Bool.false_or] | (rw [g_23]; rfl)
    rintro ⟨⟩ u_27 -
    refine Wx.rd (v := .bool ((decide (((ix (0, 0) l k).1) < 0) || decide (((ix (0, 0) l k).2) ≤ ((ix (0, 0) l k).1))) || decide ((rim.size : Int) ≤ ((ix (0, 0) l k).2)))) (rd_move rfl) rfl ?_
    refine Wx.cutQ (X := Unit) 5 [36, 37, 38, 39, 40] (fun _ => [(40, .bool (((decide (((ix (0, 0) l k).1) < 0) || decide (((ix (0, 0) l k).2) ≤ ((ix (0, 0) l k).1))) || decide ((rim.size : Int) ≤ ((ix (0, 0) l k).2))) || mget false m ((ix (0, 0) l k).1)))]) (fun _ => True) ?_ ?_
    · rcases Bool.eq_false_or_eq_true ((decide (((ix (0, 0) l k).1) < 0) || decide (((ix (0, 0) l k).2) ≤ ((ix (0, 0) l k).1))) || decide ((rim.size : Int) ≤ ((ix (0, 0) l k).2))) with g_28 | g_28
      · -- True
        have gp_29 := g_28
        try simp only [Bool.and_eq_true, Bool.or_eq_true, Bool.not_eq_true', Bool.and_eq_false_iff, Bool.or_eq_false_iff, Bool.not_eq_false', decide_eq_true_eq, decide_eq_false_iff_not, not_or, Bool.false_eq_true, Bool.true_eq_false, false_or, or_false, not_false_eq_true] at gp_29
        refine Wx.gnoB rfl rfl (congrArg Value.bool g_28) rfl rfl ?_
        refine Wx.gnoB rfl rfl (congrArg Value.bool g_28) rfl rfl ?_
        refine Wx.gnoB rfl rfl (congrArg Value.bool g_28) rfl rfl ?_
        refine Wx.gnoB rfl rfl (congrArg Value.bool g_28) rfl rfl ?_
        refine Wx.rd (v := .bool true) (rd_pickT (congrArg Value.bool g_28) rfl) rfl ?_
        refine Wx.nilQ (fun _ _ => ⟨(), trivial, ⟨?_, trivial⟩, Out.look rfl Out.refl⟩)
        show Value.bool true = Value.bool (((decide (((ix (0, 0) l k).1) < 0) || decide (((ix (0, 0) l k).2) ≤ ((ix (0, 0) l k).1))) || decide ((rim.size : Int) ≤ ((ix (0, 0) l k).2))) || mget false m ((ix (0, 0) l k).1))
        first | rw [g_28, Bool.true_or] | (rw [g_28]; rfl)
      · -- False
        have gp_30 := g_28
        try simp only [Bool.and_eq_true, Bool.or_eq_true, Bool.not_eq_true', Bool.and_eq_false_iff, Bool.or_eq_false_iff, Bool.not_eq_false', decide_eq_true_eq, decide_eq_false_iff_not, not_or, Bool.false_eq_true, Bool.true_eq_false, false_or, or_false, not_false_eq_true] at gp_30
        refine Wx.gyes rfl rfl (congrArg Value.bool g_28) ?_
        refine Wx.rd (v := .map (some g_2)) (rd_move rfl) rfl ?_
        refine Wx.gyes rfl rfl (congrArg Value.bool g_28) ?_
        refine Wx.rd (v := .pointer (some ⟨g_12, 0, none⟩)) (rd_indexArr (n := 0) rfl rfl Tryd.underlying58 Tryd.sizeOf3 (by decide) (by decide)) rfl ?_
        refine Wx.gyes rfl rfl (congrArg Value.bool g_28) ?_
        refine Wx.rd (v := .int .i64 ((ix (0, 0) l k).1)) (rd_loadX hS 0 rfl rfl rfl Tryd.isAgg3) rfl ?_
        refine Wx.gyes rfl rfl (congrArg Value.bool g_28) ?_
        refine Wx.rd (v := .bool (mget false m ((ix (0, 0) l k).1))) (rd_lookup (m := m) (zv := false) (k := ((ix (0, 0) l k).1)) (f := (Value.int .i64)) (g := Value.bool) hS 1 rfl rfl rfl Tryd.underlying72 (KeyD.int Tryd.underlying3) (fun _ => Tryd.zeroValue4 _)) rfl ?_
        refine Wx.rd (v := .bool (mget false m ((ix (0, 0) l k).1))) (rd_pickF (congrArg Value.bool g_28) rfl) rfl ?_
        refine Wx.nilQ (fun _ _ => ⟨(), trivial, ⟨?_, trivial⟩, Out.look rfl Out.refl⟩)
        show Value.bool (mget false m ((ix (0, 0) l k).1)) = Value.bool (((decide (((ix (0, 0) l k).1) < 0) || decide (((ix (0, 0) l k).2) ≤ ((ix (0, 0) l k).1))) || decide ((rim.size : Int) ≤ ((ix (0, 0) l k).2))) || mget false m ((ix (0, 0) l k).1))
        first | rw [g_28, Bool.false_or] | (rw [g_28]; rfl)
    rintro ⟨⟩ u_33 -
    refine Wx.rd (v := .bool (((decide (((ix (0, 0) l k).1) < 0) || decide (((ix (0, 0) l k).2) ≤ ((ix (0, 0) l k).1))) || decide ((rim.size : Int) ≤ ((ix (0, 0) l k).2))) || mget false m ((ix (0, 0) l k).1))) (rd_move rfl) rfl ?_
    refine Wx.cutQ (X := Unit) 5 [42, 43, 44, 45, 46] (fun _ => [(46, .bool ((((decide (((ix (0, 0) l k).1) < 0) || decide (((ix (0, 0) l k).2) ≤ ((ix (0, 0) l k).1))) || decide ((rim.size : Int) ≤ ((ix (0, 0) l k).2))) || mget false m ((ix (0, 0) l k).1)) || mget false m ((ix (0, 0) l k).2)))]) (fun _ => True) ?_ ?_
    · rcases Bool.eq_false_or_eq_true (((decide (((ix (0, 0) l k).1) < 0) || decide (((ix (0, 0) l k).2) ≤ ((ix (0, 0) l k).1))) || decide ((rim.size : Int) ≤ ((ix (0, 0) l k).2))) || mget false m ((ix (0, 0) l k).1)) with g_34 | g_34
      · -- True
        have gp_35 := g_34
        try simp only [Bool.and_eq_true, Bool.or_eq_true, Bool.not_eq_true', Bool.and_eq_false_iff, Bool.or_eq_false_iff, Bool.not_eq_false', decide_eq_true_eq, decide_eq_false_iff_not, not_or, Bool.false_eq_true, Bool.true_eq_false, false_or, or_false, not_false_eq_true] at gp_35
        refine Wx.gnoB rfl rfl (congrArg Value.bool g_34) rfl rfl ?_
        refine Wx.gnoB rfl rfl (congrArg Value.bool g_34) rfl rfl ?_
        refine Wx.gnoB rfl rfl (congrArg Value.bool g_34) rfl rfl ?_
        refine Wx.gnoB rfl rfl (congrArg Value.bool g_34) rfl rfl ?_
        refine Wx.rd (v := .bool true) (rd_pickT (congrArg Value.bool g_34) rfl) rfl ?_
        refine Wx.nilQ (fun _ _ => ⟨(), trivial, ⟨?_, trivial⟩, Out.look rfl Out.refl⟩)
        show Value.bool true = Value.bool ((((decide (((ix (0, 0) l k).1) < 0) || decide (((ix (0, 0) l k).2) ≤ ((ix (0, 0) l k).1))) || decide ((rim.size : Int) ≤ ((ix (0, 0) l k).2))) || mget false m ((ix (0, 0) l k).1)) || mget false m ((ix (0, 0) l k).2))
        first | rw [g_34, Bool.true_or] | (rw [g_34]; rfl)
      · -- False
        have gp_36 := g_34
        try simp only [Bool.and_eq_true, Bool.or_eq_true, Bool.not_eq_true', Bool.and_eq_false_iff, Bool.or_eq_false_iff, Bool.not_eq_false', decide_eq_true_eq, decide_eq_false_iff_not, not_or, Bool.false_eq_true, Bool.true_eq_false, false_or, or_false, not_false_eq_true] at gp_36
        refine Wx.gyes rfl rfl (congrArg Value.bool g_34) ?_
        refine Wx.rd (v := .map (some g_2)) (rd_move rfl) rfl ?_
        refine Wx.gyes rfl rfl (congrArg Value.bool g_34) ?_
        refine Wx.rd (v := .pointer (some ⟨g_12, 1, none⟩)) (rd_indexArr (n := 1) rfl rfl Tryd.underlying58 Tryd.sizeOf3 (by decide) (by decide)) rfl ?_
        refine Wx.gyes rfl rfl (congrArg Value.bool g_34) ?_
        refine Wx.rd (v := .int .i64 ((ix (0, 0) l k).2)) (rd_loadX hS 0 rfl rfl rfl Tryd.isAgg3) rfl ?_
        refine Wx.gyes rfl rfl (congrArg Value.bool g_34) ?_
        refine Wx.rd (v := .bool (mget false m ((ix (0, 0) l k).2))) (rd_lookup (m := m) (zv := false) (k := ((ix (0, 0) l k).2)) (f := (Value.int .i64)) (g := Value.bool) hS 1 rfl rfl rfl Tryd.underlying72 (KeyD.int Tryd.underlying3) (fun _ => Tryd.zeroValue4 _)) rfl ?_
        refine Wx.rd (v := .bool (mget false m ((ix (0, 0) l k).2))) (rd_pickF (congrArg Value.bool g_34) rfl) rfl ?_
        refine Wx.nilQ (fun _ _ => ⟨(), trivial, ⟨?_, trivial⟩, Out.look rfl Out.refl⟩)
        show Value.bool (mget false m ((ix (0, 0) l k).2)) = Value.bool ((((decide (((ix (0, 0) l k).1) < 0) || decide (((ix (0, 0) l k).2) ≤ ((ix (0, 0) l k).1))) || decide ((rim.size : Int) ≤ ((ix (0, 0) l k).2))) || mget false m ((ix (0, 0) l k).1)) || mget false m ((ix (0, 0) l k).2))
        first | rw [g_34, Bool.false_or] | (rw [g_34]; rfl)
    rintro ⟨⟩ u_39 -
    refine Wx.rd (v := .bool ((((decide (((ix (0, 0) l k).1) < 0) || decide (((ix (0, 0) l k).2) ≤ ((ix (0, 0) l k).1))) || decide ((rim.size : Int) ≤ ((ix (0, 0) l k).2))) || mget false m ((ix (0, 0) l k).1)) || mget false m ((ix (0, 0) l k).2))) (rd_move rfl) rfl ?_
    refine Wx.cutQ (X := Unit) 11 [48, 49, 50, 51, 52, 53, 54, 55, 56, 57, 58] (fun _ => [(58, .bool (((((decide (((ix (0, 0) l k).1) < 0) || decide (((ix (0, 0) l k).2) ≤ ((ix (0, 0) l k).1))) || decide ((rim.size : Int) ≤ ((ix (0, 0) l k).2))) || mget false m ((ix (0, 0) l k).1)) || mget false m ((ix (0, 0) l k).2)) || !(fitC (tabAt rim ((ix (0, 0) l k).1)) (tabAt rim ((ix (0, 0) l k).2)))))]) (fun _ => True) ?_ ?_
    · rcases Bool.eq_false_or_eq_true ((((decide (((ix (0, 0) l k).1) < 0) || decide (((ix (0, 0) l k).2) ≤ ((ix (0, 0) l k).1))) || decide ((rim.size : Int) ≤ ((ix (0, 0) l k).2))) || mget false m ((ix (0, 0) l k).1)) || mget false m ((ix (0, 0) l k).2)) with g_40 | g_40
      · -- True
        have gp_41 := g_40
        try simp only [Bool.and_eq_true, Bool.or_eq_true, Bool.not_eq_true', Bool.and_eq_false_iff, Bool.or_eq_false_iff, Bool.not_eq_false', decide_eq_true_eq, decide_eq_false_iff_not, not_or, Bool.false_eq_true, Bool.true_eq_false, false_or, or_false, not_false_eq_true] at gp_41
        refine Wx.gnoB rfl rfl (congrArg Value.bool g_40) rfl rfl ?_
        refine Wx.gnoB rfl rfl (congrArg Value.bool g_40) rfl rfl ?_
        refine Wx.gnoB rfl rfl (congrArg Value.bool g_40) rfl rfl ?_
        refine Wx.gnoB rfl rfl (congrArg Value.bool g_40) rfl rfl ?_
        refine Wx.gnoB rfl rfl (congrArg Value.bool g_40) rfl rfl ?_
        refine Wx.gnoB rfl rfl (congrArg Value.bool g_40) rfl rfl ?_
        refine Wx.gnoB rfl rfl (congrArg Value.bool g_40) rfl rfl ?_
        refine Wx.gnoB rfl rfl (congrArg Value.bool g_40) rfl rfl ?_
        refine Wx.gnoB rfl rfl (congrArg Value.bool g_40) rfl rfl ?_
        refine Wx.gnoB rfl rfl (congrArg Value.bool g_40) rfl rfl ?_
        refine Wx.rd (v := .bool true) (rd_pickT (congrArg Value.bool g_40) rfl) rfl ?_
        refine Wx.nilQ (fun _ _ => ⟨(), trivial, ⟨?_, trivial⟩, Out.look rfl Out.refl⟩)
        show Value.bool true = Value.bool (((((decide (((ix (0, 0) l k).1) < 0) || decide (((ix (0, 0) l k).2) ≤ ((ix (0, 0) l k).1))) || decide ((rim.size : Int) ≤ ((ix (0, 0) l k).2))) || mget false m ((ix (0, 0) l k).1)) || mget false m ((ix (0, 0) l k).2)) || !(fitC (tabAt rim ((ix (0, 0) l k).1)) (tabAt rim ((ix (0, 0) l k).2))))
        first | rw [g_40, Bool.true_or] | (rw [g_40]; rfl)
      · -- False
        have gp_42 := g_40
        try simp only [Bool.and_eq_true, Bool.or_eq_true, Bool.not_eq_true', Bool.and_eq_false_iff, Bool.or_eq_false_iff, Bool.not_eq_false', decide_eq_true_eq, decide_eq_false_iff_not, not_or, Bool.false_eq_true, Bool.true_eq_false, false_or, or_false, not_false_eq_true] at gp_42
        refine Wx.gyes rfl rfl (congrArg Value.bool g_40) ?_
        refine Wx.rd (v := .string rim) (rd_move rfl) rfl ?_
        refine Wx.gyes rfl rfl (congrArg Value.bool g_40) ?_
        refine Wx.rd (v := .pointer (some ⟨g_12, 0, none⟩)) (rd_indexArr (n := 0) rfl rfl Tryd.underlying58 Tryd.sizeOf3 (by decide) (by decide)) rfl ?_
        refine Wx.gyes rfl rfl (congrArg Value.bool g_40) ?_
        refine Wx.rd (v := .int .i64 ((ix (0, 0) l k).1)) (rd_loadX hS 0 rfl rfl rfl Tryd.isAgg3) rfl ?_
        refine Wx.gyes rfl rfl (congrArg Value.bool g_40) ?_
        refine Wx.rd (v := .int .u8 (tabAt rim ((ix (0, 0) l k).1))) (rd_indexS' (by kernel_rfl) rfl Tryd.underlying9 (by omega) (by omega)) rfl ?_
        have bd_43 := tabAt_bd rim ((ix (0, 0) l k).1)
        refine Wx.gyes rfl rfl (congrArg Value.bool g_40) ?_
        refine Wx.rd (v := .string rim) (rd_move rfl) rfl ?_
        refine Wx.gyes rfl rfl (congrArg Value.bool g_40) ?_
        refine Wx.rd (v := .pointer (some ⟨g_12, 1, none⟩)) (rd_indexArr (n := 1) rfl rfl Tryd.underlying58 Tryd.sizeOf3 (by decide) (by decide)) rfl ?_
        refine Wx.gyes rfl rfl (congrArg Value.bool g_40) ?_
        refine Wx.rd (v := .int .i64 ((ix (0, 0) l k).2)) (rd_loadX hS 0 rfl rfl rfl Tryd.isAgg3) rfl ?_
        refine Wx.gyes rfl rfl (congrArg Value.bool g_40) ?_
        refine Wx.rd (v := .int .u8 (tabAt rim ((ix (0, 0) l k).2))) (rd_indexS' (by kernel_rfl) rfl Tryd.underlying9 (by omega) (by omega)) rfl ?_
        have bd_44 := tabAt_bd rim ((ix (0, 0) l k).2)
        refine Wx.gyes rfl rfl (congrArg Value.bool g_40) ?_
        refine Wx.callV (v := .bool (fitC (tabAt rim ((ix (0, 0) l k).1)) (tabAt rim ((ix (0, 0) l k).2)))) (run_callF Tryd.call58 rfl) (fun w_45 hw_46 => (F58 (in_u8 (by omega) (by omega)) (in_u8 (by omega) (by omega)))) rfl ?_
        refine Wx.gyes rfl rfl (congrArg Value.bool g_40) ?_
        refine Wx.rd (v := .bool (!(fitC (tabAt rim ((ix (0, 0) l k).1)) (tabAt rim ((ix (0, 0) l k).2))))) (rd_not rfl) rfl ?_
        refine Wx.rd (v := .bool (!(fitC (tabAt rim ((ix (0, 0) l k).1)) (tabAt rim ((ix (0, 0) l k).2))))) (rd_pickF (congrArg Value.bool g_40) rfl) rfl ?_
        refine Wx.nilQ (fun _ _ => ⟨(), trivial, ⟨?_, trivial⟩, Out.look rfl Out.refl⟩)
        show Value.bool (!(fitC (tabAt rim ((ix (0, 0) l k).1)) (tabAt rim ((ix (0, 0) l k).2)))) = Value.bool (((((decide (((ix (0, 0) l k).1) < 0) || decide (((ix (0, 0) l k).2) ≤ ((ix (0, 0) l k).1))) || decide ((rim.size : Int) ≤ ((ix (0, 0) l k).2))) || mget false m ((ix (0, 0) l k).1)) || mget false m ((ix (0, 0) l k).2)) || !(fitC (tabAt rim ((ix (0, 0) l k).1)) (tabAt rim ((ix (0, 0) l k).2))))
        first | rw [g_40, Bool.false_or] | (rw [g_40]; rfl)
    rintro ⟨⟩ u_48 -
    refine Wx.rd (v := .bool (((((decide (((ix (0, 0) l k).1) < 0) || decide (((ix (0, 0) l k).2) ≤ ((ix (0, 0) l k).1))) || decide ((rim.size : Int) ≤ ((ix (0, 0) l k).2))) || mget false m ((ix (0, 0) l k).1)) || mget false m ((ix (0, 0) l k).2)) || !(fitC (tabAt rim ((ix (0, 0) l k).1)) (tabAt rim ((ix (0, 0) l k).2))))) (rd_move rfl) rfl ?_
    refine Wx.cutQ (X := Unit) 14 [60, 61, 62, 63, 64, 65, 66, 67, 68, 69, 70, 71, 72, 73] (fun _ => [(73, .bool ((((((decide (((ix (0, 0) l k).1) < 0) || decide (((ix (0, 0) l k).2) ≤ ((ix (0, 0) l k).1))) || decide ((rim.size : Int) ≤ ((ix (0, 0) l k).2))) || mget false m ((ix (0, 0) l k).1)) || mget false m ((ix (0, 0) l k).2)) || !(fitC (tabAt rim ((ix (0, 0) l k).1)) (tabAt rim ((ix (0, 0) l k).2)))) || (decide (0 < k) && decide (((ix (0, 0) l k).1) < ((ix (0, 0) l (k - 1)).1)))))]) (fun _ => True) ?_ ?_
    · rcases Bool.eq_false_or_eq_true (((((decide (((ix (0, 0) l k).1) < 0) || decide (((ix (0, 0) l k).2) ≤ ((ix (0, 0) l k).1))) || decide ((rim.size : Int) ≤ ((ix (0, 0) l k).2))) || mget false m ((ix (0, 0) l k).1)) || mget false m ((ix (0, 0) l k).2)) || !(fitC (tabAt rim ((ix (0, 0) l k).1)) (tabAt rim ((ix (0, 0) l k).2)))) with g_49 | g_49
      · -- True
        have gp_50 := g_49
        try simp only [Bool.and_eq_true, Bool.or_eq_true, Bool.not_eq_true', Bool.and_eq_false_iff, Bool.or_eq_false_iff, Bool.not_eq_false', decide_eq_true_eq, decide_eq_false_iff_not, not_or, Bool.false_eq_true, Bool.true_eq_false, false_or, or_false, not_false_eq_true] at gp_50
        refine Wx.gnoB rfl rfl (congrArg Value.bool g_49) rfl rfl ?_
        refine Wx.gnoB rfl rfl (congrArg Value.bool g_49) rfl rfl ?_
        refine Wx.gnoB rfl rfl (congrArg Value.bool g_49) rfl rfl ?_
        refine Wx.gno rfl rfl rfl rfl ?_
        refine Wx.gno rfl rfl rfl rfl ?_
        refine Wx.gno rfl rfl rfl rfl ?_
        refine Wx.gno rfl rfl rfl rfl ?_
        refine Wx.gno rfl rfl rfl rfl ?_
        refine Wx.gno rfl rfl rfl rfl ?_
        refine Wx.gno rfl rfl rfl rfl ?_
        refine Wx.gno rfl rfl rfl rfl ?_
        refine Wx.gno rfl rfl rfl rfl ?_
        refine Wx.gnoB rfl rfl (congrArg Value.bool g_49) rfl rfl ?_
        refine Wx.rd (v := .bool true) (rd_pickT (congrArg Value.bool g_49) rfl) rfl ?_
        refine Wx.nilQ (fun _ _ => ⟨(), trivial, ⟨?_, trivial⟩, Out.look rfl Out.refl⟩)
        show Value.bool true = Value.bool ((((((decide (((ix (0, 0) l k).1) < 0) || decide (((ix (0, 0) l k).2) ≤ ((ix (0, 0) l k).1))) || decide ((rim.size : Int) ≤ ((ix (0, 0) l k).2))) || mget false m ((ix (0, 0) l k).1)) || mget false m ((ix (0, 0) l k).2)) || !(fitC (tabAt rim ((ix (0, 0) l k).1)) (tabAt rim ((ix (0, 0) l k).2)))) || (decide (0 < k) && decide (((ix (0, 0) l k).1) < ((ix (0, 0) l (k - 1)).1))))
        first | rw [g_49, Bool.true_or] | (rw [g_49]; rfl)
      · -- False
        have gp_51 := g_49
        try simp only [Bool.and_eq_true, Bool.or_eq_true, Bool.not_eq_true', Bool.and_eq_false_iff, Bool.or_eq_false_iff, Bool.not_eq_false', decide_eq_true_eq, decide_eq_false_iff_not, not_or, Bool.false_eq_true, Bool.true_eq_false, false_or, or_false, not_false_eq_true] at gp_51
        refine Wx.gyes rfl rfl (congrArg Value.bool g_49) ?_
        refine Wx.rd (v := .int .i64 k) (rd_move rfl) rfl ?_
        refine Wx.gyes rfl rfl (congrArg Value.bool g_49) ?_
        refine Wx.rd (v := .bool (decide (0 < k))) (rd_gtr rfl rfl) rfl ?_
        refine Wx.gyes rfl rfl (congrArg Value.bool g_49) ?_
        refine Wx.rd (v := .bool (decide (0 < k))) (rd_move rfl) rfl ?_
        refine Wx.cutQ (X := Unit) 10 [63, 64, 65, 66, 67, 68, 69, 70, 71, 72] (fun _ => [(72, .bool (decide (0 < k) && decide (((ix (0, 0) l k).1) < ((ix (0, 0) l (k - 1)).1))))]) (fun _ => True) ?_ ?_
        · rcases Bool.eq_false_or_eq_true (decide (0 < k)) with g_52 | g_52
          · -- True
            have gp_53 := of_decide_eq_true g_52
            refine Wx.gyes rfl rfl (congrArg Value.bool g_52) ?_
            refine Wx.rd (v := .pointer (some ⟨g_12, 0, none⟩)) (rd_indexArr (n := 0) rfl rfl Tryd.underlying58 Tryd.sizeOf3 (by decide) (by decide)) rfl ?_
            refine Wx.gyes rfl rfl (congrArg Value.bool g_52) ?_
            refine Wx.rd (v := .int .i64 ((ix (0, 0) l k).1)) (rd_loadX hS 0 rfl rfl rfl Tryd.isAgg3) rfl ?_
            refine Wx.gyes rfl rfl (congrArg Value.bool g_52) ?_
            refine Wx.rd (v := lv) (rd_move rfl) rfl ?_
            refine Wx.gyes rfl rfl (congrArg Value.bool g_52) ?_
            refine Wx.rd (v := .int .i64 k) (rd_move rfl) rfl ?_
            refine Wx.gyes rfl rfl (congrArg Value.bool g_52) ?_
            refine Wx.rd (v := .int .i64 (k - 1)) (rd_sub rfl rfl (in_i64 (by omega) (by omega))) rfl ?_
            refine Wx.gyes rfl rfl (congrArg Value.bool g_52) ?_
            refine Wx.ex (rd_index (0, 0) (hS.arg a_lv) rfl rfl Tryd.underlying22 Tryd.sizeOf58 (by first | omega | (simp only [List.length_set, List.length_append, List.length_cons, List.length_nil, List.length_replicate]; omega)) (by first | omega | (simp only [List.length_set, List.length_append, List.length_cons, List.length_nil, List.length_replicate]; omega))) rfl (fun p_54 hp_55 => ?_)
            refine Wx.gyes rfl rfl (congrArg Value.bool g_52) ?_
            refine Wx.ex (rd_indexE1 hp_55 rfl rfl Tryd.underlying58 (by decide) Tryd.sizeOf3) rfl (fun p_56 hp_57 => ?_)
            refine Wx.gyes rfl rfl (congrArg Value.bool g_52) ?_
            refine Wx.rd (v := .int .i64 ((ix (0, 0) l (k - 1)).1)) (rd_loadI hp_57 rfl Tryd.isAgg3 Tryd.sizeOf3) rfl ?_
            have bd_58 := bd_i64 hp_57.inK
            refine Wx.gyes rfl rfl (congrArg Value.bool g_52) ?_
            refine Wx.rd (v := .bool (decide (((ix (0, 0) l k).1) < ((ix (0, 0) l (k - 1)).1)))) (rd_lss rfl rfl) rfl ?_
            refine Wx.gyes rfl rfl (congrArg Value.bool g_49) ?_
            refine Wx.rd (v := .bool (decide (((ix (0, 0) l k).1) < ((ix (0, 0) l (k - 1)).1)))) (rd_pickT (congrArg Value.bool g_52) rfl) rfl ?_
            refine Wx.nilQ (fun _ _ => ⟨(), trivial, ⟨?_, trivial⟩, Out.look rfl Out.refl⟩)
            show Value.bool (decide (((ix (0, 0) l k).1) < ((ix (0, 0) l (k - 1)).1))) = Value.bool (decide (0 < k) && decide (((ix (0, 0) l k).1) < ((ix (0, 0) l (k - 1)).1)))
            first | rw [g_52, Bool.true_and] | (rw [g_52]; rfl)
          · -- False
            have gp_59 := of_decide_eq_false g_52
            refine Wx.gnoB rfl rfl (congrArg Value.bool g_52) rfl rfl ?_
            refine Wx.gnoB rfl rfl (congrArg Value.bool g_52) rfl rfl ?_
            refine Wx.gnoB rfl rfl (congrArg Value.bool g_52) rfl rfl ?_
            refine Wx.gnoB rfl rfl (congrArg Value.bool g_52) rfl rfl ?_
            refine Wx.gnoB rfl rfl (congrArg Value.bool g_52) rfl rfl ?_
            refine Wx.gnoB rfl rfl (congrArg Value.bool g_52) rfl rfl ?_
            refine Wx.gnoB rfl rfl (congrArg Value.bool g_52) rfl rfl ?_
            refine Wx.gnoB rfl rfl (congrArg Value.bool g_52) rfl rfl ?_
            refine Wx.gnoB rfl rfl (congrArg Value.bool g_52) rfl rfl ?_
            refine Wx.gyes rfl rfl (congrArg Value.bool g_49) ?_
            refine Wx.rd (v := .bool false) (rd_pickF (congrArg Value.bool g_52) rfl) rfl ?_
            refine Wx.nilQ (fun _ _ => ⟨(), trivial, ⟨?_, trivial⟩, Out.look rfl Out.refl⟩)
            show Value.bool false = Value.bool (decide (0 < k) && decide (((ix (0, 0) l k).1) < ((ix (0, 0) l (k - 1)).1)))
            first | rw [g_52, Bool.false_and] | (rw [g_52]; rfl)
        rintro ⟨⟩ u_61 -
        refine Wx.rd (v := .bool (decide (0 < k) && decide (((ix (0, 0) l k).1) < ((ix (0, 0) l (k - 1)).1)))) (rd_pickF (congrArg Value.bool g_49) rfl) rfl ?_
        refine Wx.nilQ (fun _ _ => ⟨(), trivial, ⟨?_, trivial⟩, Out.look rfl (Out.hav rfl (Out.look rfl Out.refl))⟩)
        show Value.bool (decide (0 < k) && decide (((ix (0, 0) l k).1) < ((ix (0, 0) l (k - 1)).1))) = Value.bool ((((((decide (((ix (0, 0) l k).1) < 0) || decide (((ix (0, 0) l k).2) ≤ ((ix (0, 0) l k).1))) || decide ((rim.size : Int) ≤ ((ix (0, 0) l k).2))) || mget false m ((ix (0, 0) l k).1)) || mget false m ((ix (0, 0) l k).2)) || !(fitC (tabAt rim ((ix (0, 0) l k).1)) (tabAt rim ((ix (0, 0) l k).2)))) || (decide (0 < k) && decide (((ix (0, 0) l k).1) < ((ix (0, 0) l (k - 1)).1))))
        first | rw [g_49, Bool.false_or] | (rw [g_49]; rfl)
    rintro ⟨⟩ u_63 -
    refine Wx.nilQ (fun w_64 hx_65 => ?_)
    have hS := hS.ext hx_65
    refine W.cond rfl (fun c1 => ?_) (fun c1 => ?_)
    · -- yes
      try simp only [Bool.and_eq_true, Bool.or_eq_true, Bool.not_eq_true', Bool.and_eq_false_iff, Bool.or_eq_false_iff, Bool.not_eq_false', decide_eq_true_eq, decide_eq_false_iff_not, not_or, Bool.false_eq_true, Bool.true_eq_false, false_or, or_false, not_false_eq_true] at c1
      refine W.seq ?_
      refine W.reg ?_
      refine Wx.rd (v := .bool false) (rd_assign rfl) rfl ?_
      refine Wx.nil ?_
      have hbad : badX rim (List.take k.toNat l) (ix (0, 0) l k) ≠ 0 := fun hz => by obtain ⟨⟨z1, z2, z3⟩, z4, z5, z6, z7, z8⟩ := badX_zero.1 hz; rw [h3, h3] at c1; rcases c1 with (((((c | c) | c) | c) | c) | c) | c; omega; omega; omega; (rw [c] at z4; cases z4); (rw [c] at z5; cases z5); (have z9 := z6.symm.trans c; cases z9); (rw [lastI_take c.1 (by omega)] at z8; exact z8 c.2)
      have e0_0 : (soundB rim l) = false := by exact sound_bad h0 c0 h2 hbad
      exact W.ret ⟨.bool false, ResIs.one, hS.bel, (by rw [e0_0])⟩
    · -- no
      try simp only [Bool.and_eq_true, Bool.or_eq_true, Bool.not_eq_true', Bool.and_eq_false_iff, Bool.or_eq_false_iff, Bool.not_eq_false', decide_eq_true_eq, decide_eq_false_iff_not, not_or, Bool.false_eq_true, Bool.true_eq_false, false_or, or_false, not_false_eq_true] at c1
      obtain ⟨⟨⟨⟨⟨⟨d1, d2⟩, d3⟩, d4⟩, d5⟩, d6⟩, d7⟩ := c1
      rw [h3] at d4 d5
      have hlast : ¬ (ix (0, 0) l k).1 < lastI (List.take k.toNat l) := lastI_no h0 (by omega) (by omega) d7
      refine W.skip ?_
      refine W.seq ?_
      refine W.seq ?_
      refine W.reg ?_
      refine Wx.rd (v := lv) (rd_move rfl) rfl ?_
      refine Wx.rd (v := .int .i64 k) (rd_move rfl) rfl ?_
      refine Wx.ex (rd_sliceH (hS.arg a_lv) Tryd.underlying22 Tryd.sizeOf58 rfl rfl (by omega) (by omega)) rfl (fun u_66 hu_67 => ?_)
      have ln_68 := hu_67.len63
      have hS := hS.add hu_67
      refine Wx.rd (v := .int .i64 ((l.take k.toNat).length : Int)) (rd_lenV rfl (hS.v 0 rfl) Tryd.underlying22) rfl ?_
      refine Wx.rd (v := .int .i64 0) (rd_move rfl) rfl ?_
      refine Wx.nil ?_
      refine W.block ?_
      refine W.loop [4, 9, 78, 79, 80, 81, 82, 83, 84, 85] (fun (j : Int) => [(78, .int .i64 j)]) (fun (j : Int) w' => St w [] w' [Ob.v (tSl (tP (tI .i64) (tI .i64))) (l.take k.toNat) u_66, .box g_12 58 [.int .i64 ((ix (0, 0) l k).1), .int .i64 ((ix (0, 0) l k).2)], .raw g_2 (.map (mE (Value.int .i64) Value.bool m 0).toArray m.length)] ∧ 0 ≤ j ∧ j ≤ (List.take k.toNat l).length ∧ crossesB ((List.take k.toNat l).drop j.toNat) (ix (0, 0) l k) = crossesB (List.take k.toNat l) (ix (0, 0) l k)) (fun (j : Int) => ((List.take k.toNat l).length - j).toNat) 0 ⟨rfl, trivial⟩ ⟨hS, (by first | omega | simp), (by first | omega | simp), (rfl)⟩ ?_
      rintro j u_71 w_70 ⟨hS, g0, g1, g2⟩
      refine W.seq ?_
      refine W.reg ?_
      refine Wx.rd (v := .bool (decide (j < ((l.take k.toNat).length : Int)))) (rd_lss rfl rfl) rfl ?_
      refine Wx.nil ?_
      refine W.seq ?_
      refine W.condD rfl (fun c2 => ?_) (fun c2 => ?_)
      · -- yes
        refine W.skip ?_
        refine W.seq ?_
        refine W.block ?_
        refine W.seq ?_
        refine W.reg ?_
        refine Wx.ex (rd_index (0, 0) (hS.v 0 rfl) rfl rfl Tryd.underlying22 Tryd.sizeOf58 (by first | omega | (simp only [List.length_set, List.length_append, List.length_cons, List.length_nil, List.length_replicate]; omega)) (by first | omega | (simp only [List.length_set, List.length_append, List.length_cons, List.length_nil, List.length_replicate]; omega))) rfl (fun p_72 hp_73 => ?_)
        refine Wx.ex (rd_load hp_73 rfl Tryd.isAgg58 Tryd.sizeOf58) rfl (fun v_74 hv_75 => ?_)
        obtain ⟨rfl, bd_76, bd_77⟩ := hv_75.i2
        have bd_76 := bd_i64 bd_76
        have bd_77 := bd_i64 bd_77
        refine Wx.alloc (cs := [.int .i64 0, .int .i64 0]) hS Tryd.zeroValue58 rfl rfl (fun g_78 w_79 hx_81 hb_80 hS => ?_)
        refine Wx.storeX (cs' := [.int .i64 ((ix (0, 0) (l.take k.toNat) j).1), .int .i64 ((ix (0, 0) (l.take k.toNat) j).2)]) (ds := [.int .i64 ((ix (0, 0) (l.take k.toNat) j).1), .int .i64 ((ix (0, 0) (l.take k.toNat) j).2)]) hS 0 rfl rfl rfl rfl Tryd.sizeOf58 (Nat.le_of_ble_eq_true rfl) (one_cons rfl (one_cons rfl one_nil)) rfl (fun w_82 hz_83 hS => ?_)
        refine Wx.nil ?_
        refine W.seq ?_
        refine W.reg ?_
        refine Wx.rd (v := .agg #[.int .i64 ((ix (0, 0) l k).1), .int .i64 ((ix (0, 0) l k).2)]) (rd_loadXs (ds := [.int .i64 ((ix (0, 0) l k).1), .int .i64 ((ix (0, 0) l k).2)]) hS 2 rfl rfl rfl rfl Tryd.isAgg58 Tryd.sizeOf58) rfl ?_
        refine Wx.rd (v := .agg #[.int .i64 ((ix (0, 0) (l.take k.toNat) j).1), .int .i64 ((ix (0, 0) (l.take k.toNat) j).2)]) (rd_loadXs (ds := [.int .i64 ((ix (0, 0) (l.take k.toNat) j).1), .int .i64 ((ix (0, 0) (l.take k.toNat) j).2)]) hS 0 rfl rfl rfl rfl Tryd.isAgg58 Tryd.sizeOf58) rfl ?_
        refine Wx.callF (run_callF Tryd.call89 rfl) (F89 (in_i64 (by omega) (by omega)) (in_i64 (by omega) (by omega)) (in_i64 (by omega) (by omega)) (in_i64 (by omega) (by omega))) rfl ?_
        rintro r_84 w_85 hx_86 rfl
        have hS := hS.ext hx_86
        refine Wx.nil ?_
        refine W.cond rfl (fun c3 => ?_) (fun c3 => ?_)
        · -- yes
          try simp only [Bool.and_eq_true, Bool.or_eq_true, Bool.not_eq_true', Bool.and_eq_false_iff, Bool.or_eq_false_iff, Bool.not_eq_false', decide_eq_true_eq, decide_eq_false_iff_not, not_or, Bool.false_eq_true, Bool.true_eq_false, false_or, or_false, not_false_eq_true] at c3
          refine W.seq ?_
          refine W.reg ?_
          refine Wx.rd (v := .bool false) (rd_assign rfl) rfl ?_
          refine Wx.nil ?_
          have e1_0 : (soundB rim l) = false := by exact sound_bad h0 c0 h2 (fun hz => by have z7 := (badX_zero.1 hz).2.2.2.2.1; rw [crossesB_yes g0 c2 g2 c3] at z7; cases z7)
          exact W.ret ⟨.bool false, ResIs.one, hS.bel, (by rw [e1_0])⟩
        · -- no
          try simp only [Bool.and_eq_true, Bool.or_eq_true, Bool.not_eq_true', Bool.and_eq_false_iff, Bool.or_eq_false_iff, Bool.not_eq_false', decide_eq_true_eq, decide_eq_false_iff_not, not_or, Bool.false_eq_true, Bool.true_eq_false, false_or, or_false, not_false_eq_true] at c3
          refine W.skip ?_
          refine W.reg ?_
          refine Wx.rd (v := .int .i64 (j + 1)) (rd_add rfl rfl (in_i64 (by omega) (by omega))) rfl ?_
          refine Wx.rd (v := .int .i64 (j + 1)) (rd_move rfl) rfl ?_
          refine Wx.nil ?_
          refine ⟨j + 1, (by show ((List.take k.toNat l).length - (j + 1)).toNat < ((List.take k.toNat l).length - j).toNat; omega), ?_, ?_, Out.look rfl Out.self⟩
          · exact ⟨hS.tl, (by first | omega | assumption), (by first | omega | assumption), (crossesB_no g0 c2 g2 c3)⟩
          · exact ⟨rfl, trivial⟩
      · -- no
        refine W.exit rfl ?_
        refine W.regP mixedHy_ (fun w_87 hx_88 => ?_)
        have hS := hS.ext hx_88
        refine Wp.rd (v := .map (some g_2)) 0 rfl (by kernel_rfl) (fun _ => (rd_move rfl)) rfl ?_
        refine Wp.rd (v := .map (some g_2)) 3 rfl (by kernel_rfl) (fun _ => (rd_move rfl)) rfl ?_
        refine Wp.br [1, 4] (by kernel_rfl) (by decide) ⟨⟨_, rfl, ?_⟩, ⟨_, rfl, ?_⟩, trivial⟩
        · -- operation 1
          refine Wx.rd (v := .pointer (some ⟨g_12, 0, none⟩)) (rd_indexArr (n := 0) rfl rfl Tryd.underlying58 Tryd.sizeOf3 (by decide) (by decide)) rfl ?_
          refine Wx.nil ?_
          refine Wp.br [2, 4] (by kernel_rfl) (by decide) ⟨⟨_, rfl, ?_⟩, ⟨_, rfl, ?_⟩, trivial⟩
          · -- operation 2
            refine Wx.rd (v := .int .i64 ((ix (0, 0) l k).1)) (rd_loadX hS 1 rfl rfl rfl Tryd.isAgg3) rfl ?_
            refine Wx.nil ?_
            refine Wp.br [4, 6] (by kernel_rfl) (by decide) ⟨⟨_, rfl, ?_⟩, ⟨_, rfl, ?_⟩, trivial⟩
            · -- operation 4
              refine Wx.rd (v := .pointer (some ⟨g_12, 1, none⟩)) (rd_indexArr (n := 1) rfl rfl Tryd.underlying58 Tryd.sizeOf3 (by decide) (by decide)) rfl ?_
              refine Wx.nil ?_
              refine Wp.br [5, 6] (by kernel_rfl) (by decide) ⟨⟨_, rfl, ?_⟩, ⟨_, rfl, ?_⟩, trivial⟩
              · -- operation 5
                refine Wx.rd (v := .int .i64 ((ix (0, 0) l k).2)) (rd_loadX hS 1 rfl rfl rfl Tryd.isAgg3) rfl ?_
                refine Wx.nil ?_
                refine Wp.br [6] (by kernel_rfl) (by decide) ⟨⟨_, rfl, ?_⟩, trivial⟩
                refine Wx.mapUpdate (m := m) (k := ((ix (0, 0) l k).1)) (v := true) (f := (Value.int .i64)) (g := Value.bool) hS 2 rfl rfl rfl rfl Tryd.underlying72 (KeyD.int Tryd.underlying3) (fun w_89 hz_90 hS => ?_)
                refine Wx.nil ?_
                refine Wp.br [7] (by kernel_rfl) (by decide) ⟨⟨_, rfl, ?_⟩, trivial⟩
                refine Wx.mapUpdate (m := (mput m ((ix (0, 0) l k).1) true)) (k := ((ix (0, 0) l k).2)) (v := true) (f := (Value.int .i64)) (g := Value.bool) hS 2 rfl rfl rfl rfl Tryd.underlying72 (KeyD.int Tryd.underlying3) (fun w_91 hz_92 hS => ?_)
                refine Wx.nil ?_
                refine Wp.done (by kernel_rfl) ?_
                refine W.reg ?_
                refine Wx.rd (v := .int .i64 (k + 1)) (rd_add rfl rfl (in_i64 (by omega) (by omega))) rfl ?_
                refine Wx.rd (v := .int .i64 (k + 1)) (rd_move rfl) rfl ?_
                refine Wx.nil ?_
                have hcr : crossesB (List.take k.toNat l) (ix (0, 0) l k) = false := crossesB_end (by omega) g2
                refine ⟨(k + 1, mput (mput m ((ix (0, 0) l k).1) true) ((ix (0, 0) l k).2) true), (by show (l.length - (k + 1)).toNat < (l.length - k).toNat; omega), ?_, ?_, Out.look rfl (Out.hav rfl (Out.look rfl (Out.hav rfl (Out.look rfl (Out.hav rfl (Out.look rfl (Out.hav rfl (Out.look rfl (Out.hav rfl (Out.look rfl (Out.hav rfl (Out.look rfl (Out.hav rfl (Out.look rfl Out.self))))))))))))))⟩
                · exact ⟨St.tl (hS.tl), (by first | omega | assumption), (by first | omega | assumption), (validT_next h0 c0 h2 (badX_zero.2 ⟨⟨by omega, by omega, by omega⟩, d4, d5, d6, hcr, hlast⟩)), (fun q => by rw [take_ix (d := (0, 0)) h0 c0]; exact met_step h3 q)⟩
                · exact ⟨rfl, trivial⟩
              · -- operation 6
                refine Wx.mapUpdate (m := m) (k := ((ix (0, 0) l k).1)) (v := true) (f := (Value.int .i64)) (g := Value.bool) hS 2 rfl rfl rfl rfl Tryd.underlying72 (KeyD.int Tryd.underlying3) (fun w_93 hz_94 hS => ?_)
                refine Wx.nil ?_
                refine Wp.br [5] (by kernel_rfl) (by decide) ⟨⟨_, rfl, ?_⟩, trivial⟩
                refine Wx.rd (v := .int .i64 ((ix (0, 0) l k).2)) (rd_loadX hS 1 rfl rfl rfl Tryd.isAgg3) rfl ?_
                refine Wx.nil ?_
                refine Wp.br [7] (by kernel_rfl) (by decide) ⟨⟨_, rfl, ?_⟩, trivial⟩
                refine Wx.mapUpdate (m := (mput m ((ix (0, 0) l k).1) true)) (k := ((ix (0, 0) l k).2)) (v := true) (f := (Value.int .i64)) (g := Value.bool) hS 2 rfl rfl rfl rfl Tryd.underlying72 (KeyD.int Tryd.underlying3) (fun w_95 hz_96 hS => ?_)
                refine Wx.nil ?_
                refine Wp.done (by kernel_rfl) ?_
                refine W.reg ?_
                refine Wx.rd (v := .int .i64 (k + 1)) (rd_add rfl rfl (in_i64 (by omega) (by omega))) rfl ?_
                refine Wx.rd (v := .int .i64 (k + 1)) (rd_move rfl) rfl ?_
                refine Wx.nil ?_
                have hcr : crossesB (List.take k.toNat l) (ix (0, 0) l k) = false := crossesB_end (by omega) g2
                refine ⟨(k + 1, mput (mput m ((ix (0, 0) l k).1) true) ((ix (0, 0) l k).2) true), (by show (l.length - (k + 1)).toNat < (l.length - k).toNat; omega), ?_, ?_, Out.look rfl (Out.hav rfl (Out.look rfl (Out.hav rfl (Out.look rfl (Out.hav rfl (Out.look rfl (Out.hav rfl (Out.look rfl (Out.hav rfl (Out.look rfl (Out.hav rfl (Out.look rfl (Out.hav rfl (Out.look rfl Out.self))))))))))))))⟩
                · exact ⟨St.tl (hS.tl), (by first | omega | assumption), (by first | omega | assumption), (validT_next h0 c0 h2 (badX_zero.2 ⟨⟨by omega, by omega, by omega⟩, d4, d5, d6, hcr, hlast⟩)), (fun q => by rw [take_ix (d := (0, 0)) h0 c0]; exact met_step h3 q)⟩
                · exact ⟨rfl, trivial⟩
            · -- operation 6
              refine Wx.mapUpdate (m := m) (k := ((ix (0, 0) l k).1)) (v := true) (f := (Value.int .i64)) (g := Value.bool) hS 2 rfl rfl rfl rfl Tryd.underlying72 (KeyD.int Tryd.underlying3) (fun w_97 hz_98 hS => ?_)
              refine Wx.nil ?_
              refine Wp.br [4] (by kernel_rfl) (by decide) ⟨⟨_, rfl, ?_⟩, trivial⟩
              refine Wx.rd (v := .pointer (some ⟨g_12, 1, none⟩)) (rd_indexArr (n := 1) rfl rfl Tryd.underlying58 Tryd.sizeOf3 (by decide) (by decide)) rfl ?_
              refine Wx.nil ?_
              refine Wp.br [5] (by kernel_rfl) (by decide) ⟨⟨_, rfl, ?_⟩, trivial⟩
              refine Wx.rd (v := .int .i64 ((ix (0, 0) l k).2)) (rd_loadX hS 1 rfl rfl rfl Tryd.isAgg3) rfl ?_
              refine Wx.nil ?_
              refine Wp.br [7] (by kernel_rfl) (by decide) ⟨⟨_, rfl, ?_⟩, trivial⟩
              refine Wx.mapUpdate (m := (mput m ((ix (0, 0) l k).1) true)) (k := ((ix (0, 0) l k).2)) (v := true) (f := (Value.int .i64)) (g := Value.bool) hS 2 rfl rfl rfl rfl Tryd.underlying72 (KeyD.int Tryd.underlying3) (fun w_99 hz_100 hS => ?_)
              refine Wx.nil ?_
              refine Wp.done (by kernel_rfl) ?_
              refine W.reg ?_
              refine Wx.rd (v := .int .i64 (k + 1)) (rd_add rfl rfl (in_i64 (by omega) (by omega))) rfl ?_
              refine Wx.rd (v := .int .i64 (k + 1)) (rd_move rfl) rfl ?_
              refine Wx.nil ?_
              have hcr : crossesB (List.take k.toNat l) (ix (0, 0) l k) = false := crossesB_end (by omega) g2
              refine ⟨(k + 1, mput (mput m ((ix (0, 0) l k).1) true) ((ix (0, 0) l k).2) true), (by show (l.length - (k + 1)).toNat < (l.length - k).toNat; omega), ?_, ?_, Out.look rfl (Out.hav rfl (Out.look rfl (Out.hav rfl (Out.look rfl (Out.hav rfl (Out.look rfl (Out.hav rfl (Out.look rfl (Out.hav rfl (Out.look rfl (Out.hav rfl (Out.look rfl (Out.hav rfl (Out.look rfl Out.self))))))))))))))⟩
              · exact ⟨St.tl (hS.tl), (by first | omega | assumption), (by first | omega | assumption), (validT_next h0 c0 h2 (badX_zero.2 ⟨⟨by omega, by omega, by omega⟩, d4, d5, d6, hcr, hlast⟩)), (fun q => by rw [take_ix (d := (0, 0)) h0 c0]; exact met_step h3 q)⟩
              · exact ⟨rfl, trivial⟩
          · -- operation 4
            refine Wx.rd (v := .pointer (some ⟨g_12, 1, none⟩)) (rd_indexArr (n := 1) rfl rfl Tryd.underlying58 Tryd.sizeOf3 (by decide) (by decide)) rfl ?_
            refine Wx.nil ?_
            refine Wp.br [2, 5] (by kernel_rfl) (by decide) ⟨⟨_, rfl, ?_⟩, ⟨_, rfl, ?_⟩, trivial⟩
            · -- operation 2
              refine Wx.rd (v := .int .i64 ((ix (0, 0) l k).1)) (rd_loadX hS 1 rfl rfl rfl Tryd.isAgg3) rfl ?_
              refine Wx.nil ?_
              refine Wp.br [5, 6] (by kernel_rfl) (by decide) ⟨⟨_, rfl, ?_⟩, ⟨_, rfl, ?_⟩, trivial⟩
              · -- operation 5
                refine Wx.rd (v := .int .i64 ((ix (0, 0) l k).2)) (rd_loadX hS 1 rfl rfl rfl Tryd.isAgg3) rfl ?_
                refine Wx.nil ?_
                refine Wp.br [6] (by kernel_rfl) (by decide) ⟨⟨_, rfl, ?_⟩, trivial⟩
                refine Wx.mapUpdate (m := m) (k := ((ix (0, 0) l k).1)) (v := true) (f := (Value.int .i64)) (g := Value.bool) hS 2 rfl rfl rfl rfl Tryd.underlying72 (KeyD.int Tryd.underlying3) (fun w_101 hz_102 hS => ?_)
                refine Wx.nil ?_
                refine Wp.br [7] (by kernel_rfl) (by decide) ⟨⟨_, rfl, ?_⟩, trivial⟩
                refine Wx.mapUpdate (m := (mput m ((ix (0, 0) l k).1) true)) (k := ((ix (0, 0) l k).2)) (v := true) (f := (Value.int .i64)) (g := Value.bool) hS 2 rfl rfl rfl rfl Tryd.underlying72 (KeyD.int Tryd.underlying3) (fun w_103 hz_104 hS => ?_)
                refine Wx.nil ?_
                refine Wp.done (by kernel_rfl) ?_
                refine W.reg ?_
                refine Wx.rd (v := .int .i64 (k + 1)) (rd_add rfl rfl (in_i64 (by omega) (by omega))) rfl ?_
                refine Wx.rd (v := .int .i64 (k + 1)) (rd_move rfl) rfl ?_
                refine Wx.nil ?_
                have hcr : crossesB (List.take k.toNat l) (ix (0, 0) l k) = false := crossesB_end (by omega) g2
                refine ⟨(k + 1, mput (mput m ((ix (0, 0) l k).1) true) ((ix (0, 0) l k).2) true), (by show (l.length - (k + 1)).toNat < (l.length - k).toNat; omega), ?_, ?_, Out.look rfl (Out.hav rfl (Out.look rfl (Out.hav rfl (Out.look rfl (Out.hav rfl (Out.look rfl (Out.hav rfl (Out.look rfl (Out.hav rfl (Out.look rfl (Out.hav rfl (Out.look rfl (Out.hav rfl (Out.look rfl Out.self))))))))))))))⟩
                · exact ⟨St.tl (hS.tl), (by first | omega | assumption), (by first | omega | assumption), (validT_next h0 c0 h2 (badX_zero.2 ⟨⟨by omega, by omega, by omega⟩, d4, d5, d6, hcr, hlast⟩)), (fun q => by rw [take_ix (d := (0, 0)) h0 c0]; exact met_step h3 q)⟩
                · exact ⟨rfl, trivial⟩
              · -- operation 6
                refine Wx.mapUpdate (m := m) (k := ((ix (0, 0) l k).1)) (v := true) (f := (Value.int .i64)) (g := Value.bool) hS 2 rfl rfl rfl rfl Tryd.underlying72 (KeyD.int Tryd.underlying3) (fun w_105 hz_106 hS => ?_)
                refine Wx.nil ?_
                refine Wp.br [5] (by kernel_rfl) (by decide) ⟨⟨_, rfl, ?_⟩, trivial⟩
                refine Wx.rd (v := .int .i64 ((ix (0, 0) l k).2)) (rd_loadX hS 1 rfl rfl rfl Tryd.isAgg3) rfl ?_
                refine Wx.nil ?_
                refine Wp.br [7] (by kernel_rfl) (by decide) ⟨⟨_, rfl, ?_⟩, trivial⟩
                refine Wx.mapUpdate (m := (mput m ((ix (0, 0) l k).1) true)) (k := ((ix (0, 0) l k).2)) (v := true) (f := (Value.int .i64)) (g := Value.bool) hS 2 rfl rfl rfl rfl Tryd.underlying72 (KeyD.int Tryd.underlying3) (fun w_107 hz_108 hS => ?_)
                refine Wx.nil ?_
                refine Wp.done (by kernel_rfl) ?_
                refine W.reg ?_
                refine Wx.rd (v := .int .i64 (k + 1)) (rd_add rfl rfl (in_i64 (by omega) (by omega))) rfl ?_
                refine Wx.rd (v := .int .i64 (k + 1)) (rd_move rfl) rfl ?_
                refine Wx.nil ?_
                have hcr : crossesB (List.take k.toNat l) (ix (0, 0) l k) = false := crossesB_end (by omega) g2
                refine ⟨(k + 1, mput (mput m ((ix (0, 0) l k).1) true) ((ix (0, 0) l k).2) true), (by show (l.length - (k + 1)).toNat < (l.length - k).toNat; omega), ?_, ?_, Out.look rfl (Out.hav rfl (Out.look rfl (Out.hav rfl (Out.look rfl (Out.hav rfl (Out.look rfl (Out.hav rfl (Out.look rfl (Out.hav rfl (Out.look rfl (Out.hav rfl (Out.look rfl (Out.hav rfl (Out.look rfl Out.self))))))))))))))⟩
                · exact ⟨St.tl (hS.tl), (by first | omega | assumption), (by first | omega | assumption), (validT_next h0 c0 h2 (badX_zero.2 ⟨⟨by omega, by omega, by omega⟩, d4, d5, d6, hcr, hlast⟩)), (fun q => by rw [take_ix (d := (0, 0)) h0 c0]; exact met_step h3 q)⟩
                · exact ⟨rfl, trivial⟩
            · -- operation 5
              refine Wx.rd (v := .int .i64 ((ix (0, 0) l k).2)) (rd_loadX hS 1 rfl rfl rfl Tryd.isAgg3) rfl ?_
              refine Wx.nil ?_
              refine Wp.br [2] (by kernel_rfl) (by decide) ⟨⟨_, rfl, ?_⟩, trivial⟩
              refine Wx.rd (v := .int .i64 ((ix (0, 0) l k).1)) (rd_loadX hS 1 rfl rfl rfl Tryd.isAgg3) rfl ?_
              refine Wx.nil ?_
              refine Wp.br [6] (by kernel_rfl) (by decide) ⟨⟨_, rfl, ?_⟩, trivial⟩
              refine Wx.mapUpdate (m := m) (k := ((ix (0, 0) l k).1)) (v := true) (f := (Value.int .i64)) (g := Value.bool) hS 2 rfl rfl rfl rfl Tryd.underlying72 (KeyD.int Tryd.underlying3) (fun w_109 hz_110 hS => ?_)
              refine Wx.nil ?_
              refine Wp.br [7] (by kernel_rfl) (by decide) ⟨⟨_, rfl, ?_⟩, trivial⟩
              refine Wx.mapUpdate (m := (mput m ((ix (0, 0) l k).1) true)) (k := ((ix (0, 0) l k).2)) (v := true) (f := (Value.int .i64)) (g := Value.bool) hS 2 rfl rfl rfl rfl Tryd.underlying72 (KeyD.int Tryd.underlying3) (fun w_111 hz_112 hS => ?_)
              refine Wx.nil ?_
              refine Wp.done (by kernel_rfl) ?_
              refine W.reg ?_
              refine Wx.rd (v := .int .i64 (k + 1)) (rd_add rfl rfl (in_i64 (by omega) (by omega))) rfl ?_
              refine Wx.rd (v := .int .i64 (k + 1)) (rd_move rfl) rfl ?_
              refine Wx.nil ?_
              have hcr : crossesB (List.take k.toNat l) (ix (0, 0) l k) = false := crossesB_end (by omega) g2
              refine ⟨(k + 1, mput (mput m ((ix (0, 0) l k).1) true) ((ix (0, 0) l k).2) true), (by show (l.length - (k + 1)).toNat < (l.length - k).toNat; omega), ?_, ?_, Out.look rfl (Out.hav rfl (Out.look rfl (Out.hav rfl (Out.look rfl (Out.hav rfl (Out.look rfl (Out.hav rfl (Out.look rfl (Out.hav rfl (Out.look rfl (Out.hav rfl (Out.look rfl (Out.hav rfl (Out.look rfl Out.self))))))))))))))⟩
              · exact ⟨St.tl (hS.tl), (by first | omega | assumption), (by first | omega | assumption), (validT_next h0 c0 h2 (badX_zero.2 ⟨⟨by omega, by omega, by omega⟩, d4, d5, d6, hcr, hlast⟩)), (fun q => by rw [take_ix (d := (0, 0)) h0 c0]; exact met_step h3 q)⟩
              · exact ⟨rfl, trivial⟩
        · -- operation 4
          refine Wx.rd (v := .pointer (some ⟨g_12, 1, none⟩)) (rd_indexArr (n := 1) rfl rfl Tryd.underlying58 Tryd.sizeOf3 (by decide) (by decide)) rfl ?_
          refine Wx.nil ?_
          refine Wp.br [1, 5] (by kernel_rfl) (by decide) ⟨⟨_, rfl, ?_⟩, ⟨_, rfl, ?_⟩, trivial⟩
          · -- operation 1
            refine Wx.rd (v := .pointer (some ⟨g_12, 0, none⟩)) (rd_indexArr (n := 0) rfl rfl Tryd.underlying58 Tryd.sizeOf3 (by decide) (by decide)) rfl ?_
            refine Wx.nil ?_
            refine Wp.br [2, 5] (by kernel_rfl) (by decide) ⟨⟨_, rfl, ?_⟩, ⟨_, rfl, ?_⟩, trivial⟩
            · -- operation 2
              refine Wx.rd (v := .int .i64 ((ix (0, 0) l k).1)) (rd_loadX hS 1 rfl rfl rfl Tryd.isAgg3) rfl ?_
              refine Wx.nil ?_
              refine Wp.br [5, 6] (by kernel_rfl) (by decide) ⟨⟨_, rfl, ?_⟩, ⟨_, rfl, ?_⟩, trivial⟩
              · -- operation 5
                refine Wx.rd (v := .int .i64 ((ix (0, 0) l k).2)) (rd_loadX hS 1 rfl rfl rfl Tryd.isAgg3) rfl ?_
                refine Wx.nil ?_
                refine Wp.br [6] (by kernel_rfl) (by decide) ⟨⟨_, rfl, ?_⟩, trivial⟩
                refine Wx.mapUpdate (m := m) (k := ((ix (0, 0) l k).1)) (v := true) (f := (Value.int .i64)) (g := Value.bool) hS 2 rfl rfl rfl rfl Tryd.underlying72 (KeyD.int Tryd.underlying3) (fun w_113 hz_114 hS => ?_)
                refine Wx.nil ?_
                refine Wp.br [7] (by kernel_rfl) (by decide) ⟨⟨_, rfl, ?_⟩, trivial⟩
                refine Wx.mapUpdate (m := (mput m ((ix (0, 0) l k).1) true)) (k := ((ix (0, 0) l k).2)) (v := true) (f := (Value.int .i64)) (g := Value.bool) hS 2 rfl rfl rfl rfl Tryd.underlying72 (KeyD.int Tryd.underlying3) (fun w_115 hz_116 hS => ?_)
                refine Wx.nil ?_
                refine Wp.done (by kernel_rfl) ?_
                refine W.reg ?_
                refine Wx.rd (v := .int .i64 (k + 1)) (rd_add rfl rfl (in_i64 (by omega) (by omega))) rfl ?_
                refine Wx.rd (v := .int .i64 (k + 1)) (rd_move rfl) rfl ?_
                refine Wx.nil ?_
                have hcr : crossesB (List.take k.toNat l) (ix (0, 0) l k) = false := crossesB_end (by omega) g2
                refine ⟨(k + 1, mput (mput m ((ix (0, 0) l k).1) true) ((ix (0, 0) l k).2) true), (by show (l.length - (k + 1)).toNat < (l.length - k).toNat; omega), ?_, ?_, Out.look rfl (Out.hav rfl (Out.look rfl (Out.hav rfl (Out.look rfl (Out.hav rfl (Out.look rfl (Out.hav rfl (Out.look rfl (Out.hav rfl (Out.look rfl (Out.hav rfl (Out.look rfl (Out.hav rfl (Out.look rfl Out.self))))))))))))))⟩
                · exact ⟨St.tl (hS.tl), (by first | omega | assumption), (by first | omega | assumption), (validT_next h0 c0 h2 (badX_zero.2 ⟨⟨by omega, by omega, by omega⟩, d4, d5, d6, hcr, hlast⟩)), (fun q => by rw [take_ix (d := (0, 0)) h0 c0]; exact met_step h3 q)⟩
                · exact ⟨rfl, trivial⟩
              · -- operation 6
                refine Wx.mapUpdate (m := m) (k := ((ix (0, 0) l k).1)) (v := true) (f := (Value.int .i64)) (g := Value.bool) hS 2 rfl rfl rfl rfl Tryd.underlying72 (KeyD.int Tryd.underlying3) (fun w_117 hz_118 hS => ?_)
                refine Wx.nil ?_
                refine Wp.br [5] (by kernel_rfl) (by decide) ⟨⟨_, rfl, ?_⟩, trivial⟩
                refine Wx.rd (v := .int .i64 ((ix (0, 0) l k).2)) (rd_loadX hS 1 rfl rfl rfl Tryd.isAgg3) rfl ?_
                refine Wx.nil ?_
                refine Wp.br [7] (by kernel_rfl) (by decide) ⟨⟨_, rfl, ?_⟩, trivial⟩
                refine Wx.mapUpdate (m := (mput m ((ix (0, 0) l k).1) true)) (k := ((ix (0, 0) l k).2)) (v := true) (f := (Value.int .i64)) (g := Value.bool) hS 2 rfl rfl rfl rfl Tryd.underlying72 (KeyD.int Tryd.underlying3) (fun w_119 hz_120 hS => ?_)
                refine Wx.nil ?_
                refine Wp.done (by kernel_rfl) ?_
                refine W.reg ?_
                refine Wx.rd (v := .int .i64 (k + 1)) (rd_add rfl rfl (in_i64 (by omega) (by omega))) rfl ?_
                refine Wx.rd (v := .int .i64 (k + 1)) (rd_move rfl) rfl ?_
                refine Wx.nil ?_
                have hcr : crossesB (List.take k.toNat l) (ix (0, 0) l k) = false := crossesB_end (by omega) g2
                refine ⟨(k + 1, mput (mput m ((ix (0, 0) l k).1) true) ((ix (0, 0) l k).2) true), (by show (l.length - (k + 1)).toNat < (l.length - k).toNat; omega), ?_, ?_, Out.look rfl (Out.hav rfl (Out.look rfl (Out.hav rfl (Out.look rfl (Out.hav rfl (Out.look rfl (Out.hav rfl (Out.look rfl (Out.hav rfl (Out.look rfl (Out.hav rfl (Out.look rfl (Out.hav rfl (Out.look rfl Out.self))))))))))))))⟩
                · exact ⟨St.tl (hS.tl), (by first | omega | assumption), (by first | omega | assumption), (validT_next h0 c0 h2 (badX_zero.2 ⟨⟨by omega, by omega, by omega⟩, d4, d5, d6, hcr, hlast⟩)), (fun q => by rw [take_ix (d := (0, 0)) h0 c0]; exact met_step h3 q)⟩
                · exact ⟨rfl, trivial⟩
            · -- operation 5
              refine Wx.rd (v := .int .i64 ((ix (0, 0) l k).2)) (rd_loadX hS 1 rfl rfl rfl Tryd.isAgg3) rfl ?_
              refine Wx.nil ?_
              refine Wp.br [2] (by kernel_rfl) (by decide) ⟨⟨_, rfl, ?_⟩, trivial⟩
              refine Wx.rd (v := .int .i64 ((ix (0, 0) l k).1)) (rd_loadX hS 1 rfl rfl rfl Tryd.isAgg3) rfl ?_
              refine Wx.nil ?_
              refine Wp.br [6] (by kernel_rfl) (by decide) ⟨⟨_, rfl, ?_⟩, trivial⟩
              refine Wx.mapUpdate (m := m) (k := ((ix (0, 0) l k).1)) (v := true) (f := (Value.int .i64)) (g := Value.bool) hS 2 rfl rfl rfl rfl Tryd.underlying72 (KeyD.int Tryd.underlying3) (fun w_121 hz_122 hS => ?_)
              refine Wx.nil ?_
              refine Wp.br [7] (by kernel_rfl) (by decide) ⟨⟨_, rfl, ?_⟩, trivial⟩
              refine Wx.mapUpdate (m := (mput m ((ix (0, 0) l k).1) true)) (k := ((ix (0, 0) l k).2)) (v := true) (f := (Value.int .i64)) (g := Value.bool) hS 2 rfl rfl rfl rfl Tryd.underlying72 (KeyD.int Tryd.underlying3) (fun w_123 hz_124 hS => ?_)
              refine Wx.nil ?_
              refine Wp.done (by kernel_rfl) ?_
              refine W.reg ?_
              refine Wx.rd (v := .int .i64 (k + 1)) (rd_add rfl rfl (in_i64 (by omega) (by omega))) rfl ?_
              refine Wx.rd (v := .int .i64 (k + 1)) (rd_move rfl) rfl ?_
              refine Wx.nil ?_
              have hcr : crossesB (List.take k.toNat l) (ix (0, 0) l k) = false := crossesB_end (by omega) g2
              refine ⟨(k + 1, mput (mput m ((ix (0, 0) l k).1) true) ((ix (0, 0) l k).2) true), (by show (l.length - (k + 1)).toNat < (l.length - k).toNat; omega), ?_, ?_, Out.look rfl (Out.hav rfl (Out.look rfl (Out.hav rfl (Out.look rfl (Out.hav rfl (Out.look rfl (Out.hav rfl (Out.look rfl (Out.hav rfl (Out.look rfl (Out.hav rfl (Out.look rfl (Out.hav rfl (Out.look rfl Out.self))))))))))))))⟩
              · exact ⟨St.tl (hS.tl), (by first | omega | assumption), (by first | omega | assumption), (validT_next h0 c0 h2 (badX_zero.2 ⟨⟨by omega, by omega, by omega⟩, d4, d5, d6, hcr, hlast⟩)), (fun q => by rw [take_ix (d := (0, 0)) h0 c0]; exact met_step h3 q)⟩
              · exact ⟨rfl, trivial⟩
          · -- operation 5
            refine Wx.rd (v := .int .i64 ((ix (0, 0) l k).2)) (rd_loadX hS 1 rfl rfl rfl Tryd.isAgg3) rfl ?_
            refine Wx.nil ?_
            refine Wp.br [1] (by kernel_rfl) (by decide) ⟨⟨_, rfl, ?_⟩, trivial⟩
            refine Wx.rd (v := .pointer (some ⟨g_12, 0, none⟩)) (rd_indexArr (n := 0) rfl rfl Tryd.underlying58 Tryd.sizeOf3 (by decide) (by decide)) rfl ?_
            refine Wx.nil ?_
            refine Wp.br [2] (by kernel_rfl) (by decide) ⟨⟨_, rfl, ?_⟩, trivial⟩
            refine Wx.rd (v := .int .i64 ((ix (0, 0) l k).1)) (rd_loadX hS 1 rfl rfl rfl Tryd.isAgg3) rfl ?_
            refine Wx.nil ?_
            refine Wp.br [6] (by kernel_rfl) (by decide) ⟨⟨_, rfl, ?_⟩, trivial⟩
            refine Wx.mapUpdate (m := m) (k := ((ix (0, 0) l k).1)) (v := true) (f := (Value.int .i64)) (g := Value.bool) hS 2 rfl rfl rfl rfl Tryd.underlying72 (KeyD.int Tryd.underlying3) (fun w_125 hz_126 hS => ?_)
            refine Wx.nil ?_
            refine Wp.br [7] (by kernel_rfl) (by decide) ⟨⟨_, rfl, ?_⟩, trivial⟩
            refine Wx.mapUpdate (m := (mput m ((ix (0, 0) l k).1) true)) (k := ((ix (0, 0) l k).2)) (v := true) (f := (Value.int .i64)) (g := Value.bool) hS 2 rfl rfl rfl rfl Tryd.underlying72 (KeyD.int Tryd.underlying3) (fun w_127 hz_128 hS => ?_)
            refine Wx.nil ?_
            refine Wp.done (by kernel_rfl) ?_
            refine W.reg ?_
            refine Wx.rd (v := .int .i64 (k + 1)) (rd_add rfl rfl (in_i64 (by omega) (by omega))) rfl ?_
            refine Wx.rd (v := .int .i64 (k + 1)) (rd_move rfl) rfl ?_
            refine Wx.nil ?_
            have hcr : crossesB (List.take k.toNat l) (ix (0, 0) l k) = false := crossesB_end (by omega) g2
            refine ⟨(k + 1, mput (mput m ((ix (0, 0) l k).1) true) ((ix (0, 0) l k).2) true), (by show (l.length - (k + 1)).toNat < (l.length - k).toNat; omega), ?_, ?_, Out.look rfl (Out.hav rfl (Out.look rfl (Out.hav rfl (Out.look rfl (Out.hav rfl (Out.look rfl (Out.hav rfl (Out.look rfl (Out.hav rfl (Out.look rfl (Out.hav rfl (Out.look rfl (Out.hav rfl (Out.look rfl Out.self))))))))))))))⟩
            · exact ⟨St.tl (hS.tl), (by first | omega | assumption), (by first | omega | assumption), (validT_next h0 c0 h2 (badX_zero.2 ⟨⟨by omega, by omega, by omega⟩, d4, d5, d6, hcr, hlast⟩)), (fun q => by rw [take_ix (d := (0, 0)) h0 c0]; exact met_step h3 q)⟩
            · exact ⟨rfl, trivial⟩
  · -- no
    refine W.exit rfl ?_
    refine W.seq ?_
    refine W.reg ?_
    refine Wx.rd (v := .bool true) (rd_assign rfl) rfl ?_
    refine Wx.nil ?_
    have e2_0 : (soundB rim l) = true := by exact sound_end (by omega) h2
    exact W.ret ⟨.bool true, ResIs.one, hS.bel, (by rw [e2_0])⟩
end Go.Proofs.YtokdjjebnomciaaDoor
