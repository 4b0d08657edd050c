/-
  WHAT IS PROVED HERE, TEXT BY TEXT (several texts of one prover, joined to one file; the conditions stand in each statement):
  * WHAT IS PROVED HERE: what functions of layer 10 hand back, each out of its own code; the conditions stand in each statement.
  * WHAT IS PROVED HERE: what functions of layer 10 hand back, each out of its own code; the conditions stand in each statement.
  * WHAT IS PROVED HERE: what functions of layer 10 hand back, each out of its own code; the conditions stand in each statement.
  * WHAT IS PROVED HERE: what functions of layer 10 hand back, each out of its own code; the conditions stand in each statement.
  * WHAT IS PROVED HERE: what functions of layer 10 hand back, each out of its own code; the conditions stand in each statement.
  * WHAT IS PROVED HERE: what functions of layer 10 hand back, each out of its own code; the conditions stand in each statement.
  * WHAT IS PROVED HERE: the given statement of TasteNumbers: for every input it returns true, and each argument reads as it did. Conditions: none.
-/
import Derived.Test.YtjbcpggikaeleaaProg
import Derived.Test.YtjbcpggikaeleaaU2
import Derived.Test.YtjbcpggikaeleaaU6
import Derived.Test.YtjbcpggikaeleaaU3
import Derived.Test.YtjbcpggikaeleaaRows
import Derived.WalkKit
import Derived.ProofKit
import Derived.OpenShut
import Derived.Carry
import Derived.Lib.SmallJoins

set_option linter.unusedVariables false
set_option linter.unusedSimpArgs false

namespace Go.Proofs.Ytjbcpggikaeleaa
open Go.Wk Go.RowKit Go.Lib
set_option linter.unusedVariables false
set_option linter.unusedSimpArgs false
theorem elKi_39 : ElemI Try.prog 39 3 (.int .i64 0) 1 8 := ElemI.of Try.underlying39 (by kernel_rfl) (by first | rfl | kernel_rfl) (by decide)

set_option maxHeartbeats 1000000 in
theorem F28 {g : Int} {v : Value} {l : List ((List Int) × (List Int))} {a : Int} {b : Int} {O : List (Option Nat)} {w : World} (i_g : InK .i64 g) (h_v : V (tSl (tP (tSl (tI .i64)) (tSl (tI .i64)))) l v O w) (i_a : InK .i64 a) (i_b : InK .i64 b) (hO : ∀ b, some b ∈ O → b < w.heap.size) : Calls Try.prog 28 #[.int .i64 g, v, .int .i64 a, .int .i64 b] w (Ret w (fun r w' => ∃ rv, r = .tuple #[rv, .int .i64 (leastX g l a b)] ∧ V (tSl (tI .i64)) (leastL g l a b) rv O w')) := by
  have b_b := bd_i64 i_b
  have b_a := bd_i64 i_a
  have b_g := bd_i64 i_g
  have a_v := h_v
  have l_v := h_v.len63
  have hS := St.start w O hO
  refine enterR Try.func28 rfl Try.ntmps28 Try.results28 rfl ?_
  refine W.seq ?_
  refine W.reg ?_
  refine Wx.rd (v := (.slice none 0 0)) (rd_assign rfl) rfl ?_
  refine Wx.rd (v := .int .i64 0) (rd_assign rfl) rfl ?_
  refine Wx.nil ?_
  refine W.seq ?_
  refine W.reg ?_
  refine Wx.rd (v := .int .i64 g) (rd_move rfl) rfl ?_
  refine Wx.rd (v := v) (rd_move rfl) rfl ?_
  refine Wx.rd (v := .int .i64 a) (rd_move rfl) rfl ?_
  refine Wx.rd (v := .int .i64 b) (rd_move rfl) rfl ?_
  refine Wx.callF (run_callF Try.call64 rfl) (F64 i_g (hS.arg a_v) i_a i_b) rfl ?_
  rintro r_1 w_2 hx_3 rfl
  have hS := hS.ext hx_3
  refine Wx.rd (v := .int .i64 (twoE g l a b)) (rd_assign rfl) rfl ?_
  refine Wx.nil ?_
  refine W.seq ?_
  refine W.seq ?_
  refine W.reg ?_
  refine Wx.rd (v := .int .i64 (twoE g l a b)) (rd_move rfl) rfl ?_
  refine Wx.rd (v := .bool (decide ((twoE g l a b) ≠ 0))) (rd_neq rfl rfl) rfl ?_
  refine Wx.nil ?_
  refine W.condD rfl (fun c0 => ?_) (fun c0 => ?_)
  · -- yes
    refine W.seq ?_
    refine W.reg ?_
    refine Wx.rd (v := .int .i64 (twoE g l a b)) (rd_move rfl) rfl ?_
    refine Wx.rd (v := (.slice none 0 0)) (rd_assign rfl) rfl ?_
    refine Wx.rd (v := .int .i64 (twoE g l a b)) (rd_assign rfl) rfl ?_
    refine Wx.nil ?_
    have e0_0 : leastL g l a b = [] := by rw [leastL, if_neg c0]
    have e0_1 : (leastX g l a b) = (twoE g l a b : Int) := by rw [leastX, if_neg c0]
    exact W.ret ⟨.tuple #[(.slice none 0 0), .int .i64 (twoE g l a b)], ResIs.two, hS.bel, ⟨(.slice none 0 0), (by rw [e0_1]), (by rw [e0_0]; exact (V.nil (t := (tI .i64))))⟩⟩
  · -- no
    have h0 : twoE g l a b = 0 := by omega
    obtain ⟨hc1, hc2, hc3⟩ := twoE_ok h0
    have hsok := SalesOK.of hc1
    have hl6 := hsok.1
    refine W.skip ?_
    refine W.seq ?_
    refine W.seq ?_
    refine W.reg ?_
    refine Wx.rd (v := .int .i64 1) (rd_assign rfl) rfl ?_
    refine Wx.nil ?_
    refine W.block ?_
    refine W.loop [8, 9, 11, 12, 13, 22, 23, 24, 25, 26, 27, 28, 29, 30, 31, 32, 33, 34, 35, 36, 37, 38, 39, 40, 41, 42, 43, 44, 45, 46, 47, 48, 49, 50, 51, 52] (fun (m : Int) => [(11, .int .i64 m)]) (fun (m : Int) w' => St w O w' [] ∧ 1 ≤ m ∧ m ≤ l.length + 1 ∧ leastF (gS l) l.length a b (l.length + 1 - m).toNat m = leastV (gS l) l.length a b) (fun (m : Int) => (l.length + 1 - m).toNat) 1 ⟨rfl, trivial⟩ ⟨hS, (by first | omega | simp), (by first | omega | simp), (least_start)⟩ ?_
    rintro m u_5 w_4 ⟨hS, k0, h1, h2⟩
    refine W.seq ?_
    refine W.seq ?_
    refine W.reg ?_
    refine Wx.rd (v := .int .i64 m) (rd_move rfl) rfl ?_
    refine Wx.rd (v := v) (rd_move rfl) rfl ?_
    refine Wx.rd (v := .int .i64 (l.length : Int)) (rd_lenV rfl (hS.arg a_v) Try.underlying25) rfl ?_
    refine Wx.rd (v := .bool (decide (m ≤ (l.length : Int)))) (rd_leq rfl rfl) rfl ?_
    refine Wx.nil ?_
    refine W.condD rfl (fun c1 => ?_) (fun c1 => ?_)
    · -- yes
      refine W.skip ?_
      refine W.seq ?_
      refine W.block ?_
      refine W.seq ?_
      refine W.reg ?_
      refine Wx.rd (v := v) (rd_move rfl) rfl ?_
      refine Wx.rd (v := .int .i64 a) (rd_move rfl) rfl ?_
      refine Wx.lit (t := (tI .i64)) (ys := [a]) (vs := [.int .i64 a]) elKi_39 hS rfl rfl ⟨(V.mkInt (in_i64 (by omega) (by omega))), trivial⟩ (by decide) rfl (fun v_6 w_7 hx_8 hS => ?_)
      refine Wx.rd (v := .int .i64 m) (rd_move rfl) rfl ?_
      have hS := hS.freeze 0 rfl
      refine Wx.callF (run_callF Try.call75 rfl) (F75 (hS.arg a_v) (hS.v 0 rfl) (in_i64 (by omega) (by omega)) hsok (by simp) (by simp; omega) (by omega) (by simp; omega) hS.fb_lt) rfl ?_
      rintro r_10 w_11 hx_12 ⟨_, rfl, hv_13⟩
      have hS := hS.pushFrO hx_12 hv_13
      have hpb := paths_bd (G := gS l) (n := l.length) (many := m) (b := [a]) hl6 (by simp; omega)
      refine Wx.rd (v := r_10) (rd_assign rfl) rfl ?_
      refine Wx.nil ?_
      refine W.seq ?_
      refine W.reg ?_
      refine Wx.rd (v := .int .i64 0) (rd_assign rfl) rfl ?_
      refine Wx.nil ?_
      refine W.block ?_
      have hS := hS.freeze 0 rfl
      refine W.loop [8, 9, 13, 33, 34, 35, 36, 37, 38, 39, 40, 41, 42, 43, 44, 45, 46, 47, 48, 49, 50, 51, 52] (fun (i : Int) => [(13, .int .i64 i)]) (fun (i : Int) w' => St w O w' [Ob.v (tSl (tSl (tI .i64))) (pathsV (gS l) l.length m [a]) r_10, Ob.v (tSl (tI .i64)) [a] v_6] ∧ 0 ≤ i ∧ i ≤ ((pathsV (gS l) l.length m [a]).length : Int) ∧ ((pathsV (gS l) l.length m [a]).drop i.toNat).find? (fun l => decide (topI l = b)) = (pathsV (gS l) l.length m [a]).find? (fun l => decide (topI l = b))) (fun (i : Int) => ((pathsV (gS l) l.length m [a]).length - i).toNat) 0 ⟨rfl, trivial⟩ ⟨hS, (by first | omega | simp), (by first | omega | simp), (rfl)⟩ ?_
      rintro i u_17 w_16 ⟨hS, i0, i1, i2⟩
      refine W.seq ?_
      refine W.seq ?_
      refine W.reg ?_
      refine Wx.rd (v := .int .i64 i) (rd_move rfl) rfl ?_
      refine Wx.rd (v := r_10) (rd_move rfl) rfl ?_
      refine Wx.rd (v := .int .i64 ((pathsV (gS l) l.length m [a]).length : Int)) (rd_lenV rfl (hS.v 0 rfl) Try.underlying104) rfl ?_
      refine Wx.rd (v := .bool (decide (i < ((pathsV (gS l) l.length m [a]).length : Int)))) (rd_lss rfl rfl) rfl ?_
      refine Wx.nil ?_
      refine W.condD rfl (fun c2 => ?_) (fun c2 => ?_)
      · -- yes
        obtain ⟨hq1, hq2⟩ := path_at (by omega) hc2 i0 c2
        have hti : topI (ix [] (pathsV (gS l) l.length m [a]) i) = ix 0 (ix [] (pathsV (gS l) l.length m [a]) i) (m - 1) := by rw [topI, hq1]
        refine W.skip ?_
        refine W.seq ?_
        refine W.block ?_
        refine W.seq ?_
        refine W.reg ?_
        refine Wx.rd (v := r_10) (rd_move rfl) rfl ?_
        refine Wx.rd (v := .int .i64 i) (rd_move rfl) rfl ?_
        refine Wx.ex (rd_index [] (hS.v 0 rfl) rfl rfl Try.underlying104 Try.sizeOf39 (by first | omega | (simp only [List.length_set, List.length_append, List.length_cons, List.length_nil, List.length_replicate]; omega)) (by first | omega | (simp only [List.length_set, List.length_append, List.length_cons, List.length_nil, List.length_replicate]; omega))) rfl (fun p_18 hp_19 => ?_)
        refine Wx.ex (rd_load hp_19 rfl Try.isAgg39 Try.sizeOf39) rfl (fun v_20 hv_21 => ?_)
        have ln_22 := hv_21.len63
        have hS := hS.add hv_21
        refine Wx.rd (v := .int .i64 m) (rd_move rfl) rfl ?_
        refine Wx.rd (v := .int .i64 (m - 1)) (rd_sub rfl rfl (in_i64 (by omega) (by omega))) rfl ?_
        refine Wx.ex (rd_index 0 (hS.v 0 rfl) rfl rfl Try.underlying39 Try.sizeOf3 (by first | omega | (simp only [List.length_set, List.length_append, List.length_cons, List.length_nil, List.length_replicate]; omega)) (by first | omega | (simp only [List.length_set, List.length_append, List.length_cons, List.length_nil, List.length_replicate]; omega))) rfl (fun p_24 hp_25 => ?_)
        refine Wx.rd (v := .int .i64 (ix 0 (ix [] (pathsV (gS l) l.length m [a]) i) (m - 1))) (rd_loadI hp_25 rfl Try.isAgg3 Try.sizeOf3) rfl ?_
        have bd_26 := bd_i64 hp_25.inK
        refine Wx.rd (v := .int .i64 b) (rd_move rfl) rfl ?_
        refine Wx.rd (v := .bool (decide ((ix 0 (ix [] (pathsV (gS l) l.length m [a]) i) (m - 1)) = b))) (rd_eql rfl rfl) rfl ?_
        refine Wx.nil ?_
        refine W.condD rfl (fun c3 => ?_) (fun c3 => ?_)
        · -- yes
          refine W.seq ?_
          refine W.reg ?_
          refine Wx.rd (v := r_10) (rd_move rfl) rfl ?_
          refine Wx.rd (v := .int .i64 i) (rd_move rfl) rfl ?_
          refine Wx.ex (rd_index [] (hS.v 1 rfl) rfl rfl Try.underlying104 Try.sizeOf39 (by first | omega | (simp only [List.length_set, List.length_append, List.length_cons, List.length_nil, List.length_replicate]; omega)) (by first | omega | (simp only [List.length_set, List.length_append, List.length_cons, List.length_nil, List.length_replicate]; omega))) rfl (fun p_27 hp_28 => ?_)
          refine Wx.ex (rd_load hp_28 rfl Try.isAgg39 Try.sizeOf39) rfl (fun v_29 hv_30 => ?_)
          have ln_31 := hv_30.len63
          have hS := hS.add hv_30
          refine Wx.rd (v := v_29) (rd_assign rfl) rfl ?_
          refine Wx.rd (v := .int .i64 0) (rd_assign rfl) rfl ?_
          refine Wx.nil ?_
          have hhit := least_hit c1 h2 (find_yes i0 c2 i2 (decide_eq_true (by rw [hti]; exact c3)))
          have e1_0 : leastL g l a b = ix [] (pathsV (gS l) l.length m [a]) i := by rw [leastL, if_pos h0, hhit]; rfl
          have e1_1 : (leastX g l a b) = (0 : Int) := by rw [leastX, if_pos h0, hhit]
          exact W.ret ⟨.tuple #[v_29, .int .i64 0], ResIs.two, hS.bel, ⟨v_29, (by rw [e1_1]), (by rw [e1_0]; exact (V.mv (hS.v 0 rfl) (.less (fun _ h => List.mem_append.2 (.inr h)))))⟩⟩
        · -- no
          refine W.skip ?_
          refine W.reg ?_
          refine Wx.rd (v := .int .i64 i) (rd_move rfl) rfl ?_
          refine Wx.rd (v := .int .i64 (i + 1)) (rd_add rfl rfl (in_i64 (by omega) (by omega))) rfl ?_
          refine Wx.rd (v := .int .i64 (i + 1)) (rd_assign rfl) rfl ?_
          refine Wx.nil ?_
          refine ⟨i + 1, (by show ((pathsV (gS l) l.length m [a]).length - (i + 1)).toNat < ((pathsV (gS l) l.length m [a]).length - i).toNat; omega), ?_, ?_, Out.look rfl Out.self⟩
          · exact ⟨hS.tl, (by first | omega | assumption), (by first | omega | assumption), (find_no i0 c2 i2 (decide_eq_false (by rw [hti]; exact c3)))⟩
          · exact ⟨rfl, trivial⟩
      · -- no
        refine W.exit rfl ?_
        refine W.reg ?_
        refine Wx.rd (v := .int .i64 m) (rd_move rfl) rfl ?_
        refine Wx.rd (v := .int .i64 (m + 1)) (rd_add rfl rfl (in_i64 (by omega) (by omega))) rfl ?_
        refine Wx.rd (v := .int .i64 (m + 1)) (rd_assign rfl) rfl ?_
        refine Wx.nil ?_
        refine ⟨m + 1, (by show (l.length + 1 - (m + 1)).toNat < (l.length + 1 - m).toNat; omega), ?_, ?_, Out.look rfl (Out.hav rfl (Out.look rfl Out.self))⟩
        · exact ⟨St.tl (hS.tl), (by first | omega | assumption), (by first | omega | assumption), (least_miss c1 h2 (find_end (by omega) i2))⟩
        · exact ⟨rfl, trivial⟩
    · -- no
      refine W.exit rfl ?_
      refine W.seq ?_
      refine W.reg ?_
      refine Wx.rd (v := (.slice none 0 0)) (rd_assign rfl) rfl ?_
      refine Wx.rd (v := .int .i64 12) (rd_assign rfl) rfl ?_
      refine Wx.nil ?_
      have hmis := least_done (by omega) h2
      have e2_0 : leastL g l a b = [] := by rw [leastL, if_pos h0, hmis]; rfl
      have e2_1 : (leastX g l a b) = (12 : Int) := by rw [leastX, if_pos h0, hmis]
      exact W.ret ⟨.tuple #[(.slice none 0 0), .int .i64 12], ResIs.two, hS.bel, ⟨(.slice none 0 0), (by rw [e2_1]), (by rw [e2_0]; exact (V.nil (t := (tI .i64))))⟩⟩
end Go.Proofs.Ytjbcpggikaeleaa

namespace Go.Proofs.Ytjbcpggikaeleaa
open Go.Wk Go.RowKit Go.Lib
set_option linter.unusedVariables false
set_option linter.unusedSimpArgs false
theorem mixedKj_ : Try.prog.follows .mixedOrders = true := by kernel_rfl

set_option maxHeartbeats 1000000 in
theorem F35 {g : Int} {v : Value} {l : List ((List Int) × (List Int))} {Fr_v : List (Option Nat)} {rw : Value} {rg : List Int} {Fr_rw : List (Option Nat)} {w : World} (i_g : InK .i64 g) (h_v : V (tSl (tP (tSl (tI .i64)) (tSl (tI .i64)))) l v Fr_v w) (h_rw : V (tSl (tI .i64)) rg rw Fr_rw w) (p_30 : (rg.length : Int) ≤ 100) : Calls Try.prog 35 #[.int .i64 g, v, rw] w (Ret w (fun r _ => r = .int .i64 (provesE g l rg))) := by
  have b_g := bd_i64 i_g
  have a_v := h_v.any
  have l_v := h_v.len63
  have a_rw := h_rw.any
  have l_rw := h_rw.len63
  have hS := St.start0 w
  refine enterR Try.func35 rfl Try.ntmps35 Try.results35 rfl ?_
  refine W.seq ?_
  refine W.reg ?_
  refine Wx.rd (v := .int .i64 0) (rd_assign rfl) rfl ?_
  refine Wx.nil ?_
  refine W.seq ?_
  refine W.reg ?_
  refine Wx.rd (v := .int .i64 g) (rd_move rfl) rfl ?_
  refine Wx.rd (v := v) (rd_move rfl) rfl ?_
  refine Wx.callF (run_callF Try.call26 rfl) (F26 i_g (hS.arg a_v)) rfl ?_
  rintro r_1 w_2 hx_3 rfl
  have hS := hS.ext hx_3
  refine Wx.rd (v := .int .i64 (checkE g l)) (rd_assign rfl) rfl ?_
  refine Wx.nil ?_
  refine W.seq ?_
  refine W.seq ?_
  refine W.reg ?_
  refine Wx.rd (v := .int .i64 0) (rd_assign rfl) rfl ?_
  refine Wx.nil ?_
  refine W.block ?_
  refine W.loop [7, 8, 12, 13, 14, 15, 16, 17, 18, 19, 20, 21, 22, 23, 24, 25, 26, 27, 28, 29, 30, 31, 32, 33, 34, 35, 36, 37, 38] (fun x : Int × Int => match x with | (e, i) => [(7, .int .i64 e), (8, .int .i64 i)]) (fun (x : Int × Int) w' => match x with | (e, i) => St w [] w' [] ∧ 0 ≤ i ∧ i ≤ rg.length ∧ PrI g l rg i e) (fun x : Int × Int => match x with | (e, i) => (rg.length - i).toNat) (checkE g l, 0) ⟨rfl, rfl, trivial⟩ ⟨hS, (by first | omega | simp), (by first | omega | simp), (PrI.start)⟩ ?_
  rintro ⟨e, i⟩ u_5 w_4 ⟨hS, k0, h1, h2⟩
  refine W.seq ?_
  refine W.seq ?_
  refine W.reg ?_
  refine Wx.rd (v := .int .i64 i) (rd_move rfl) rfl ?_
  refine Wx.rd (v := rw) (rd_move rfl) rfl ?_
  refine Wx.rd (v := .int .i64 (rg.length : Int)) (rd_lenV rfl (hS.arg a_rw) Try.underlying39) rfl ?_
  refine Wx.rd (v := .bool (decide (i < (rg.length : Int)))) (rd_lss rfl rfl) rfl ?_
  refine Wx.rd (v := .bool (decide (i < (rg.length : Int)))) (rd_move rfl) rfl ?_
  refine Wx.cut (X := Unit) 3 [17, 18, 19] (fun _ => [(19, .bool (decide (i < (rg.length : Int)) && decide (e = 0)))]) (fun _ w' => St w [] w' []) ?_ ?_
  · rcases Bool.eq_false_or_eq_true (decide (i < (rg.length : Int))) with g_6 | g_6
    · -- True
      have gp_7 := of_decide_eq_true g_6
      refine Wx.gyes rfl rfl (congrArg Value.bool g_6) ?_
      refine Wx.rd (v := .int .i64 e) (rd_move rfl) rfl ?_
      refine Wx.gyes rfl rfl (congrArg Value.bool g_6) ?_
      refine Wx.rd (v := .bool (decide (e = 0))) (rd_eql rfl rfl) rfl ?_
      refine Wx.rd (v := .bool (decide (e = 0))) (rd_pickT (congrArg Value.bool g_6) rfl) rfl ?_
      refine Wx.nil ⟨(), hS, ⟨?_, trivial⟩, Out.look rfl Out.refl⟩
      show Value.bool (decide (e = 0)) = Value.bool (decide (i < (rg.length : Int)) && decide (e = 0))
      first | rw [g_6, Bool.true_and] | (rw [g_6]; rfl)
    · -- False
      have gp_8 := of_decide_eq_false g_6
      refine Wx.gnoB rfl rfl (congrArg Value.bool g_6) rfl rfl ?_
      refine Wx.gnoB rfl rfl (congrArg Value.bool g_6) rfl rfl ?_
      refine Wx.rd (v := .bool false) (rd_pickF (congrArg Value.bool g_6) rfl) rfl ?_
      refine Wx.nil ⟨(), hS, ⟨?_, trivial⟩, Out.look rfl Out.refl⟩
      show Value.bool false = Value.bool (decide (i < (rg.length : Int)) && decide (e = 0))
      first | rw [g_6, Bool.false_and] | (rw [g_6]; rfl)
  rintro ⟨⟩ u_10 w_9 hS
  refine Wx.nil ?_
  refine W.cond rfl (fun c0 => ?_) (fun c0 => ?_)
  · -- yes
    try simp only [Bool.and_eq_true, Bool.or_eq_true, Bool.not_eq_true', Bool.and_eq_false_iff, Bool.or_eq_false_iff, Bool.not_eq_false', decide_eq_true_eq, decide_eq_false_iff_not, not_or, Bool.false_eq_true, Bool.true_eq_false, false_or, or_false, not_false_eq_true] at c0
    refine W.skip ?_
    refine W.seq ?_
    refine W.block ?_
    refine W.seq ?_
    refine W.reg ?_
    refine Wx.rd (v := rw) (rd_move rfl) rfl ?_
    refine Wx.rd (v := .int .i64 i) (rd_move rfl) rfl ?_
    refine Wx.ex (rd_index 0 (hS.arg a_rw) rfl rfl Try.underlying39 Try.sizeOf3 (by first | omega | (simp only [List.length_set, List.length_append, List.length_cons, List.length_nil, List.length_replicate]; omega)) (by first | omega | (simp only [List.length_set, List.length_append, List.length_cons, List.length_nil, List.length_replicate]; omega))) rfl (fun p_11 hp_12 => ?_)
    refine Wx.rd (v := .int .i64 (ix 0 rg i)) (rd_loadI hp_12 rfl Try.isAgg3 Try.sizeOf3) rfl ?_
    have bd_13 := bd_i64 hp_12.inK
    refine Wx.rd (v := v) (rd_move rfl) rfl ?_
    refine Wx.rd (v := .int .i64 (l.length : Int)) (rd_lenV rfl (hS.arg a_v) Try.underlying25) rfl ?_
    refine Wx.rd (v := .int .i64 ((l.length : Int) - 1)) (rd_sub rfl rfl (in_i64 (by omega) (by omega))) rfl ?_
    refine Wx.callF (run_callF Try.call73 rfl) (F73 (in_i64 (by omega) (by omega)) (in_i64 (by omega) (by omega)) (in_i64 (by omega) (by omega))) rfl ?_
    rintro r_14 w_15 hx_16 rfl
    have hS := hS.ext hx_16
    refine Wx.rd (v := .bool (!(decide (0 ≤ (ix 0 rg i)) && decide ((ix 0 rg i) ≤ ((l.length : Int) - 1))))) (rd_not rfl) rfl ?_
    refine Wx.nil ?_
    refine W.cond rfl (fun c1 => ?_) (fun c1 => ?_)
    · -- yes
      try simp only [Bool.and_eq_true, Bool.or_eq_true, Bool.not_eq_true', Bool.and_eq_false_iff, Bool.or_eq_false_iff, Bool.not_eq_false', decide_eq_true_eq, decide_eq_false_iff_not, not_or, Bool.false_eq_true, Bool.true_eq_false, false_or, or_false, not_false_eq_true] at c1
      refine W.reg ?_
      refine Wx.rd (v := .int .i64 2) (rd_assign rfl) rfl ?_
      refine Wx.nil ?_
      refine W.reg ?_
      refine Wx.rd (v := .int .i64 i) (rd_move rfl) rfl ?_
      refine Wx.rd (v := .int .i64 (i + 1)) (rd_add rfl rfl (in_i64 (by omega) (by omega))) rfl ?_
      refine Wx.rd (v := .int .i64 (i + 1)) (rd_assign rfl) rfl ?_
      refine Wx.nil ?_
      refine ⟨(2, i + 1), (by show (rg.length - (i + 1)).toNat < (rg.length - i).toNat; omega), ?_, ?_, Out.look rfl (Out.hav rfl (Out.look rfl Out.self))⟩
      · exact ⟨hS, (by first | omega | assumption), (by first | omega | assumption), (h2.none k0 c0.1 c0.2 (by omega))⟩
      · exact ⟨rfl, rfl, trivial⟩
    · -- no
      try simp only [Bool.and_eq_true, Bool.or_eq_true, Bool.not_eq_true', Bool.and_eq_false_iff, Bool.or_eq_false_iff, Bool.not_eq_false', decide_eq_true_eq, decide_eq_false_iff_not, not_or, Bool.false_eq_true, Bool.true_eq_false, false_or, or_false, not_false_eq_true] at c1
      refine W.seq ?_
      refine W.regQ mixedKj_ (by kernel_rfl) ?_
      refine Wx.rd (v := rw) (rd_move rfl) rfl ?_
      refine Wx.rd (v := .int .i64 i) (rd_move rfl) rfl ?_
      refine Wx.ex (rd_sliceH (hS.arg a_rw) Try.underlying39 Try.sizeOf3 rfl rfl (by omega) (by omega)) rfl (fun u_17 hu_18 => ?_)
      have ln_19 := hu_18.len63
      have hS := hS.add hu_18
      refine Wx.rd (v := rw) (rd_move rfl) rfl ?_
      refine Wx.rd (v := .int .i64 i) (rd_move rfl) rfl ?_
      refine Wx.ex (rd_index 0 (hS.arg a_rw) rfl rfl Try.underlying39 Try.sizeOf3 (by first | omega | (simp only [List.length_set, List.length_append, List.length_cons, List.length_nil, List.length_replicate]; omega)) (by first | omega | (simp only [List.length_set, List.length_append, List.length_cons, List.length_nil, List.length_replicate]; omega))) rfl (fun p_21 hp_22 => ?_)
      refine Wx.rd (v := .int .i64 (ix 0 rg i)) (rd_loadI hp_22 rfl Try.isAgg3 Try.sizeOf3) rfl ?_
      have bd_23 := bd_i64 hp_22.inK
      refine Wx.callV (v := .bool (hasL (rg.take i.toNat) (ix 0 rg i))) (run_callF Try.call78 rfl) (fun w_24 hw_25 => (F78 ((hS.v 0 rfl).ext hw_25) (in_i64 (by omega) (by omega)))) rfl ?_
      refine Wx.nilQ (fun w_26 hx_27 => ?_)
      have hS := hS.ext hx_27
      refine W.cond rfl (fun c2 => ?_) (fun c2 => ?_)
      · -- yes
        try simp only [Bool.and_eq_true, Bool.or_eq_true, Bool.not_eq_true', Bool.and_eq_false_iff, Bool.or_eq_false_iff, Bool.not_eq_false', decide_eq_true_eq, decide_eq_false_iff_not, not_or, Bool.false_eq_true, Bool.true_eq_false, false_or, or_false, not_false_eq_true] at c2
        refine W.reg ?_
        refine Wx.rd (v := .int .i64 6) (rd_assign rfl) rfl ?_
        refine Wx.nil ?_
        refine W.reg ?_
        refine Wx.rd (v := .int .i64 i) (rd_move rfl) rfl ?_
        refine Wx.rd (v := .int .i64 (i + 1)) (rd_add rfl rfl (in_i64 (by omega) (by omega))) rfl ?_
        refine Wx.rd (v := .int .i64 (i + 1)) (rd_assign rfl) rfl ?_
        refine Wx.nil ?_
        refine ⟨(6, i + 1), (by show (rg.length - (i + 1)).toNat < (rg.length - i).toNat; omega), ?_, ?_, Out.look rfl (Out.hav rfl (Out.look rfl Out.self))⟩
        · exact ⟨hS.tl, (by first | omega | assumption), (by first | omega | assumption), (h2.twice k0 c0.1 c0.2 (by omega) c2)⟩
        · exact ⟨rfl, rfl, trivial⟩
      · -- no
        try simp only [Bool.and_eq_true, Bool.or_eq_true, Bool.not_eq_true', Bool.and_eq_false_iff, Bool.or_eq_false_iff, Bool.not_eq_false', decide_eq_true_eq, decide_eq_false_iff_not, not_or, Bool.false_eq_true, Bool.true_eq_false, false_or, or_false, not_false_eq_true] at c2
        refine W.skip ?_
        refine W.reg ?_
        refine Wx.rd (v := .int .i64 i) (rd_move rfl) rfl ?_
        refine Wx.rd (v := .int .i64 (i + 1)) (rd_add rfl rfl (in_i64 (by omega) (by omega))) rfl ?_
        refine Wx.rd (v := .int .i64 (i + 1)) (rd_assign rfl) rfl ?_
        refine Wx.nil ?_
        refine ⟨(e, i + 1), (by show (rg.length - (i + 1)).toNat < (rg.length - i).toNat; omega), ?_, ?_, Out.look rfl (Out.hav rfl (Out.look rfl Out.self))⟩
        · exact ⟨hS.tl, (by first | omega | assumption), (by first | omega | assumption), (h2.next k0 c0.1 c0.2 (by omega) c2)⟩
        · exact ⟨rfl, rfl, trivial⟩
  · -- no
    try simp only [Bool.and_eq_true, Bool.or_eq_true, Bool.not_eq_true', Bool.and_eq_false_iff, Bool.or_eq_false_iff, Bool.not_eq_false', decide_eq_true_eq, decide_eq_false_iff_not, not_or, Bool.false_eq_true, Bool.true_eq_false, false_or, or_false, not_false_eq_true] at c0
    have hfin := h2.fin (by omega)
    refine W.exit rfl ?_
    refine W.seq ?_
    refine W.seq ?_
    refine W.reg ?_
    refine Wx.rd (v := .int .i64 e) (rd_move rfl) rfl ?_
    refine Wx.rd (v := .bool (decide (e = 0))) (rd_eql rfl rfl) rfl ?_
    refine Wx.rd (v := .bool (decide (e = 0))) (rd_move rfl) rfl ?_
    refine Wx.cut (X := Unit) 5 [42, 43, 44, 45, 46] (fun _ => [(46, .bool (decide (e = 0) && !(closesB (gS l) (bS l) rg)))]) (fun _ w' => St w [] w' []) ?_ ?_
    · rcases Bool.eq_false_or_eq_true (decide (e = 0)) with g_28 | g_28
      · -- True
        have gp_29 := of_decide_eq_true g_28
        refine Wx.gyes rfl rfl (congrArg Value.bool g_28) ?_
        refine Wx.rd (v := v) (rd_move rfl) rfl ?_
        refine Wx.gyes rfl rfl (congrArg Value.bool g_28) ?_
        refine Wx.rd (v := rw) (rd_move rfl) rfl ?_
        refine Wx.gyes rfl rfl (congrArg Value.bool g_28) ?_
        refine Wx.callF (run_callF Try.call79 rfl) (F79 (hS.arg a_v) (hS.arg a_rw) (hfin.2 (of_decide_eq_true (by assumption))).1 (hfin.2 (of_decide_eq_true (by assumption))).2 (by omega)) rfl ?_
        rintro r_30 w_31 hx_32 rfl
        have hS := hS.ext hx_32
        refine Wx.gyes rfl rfl (congrArg Value.bool g_28) ?_
        refine Wx.rd (v := .bool (!(closesB (gS l) (bS l) rg))) (rd_not rfl) rfl ?_
        refine Wx.rd (v := .bool (!(closesB (gS l) (bS l) rg))) (rd_pickT (congrArg Value.bool g_28) rfl) rfl ?_
        refine Wx.nil ⟨(), hS, ⟨?_, trivial⟩, Out.look rfl Out.refl⟩
        show Value.bool (!(closesB (gS l) (bS l) rg)) = Value.bool (decide (e = 0) && !(closesB (gS l) (bS l) rg))
        first | rw [g_28, Bool.true_and] | (rw [g_28]; rfl)
      · -- False
        have gp_33 := of_decide_eq_false g_28
        refine Wx.gnoB rfl rfl (congrArg Value.bool g_28) rfl rfl ?_
        refine Wx.gnoB rfl rfl (congrArg Value.bool g_28) rfl rfl ?_
        refine Wx.gnoB rfl rfl (congrArg Value.bool g_28) rfl rfl ?_
        refine Wx.gnoB rfl rfl (congrArg Value.bool g_28) rfl rfl ?_
        refine Wx.rd (v := .bool false) (rd_pickF (congrArg Value.bool g_28) rfl) rfl ?_
        refine Wx.nil ⟨(), hS, ⟨?_, trivial⟩, Out.look rfl Out.refl⟩
        show Value.bool false = Value.bool (decide (e = 0) && !(closesB (gS l) (bS l) rg))
        first | rw [g_28, Bool.false_and] | (rw [g_28]; rfl)
    rintro ⟨⟩ u_35 w_34 hS
    refine Wx.nil ?_
    refine W.cond rfl (fun c3 => ?_) (fun c3 => ?_)
    · -- yes
      try simp only [Bool.and_eq_true, Bool.or_eq_true, Bool.not_eq_true', Bool.and_eq_false_iff, Bool.or_eq_false_iff, Bool.not_eq_false', decide_eq_true_eq, decide_eq_false_iff_not, not_or, Bool.false_eq_true, Bool.true_eq_false, false_or, or_false, not_false_eq_true] at c3
      refine W.reg ?_
      refine Wx.rd (v := .int .i64 14) (rd_assign rfl) rfl ?_
      refine Wx.nil ?_
      refine W.seq ?_
      refine W.reg ?_
      refine Wx.rd (v := .int .i64 14) (rd_move rfl) rfl ?_
      refine Wx.rd (v := .int .i64 14) (rd_assign rfl) rfl ?_
      refine Wx.nil ?_
      have e0_0 : (provesE g l rg) = (14 : Int) := by rw [provesE, ← hfin.1, if_pos c3.1, if_neg (by rw [c3.2]; decide)]
      exact W.ret ⟨.int .i64 14, ResIs.one, hS.bel, (by rw [e0_0])⟩
    · -- no
      try simp only [Bool.and_eq_true, Bool.or_eq_true, Bool.not_eq_true', Bool.and_eq_false_iff, Bool.or_eq_false_iff, Bool.not_eq_false', decide_eq_true_eq, decide_eq_false_iff_not, not_or, Bool.false_eq_true, Bool.true_eq_false, false_or, or_false, not_false_eq_true] at c3
      refine W.skip ?_
      refine W.seq ?_
      refine W.reg ?_
      refine Wx.rd (v := .int .i64 e) (rd_move rfl) rfl ?_
      refine Wx.rd (v := .int .i64 e) (rd_assign rfl) rfl ?_
      refine Wx.nil ?_
      have e1_0 : (provesE g l rg) = (e : Int) := by rw [provesE, ← hfin.1]; by_cases he : e = 0; (rw [if_pos he, he, if_pos (c3.resolve_left (fun hh => hh he))]); rw [if_neg he]
      exact W.ret ⟨.int .i64 e, ResIs.one, hS.bel, (by rw [e1_0])⟩
end Go.Proofs.Ytjbcpggikaeleaa

namespace Go.Proofs.Ytjbcpggikaeleaa
open Go.Wk Go.RowKit Go.Lib
set_option linter.unusedVariables false
set_option linter.unusedSimpArgs false
theorem mixedKk_ : Try.prog.follows .mixedOrders = true := by kernel_rfl

set_option maxHeartbeats 1000000 in
theorem F38 {g : Int} {v : Value} {l : List ((List Int) × (List Int))} {Fr_v : List (Option Nat)} {wv : Value} {worth : List Int} {Fr_wv : List (Option Nat)} {uv : Value} {weight : List Int} {Fr_uv : List (Option Nat)} {w : World} (i_g : InK .i64 g) (h_v : V (tSl (tP (tSl (tI .i64)) (tSl (tI .i64)))) l v Fr_v w) (h_wv : V (tSl (tI .i64)) worth wv Fr_wv w) (h_uv : V (tSl (tI .i64)) weight uv Fr_uv w) : Calls Try.prog 38 #[.int .i64 g, v, wv, uv] w (Ret w (fun r _ => r = .int .i64 (agreesE g l worth weight))) := by
  have b_g := bd_i64 i_g
  have a_v := h_v.any
  have l_v := h_v.len63
  have a_wv := h_wv.any
  have l_wv := h_wv.len63
  have a_uv := h_uv.any
  have l_uv := h_uv.len63
  have hS := St.start0 w
  refine enterR Try.func38 rfl Try.ntmps38 Try.results38 rfl ?_
  refine W.seq ?_
  refine W.reg ?_
  refine Wx.rd (v := .int .i64 0) (rd_assign rfl) rfl ?_
  refine Wx.nil ?_
  refine W.seq ?_
  refine W.reg ?_
  refine Wx.rd (v := .int .i64 g) (rd_move rfl) rfl ?_
  refine Wx.rd (v := v) (rd_move rfl) rfl ?_
  refine Wx.callF (run_callF Try.call26 rfl) (F26 i_g (hS.arg a_v)) rfl ?_
  rintro r_1 w_2 hx_3 rfl
  have hS := hS.ext hx_3
  refine Wx.rd (v := .int .i64 (checkE g l)) (rd_assign rfl) rfl ?_
  refine Wx.nil ?_
  refine W.seq ?_
  refine W.seq ?_
  refine W.reg ?_
  refine Wx.rd (v := .int .i64 (checkE g l)) (rd_move rfl) rfl ?_
  refine Wx.rd (v := .bool (decide ((checkE g l) ≠ 0))) (rd_neq rfl rfl) rfl ?_
  refine Wx.nil ?_
  refine W.condD rfl (fun c0 => ?_) (fun c0 => ?_)
  · -- yes
    refine W.seq ?_
    refine W.reg ?_
    refine Wx.rd (v := .int .i64 (checkE g l)) (rd_move rfl) rfl ?_
    refine Wx.rd (v := .int .i64 (checkE g l)) (rd_assign rfl) rfl ?_
    refine Wx.nil ?_
    have e0_0 : (agreesE g l worth weight) = (checkE g l : Int) := by rw [agreesE, if_neg c0]
    exact W.ret ⟨.int .i64 (checkE g l), ResIs.one, hS.bel, (by rw [e0_0])⟩
  · -- no
    have h0c : checkE g l = 0 := by omega
    have hsok := SalesOK.of h0c
    have hl6 := hsok.1
    obtain ⟨gd, hgd, hok⟩ := hsok.at
    refine W.skip ?_
    refine W.seq ?_
    refine W.seq ?_
    refine W.reg ?_
    refine Wx.rd (v := wv) (rd_move rfl) rfl ?_
    refine Wx.rd (v := .int .i64 (worth.length : Int)) (rd_lenV rfl (hS.arg a_wv) Try.underlying39) rfl ?_
    refine Wx.rd (v := v) (rd_move rfl) rfl ?_
    refine Wx.rd (v := .int .i64 (l.length : Int)) (rd_lenV rfl (hS.arg a_v) Try.underlying25) rfl ?_
    refine Wx.rd (v := .bool (decide ((worth.length : Int) ≠ (l.length : Int)))) (rd_neq rfl rfl) rfl ?_
    refine Wx.rd (v := .bool (decide ((worth.length : Int) ≠ (l.length : Int)))) (rd_move rfl) rfl ?_
    refine Wx.cut (X := Unit) 6 [25, 26, 27, 28, 29, 30] (fun _ => [(30, .bool (decide ((worth.length : Int) ≠ (l.length : Int)) || decide ((weight.length : Int) ≠ (l.length : Int))))]) (fun _ w' => St w [] w' []) ?_ ?_
    · rcases Bool.eq_false_or_eq_true (decide ((worth.length : Int) ≠ (l.length : Int))) with g_4 | g_4
      · -- True
        have gp_5 := of_decide_eq_true g_4
        refine Wx.gnoB rfl rfl (congrArg Value.bool g_4) rfl rfl ?_
        refine Wx.gnoB rfl rfl (congrArg Value.bool g_4) rfl rfl ?_
        refine Wx.gnoB rfl rfl (congrArg Value.bool g_4) rfl rfl ?_
        refine Wx.gnoB rfl rfl (congrArg Value.bool g_4) rfl rfl ?_
        refine Wx.gnoB rfl rfl (congrArg Value.bool g_4) rfl rfl ?_
        refine Wx.rd (v := .bool true) (rd_pickT (congrArg Value.bool g_4) rfl) rfl ?_
        refine Wx.nil ⟨(), hS, ⟨?_, trivial⟩, Out.look rfl Out.refl⟩
        show Value.bool true = Value.bool (decide ((worth.length : Int) ≠ (l.length : Int)) || decide ((weight.length : Int) ≠ (l.length : Int)))
        first | rw [g_4, Bool.true_or] | (rw [g_4]; rfl)
      · -- False
        have gp_6 := of_decide_eq_false g_4
        refine Wx.gyes rfl rfl (congrArg Value.bool g_4) ?_
        refine Wx.rd (v := uv) (rd_move rfl) rfl ?_
        refine Wx.gyes rfl rfl (congrArg Value.bool g_4) ?_
        refine Wx.rd (v := .int .i64 (weight.length : Int)) (rd_lenV rfl (hS.arg a_uv) Try.underlying39) rfl ?_
        refine Wx.gyes rfl rfl (congrArg Value.bool g_4) ?_
        refine Wx.rd (v := v) (rd_move rfl) rfl ?_
        refine Wx.gyes rfl rfl (congrArg Value.bool g_4) ?_
        refine Wx.rd (v := .int .i64 (l.length : Int)) (rd_lenV rfl (hS.arg a_v) Try.underlying25) rfl ?_
        refine Wx.gyes rfl rfl (congrArg Value.bool g_4) ?_
        refine Wx.rd (v := .bool (decide ((weight.length : Int) ≠ (l.length : Int)))) (rd_neq rfl rfl) rfl ?_
        refine Wx.rd (v := .bool (decide ((weight.length : Int) ≠ (l.length : Int)))) (rd_pickF (congrArg Value.bool g_4) rfl) rfl ?_
        refine Wx.nil ⟨(), hS, ⟨?_, trivial⟩, Out.look rfl Out.refl⟩
        show Value.bool (decide ((weight.length : Int) ≠ (l.length : Int))) = Value.bool (decide ((worth.length : Int) ≠ (l.length : Int)) || decide ((weight.length : Int) ≠ (l.length : Int)))
        first | rw [g_4, Bool.false_or] | (rw [g_4]; rfl)
    rintro ⟨⟩ u_8 w_7 hS
    refine Wx.nil ?_
    refine W.cond rfl (fun c1 => ?_) (fun c1 => ?_)
    · -- yes
      try simp only [Bool.and_eq_true, Bool.or_eq_true, Bool.not_eq_true', Bool.and_eq_false_iff, Bool.or_eq_false_iff, Bool.not_eq_false', decide_eq_true_eq, decide_eq_false_iff_not, not_or, Bool.false_eq_true, Bool.true_eq_false, false_or, or_false, not_false_eq_true] at c1
      refine W.seq ?_
      refine W.reg ?_
      refine Wx.rd (v := .int .i64 5) (rd_assign rfl) rfl ?_
      refine Wx.nil ?_
      have e1_0 : (agreesE g l worth weight) = (5 : Int) := by rw [agreesE, if_pos h0c, if_neg (by omega)]
      exact W.ret ⟨.int .i64 5, ResIs.one, hS.bel, (by rw [e1_0])⟩
    · -- no
      try simp only [Bool.and_eq_true, Bool.or_eq_true, Bool.not_eq_true', Bool.and_eq_false_iff, Bool.or_eq_false_iff, Bool.not_eq_false', decide_eq_true_eq, decide_eq_false_iff_not, not_or, Bool.false_eq_true, Bool.true_eq_false, false_or, or_false, not_false_eq_true] at c1
      refine W.skip ?_
      refine W.seq ?_
      refine W.seq ?_
      refine W.reg ?_
      refine Wx.rd (v := .int .i64 0) (rd_assign rfl) rfl ?_
      refine Wx.nil ?_
      refine W.block ?_
      refine W.loop [8, 10, 31, 32, 33, 34, 35, 36, 37, 38, 39, 40, 41, 42, 43, 44, 45, 46, 47, 48, 49, 50] (fun (i : Int) => [(10, .int .i64 i)]) (fun (i : Int) w' => St w [] w' [] ∧ 0 ≤ i ∧ i ≤ l.length ∧ (∀ k : Int, 0 ≤ k → k < i → agr1 worth weight k)) (fun (i : Int) => (l.length - i).toNat) 0 ⟨rfl, trivial⟩ ⟨hS, (by first | omega | simp), (by first | omega | simp), (fun k q0 k1 => by omega)⟩ ?_
      rintro i u_10 w_9 ⟨hS, k0, h1, h2⟩
      refine W.seq ?_
      refine W.seq ?_
      refine W.reg ?_
      refine Wx.rd (v := .int .i64 i) (rd_move rfl) rfl ?_
      refine Wx.rd (v := v) (rd_move rfl) rfl ?_
      refine Wx.rd (v := .int .i64 (l.length : Int)) (rd_lenV rfl (hS.arg a_v) Try.underlying25) rfl ?_
      refine Wx.rd (v := .bool (decide (i < (l.length : Int)))) (rd_lss rfl rfl) rfl ?_
      refine Wx.nil ?_
      refine W.condD rfl (fun c2 => ?_) (fun c2 => ?_)
      · -- yes
        refine W.skip ?_
        refine W.seq ?_
        refine W.block ?_
        refine W.seq ?_
        refine W.reg ?_
        refine Wx.rd (v := wv) (rd_move rfl) rfl ?_
        refine Wx.rd (v := .int .i64 i) (rd_move rfl) rfl ?_
        refine Wx.ex (rd_index 0 (hS.arg a_wv) rfl rfl Try.underlying39 Try.sizeOf3 (by first | omega | (simp only [List.length_set, List.length_append, List.length_cons, List.length_nil, List.length_replicate]; omega)) (by first | omega | (simp only [List.length_set, List.length_append, List.length_cons, List.length_nil, List.length_replicate]; omega))) rfl (fun p_11 hp_12 => ?_)
        refine Wx.rd (v := .int .i64 (ix 0 worth i)) (rd_loadI hp_12 rfl Try.isAgg3 Try.sizeOf3) rfl ?_
        have bd_13 := bd_i64 hp_12.inK
        refine Wx.callF (run_callF Try.call73 rfl) (F73 (in_i64 (by omega) (by omega)) (in_i64 (by omega) (by omega)) (in_i64 (by omega) (by omega))) rfl ?_
        rintro r_14 w_15 hx_16 rfl
        have hS := hS.ext hx_16
        refine Wx.rd (v := .bool (!(decide (0 ≤ (ix 0 worth i)) && decide ((ix 0 worth i) ≤ 1000000000000)))) (rd_not rfl) rfl ?_
        refine Wx.rd (v := .bool (!(decide (0 ≤ (ix 0 worth i)) && decide ((ix 0 worth i) ≤ 1000000000000)))) (rd_move rfl) rfl ?_
        refine Wx.cut (X := Unit) 7 [44, 45, 46, 47, 48, 49, 50] (fun _ => [(50, .bool (!(decide (0 ≤ (ix 0 worth i)) && decide ((ix 0 worth i) ≤ 1000000000000)) || !(decide (1 ≤ (ix 0 weight i)) && decide ((ix 0 weight i) ≤ 1000000000000))))]) (fun _ w' => St w [] w' []) ?_ ?_
        · rcases Bool.eq_false_or_eq_true (!(decide (0 ≤ (ix 0 worth i)) && decide ((ix 0 worth i) ≤ 1000000000000))) with g_17 | g_17
          · -- True
            have gp_18 := g_17
            try simp only [Bool.and_eq_true, Bool.or_eq_true, Bool.not_eq_true', Bool.and_eq_false_iff, Bool.or_eq_false_iff, Bool.not_eq_false', decide_eq_true_eq, decide_eq_false_iff_not, not_or, Bool.false_eq_true, Bool.true_eq_false, false_or, or_false, not_false_eq_true] at gp_18
            refine Wx.gnoB rfl rfl (congrArg Value.bool g_17) rfl rfl ?_
            refine Wx.gnoB rfl rfl (congrArg Value.bool g_17) rfl rfl ?_
            refine Wx.gnoB rfl rfl (congrArg Value.bool g_17) rfl rfl ?_
            refine Wx.gnoB rfl rfl (congrArg Value.bool g_17) rfl rfl ?_
            refine Wx.gnoB rfl rfl (congrArg Value.bool g_17) rfl rfl ?_
            refine Wx.gnoB rfl rfl (congrArg Value.bool g_17) rfl rfl ?_
            refine Wx.rd (v := .bool true) (rd_pickT (congrArg Value.bool g_17) rfl) rfl ?_
            refine Wx.nil ⟨(), hS, ⟨?_, trivial⟩, Out.look rfl Out.refl⟩
            show Value.bool true = Value.bool (!(decide (0 ≤ (ix 0 worth i)) && decide ((ix 0 worth i) ≤ 1000000000000)) || !(decide (1 ≤ (ix 0 weight i)) && decide ((ix 0 weight i) ≤ 1000000000000)))
            first | rw [g_17, Bool.true_or] | (rw [g_17]; rfl)
          · -- False
            have gp_19 := g_17
            try simp only [Bool.and_eq_true, Bool.or_eq_true, Bool.not_eq_true', Bool.and_eq_false_iff, Bool.or_eq_false_iff, Bool.not_eq_false', decide_eq_true_eq, decide_eq_false_iff_not, not_or, Bool.false_eq_true, Bool.true_eq_false, false_or, or_false, not_false_eq_true] at gp_19
            refine Wx.gyes rfl rfl (congrArg Value.bool g_17) ?_
            refine Wx.rd (v := uv) (rd_move rfl) rfl ?_
            refine Wx.gyes rfl rfl (congrArg Value.bool g_17) ?_
            refine Wx.rd (v := .int .i64 i) (rd_move rfl) rfl ?_
            refine Wx.gyes rfl rfl (congrArg Value.bool g_17) ?_
            refine Wx.ex (rd_index 0 (hS.arg a_uv) rfl rfl Try.underlying39 Try.sizeOf3 (by first | omega | (simp only [List.length_set, List.length_append, List.length_cons, List.length_nil, List.length_replicate]; omega)) (by first | omega | (simp only [List.length_set, List.length_append, List.length_cons, List.length_nil, List.length_replicate]; omega))) rfl (fun p_20 hp_21 => ?_)
            refine Wx.gyes rfl rfl (congrArg Value.bool g_17) ?_
            refine Wx.rd (v := .int .i64 (ix 0 weight i)) (rd_loadI hp_21 rfl Try.isAgg3 Try.sizeOf3) rfl ?_
            have bd_22 := bd_i64 hp_21.inK
            refine Wx.gyes rfl rfl (congrArg Value.bool g_17) ?_
            refine Wx.callF (run_callF Try.call73 rfl) (F73 (in_i64 (by omega) (by omega)) (in_i64 (by omega) (by omega)) (in_i64 (by omega) (by omega))) rfl ?_
            rintro r_23 w_24 hx_25 rfl
            have hS := hS.ext hx_25
            refine Wx.gyes rfl rfl (congrArg Value.bool g_17) ?_
            refine Wx.rd (v := .bool (!(decide (1 ≤ (ix 0 weight i)) && decide ((ix 0 weight i) ≤ 1000000000000)))) (rd_not rfl) rfl ?_
            refine Wx.rd (v := .bool (!(decide (1 ≤ (ix 0 weight i)) && decide ((ix 0 weight i) ≤ 1000000000000)))) (rd_pickF (congrArg Value.bool g_17) rfl) rfl ?_
            refine Wx.nil ⟨(), hS, ⟨?_, trivial⟩, Out.look rfl Out.refl⟩
            show Value.bool (!(decide (1 ≤ (ix 0 weight i)) && decide ((ix 0 weight i) ≤ 1000000000000))) = Value.bool (!(decide (0 ≤ (ix 0 worth i)) && decide ((ix 0 worth i) ≤ 1000000000000)) || !(decide (1 ≤ (ix 0 weight i)) && decide ((ix 0 weight i) ≤ 1000000000000)))
            first | rw [g_17, Bool.false_or] | (rw [g_17]; rfl)
        rintro ⟨⟩ u_27 w_26 hS
        refine Wx.nil ?_
        refine W.cond rfl (fun c3 => ?_) (fun c3 => ?_)
        · -- yes
          try simp only [Bool.and_eq_true, Bool.or_eq_true, Bool.not_eq_true', Bool.and_eq_false_iff, Bool.or_eq_false_iff, Bool.not_eq_false', decide_eq_true_eq, decide_eq_false_iff_not, not_or, Bool.false_eq_true, Bool.true_eq_false, false_or, or_false, not_false_eq_true] at c3
          refine W.seq ?_
          refine W.reg ?_
          refine Wx.rd (v := .int .i64 1) (rd_assign rfl) rfl ?_
          refine Wx.nil ?_
          have e2_0 : (agreesE g l worth weight) = (1 : Int) := by rw [agreesE, if_pos h0c, if_pos (by omega), if_neg (fun hh => agr1_no (by omega) (hh i k0 c2))]
          exact W.ret ⟨.int .i64 1, ResIs.one, hS.bel, (by rw [e2_0])⟩
        · -- no
          try simp only [Bool.and_eq_true, Bool.or_eq_true, Bool.not_eq_true', Bool.and_eq_false_iff, Bool.or_eq_false_iff, Bool.not_eq_false', decide_eq_true_eq, decide_eq_false_iff_not, not_or, Bool.false_eq_true, Bool.true_eq_false, false_or, or_false, not_false_eq_true] at c3
          refine W.skip ?_
          refine W.reg ?_
          refine Wx.rd (v := .int .i64 i) (rd_move rfl) rfl ?_
          refine Wx.rd (v := .int .i64 (i + 1)) (rd_add rfl rfl (in_i64 (by omega) (by omega))) rfl ?_
          refine Wx.rd (v := .int .i64 (i + 1)) (rd_assign rfl) rfl ?_
          refine Wx.nil ?_
          refine ⟨i + 1, (by show (l.length - (i + 1)).toNat < (l.length - i).toNat; omega), ?_, ?_, Out.look rfl (Out.hav rfl (Out.look rfl Out.self))⟩
          · exact ⟨hS, (by first | omega | assumption), (by first | omega | assumption), (fun k q0 k1 => by by_cases hk : k = i; (subst hk; exact agr1_of (by omega)); exact h2 k q0 (by omega))⟩
          · exact ⟨rfl, trivial⟩
      · -- no
        have hw := agr_all (n := l.length) (worth := worth) (weight := weight) (by omega) (by omega) (by omega) h2
        refine W.exit rfl ?_
        refine W.seq ?_
        refine W.seq ?_
        refine W.reg ?_
        refine Wx.rd (v := .int .i64 0) (rd_assign rfl) rfl ?_
        refine Wx.nil ?_
        refine W.block ?_
        refine W.loop [8, 11, 12, 51, 52, 53, 54, 55, 56, 57, 58, 59, 60, 61, 62, 63, 64, 65, 66, 67, 68, 69, 70, 71, 72, 73, 74, 75, 76, 77, 78, 79, 80, 81, 82, 83, 84, 85, 86, 87, 88, 89, 90, 91, 92, 93, 94, 95, 96] (fun (a : Int) => [(11, .int .i64 a)]) (fun (a : Int) w' => St w [] w' [] ∧ 0 ≤ a ∧ a ≤ l.length ∧ (∀ x y : Int, 0 ≤ x → x < a → 0 ≤ y → y < l.length → agr2 l worth weight x y)) (fun (a : Int) => (l.length - a).toNat) 0 ⟨rfl, trivial⟩ ⟨hS, (by first | omega | simp), (by first | omega | simp), (fun x y x0 x1 => by omega)⟩ ?_
        rintro a u_29 w_28 ⟨hS, a0, a1, a2⟩
        refine W.seq ?_
        refine W.seq ?_
        refine W.reg ?_
        refine Wx.rd (v := .int .i64 a) (rd_move rfl) rfl ?_
        refine Wx.rd (v := v) (rd_move rfl) rfl ?_
        refine Wx.rd (v := .int .i64 (l.length : Int)) (rd_lenV rfl (hS.arg a_v) Try.underlying25) rfl ?_
        refine Wx.rd (v := .bool (decide (a < (l.length : Int)))) (rd_lss rfl rfl) rfl ?_
        refine Wx.nil ?_
        refine W.condD rfl (fun c4 => ?_) (fun c4 => ?_)
        · -- yes
          refine W.skip ?_
          refine W.seq ?_
          refine W.block ?_
          refine W.seq ?_
          refine W.reg ?_
          refine Wx.rd (v := .int .i64 0) (rd_assign rfl) rfl ?_
          refine Wx.nil ?_
          refine W.block ?_
          refine W.loop [8, 12, 57, 58, 59, 60, 61, 62, 63, 64, 65, 66, 67, 68, 69, 70, 71, 72, 73, 74, 75, 76, 77, 78, 79, 80, 81, 82, 83, 84, 85, 86, 87, 88, 89, 90, 91, 92, 93, 94, 95, 96] (fun (b : Int) => [(12, .int .i64 b)]) (fun (b : Int) w' => St w [] w' [] ∧ 0 ≤ b ∧ b ≤ l.length ∧ (∀ y : Int, 0 ≤ y → y < b → agr2 l worth weight a y)) (fun (b : Int) => (l.length - b).toNat) 0 ⟨rfl, trivial⟩ ⟨hS, (by first | omega | simp), (by first | omega | simp), (fun y y0 y1 => by omega)⟩ ?_
          rintro b u_31 w_30 ⟨hS, b0, b1, b2⟩
          refine W.seq ?_
          refine W.seq ?_
          refine W.reg ?_
          refine Wx.rd (v := .int .i64 b) (rd_move rfl) rfl ?_
          refine Wx.rd (v := v) (rd_move rfl) rfl ?_
          refine Wx.rd (v := .int .i64 (l.length : Int)) (rd_lenV rfl (hS.arg a_v) Try.underlying25) rfl ?_
          refine Wx.rd (v := .bool (decide (b < (l.length : Int)))) (rd_lss rfl rfl) rfl ?_
          refine Wx.nil ?_
          refine W.condD rfl (fun c5 => ?_) (fun c5 => ?_)
          · -- yes
            have hwa := hw a (by omega) (by omega)
            have hwb := hw b (by omega) (by omega)
            have cab := (hok a (by omega) (by omega)).cost hgd.2 (hok b (by omega) (by omega))
            have caa := (hok a (by omega) (by omega)).cost hgd.2 (hok a (by omega) (by omega))
            have hml := mul_lim hwa.2.1 hwa.2.2 cab caa
            refine W.skip ?_
            refine W.seq ?_
            refine W.block ?_
            refine W.seq ?_
            refine W.regQ mixedKk_ (by kernel_rfl) ?_
            refine Wx.rd (v := wv) (rd_move rfl) rfl ?_
            refine Wx.rd (v := .int .i64 b) (rd_move rfl) rfl ?_
            refine Wx.ex (rd_index 0 (hS.arg a_wv) rfl rfl Try.underlying39 Try.sizeOf3 (by first | omega | (simp only [List.length_set, List.length_append, List.length_cons, List.length_nil, List.length_replicate]; omega)) (by first | omega | (simp only [List.length_set, List.length_append, List.length_cons, List.length_nil, List.length_replicate]; omega))) rfl (fun p_32 hp_33 => ?_)
            refine Wx.rd (v := .int .i64 (ix 0 worth b)) (rd_loadI hp_33 rfl Try.isAgg3 Try.sizeOf3) rfl ?_
            have bd_34 := bd_i64 hp_33.inK
            refine Wx.rd (v := wv) (rd_move rfl) rfl ?_
            refine Wx.rd (v := .int .i64 a) (rd_move rfl) rfl ?_
            refine Wx.ex (rd_index 0 (hS.arg a_wv) rfl rfl Try.underlying39 Try.sizeOf3 (by first | omega | (simp only [List.length_set, List.length_append, List.length_cons, List.length_nil, List.length_replicate]; omega)) (by first | omega | (simp only [List.length_set, List.length_append, List.length_cons, List.length_nil, List.length_replicate]; omega))) rfl (fun p_35 hp_36 => ?_)
            refine Wx.rd (v := .int .i64 (ix 0 worth a)) (rd_loadI hp_36 rfl Try.isAgg3 Try.sizeOf3) rfl ?_
            have bd_37 := bd_i64 hp_36.inK
            refine Wx.rd (v := uv) (rd_move rfl) rfl ?_
            refine Wx.rd (v := .int .i64 a) (rd_move rfl) rfl ?_
            refine Wx.ex (rd_index 0 (hS.arg a_uv) rfl rfl Try.underlying39 Try.sizeOf3 (by first | omega | (simp only [List.length_set, List.length_append, List.length_cons, List.length_nil, List.length_replicate]; omega)) (by first | omega | (simp only [List.length_set, List.length_append, List.length_cons, List.length_nil, List.length_replicate]; omega))) rfl (fun p_38 hp_39 => ?_)
            refine Wx.rd (v := .int .i64 (ix 0 weight a)) (rd_loadI hp_39 rfl Try.isAgg3 Try.sizeOf3) rfl ?_
            have bd_40 := bd_i64 hp_39.inK
            refine Wx.rd (v := v) (rd_move rfl) rfl ?_
            refine Wx.rd (v := .int .i64 a) (rd_move rfl) rfl ?_
            refine Wx.ex (rd_index ([], []) (hS.arg a_v) rfl rfl Try.underlying25 Try.sizeOf88 (by first | omega | (simp only [List.length_set, List.length_append, List.length_cons, List.length_nil, List.length_replicate]; omega)) (by first | omega | (simp only [List.length_set, List.length_append, List.length_cons, List.length_nil, List.length_replicate]; omega))) rfl (fun p_41 hp_42 => ?_)
            refine Wx.ex (rd_load hp_42 rfl Try.isAgg88 Try.sizeOf88) rfl (fun v_43 hv_44 => ?_)
            obtain ⟨v_45, v_46, rfl, hv_47, hv_48⟩ := hv_44.s2
            have hS := hS.add (hv_47)
            have ln_50 := (hS.v 0 rfl).len63
            have hS := hS.add (V.upF (hv_48))
            have ln_52 := (hS.v 0 rfl).len63
            refine Wx.rd (v := v) (rd_move rfl) rfl ?_
            refine Wx.rd (v := .int .i64 b) (rd_move rfl) rfl ?_
            refine Wx.ex (rd_index ([], []) (hS.arg a_v) rfl rfl Try.underlying25 Try.sizeOf88 (by first | omega | (simp only [List.length_set, List.length_append, List.length_cons, List.length_nil, List.length_replicate]; omega)) (by first | omega | (simp only [List.length_set, List.length_append, List.length_cons, List.length_nil, List.length_replicate]; omega))) rfl (fun p_53 hp_54 => ?_)
            refine Wx.ex (rd_load hp_54 rfl Try.isAgg88 Try.sizeOf88) rfl (fun v_55 hv_56 => ?_)
            obtain ⟨v_57, v_58, rfl, hv_59, hv_60⟩ := hv_56.s2
            have hS := hS.add (hv_59)
            have ln_62 := (hS.v 0 rfl).len63
            have hS := hS.add (V.upF (hv_60))
            have ln_64 := (hS.v 0 rfl).len63
            refine Wx.callV (v := .int .i64 (costV ((ix ([], []) l a).1) ((ix ([], []) l b).2))) (run_callF Try.call65 rfl) (fun w_65 hw_66 => (F65 ((hS.v 3 rfl).ext hw_66) ((hS.v 2 rfl).ext hw_66) ((hS.v 1 rfl).ext hw_66) ((hS.v 0 rfl).ext hw_66) (hok a (by omega) (by omega)).b1 (hok b (by omega) (by omega)).b2 (by have := (hok a (by omega) (by omega)).l1; omega) (by have h1 := (hok a (by omega) (by omega)).l1; have h2 := (hok b (by omega) (by omega)).l2; omega))) rfl ?_
            refine Wx.rd (v := v) (rd_move rfl) rfl ?_
            refine Wx.rd (v := .int .i64 a) (rd_move rfl) rfl ?_
            refine Wx.ex (rd_index ([], []) (hS.arg a_v) rfl rfl Try.underlying25 Try.sizeOf88 (by first | omega | (simp only [List.length_set, List.length_append, List.length_cons, List.length_nil, List.length_replicate]; omega)) (by first | omega | (simp only [List.length_set, List.length_append, List.length_cons, List.length_nil, List.length_replicate]; omega))) rfl (fun p_67 hp_68 => ?_)
            refine Wx.ex (rd_load hp_68 rfl Try.isAgg88 Try.sizeOf88) rfl (fun v_69 hv_70 => ?_)
            obtain ⟨v_71, v_72, rfl, hv_73, hv_74⟩ := hv_70.s2
            have hS := hS.add (hv_73)
            have ln_76 := (hS.v 0 rfl).len63
            have hS := hS.add (V.upF (hv_74))
            have ln_78 := (hS.v 0 rfl).len63
            refine Wx.rd (v := v) (rd_move rfl) rfl ?_
            refine Wx.rd (v := .int .i64 a) (rd_move rfl) rfl ?_
            refine Wx.ex (rd_index ([], []) (hS.arg a_v) rfl rfl Try.underlying25 Try.sizeOf88 (by first | omega | (simp only [List.length_set, List.length_append, List.length_cons, List.length_nil, List.length_replicate]; omega)) (by first | omega | (simp only [List.length_set, List.length_append, List.length_cons, List.length_nil, List.length_replicate]; omega))) rfl (fun p_79 hp_80 => ?_)
            refine Wx.ex (rd_load hp_80 rfl Try.isAgg88 Try.sizeOf88) rfl (fun v_81 hv_82 => ?_)
            obtain ⟨v_83, v_84, rfl, hv_85, hv_86⟩ := hv_82.s2
            have hS := hS.add (hv_85)
            have ln_88 := (hS.v 0 rfl).len63
            have hS := hS.add (V.upF (hv_86))
            have ln_90 := (hS.v 0 rfl).len63
            refine Wx.callV (v := .int .i64 (costV ((ix ([], []) l a).1) ((ix ([], []) l a).2))) (run_callF Try.call65 rfl) (fun w_91 hw_92 => (F65 ((hS.v 3 rfl).ext hw_92) ((hS.v 2 rfl).ext hw_92) ((hS.v 1 rfl).ext hw_92) ((hS.v 0 rfl).ext hw_92) (hok a (by omega) (by omega)).b1 (hok a (by omega) (by omega)).b2 (by have := (hok a (by omega) (by omega)).l1; omega) (by have h1 := (hok a (by omega) (by omega)).l1; have h2 := (hok a (by omega) (by omega)).l2; omega))) rfl ?_
            refine Wx.rd (v := .int .i64 ((costV ((ix ([], []) l a).1) ((ix ([], []) l b).2)) - (costV ((ix ([], []) l a).1) ((ix ([], []) l a).2)))) (rd_sub rfl rfl (in_i64 (by omega) (by omega))) rfl ?_
            refine Wx.rd (v := .int .i64 ((ix 0 weight a) * ((costV ((ix ([], []) l a).1) ((ix ([], []) l b).2)) - (costV ((ix ([], []) l a).1) ((ix ([], []) l a).2))))) (rd_mul rfl rfl (in_i64 (by have := hml; omega) (by have := hml; omega))) rfl ?_
            refine Wx.rd (v := .int .i64 ((ix 0 worth a) + ((ix 0 weight a) * ((costV ((ix ([], []) l a).1) ((ix ([], []) l b).2)) - (costV ((ix ([], []) l a).1) ((ix ([], []) l a).2)))))) (rd_add rfl rfl (in_i64 (by have := hml; omega) (by have := hml; omega))) rfl ?_
            refine Wx.rd (v := .bool (decide (((ix 0 worth a) + ((ix 0 weight a) * ((costV ((ix ([], []) l a).1) ((ix ([], []) l b).2)) - (costV ((ix ([], []) l a).1) ((ix ([], []) l a).2))))) < (ix 0 worth b)))) (rd_gtr rfl rfl) rfl ?_
            refine Wx.nilQ (fun w_93 hx_94 => ?_)
            have hS := hS.ext hx_94
            refine W.condD rfl (fun c6 => ?_) (fun c6 => ?_)
            · -- yes
              refine W.seq ?_
              refine W.reg ?_
              refine Wx.rd (v := .int .i64 14) (rd_assign rfl) rfl ?_
              refine Wx.nil ?_
              have e3_0 : (agreesE g l worth weight) = (14 : Int) := by rw [agreesE, if_pos h0c, if_pos (by omega), if_pos (fun k q0 k1 => h2 k q0 (by omega)), if_neg (fun hh => agr2_no (by omega) (hh a b a0 c4 b0 c5))]
              exact W.ret ⟨.int .i64 14, ResIs.one, hS.bel, (by rw [e3_0])⟩
            · -- no
              refine W.skip ?_
              refine W.reg ?_
              refine Wx.rd (v := .int .i64 b) (rd_move rfl) rfl ?_
              refine Wx.rd (v := .int .i64 (b + 1)) (rd_add rfl rfl (in_i64 (by omega) (by omega))) rfl ?_
              refine Wx.rd (v := .int .i64 (b + 1)) (rd_assign rfl) rfl ?_
              refine Wx.nil ?_
              refine ⟨b + 1, (by show (l.length - (b + 1)).toNat < (l.length - b).toNat; omega), ?_, ?_, Out.look rfl Out.self⟩
              · exact ⟨St.tl (St.tl (St.tl (St.tl (St.tl (St.tl (St.tl (hS.tl))))))), (by first | omega | assumption), (by first | omega | assumption), (fun y y0 y1 => by by_cases hy : y = b; (subst hy; exact agr2_of (by omega)); exact b2 y y0 (by omega))⟩
              · exact ⟨rfl, trivial⟩
          · -- no
            refine W.exit rfl ?_
            refine W.reg ?_
            refine Wx.rd (v := .int .i64 a) (rd_move rfl) rfl ?_
            refine Wx.rd (v := .int .i64 (a + 1)) (rd_add rfl rfl (in_i64 (by omega) (by omega))) rfl ?_
            refine Wx.rd (v := .int .i64 (a + 1)) (rd_assign rfl) rfl ?_
            refine Wx.nil ?_
            refine ⟨a + 1, (by show (l.length - (a + 1)).toNat < (l.length - a).toNat; omega), ?_, ?_, Out.look rfl (Out.hav rfl (Out.look rfl Out.self))⟩
            · exact ⟨hS, (by first | omega | assumption), (by first | omega | assumption), (fun x y x0 x1 y0 y1 => by by_cases hx : x = a; (subst hx; exact b2 y y0 (by omega)); exact a2 x y x0 (by omega) y0 y1)⟩
            · exact ⟨rfl, trivial⟩
        · -- no
          refine W.exit rfl ?_
          refine W.seq ?_
          refine W.reg ?_
          refine Wx.rd (v := .int .i64 0) (rd_assign rfl) rfl ?_
          refine Wx.nil ?_
          have e4_0 : (agreesE g l worth weight) = (0 : Int) := by rw [agreesE, if_pos h0c, if_pos (by omega), if_pos (fun k q0 k1 => h2 k q0 (by omega)), if_pos (fun x y x0 x1 y0 y1 => a2 x y x0 (by omega) y0 y1)]
          exact W.ret ⟨.int .i64 0, ResIs.one, hS.bel, (by rw [e4_0])⟩
end Go.Proofs.Ytjbcpggikaeleaa

namespace Go.Proofs.Ytjbcpggikaeleaa
open Go.Wk Go.RowKit Go.Lib
set_option linter.unusedVariables false
set_option linter.unusedSimpArgs false
end Go.Proofs.Ytjbcpggikaeleaa

namespace Go.Proofs.Ytjbcpggikaeleaa
open Go.Wk Go.RowKit Go.Lib
set_option linter.unusedVariables false
set_option linter.unusedSimpArgs false
end Go.Proofs.Ytjbcpggikaeleaa

namespace Go.Proofs.Ytjbcpggikaeleaa
open Go.Wk Go.RowKit Go.Lib
set_option linter.unusedVariables false
set_option linter.unusedSimpArgs false


theorem F4 {g : Int} {v : Value} {l : List ((List Int) × (List Int))} {a : Int} {b : Int} {rw : Value} {rg : List Int} {O : List (Option Nat)} {w : World} (i_g : InK .i64 g) (h_v : V (tSl (tP (tSl (tI .i64)) (tSl (tI .i64)))) l v O w) (i_a : InK .i64 a) (i_b : InK .i64 b) (h_rw : V (tSl (tI .i64)) rg rw O w) (hO : ∀ b, some b ∈ O → b < w.heap.size) : Calls Try.prog 4 #[.int .i64 g, v, .int .i64 a, .int .i64 b, rw] w (Ret w (fun r _ => r = .bool true)) := by
  have b_b := bd_i64 i_b
  have b_a := bd_i64 i_a
  have b_g := bd_i64 i_g
  have a_v := h_v
  have l_v := h_v.len63
  have a_rw := h_rw
  have l_rw := h_rw.len63
  have hS := St.start w O hO
  refine enterR Try.func4 rfl Try.ntmps4 Try.results4 rfl ?_
  refine W.seq ?_
  refine W.reg ?_
  refine Wx.rd (v := .bool false) (rd_assign rfl) rfl ?_
  refine Wx.nil ?_
  refine W.seq ?_
  refine W.seq ?_
  refine W.reg ?_
  refine Wx.rd (v := v) (rd_move rfl) rfl ?_
  refine Wx.callF (run_callF Try.call15 rfl) (F15 (hS.arg a_v) hS.fb_lt) rfl ?_
  rintro r_1 w_2 hx_3 rfl
  have hS := hS.ext hx_3
  refine Wx.rd (v := .bool (largeB l)) (rd_move rfl) rfl ?_
  refine Wx.cut (X := Unit) 4 [27, 28, 29, 30] (fun _ => [(30, .bool (largeB l || decide (30 < (rg.length : Int))))]) (fun _ w' => St w O w' []) ?_ ?_
  · rcases Bool.eq_false_or_eq_true (largeB l) with g_4 | g_4
    · -- True
      have gp_5 := g_4
      try simp only [Bool.and_eq_true, Bool.or_eq_true, Bool.not_eq_true', Bool.and_eq_false_iff, Bool.or_eq_false_iff, Bool.not_eq_false', decide_eq_true_eq, decide_eq_false_iff_not, not_or, Bool.false_eq_true, Bool.true_eq_false, false_or, or_false, not_false_eq_true] at gp_5
      refine Wx.gnoB rfl rfl (congrArg Value.bool g_4) rfl rfl ?_
      refine Wx.gnoB rfl rfl (congrArg Value.bool g_4) rfl rfl ?_
      refine Wx.gnoB rfl rfl (congrArg Value.bool g_4) rfl rfl ?_
      refine Wx.rd (v := .bool true) (rd_pickT (congrArg Value.bool g_4) rfl) rfl ?_
      refine Wx.nil ⟨(), hS, ⟨?_, trivial⟩, Out.look rfl Out.refl⟩
      show Value.bool true = Value.bool (largeB l || decide (30 < (rg.length : Int)))
      first | rw [g_4, Bool.true_or] | (rw [g_4]; rfl)
    · -- False
      have gp_6 := g_4
      try simp only [Bool.and_eq_true, Bool.or_eq_true, Bool.not_eq_true', Bool.and_eq_false_iff, Bool.or_eq_false_iff, Bool.not_eq_false', decide_eq_true_eq, decide_eq_false_iff_not, not_or, Bool.false_eq_true, Bool.true_eq_false, false_or, or_false, not_false_eq_true] at gp_6
      refine Wx.gyes rfl rfl (congrArg Value.bool g_4) ?_
      refine Wx.rd (v := rw) (rd_move rfl) rfl ?_
      refine Wx.gyes rfl rfl (congrArg Value.bool g_4) ?_
      refine Wx.rd (v := .int .i64 (rg.length : Int)) (rd_lenV rfl (hS.arg a_rw) Try.underlying39) rfl ?_
      refine Wx.gyes rfl rfl (congrArg Value.bool g_4) ?_
      refine Wx.rd (v := .bool (decide (30 < (rg.length : Int)))) (rd_gtr rfl rfl) rfl ?_
      refine Wx.rd (v := .bool (decide (30 < (rg.length : Int)))) (rd_pickF (congrArg Value.bool g_4) rfl) rfl ?_
      refine Wx.nil ⟨(), hS, ⟨?_, trivial⟩, Out.look rfl Out.refl⟩
      show Value.bool (decide (30 < (rg.length : Int))) = Value.bool (largeB l || decide (30 < (rg.length : Int)))
      first | rw [g_4, Bool.false_or] | (rw [g_4]; rfl)
  rintro ⟨⟩ u_8 w_7 hS
  refine Wx.nil ?_
  refine W.cond rfl (fun c0 => ?_) (fun c0 => ?_)
  · -- yes
    try simp only [Bool.and_eq_true, Bool.or_eq_true, Bool.not_eq_true', Bool.and_eq_false_iff, Bool.or_eq_false_iff, Bool.not_eq_false', decide_eq_true_eq, decide_eq_false_iff_not, not_or, Bool.false_eq_true, Bool.true_eq_false, false_or, or_false, not_false_eq_true] at c0
    refine W.seq ?_
    refine W.reg ?_
    refine Wx.callF (run_callF Try.call16 rfl) (F16 hS.fb_lt) rfl ?_
    rintro r_9 w_10 hx_11 rfl
    have hS := hS.ext hx_11
    refine Wx.rd (v := .bool true) (rd_assign rfl) rfl ?_
    refine Wx.nil ?_
    exact W.ret ⟨.bool true, ResIs.one, hS.bel, rfl⟩
  · -- no
    try simp only [Bool.and_eq_true, Bool.or_eq_true, Bool.not_eq_true', Bool.and_eq_false_iff, Bool.or_eq_false_iff, Bool.not_eq_false', decide_eq_true_eq, decide_eq_false_iff_not, not_or, Bool.false_eq_true, Bool.true_eq_false, false_or, or_false, not_false_eq_true] at c0
    have hl30 := large_no c0.1
    refine W.skip ?_
    refine W.seq ?_
    refine W.reg ?_
    refine Wx.rd (v := v) (rd_move rfl) rfl ?_
    refine Wx.callF (run_callF Try.call17 rfl) (F17 (hS.arg a_v) (by omega) hS.fb_lt) rfl ?_
    rintro r_12 w_13 hx_14 ⟨_, rfl, hv_15⟩
    have hS := hS.pushFrO hx_14 hv_15
    refine Wx.rd (v := r_12) (rd_assign rfl) rfl ?_
    refine Wx.nil ?_
    refine W.seq ?_
    refine W.reg ?_
    refine Wx.rd (v := .int .i64 g) (rd_move rfl) rfl ?_
    refine Wx.rd (v := v) (rd_move rfl) rfl ?_
    refine Wx.rd (v := .int .i64 a) (rd_move rfl) rfl ?_
    refine Wx.rd (v := .int .i64 b) (rd_move rfl) rfl ?_
    refine Wx.callF (run_callF Try.call27 rfl) (F27 i_g (hS.arg a_v) i_a i_b hS.fb_lt) rfl ?_
    rintro r_17 w_18 hx_19 ⟨v_20, rfl, hv_21⟩
    have ln_23 := hv_21.len63
    have hS := hS.ext hx_19
    have hS := hS.add hv_21
    refine Wx.rd (v := .tuple #[v_20, .int .i64 (leastX g l a b)]) (rd_move rfl) rfl ?_
    refine Wx.rd (v := v_20) (rd_extract rfl rfl) rfl ?_
    refine Wx.rd (v := .int .i64 (leastX g l a b)) (rd_extract rfl rfl) rfl ?_
    refine Wx.rd (v := v_20) (rd_assign rfl) rfl ?_
    refine Wx.rd (v := .int .i64 (leastX g l a b)) (rd_assign rfl) rfl ?_
    refine Wx.nil ?_
    refine W.seq ?_
    refine W.reg ?_
    refine Wx.rd (v := .int .i64 g) (rd_move rfl) rfl ?_
    refine Wx.rd (v := r_12) (rd_move rfl) rfl ?_
    refine Wx.rd (v := .int .i64 a) (rd_move rfl) rfl ?_
    refine Wx.rd (v := .int .i64 b) (rd_move rfl) rfl ?_
    have hS := hS.freeze 1 rfl
    refine Wx.callF (run_callF Try.call28 rfl) (F28 i_g (hS.v 0 rfl) i_a i_b hS.fb_lt) rfl ?_
    rintro r_25 w_26 hx_27 ⟨v_28, rfl, hv_29⟩
    have ln_31 := hv_29.len63
    have hS := hS.ext hx_27
    have hS := hS.add hv_29
    refine Wx.rd (v := .tuple #[v_28, .int .i64 (leastX g l a b)]) (rd_move rfl) rfl ?_
    refine Wx.rd (v := v_28) (rd_extract rfl rfl) rfl ?_
    refine Wx.rd (v := .int .i64 (leastX g l a b)) (rd_extract rfl rfl) rfl ?_
    refine Wx.rd (v := v_28) (rd_assign rfl) rfl ?_
    refine Wx.rd (v := .int .i64 (leastX g l a b)) (rd_assign rfl) rfl ?_
    refine Wx.nil ?_
    refine W.seq ?_
    refine W.reg ?_
    refine Wx.rd (v := .int .i64 g) (rd_move rfl) rfl ?_
    refine Wx.rd (v := v) (rd_move rfl) rfl ?_
    refine Wx.callF (run_callF Try.call29 rfl) (F29 i_g (hS.arg a_v) hS.fb_lt) rfl ?_
    rintro r_32 w_33 hx_34 rfl
    have hS := hS.ext hx_34
    refine Wx.rd (v := .tuple #[.bool (tasteE g l), .int .i64 (checkE g l)]) (rd_move rfl) rfl ?_
    refine Wx.rd (v := .bool (tasteE g l)) (rd_extract rfl rfl) rfl ?_
    refine Wx.rd (v := .int .i64 (checkE g l)) (rd_extract rfl rfl) rfl ?_
    refine Wx.rd (v := .bool (tasteE g l)) (rd_assign rfl) rfl ?_
    refine Wx.rd (v := .int .i64 (checkE g l)) (rd_assign rfl) rfl ?_
    refine Wx.nil ?_
    refine W.seq ?_
    refine W.reg ?_
    refine Wx.rd (v := .int .i64 g) (rd_move rfl) rfl ?_
    refine Wx.rd (v := r_12) (rd_move rfl) rfl ?_
    refine Wx.callF (run_callF Try.call30 rfl) (F30 i_g (hS.v 1 rfl) hS.fb_lt) rfl ?_
    rintro r_35 w_36 hx_37 rfl
    have hS := hS.ext hx_37
    refine Wx.rd (v := .tuple #[.bool (tasteE g l), .int .i64 (checkE g l)]) (rd_move rfl) rfl ?_
    refine Wx.rd (v := .bool (tasteE g l)) (rd_extract rfl rfl) rfl ?_
    refine Wx.rd (v := .int .i64 (checkE g l)) (rd_extract rfl rfl) rfl ?_
    refine Wx.rd (v := .bool (tasteE g l)) (rd_assign rfl) rfl ?_
    refine Wx.rd (v := .int .i64 (checkE g l)) (rd_assign rfl) rfl ?_
    refine Wx.nil ?_
    refine W.seq ?_
    refine W.reg ?_
    refine Wx.rd (v := .int .i64 g) (rd_move rfl) rfl ?_
    refine Wx.rd (v := v) (rd_move rfl) rfl ?_
    refine Wx.callF (run_callF Try.call31 rfl) (F31 i_g (hS.arg a_v) hS.fb_lt) rfl ?_
    rintro r_38 w_39 hx_40 ⟨v_41, rfl, hv_42⟩
    have ln_44 := hv_42.len63
    have hS := hS.ext hx_40
    have hS := hS.add hv_42
    refine Wx.rd (v := .tuple #[v_41, .int .i64 (ringX g l)]) (rd_move rfl) rfl ?_
    refine Wx.rd (v := v_41) (rd_extract rfl rfl) rfl ?_
    refine Wx.rd (v := .int .i64 (ringX g l)) (rd_extract rfl rfl) rfl ?_
    refine Wx.rd (v := v_41) (rd_assign rfl) rfl ?_
    refine Wx.rd (v := .int .i64 (ringX g l)) (rd_assign rfl) rfl ?_
    refine Wx.nil ?_
    refine W.seq ?_
    refine W.reg ?_
    refine Wx.rd (v := .int .i64 g) (rd_move rfl) rfl ?_
    refine Wx.rd (v := r_12) (rd_move rfl) rfl ?_
    refine Wx.callF (run_callF Try.call32 rfl) (F32 i_g (hS.v 2 rfl) hS.fb_lt) rfl ?_
    rintro r_45 w_46 hx_47 ⟨v_48, rfl, hv_49⟩
    have ln_51 := hv_49.len63
    have hS := hS.ext hx_47
    have hS := hS.add hv_49
    refine Wx.rd (v := .tuple #[v_48, .int .i64 (ringX g l)]) (rd_move rfl) rfl ?_
    refine Wx.rd (v := v_48) (rd_extract rfl rfl) rfl ?_
    refine Wx.rd (v := .int .i64 (ringX g l)) (rd_extract rfl rfl) rfl ?_
    refine Wx.rd (v := v_48) (rd_assign rfl) rfl ?_
    refine Wx.rd (v := .int .i64 (ringX g l)) (rd_assign rfl) rfl ?_
    refine Wx.nil ?_
    refine W.seq ?_
    refine W.reg ?_
    refine Wx.rd (v := v_20) (rd_move rfl) rfl ?_
    refine Wx.rd (v := v_28) (rd_move rfl) rfl ?_
    refine Wx.callF (run_callF Try.call33 rfl) (F33 (hS.v 4 rfl) (hS.v 2 rfl)) rfl ?_
    rintro r_52 w_53 hx_54 rfl
    have hS := hS.ext hx_54
    rw [show (decide ((leastL g l a b) = (leastL g l a b)) : Bool) = true from (decide_eq_true rfl)]
    refine Wx.rd (v := .bool true) (rd_move rfl) rfl ?_
    refine Wx.gyes rfl rfl rfl ?_
    refine Wx.rd (v := .int .i64 (leastX g l a b)) (rd_move rfl) rfl ?_
    refine Wx.gyes rfl rfl rfl ?_
    refine Wx.rd (v := .int .i64 (leastX g l a b)) (rd_move rfl) rfl ?_
    refine Wx.gyes rfl rfl rfl ?_
    refine Wx.rd (v := .bool true) (Rd.to (v := .bool (decide ((leastX g l a b) = (leastX g l a b)))) (rd_eql rfl rfl) (congrArg (Value.bool) (show (true : Bool) = (decide ((leastX g l a b) = (leastX g l a b)) : Bool) from (decide_eq_true rfl).symm).symm)) rfl ?_
    refine Wx.rd (v := .bool true) (rd_pickT rfl rfl) rfl ?_
    refine Wx.rd (v := .bool true) (rd_move rfl) rfl ?_
    refine Wx.gyes rfl rfl rfl ?_
    refine Wx.rd (v := .bool (tasteE g l)) (rd_move rfl) rfl ?_
    refine Wx.gyes rfl rfl rfl ?_
    refine Wx.rd (v := .bool (tasteE g l)) (rd_move rfl) rfl ?_
    refine Wx.gyes rfl rfl rfl ?_
    refine Wx.rd (v := .bool true) (Rd.to (v := .bool ((tasteE g l) == (tasteE g l))) (rd_eqlB rfl rfl Try.underlying4) (congrArg (Value.bool) (show (true : Bool) = ((tasteE g l) == (tasteE g l) : Bool) from (beq_self_eq_true _).symm).symm)) rfl ?_
    refine Wx.rd (v := .bool true) (rd_pickT rfl rfl) rfl ?_
    refine Wx.rd (v := .bool true) (rd_move rfl) rfl ?_
    refine Wx.gyes rfl rfl rfl ?_
    refine Wx.rd (v := .int .i64 (checkE g l)) (rd_move rfl) rfl ?_
    refine Wx.gyes rfl rfl rfl ?_
    refine Wx.rd (v := .int .i64 (checkE g l)) (rd_move rfl) rfl ?_
    refine Wx.gyes rfl rfl rfl ?_
    refine Wx.rd (v := .bool true) (Rd.to (v := .bool (decide ((checkE g l) = (checkE g l)))) (rd_eql rfl rfl) (congrArg (Value.bool) (show (true : Bool) = (decide ((checkE g l) = (checkE g l)) : Bool) from (decide_eq_true rfl).symm).symm)) rfl ?_
    refine Wx.rd (v := .bool true) (rd_pickT rfl rfl) rfl ?_
    refine Wx.rd (v := .bool true) (rd_move rfl) rfl ?_
    refine Wx.gyes rfl rfl rfl ?_
    refine Wx.rd (v := v_41) (rd_move rfl) rfl ?_
    refine Wx.gyes rfl rfl rfl ?_
    refine Wx.rd (v := v_48) (rd_move rfl) rfl ?_
    refine Wx.gyes rfl rfl rfl ?_
    refine Wx.callF (run_callF Try.call33 rfl) (F33 (hS.v 1 rfl) (hS.v 0 rfl)) rfl ?_
    rintro r_55 w_56 hx_57 rfl
    have hS := hS.ext hx_57
    rw [show (decide ((ringE g l) = (ringE g l)) : Bool) = true from (decide_eq_true rfl)]
    refine Wx.rd (v := .bool true) (rd_pickT rfl rfl) rfl ?_
    refine Wx.rd (v := .bool true) (rd_move rfl) rfl ?_
    refine Wx.gyes rfl rfl rfl ?_
    refine Wx.rd (v := .int .i64 (ringX g l)) (rd_move rfl) rfl ?_
    refine Wx.gyes rfl rfl rfl ?_
    refine Wx.rd (v := .int .i64 (ringX g l)) (rd_move rfl) rfl ?_
    refine Wx.gyes rfl rfl rfl ?_
    refine Wx.rd (v := .bool true) (Rd.to (v := .bool (decide ((ringX g l) = (ringX g l)))) (rd_eql rfl rfl) (congrArg (Value.bool) (show (true : Bool) = (decide ((ringX g l) = (ringX g l)) : Bool) from (decide_eq_true rfl).symm).symm)) rfl ?_
    refine Wx.rd (v := .bool true) (rd_pickT rfl rfl) rfl ?_
    refine Wx.rd (v := .bool true) (rd_move rfl) rfl ?_
    refine Wx.gyes rfl rfl rfl ?_
    refine Wx.rd (v := .int .i64 g) (rd_move rfl) rfl ?_
    refine Wx.gyes rfl rfl rfl ?_
    refine Wx.rd (v := v) (rd_move rfl) rfl ?_
    refine Wx.gyes rfl rfl rfl ?_
    refine Wx.rd (v := rw) (rd_move rfl) rfl ?_
    refine Wx.gyes rfl rfl rfl ?_
    refine Wx.callF (run_callF Try.call34 rfl) (F34 i_g (hS.arg a_v) (hS.arg a_rw) (by omega) hS.fb_lt) rfl ?_
    rintro r_58 w_59 hx_60 rfl
    have hS := hS.ext hx_60
    refine Wx.gyes rfl rfl rfl ?_
    refine Wx.rd (v := .int .i64 g) (rd_move rfl) rfl ?_
    refine Wx.gyes rfl rfl rfl ?_
    refine Wx.rd (v := r_12) (rd_move rfl) rfl ?_
    refine Wx.gyes rfl rfl rfl ?_
    refine Wx.rd (v := rw) (rd_move rfl) rfl ?_
    refine Wx.gyes rfl rfl rfl ?_
    refine Wx.callF (run_callF Try.call35 rfl) (F35 i_g (hS.v 3 rfl) (hS.arg a_rw) (by omega)) rfl ?_
    rintro r_61 w_62 hx_63 rfl
    have hS := hS.ext hx_63
    refine Wx.gyes rfl rfl rfl ?_
    refine Wx.rd (v := .bool true) (Rd.to (v := .bool (decide ((provesE g l rg) = (provesE g l rg)))) (rd_eql rfl rfl) (congrArg (Value.bool) (show (true : Bool) = (decide ((provesE g l rg) = (provesE g l rg)) : Bool) from (decide_eq_true rfl).symm).symm)) rfl ?_
    refine Wx.rd (v := .bool true) (rd_pickT rfl rfl) rfl ?_
    refine Wx.rd (v := .bool true) (rd_move rfl) rfl ?_
    refine Wx.gyes rfl rfl rfl ?_
    refine Wx.callF (run_callF Try.call16 rfl) (F16 hS.fb_lt) rfl ?_
    rintro r_64 w_65 hx_66 rfl
    have hS := hS.ext hx_66
    refine Wx.rd (v := .bool true) (rd_pickT rfl rfl) rfl ?_
    refine Wx.rd (v := .bool true) (rd_assign rfl) rfl ?_
    refine Wx.nil ?_
    exact W.ret ⟨.bool true, ResIs.one, hS.bel, rfl⟩

theorem F5 {g : Int} {v : Value} {l : List ((List Int) × (List Int))} {wv : Value} {worth : List Int} {uv : Value} {weight : List Int} {O : List (Option Nat)} {w : World} (i_g : InK .i64 g) (h_v : V (tSl (tP (tSl (tI .i64)) (tSl (tI .i64)))) l v O w) (h_wv : V (tSl (tI .i64)) worth wv O w) (h_uv : V (tSl (tI .i64)) weight uv O w) (hO : ∀ b, some b ∈ O → b < w.heap.size) : Calls Try.prog 5 #[.int .i64 g, v, wv, uv] w (Ret w (fun r _ => r = .bool true)) := by
  have b_g := bd_i64 i_g
  have a_v := h_v
  have l_v := h_v.len63
  have a_wv := h_wv
  have l_wv := h_wv.len63
  have a_uv := h_uv
  have l_uv := h_uv.len63
  have hS := St.start w O hO
  refine enterR Try.func5 rfl Try.ntmps5 Try.results5 rfl ?_
  refine W.seq ?_
  refine W.reg ?_
  refine Wx.rd (v := .bool false) (rd_assign rfl) rfl ?_
  refine Wx.nil ?_
  refine W.seq ?_
  refine W.seq ?_
  refine W.reg ?_
  refine Wx.rd (v := v) (rd_move rfl) rfl ?_
  refine Wx.callF (run_callF Try.call15 rfl) (F15 (hS.arg a_v) hS.fb_lt) rfl ?_
  rintro r_1 w_2 hx_3 rfl
  have hS := hS.ext hx_3
  refine Wx.rd (v := .bool (largeB l)) (rd_move rfl) rfl ?_
  refine Wx.cut (X := Unit) 4 [19, 20, 21, 22] (fun _ => [(22, .bool (largeB l || decide (30 < (worth.length : Int))))]) (fun _ w' => St w O w' []) ?_ ?_
  · rcases Bool.eq_false_or_eq_true (largeB l) with g_4 | g_4
    · -- True
      have gp_5 := g_4
      try simp only [Bool.and_eq_true, Bool.or_eq_true, Bool.not_eq_true', Bool.and_eq_false_iff, Bool.or_eq_false_iff, Bool.not_eq_false', decide_eq_true_eq, decide_eq_false_iff_not, not_or, Bool.false_eq_true, Bool.true_eq_false, false_or, or_false, not_false_eq_true] at gp_5
      refine Wx.gnoB rfl rfl (congrArg Value.bool g_4) rfl rfl ?_
      refine Wx.gnoB rfl rfl (congrArg Value.bool g_4) rfl rfl ?_
      refine Wx.gnoB rfl rfl (congrArg Value.bool g_4) rfl rfl ?_
      refine Wx.rd (v := .bool true) (rd_pickT (congrArg Value.bool g_4) rfl) rfl ?_
      refine Wx.nil ⟨(), hS, ⟨?_, trivial⟩, Out.look rfl Out.refl⟩
      show Value.bool true = Value.bool (largeB l || decide (30 < (worth.length : Int)))
      first | rw [g_4, Bool.true_or] | (rw [g_4]; rfl)
    · -- False
      have gp_6 := g_4
      try simp only [Bool.and_eq_true, Bool.or_eq_true, Bool.not_eq_true', Bool.and_eq_false_iff, Bool.or_eq_false_iff, Bool.not_eq_false', decide_eq_true_eq, decide_eq_false_iff_not, not_or, Bool.false_eq_true, Bool.true_eq_false, false_or, or_false, not_false_eq_true] at gp_6
      refine Wx.gyes rfl rfl (congrArg Value.bool g_4) ?_
      refine Wx.rd (v := wv) (rd_move rfl) rfl ?_
      refine Wx.gyes rfl rfl (congrArg Value.bool g_4) ?_
      refine Wx.rd (v := .int .i64 (worth.length : Int)) (rd_lenV rfl (hS.arg a_wv) Try.underlying39) rfl ?_
      refine Wx.gyes rfl rfl (congrArg Value.bool g_4) ?_
      refine Wx.rd (v := .bool (decide (30 < (worth.length : Int)))) (rd_gtr rfl rfl) rfl ?_
      refine Wx.rd (v := .bool (decide (30 < (worth.length : Int)))) (rd_pickF (congrArg Value.bool g_4) rfl) rfl ?_
      refine Wx.nil ⟨(), hS, ⟨?_, trivial⟩, Out.look rfl Out.refl⟩
      show Value.bool (decide (30 < (worth.length : Int))) = Value.bool (largeB l || decide (30 < (worth.length : Int)))
      first | rw [g_4, Bool.false_or] | (rw [g_4]; rfl)
  rintro ⟨⟩ u_8 w_7 hS
  refine Wx.rd (v := .bool (largeB l || decide (30 < (worth.length : Int)))) (rd_move rfl) rfl ?_
  refine Wx.cut (X := Unit) 4 [24, 25, 26, 27] (fun _ => [(27, .bool ((largeB l || decide (30 < (worth.length : Int))) || decide (30 < (weight.length : Int))))]) (fun _ w' => St w O w' []) ?_ ?_
  · rcases Bool.eq_false_or_eq_true (largeB l || decide (30 < (worth.length : Int))) with g_9 | g_9
    · -- True
      have gp_10 := g_9
      try simp only [Bool.and_eq_true, Bool.or_eq_true, Bool.not_eq_true', Bool.and_eq_false_iff, Bool.or_eq_false_iff, Bool.not_eq_false', decide_eq_true_eq, decide_eq_false_iff_not, not_or, Bool.false_eq_true, Bool.true_eq_false, false_or, or_false, not_false_eq_true] at gp_10
      refine Wx.gnoB rfl rfl (congrArg Value.bool g_9) rfl rfl ?_
      refine Wx.gnoB rfl rfl (congrArg Value.bool g_9) rfl rfl ?_
      refine Wx.gnoB rfl rfl (congrArg Value.bool g_9) rfl rfl ?_
      refine Wx.rd (v := .bool true) (rd_pickT (congrArg Value.bool g_9) rfl) rfl ?_
      refine Wx.nil ⟨(), hS, ⟨?_, trivial⟩, Out.look rfl Out.refl⟩
      show Value.bool true = Value.bool ((largeB l || decide (30 < (worth.length : Int))) || decide (30 < (weight.length : Int)))
      first | rw [g_9, Bool.true_or] | (rw [g_9]; rfl)
    · -- False
      have gp_11 := g_9
      try simp only [Bool.and_eq_true, Bool.or_eq_true, Bool.not_eq_true', Bool.and_eq_false_iff, Bool.or_eq_false_iff, Bool.not_eq_false', decide_eq_true_eq, decide_eq_false_iff_not, not_or, Bool.false_eq_true, Bool.true_eq_false, false_or, or_false, not_false_eq_true] at gp_11
      refine Wx.gyes rfl rfl (congrArg Value.bool g_9) ?_
      refine Wx.rd (v := uv) (rd_move rfl) rfl ?_
      refine Wx.gyes rfl rfl (congrArg Value.bool g_9) ?_
      refine Wx.rd (v := .int .i64 (weight.length : Int)) (rd_lenV rfl (hS.arg a_uv) Try.underlying39) rfl ?_
      refine Wx.gyes rfl rfl (congrArg Value.bool g_9) ?_
      refine Wx.rd (v := .bool (decide (30 < (weight.length : Int)))) (rd_gtr rfl rfl) rfl ?_
      refine Wx.rd (v := .bool (decide (30 < (weight.length : Int)))) (rd_pickF (congrArg Value.bool g_9) rfl) rfl ?_
      refine Wx.nil ⟨(), hS, ⟨?_, trivial⟩, Out.look rfl Out.refl⟩
      show Value.bool (decide (30 < (weight.length : Int))) = Value.bool ((largeB l || decide (30 < (worth.length : Int))) || decide (30 < (weight.length : Int)))
      first | rw [g_9, Bool.false_or] | (rw [g_9]; rfl)
  rintro ⟨⟩ u_13 w_12 hS
  refine Wx.nil ?_
  refine W.cond rfl (fun c0 => ?_) (fun c0 => ?_)
  · -- yes
    try simp only [Bool.and_eq_true, Bool.or_eq_true, Bool.not_eq_true', Bool.and_eq_false_iff, Bool.or_eq_false_iff, Bool.not_eq_false', decide_eq_true_eq, decide_eq_false_iff_not, not_or, Bool.false_eq_true, Bool.true_eq_false, false_or, or_false, not_false_eq_true] at c0
    refine W.seq ?_
    refine W.reg ?_
    refine Wx.callF (run_callF Try.call16 rfl) (F16 hS.fb_lt) rfl ?_
    rintro r_14 w_15 hx_16 rfl
    have hS := hS.ext hx_16
    refine Wx.rd (v := .bool true) (rd_assign rfl) rfl ?_
    refine Wx.nil ?_
    exact W.ret ⟨.bool true, ResIs.one, hS.bel, rfl⟩
  · -- no
    try simp only [Bool.and_eq_true, Bool.or_eq_true, Bool.not_eq_true', Bool.and_eq_false_iff, Bool.or_eq_false_iff, Bool.not_eq_false', decide_eq_true_eq, decide_eq_false_iff_not, not_or, Bool.false_eq_true, Bool.true_eq_false, false_or, or_false, not_false_eq_true] at c0
    have hl30 := large_no c0.1.1
    refine W.skip ?_
    refine W.seq ?_
    refine W.reg ?_
    refine Wx.rd (v := v) (rd_move rfl) rfl ?_
    refine Wx.callF (run_callF Try.call17 rfl) (F17 (hS.arg a_v) (by omega) hS.fb_lt) rfl ?_
    rintro r_17 w_18 hx_19 ⟨_, rfl, hv_20⟩
    have hS := hS.pushFrO hx_19 hv_20
    refine Wx.rd (v := r_17) (rd_assign rfl) rfl ?_
    refine Wx.nil ?_
    refine W.seq ?_
    refine W.reg ?_
    refine Wx.rd (v := .int .i64 g) (rd_move rfl) rfl ?_
    refine Wx.rd (v := v) (rd_move rfl) rfl ?_
    refine Wx.callF (run_callF Try.call36 rfl) (F36 i_g (hS.arg a_v) hS.fb_lt) rfl ?_
    rintro r_22 w_23 hx_24 ⟨v_25, v_26, rfl, hv_27, hv_28⟩
    have ln_30 := hv_27.len63
    have ln_32 := hv_28.len63
    have hS := hS.ext hx_24
    have hS := hS.add hv_27
    have hS := hS.add (hv_28.mv (.less (by simp [fb, Ob.blk])))
    refine Wx.rd (v := .tuple #[v_25, v_26, .int .i64 (numX g l)]) (rd_move rfl) rfl ?_
    refine Wx.rd (v := v_25) (rd_extract rfl rfl) rfl ?_
    refine Wx.rd (v := v_26) (rd_extract rfl rfl) rfl ?_
    refine Wx.rd (v := .int .i64 (numX g l)) (rd_extract rfl rfl) rfl ?_
    refine Wx.rd (v := v_25) (rd_assign rfl) rfl ?_
    refine Wx.rd (v := v_26) (rd_assign rfl) rfl ?_
    refine Wx.rd (v := .int .i64 (numX g l)) (rd_assign rfl) rfl ?_
    refine Wx.nil ?_
    refine W.seq ?_
    refine W.reg ?_
    refine Wx.rd (v := .int .i64 g) (rd_move rfl) rfl ?_
    refine Wx.rd (v := r_17) (rd_move rfl) rfl ?_
    have hS := hS.freeze 2 rfl
    refine Wx.callF (run_callF Try.call30 rfl) (F30 i_g (hS.v 0 rfl) hS.fb_lt) rfl ?_
    rintro r_34 w_35 hx_36 rfl
    have hS := hS.ext hx_36
    refine Wx.rd (v := .tuple #[.bool (tasteE g l), .int .i64 (checkE g l)]) (rd_move rfl) rfl ?_
    refine Wx.rd (v := .bool (tasteE g l)) (rd_extract rfl rfl) rfl ?_
    refine Wx.rd (v := .int .i64 (checkE g l)) (rd_extract rfl rfl) rfl ?_
    refine Wx.rd (v := .bool (tasteE g l)) (rd_assign rfl) rfl ?_
    refine Wx.rd (v := .int .i64 (checkE g l)) (rd_assign rfl) rfl ?_
    refine Wx.nil ?_
    refine W.seq ?_
    refine W.seq ?_
    refine W.reg ?_
    refine Wx.rd (v := .int .i64 g) (rd_move rfl) rfl ?_
    refine Wx.rd (v := v) (rd_move rfl) rfl ?_
    refine Wx.rd (v := wv) (rd_move rfl) rfl ?_
    refine Wx.rd (v := uv) (rd_move rfl) rfl ?_
    refine Wx.callF (run_callF Try.call37 rfl) (F37 i_g (hS.arg a_v) (hS.arg a_wv) (hS.arg a_uv) hS.fb_lt) rfl ?_
    rintro r_37 w_38 hx_39 rfl
    have hS := hS.ext hx_39
    refine Wx.rd (v := .int .i64 g) (rd_move rfl) rfl ?_
    refine Wx.rd (v := r_17) (rd_move rfl) rfl ?_
    refine Wx.rd (v := wv) (rd_move rfl) rfl ?_
    refine Wx.rd (v := uv) (rd_move rfl) rfl ?_
    refine Wx.callF (run_callF Try.call38 rfl) (F38 i_g (hS.v 0 rfl) (hS.arg a_wv) (hS.arg a_uv)) rfl ?_
    rintro r_40 w_41 hx_42 rfl
    have hS := hS.ext hx_42
    refine Wx.rd (v := .bool false) (Rd.to (v := .bool (decide ((agreesE g l worth weight) ≠ (agreesE g l worth weight)))) (rd_neq rfl rfl) (congrArg (Value.bool) (show (false : Bool) = (decide ((agreesE g l worth weight) ≠ (agreesE g l worth weight)) : Bool) from (decide_eq_false (not_not_intro rfl)).symm).symm)) rfl ?_
    refine Wx.nil ?_
    refine W.condF rfl rfl ?_
    refine W.skip ?_
    refine W.seq ?_
    refine W.seq ?_
    refine W.reg ?_
    refine Wx.rd (v := .int .i64 (checkE g l)) (rd_move rfl) rfl ?_
    refine Wx.rd (v := .bool (decide ((checkE g l) ≠ 0))) (rd_neq rfl rfl) rfl ?_
    refine Wx.rd (v := .bool (decide ((checkE g l) ≠ 0))) (rd_move rfl) rfl ?_
    refine Wx.cut (X := Unit) 3 [58, 59, 60] (fun _ => [(60, .bool (decide ((checkE g l) ≠ 0) || !(tasteE g l)))]) (fun _ w' => St w O w' [Ob.v (tSl (tP (tSl (tI .i64)) (tSl (tI .i64)))) l r_17, Ob.v (tSl (tI .i64)) (numU g l) v_26, Ob.v (tSl (tI .i64)) (numW g l) v_25]) ?_ ?_
    · rcases Bool.eq_false_or_eq_true (decide ((checkE g l) ≠ 0)) with g_43 | g_43
      · -- True
        have gp_44 := of_decide_eq_true g_43
        refine Wx.gnoB rfl rfl (congrArg Value.bool g_43) rfl rfl ?_
        refine Wx.gnoB rfl rfl (congrArg Value.bool g_43) rfl rfl ?_
        refine Wx.rd (v := .bool true) (rd_pickT (congrArg Value.bool g_43) rfl) rfl ?_
        refine Wx.nil ⟨(), hS, ⟨?_, trivial⟩, Out.look rfl Out.refl⟩
        show Value.bool true = Value.bool (decide ((checkE g l) ≠ 0) || !(tasteE g l))
        first | rw [g_43, Bool.true_or] | (rw [g_43]; rfl)
      · -- False
        have gp_45 := of_decide_eq_false g_43
        refine Wx.gyes rfl rfl (congrArg Value.bool g_43) ?_
        refine Wx.rd (v := .bool (tasteE g l)) (rd_move rfl) rfl ?_
        refine Wx.gyes rfl rfl (congrArg Value.bool g_43) ?_
        refine Wx.rd (v := .bool (!(tasteE g l))) (rd_not rfl) rfl ?_
        refine Wx.rd (v := .bool (!(tasteE g l))) (rd_pickF (congrArg Value.bool g_43) rfl) rfl ?_
        refine Wx.nil ⟨(), hS, ⟨?_, trivial⟩, Out.look rfl Out.refl⟩
        show Value.bool (!(tasteE g l)) = Value.bool (decide ((checkE g l) ≠ 0) || !(tasteE g l))
        first | rw [g_43, Bool.false_or] | (rw [g_43]; rfl)
    rintro ⟨⟩ u_47 w_46 hS
    refine Wx.nil ?_
    refine W.cond rfl (fun c2 => ?_) (fun c2 => ?_)
    · -- yes
      try simp only [Bool.and_eq_true, Bool.or_eq_true, Bool.not_eq_true', Bool.and_eq_false_iff, Bool.or_eq_false_iff, Bool.not_eq_false', decide_eq_true_eq, decide_eq_false_iff_not, not_or, Bool.false_eq_true, Bool.true_eq_false, false_or, or_false, not_false_eq_true] at c2
      obtain ⟨hb1, hb2, hb3⟩ := num_bad c2
      refine W.seq ?_
      refine W.reg ?_
      refine Wx.rd (v := .int .i64 (checkE g l)) (rd_move rfl) rfl ?_
      refine Wx.rd (v := .int .i64 (checkE g l)) (rd_assign rfl) rfl ?_
      refine Wx.nil ?_
      refine W.seq ?_
      refine W.seq ?_
      refine W.reg ?_
      refine Wx.rd (v := .int .i64 (checkE g l)) (rd_move rfl) rfl ?_
      refine Wx.rd (v := .bool (decide ((checkE g l) = 0))) (rd_eql rfl rfl) rfl ?_
      refine Wx.nil ?_
      refine W.cutK [15] (fun (want : Int) => [(15, .int .i64 want)]) (fun (want : Int) w' => St w O w' [Ob.v (tSl (tP (tSl (tI .i64)) (tSl (tI .i64)))) l r_17, Ob.v (tSl (tI .i64)) (numU g l) v_26, Ob.v (tSl (tI .i64)) (numW g l) v_25] ∧ want = numX g l) ?_ ?_
      · -- up to the cut
        refine W.condD rfl (fun c3 => ?_) (fun c3 => ?_)
        · -- yes
          refine W.reg ?_
          refine Wx.rd (v := .int .i64 13) (rd_assign rfl) rfl ?_
          refine Wx.nil ?_
          refine ⟨13, ?_, ?_, Out.look rfl Out.refl⟩
          · exact ⟨hS, (by rw [hb1, if_pos c3])⟩
          · exact ⟨rfl, trivial⟩
        · -- no
          refine W.skip ?_
          refine ⟨checkE g l, ?_, ?_, Out.look rfl Out.refl⟩
          · exact ⟨hS, (by rw [hb1, if_neg c3])⟩
          · exact ⟨rfl, trivial⟩
      rintro want u_49 w_48 ⟨hS, hw⟩
      refine W.seq ?_
      refine W.reg ?_
      refine Wx.rd (v := .int .i64 (numX g l)) (rd_move rfl) rfl ?_
      refine Wx.rd (v := .int .i64 want) (rd_move rfl) rfl ?_
      refine Wx.rd (v := .bool true) (Rd.to (v := .bool (decide ((numX g l) = want))) (rd_eql rfl rfl) (congrArg (Value.bool) (show (true : Bool) = (decide ((numX g l) = want) : Bool) from (decide_eq_true hw.symm).symm).symm)) rfl ?_
      refine Wx.rd (v := .bool true) (rd_move rfl) rfl ?_
      refine Wx.gyes rfl rfl rfl ?_
      refine Wx.rd (v := v_25) (rd_move rfl) rfl ?_
      refine Wx.gyes rfl rfl rfl ?_
      refine Wx.rd (v := .int .i64 ((numW g l).length : Int)) (rd_lenV rfl (hS.v 2 rfl) Try.underlying39) rfl ?_
      refine Wx.gyes rfl rfl rfl ?_
      refine Wx.rd (v := .bool true) (Rd.to (v := .bool (decide (((numW g l).length : Int) = 0))) (rd_eql rfl rfl) (congrArg (Value.bool) (show (true : Bool) = (decide (((numW g l).length : Int) = 0) : Bool) from (decide_eq_true (by rw [hb2]; rfl)).symm).symm)) rfl ?_
      refine Wx.rd (v := .bool true) (rd_pickT rfl rfl) rfl ?_
      refine Wx.rd (v := .bool true) (rd_move rfl) rfl ?_
      refine Wx.gyes rfl rfl rfl ?_
      refine Wx.rd (v := v_26) (rd_move rfl) rfl ?_
      refine Wx.gyes rfl rfl rfl ?_
      refine Wx.rd (v := .int .i64 ((numU g l).length : Int)) (rd_lenV rfl (hS.v 1 rfl) Try.underlying39) rfl ?_
      refine Wx.gyes rfl rfl rfl ?_
      refine Wx.rd (v := .bool true) (Rd.to (v := .bool (decide (((numU g l).length : Int) = 0))) (rd_eql rfl rfl) (congrArg (Value.bool) (show (true : Bool) = (decide (((numU g l).length : Int) = 0) : Bool) from (decide_eq_true (by rw [hb3]; rfl)).symm).symm)) rfl ?_
      refine Wx.rd (v := .bool true) (rd_pickT rfl rfl) rfl ?_
      refine Wx.rd (v := .bool true) (rd_move rfl) rfl ?_
      refine Wx.gyes rfl rfl rfl ?_
      refine Wx.callF (run_callF Try.call16 rfl) (F16 hS.fb_lt) rfl ?_
      rintro r_50 w_51 hx_52 rfl
      have hS := hS.ext hx_52
      refine Wx.rd (v := .bool true) (rd_pickT rfl rfl) rfl ?_
      refine Wx.rd (v := .bool true) (rd_assign rfl) rfl ?_
      refine Wx.nil ?_
      exact W.ret ⟨.bool true, ResIs.one, hS.bel, rfl⟩
    · -- no
      try simp only [Bool.and_eq_true, Bool.or_eq_true, Bool.not_eq_true', Bool.and_eq_false_iff, Bool.or_eq_false_iff, Bool.not_eq_false', decide_eq_true_eq, decide_eq_false_iff_not, not_or, Bool.false_eq_true, Bool.true_eq_false, false_or, or_false, not_false_eq_true] at c2
      obtain ⟨hg1, hg2⟩ := num_good ⟨Decidable.not_not.1 c2.1, c2.2⟩
      refine W.skip ?_
      refine W.seq ?_
      refine W.reg ?_
      refine Wx.rd (v := .int .i64 (numX g l)) (rd_move rfl) rfl ?_
      refine Wx.rd (v := .bool true) (Rd.to (v := .bool (decide ((numX g l) = 0))) (rd_eql rfl rfl) (congrArg (Value.bool) (show (true : Bool) = (decide ((numX g l) = 0) : Bool) from (decide_eq_true hg1).symm).symm)) rfl ?_
      refine Wx.rd (v := .bool true) (rd_move rfl) rfl ?_
      refine Wx.gyes rfl rfl rfl ?_
      refine Wx.rd (v := .int .i64 g) (rd_move rfl) rfl ?_
      refine Wx.gyes rfl rfl rfl ?_
      refine Wx.rd (v := r_17) (rd_move rfl) rfl ?_
      refine Wx.gyes rfl rfl rfl ?_
      refine Wx.rd (v := v_25) (rd_move rfl) rfl ?_
      refine Wx.gyes rfl rfl rfl ?_
      refine Wx.rd (v := v_26) (rd_move rfl) rfl ?_
      refine Wx.gyes rfl rfl rfl ?_
      refine Wx.callF (run_callF Try.call38 rfl) (F38 i_g (hS.v 0 rfl) (hS.v 2 rfl) (hS.v 1 rfl)) rfl ?_
      rintro r_53 w_54 hx_55 rfl
      have hS := hS.ext hx_55
      refine Wx.gyes rfl rfl rfl ?_
      refine Wx.rd (v := .bool true) (Rd.to (v := .bool (decide ((agreesE g l (numW g l) (numU g l)) = 0))) (rd_eql rfl rfl) (congrArg (Value.bool) (show (true : Bool) = (decide ((agreesE g l (numW g l) (numU g l)) = 0) : Bool) from (decide_eq_true hg2).symm).symm)) rfl ?_
      refine Wx.rd (v := .bool true) (rd_pickT rfl rfl) rfl ?_
      refine Wx.rd (v := .bool true) (rd_move rfl) rfl ?_
      refine Wx.gyes rfl rfl rfl ?_
      refine Wx.rd (v := .int .i64 g) (rd_move rfl) rfl ?_
      refine Wx.gyes rfl rfl rfl ?_
      refine Wx.rd (v := v) (rd_move rfl) rfl ?_
      refine Wx.gyes rfl rfl rfl ?_
      refine Wx.rd (v := v_25) (rd_move rfl) rfl ?_
      refine Wx.gyes rfl rfl rfl ?_
      refine Wx.rd (v := v_26) (rd_move rfl) rfl ?_
      refine Wx.gyes rfl rfl rfl ?_
      refine Wx.callF (run_callF Try.call37 rfl) (F37 i_g (hS.arg a_v) (hS.v 2 rfl) (hS.v 1 rfl) hS.fb_lt) rfl ?_
      rintro r_56 w_57 hx_58 rfl
      have hS := hS.ext hx_58
      refine Wx.gyes rfl rfl rfl ?_
      refine Wx.rd (v := .bool true) (Rd.to (v := .bool (decide ((agreesE g l (numW g l) (numU g l)) = 0))) (rd_eql rfl rfl) (congrArg (Value.bool) (show (true : Bool) = (decide ((agreesE g l (numW g l) (numU g l)) = 0) : Bool) from (decide_eq_true hg2).symm).symm)) rfl ?_
      refine Wx.rd (v := .bool true) (rd_pickT rfl rfl) rfl ?_
      refine Wx.rd (v := .bool true) (rd_move rfl) rfl ?_
      refine Wx.gyes rfl rfl rfl ?_
      refine Wx.callF (run_callF Try.call16 rfl) (F16 hS.fb_lt) rfl ?_
      rintro r_59 w_60 hx_61 rfl
      have hS := hS.ext hx_61
      refine Wx.rd (v := .bool true) (rd_pickT rfl rfl) rfl ?_
      refine Wx.rd (v := .bool true) (rd_assign rfl) rfl ?_
      refine Wx.nil ?_
      exact W.ret ⟨.bool true, ResIs.one, hS.bel, rfl⟩

end Go.Proofs.Ytjbcpggikaeleaa

namespace Go.Proofs.Ytjbcpggikaeleaa.tasteNumbers
open Go.ChangeShapes Go.WideShapes Go.ChangeAt Go.RowKit Go.Joins Go.Wk
set_option linter.unusedVariables false

theorem own : ownKnob Try.prog.godebug = none := by kernel_rfl
theorem laidOut : laidOutB Try.prog = true := by kernel_rfl
theorem cells3 : Try.prog.cellsOf 3 = 1 := by kernel_rfl
theorem cells22 : Try.prog.cellsOf 22 = 1 := by kernel_rfl
theorem cells39 : Try.prog.cellsOf 39 = 1 := by kernel_rfl
theorem cells62 : Try.prog.cellsOf 62 = 2 := by kernel_rfl

set_option maxRecDepth 100000 in
theorem lifted (os : Os) (started : os.Started) (H : Type) (enc : TypeId × Value → H) :
    ReturnsInHanded {} Try.checked os 5 .any (Rows.tasteNumbersSpec.pre6 enc Try.prog Try.f5 Rows.tasteNumbersRow.domain false) (Rows.tasteNumbersSpec.post enc Try.prog Try.f5 false true false false) := by
  refine returnsInHanded_of_change (C := Try.checked) own started (by kernel_rfl) Try.func5
    (ChangeSpec.witness6 (enc := enc) (C := Try.checked) false ⟨#[], #[.int .i64 0, .slice none 0 0, .slice none 0 0, .slice none 0 0], []⟩ 8 (by kernel_rfl) (by kernel_rfl) (by kernel_rfl) (by kernel_rfl)) ?_
  intro W base args ds gs before hval0 hW hcnd _
  have hval : ∀ (j : Nat) t v, Try.f5.params[j]? = some t → args[j]? = some v → Value.okWide Try.prog W .any base t v := hval0
  have hW' := hW
  obtain ⟨p, q, hA0, hV, rfl, hfz, hnd⟩ := hW
  have hA : DataW.TrodAll enc Try.prog W 0 (fun _ => true) true Try.f5.params.toList args.toList ds p := hA0
  rw [Try.params5] at hA hval
  obtain ⟨v0, vs0, d0, ds0, p0, q0, hargs, rfl, rfl, h0, r0⟩ := trodAll_cons hA
  obtain ⟨v1, vs1, d1, ds1, p1, q1, rfl, rfl, rfl, h1, r1⟩ := trodAll_cons r0
  obtain ⟨v2, vs2, d2, ds2, p2, q2, rfl, rfl, rfl, h2, r2⟩ := trodAll_cons r1
  obtain ⟨v3, vs3, d3, ds3, p3, q3, rfl, rfl, rfl, h3, r3⟩ := trodAll_cons r2
  obtain ⟨rfl, rfl, rfl⟩ := trodAll_nil r3
  obtain rfl : args = #[v0, v1, v2, v3] := by cases args; simp_all
  obtain ⟨rfl, rfl⟩ := trodVars_none hV
  obtain ⟨a0, rfl, rfl, rfl, u0⟩ := open_int Try.underlying3 (hval 0 3 v0 rfl rfl) h0
  have k1 := h1
  have lt1 : ∀ x ∈ p1, x.block < W.heap.size := by obtain ⟨m, hm⟩ := k1; exact DataW.trod_lt m _ _ _ hm
  obtain ⟨ad1, len1, cap1, rfl⟩ := okWide_slice Try.underlying22 (hval 1 22 v1 rfl rfl)
  obtain ⟨xs1, hv1⟩ := Rds.v (Rds.sl (Rds.s2 Try.underlying62 (Rds.sl (Rds.int Try.underlying3 cells3) Try.underlying39 cells39) (Rds.sl (Rds.int Try.underlying3 cells3) Try.underlying39 cells39) rfl rfl cells62) Try.underlying22 cells22) h1 rfl
  have k2 := h2
  have lt2 : ∀ x ∈ p2, x.block < W.heap.size := by obtain ⟨m, hm⟩ := k2; exact DataW.trod_lt m _ _ _ hm
  obtain ⟨ad2, len2, cap2, rfl⟩ := okWide_slice Try.underlying39 (hval 2 39 v2 rfl rfl)
  obtain ⟨xs2, hv2⟩ := Rds.v (Rds.sl (Rds.int Try.underlying3 cells3) Try.underlying39 cells39) h2 rfl
  have k3 := h3
  have lt3 : ∀ x ∈ p3, x.block < W.heap.size := by obtain ⟨m, hm⟩ := k3; exact DataW.trod_lt m _ _ _ hm
  obtain ⟨ad3, len3, cap3, rfl⟩ := okWide_slice Try.underlying39 (hval 3 39 v3 rfl rfl)
  obtain ⟨xs3, hv3⟩ := Rds.v (Rds.sl (Rds.int Try.underlying3 cells3) Try.underlying39 cells39) h3 rfl
  clear hA0 hval0
  refine (F5 (inK_of_wf u0) hv1 hv2 hv3 (fun b (h : some b ∈ ([] : List (Option Nat))) => nomatch h)).mono fun e W' hE => ?_
  obtain ⟨r, he, bel, hr⟩ := hE
  subst he
  subst hr
  exact ⟨_, rfl, _, _, _, [], _, [], hW', trodAll_mk1 (shut_bool Try.underlying4 _), (trodAll_cons_mk (shut_int Try.underlying3 u0) (trodAll_cons_mk (Below.trod laidOut (by kernel_rfl) (of_decide_eq_true (by kernel_rfl)) k1 bel lt1) (trodAll_cons_mk (Below.trod laidOut (by kernel_rfl) (of_decide_eq_true (by kernel_rfl)) k2 bel lt2) (trodAll_cons_mk (Below.trod laidOut (by kernel_rfl) (of_decide_eq_true (by kernel_rfl)) k3 bel lt3) trodAll_mk0)))), rfl, bel.frame _, fun h => by cases h⟩

theorem over : Rows.tasteNumbersRow.holds Try.pinned (OpenSpec.ofChange Rows.tasteNumbersSpec) :=
  OpenClaim.holds_of_wide 5 Try.f5 rfl rfl rfl rfl rfl rfl rfl ⟨rfl, rfl, rfl, rfl, rfl⟩ rfl rfl rfl rfl rfl (by kernel_rfl) Try.func5 (by kernel_rfl)
    (of_decide_eq_true (by kernel_rfl)) (by unfold Func.isWrapper; first | (rw [if_pos (by decide +kernel)]; kernel_rfl) | (rw [if_neg (by decide +kernel)]; exact ⟨rfl, rfl⟩))
    (fun os started H enc _ => lifted os started H enc)

end Go.Proofs.Ytjbcpggikaeleaa.tasteNumbers
namespace Go.Proofs.Ytjbcpggikaeleaa
/-- The statement. -/
theorem tasteNumbers_proved : Rows.TasteNumbersSaid := tasteNumbers.over
#print axioms tasteNumbers_proved
end Go.Proofs.Ytjbcpggikaeleaa
