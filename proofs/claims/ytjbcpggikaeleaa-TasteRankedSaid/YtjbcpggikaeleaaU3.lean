/-
  WHAT IS PROVED HERE, TEXT BY TEXT (several texts of one prover, joined to one file; the conditions stand in each statement):
  * WHAT IS PROVED HERE: what functions of layer 10 hand back, each out of its own code; the conditions stand in each statement.
  * WHAT IS PROVED HERE: what functions of layer 10 hand back, each out of its own code; the conditions stand in each statement.
  * WHAT IS PROVED HERE: what functions of layer 10 hand back, each out of its own code; the conditions stand in each statement.
  * WHAT IS PROVED HERE: what functions of layer 10 hand back, each out of its own code; the conditions stand in each statement.
  * WHAT IS PROVED HERE: what functions of layer 10 hand back, each out of its own code; the conditions stand in each statement.
  * WHAT IS PROVED HERE: a slice of numbers that is gone through by slices.Values and collected by slices.AppendSeq: what is handed back is a slice of its own that holds just these numbers. Conditions stand in each statement.
  * WHAT IS PROVED HERE: what functions of layer 10 hand back, each out of its own code; the conditions stand in each statement.
  * WHAT IS PROVED HERE: what functions of layer 10 hand back, each out of its own code; the conditions stand in each statement.
  * WHAT IS PROVED HERE: what functions of layer 10 hand back, each out of its own code; the conditions stand in each statement.
  * WHAT IS PROVED HERE: slices.Values hands back an iterator that has the slice in a new variable. Conditions stand in the statement.
  * WHAT IS PROVED HERE: what functions of layer 10 hand back, each out of its own code; the conditions stand in each statement.
  * WHAT IS PROVED HERE: what functions of layer 10 hand back, each out of its own code; the conditions stand in each statement.
-/
import Derived.Test.YtjbcpggikaeleaaProg
import Derived.Test.YtjbcpggikaeleaaU2
import Derived.RangeFuncBox
import Derived.RangeFuncWrites
import Derived.RangeFuncLeaves
import Derived.Shelf.Abstract
import Derived.WalkKit
import Derived.OwnWalkIn
import Derived.TacticsInMore
import Derived.LoopNIn
import Derived.LoopIn
import Derived.Maps.AppendAt

set_option linter.unusedVariables false
set_option linter.unusedSimpArgs false

namespace Go.Proofs.Ytjbcpggikaeleaa
open Go.Wk Go.RowKit Go.Lib
set_option linter.unusedVariables false
set_option linter.unusedSimpArgs false
theorem foKc_88_0 : fldOff Try.prog 88 0 = some 0 := by kernel_rfl
theorem foKc_88_1 : fldOff Try.prog 88 1 = some 1 := by kernel_rfl
theorem foKc_62_0 : fldOff Try.prog 62 0 = some 0 := by kernel_rfl
theorem foKc_62_1 : fldOff Try.prog 62 1 = some 1 := by kernel_rfl

set_option maxHeartbeats 1000000 in
theorem F26 {g : Int} {v : Value} {l : List ((List Int) × (List Int))} {Fr_v : List (Option Nat)} {w : World} (i_g : InK .i64 g) (h_v : V (tSl (tP (tSl (tI .i64)) (tSl (tI .i64)))) l v Fr_v w) : Calls Try.prog 26 #[.int .i64 g, v] w (Ret w (fun r _ => r = .int .i64 (checkE g l))) := by
  have b_g := bd_i64 i_g
  have a_v := h_v.any
  have l_v := h_v.len63
  have hS := St.start0 w
  refine enterR Try.func26 rfl Try.ntmps26 Try.results26 rfl ?_
  refine W.seq ?_
  refine W.reg ?_
  refine Wx.rd (v := .int .i64 0) (rd_assign rfl) rfl ?_
  refine Wx.nil ?_
  refine W.seq ?_
  refine W.seq ?_
  refine W.reg ?_
  refine Wx.rd (v := .int .i64 g) (rd_move rfl) rfl ?_
  refine Wx.callF (run_callF Try.call73 rfl) (F73 i_g (in_i64 (by omega) (by omega)) (in_i64 (by omega) (by omega))) rfl ?_
  rintro r_1 w_2 hx_3 rfl
  have hS := hS.ext hx_3
  refine Wx.rd (v := .bool (!(decide (1 ≤ g) && decide (g ≤ 3)))) (rd_not rfl) rfl ?_
  refine Wx.nil ?_
  refine W.cond rfl (fun c0 => ?_) (fun c0 => ?_)
  · -- yes
    try simp only [Bool.and_eq_true, Bool.or_eq_true, Bool.not_eq_true', Bool.and_eq_false_iff, Bool.or_eq_false_iff, Bool.not_eq_false', decide_eq_true_eq, decide_eq_false_iff_not, not_or, Bool.false_eq_true, Bool.true_eq_false, false_or, or_false, not_false_eq_true] at c0
    refine W.seq ?_
    refine W.reg ?_
    refine Wx.rd (v := .int .i64 1) (rd_assign rfl) rfl ?_
    refine Wx.nil ?_
    have e0_0 : (checkE g l) = (1 : Int) := by rw [checkE, if_pos (by omega)]
    exact W.ret ⟨.int .i64 1, ResIs.one, hS.bel, (by rw [e0_0])⟩
  · -- no
    try simp only [Bool.and_eq_true, Bool.or_eq_true, Bool.not_eq_true', Bool.and_eq_false_iff, Bool.or_eq_false_iff, Bool.not_eq_false', decide_eq_true_eq, decide_eq_false_iff_not, not_or, Bool.false_eq_true, Bool.true_eq_false, false_or, or_false, not_false_eq_true] at c0
    refine W.skip ?_
    refine W.seq ?_
    refine W.seq ?_
    refine W.reg ?_
    refine Wx.rd (v := v) (rd_move rfl) rfl ?_
    refine Wx.rd (v := .int .i64 (l.length : Int)) (rd_lenV rfl (hS.arg a_v) Try.underlying25) rfl ?_
    refine Wx.rd (v := .bool (decide (6 < (l.length : Int)))) (rd_gtr rfl rfl) rfl ?_
    refine Wx.nil ?_
    refine W.condD rfl (fun c1 => ?_) (fun c1 => ?_)
    · -- yes
      refine W.seq ?_
      refine W.reg ?_
      refine Wx.rd (v := .int .i64 3) (rd_assign rfl) rfl ?_
      refine Wx.nil ?_
      have e1_0 : (checkE g l) = (3 : Int) := by rw [checkE, if_neg (by omega), if_pos (by omega)]
      exact W.ret ⟨.int .i64 3, ResIs.one, hS.bel, (by rw [e1_0])⟩
    · -- no
      refine W.skip ?_
      refine W.seq ?_
      refine W.seq ?_
      refine W.reg ?_
      refine Wx.rd (v := .int .i64 0) (rd_assign rfl) rfl ?_
      refine Wx.nil ?_
      refine W.block ?_
      have hE : checkE g l = salesE g l := by rw [checkE, if_neg (by omega), if_neg (by omega)]
      refine W.loop [4, 5, 6, 7, 14, 15, 16, 17, 18, 19, 20, 21, 22, 23, 24, 25, 26, 27, 28, 29, 30, 31, 32, 33, 34, 35, 36, 37, 38, 39, 40, 41, 42, 43, 44, 45, 46, 47, 48, 49, 50, 51, 52, 53, 54, 55, 56] (fun (k : Int) => [(5, .int .i64 k)]) (fun (k : Int) w' => St w [] w' [] ∧ 0 ≤ k ∧ k ≤ l.length ∧ salesE g (l.drop k.toNat) = salesE g l) (fun (k : Int) => (l.length - k).toNat) 0 ⟨rfl, trivial⟩ ⟨hS, (by first | omega | simp), (by first | omega | simp), (rfl)⟩ ?_
      rintro k u_5 w_4 ⟨hS, h0, h1, h2⟩
      refine W.seq ?_
      refine W.seq ?_
      refine W.reg ?_
      refine Wx.rd (v := .int .i64 k) (rd_move rfl) rfl ?_
      refine Wx.rd (v := v) (rd_move rfl) rfl ?_
      refine Wx.rd (v := .int .i64 (l.length : Int)) (rd_lenV rfl (hS.arg a_v) Try.underlying25) rfl ?_
      refine Wx.rd (v := .bool (decide (k < (l.length : Int)))) (rd_lss rfl rfl) rfl ?_
      refine Wx.nil ?_
      refine W.condD rfl (fun c2 => ?_) (fun c2 => ?_)
      · -- yes
        refine W.skip ?_
        refine W.seq ?_
        refine W.block ?_
        refine W.seq ?_
        refine W.reg ?_
        refine Wx.rd (v := v) (rd_move rfl) rfl ?_
        refine Wx.rd (v := .int .i64 k) (rd_move rfl) rfl ?_
        refine Wx.ex (rd_index ([], []) (hS.arg a_v) rfl rfl Try.underlying25 Try.sizeOf88 (by first | omega | (simp only [List.length_set, List.length_append, List.length_cons, List.length_nil, List.length_replicate]; omega)) (by first | omega | (simp only [List.length_set, List.length_append, List.length_cons, List.length_nil, List.length_replicate]; omega))) rfl (fun p_6 hp_7 => ?_)
        refine Wx.ex (rd_load hp_7 rfl Try.isAgg88 Try.sizeOf88) rfl (fun v_8 hv_9 => ?_)
        obtain ⟨v_10, v_11, rfl, hv_12, hv_13⟩ := hv_9.s2
        have hS := hS.add (hv_12)
        have ln_15 := (hS.v 0 rfl).len63
        have hS := hS.add (V.upF (hv_13))
        have ln_17 := (hS.v 0 rfl).len63
        refine Wx.alloc (cs := [(.slice none 0 0), (.slice none 0 0)]) hS Try.zeroValue88 rfl rfl (fun g_18 w_19 hx_21 hb_20 hS => ?_)
        refine Wx.storeX (cs' := [v_10, v_11]) (ds := [v_10, v_11]) hS 0 rfl rfl rfl rfl Try.sizeOf88 (Nat.le_of_ble_eq_true rfl) (one_cons (V.oneC (hS.v 2 rfl)) (one_cons (V.oneC (hS.v 1 rfl)) one_nil)) rfl (fun w_22 hz_23 hS => ?_)
        refine Wx.nil ?_
        refine W.seq ?_
        refine W.seq ?_
        refine W.reg ?_
        refine Wx.rd (v := .pointer (some ⟨g_18, 0, none⟩)) (rd_fieldAddr rfl foKc_88_0) rfl ?_
        refine Wx.rd (v := v_10) (rd_loadX hS 0 rfl rfl rfl Try.isAgg39) rfl ?_
        refine Wx.rd (v := .int .i64 (((ix ([], []) l k).1).length : Int)) (rd_lenV rfl (hS.v 2 rfl) Try.underlying39) rfl ?_
        refine Wx.rd (v := .int .i64 g) (rd_move rfl) rfl ?_
        refine Wx.rd (v := .bool (decide ((((ix ([], []) l k).1).length : Int) ≠ g))) (rd_neq rfl rfl) rfl ?_
        refine Wx.rd (v := .bool (decide ((((ix ([], []) l k).1).length : Int) ≠ g))) (rd_move rfl) rfl ?_
        refine Wx.cut (X := Unit) 6 [30, 31, 32, 33, 34, 35] (fun _ => [(35, .bool (decide ((((ix ([], []) l k).1).length : Int) ≠ g) || decide ((((ix ([], []) l k).2).length : Int) ≠ g)))]) (fun _ w' => St w [] w' [.box g_18 88 [v_10, v_11], Ob.v (tSl (tI .i64)) ((ix ([], []) l k).2) v_11, Ob.v (tSl (tI .i64)) ((ix ([], []) l k).1) v_10]) ?_ ?_
        · rcases Bool.eq_false_or_eq_true (decide ((((ix ([], []) l k).1).length : Int) ≠ g)) with g_24 | g_24
          · -- True
            have gp_25 := of_decide_eq_true g_24
            refine Wx.gnoB rfl rfl (congrArg Value.bool g_24) rfl rfl ?_
            refine Wx.gnoB rfl rfl (congrArg Value.bool g_24) rfl rfl ?_
            refine Wx.gnoB rfl rfl (congrArg Value.bool g_24) rfl rfl ?_
            refine Wx.gnoB rfl rfl (congrArg Value.bool g_24) rfl rfl ?_
            refine Wx.gnoB rfl rfl (congrArg Value.bool g_24) rfl rfl ?_
            refine Wx.rd (v := .bool true) (rd_pickT (congrArg Value.bool g_24) rfl) rfl ?_
            refine Wx.nil ⟨(), hS, ⟨?_, trivial⟩, Out.look rfl Out.refl⟩
            show Value.bool true = Value.bool (decide ((((ix ([], []) l k).1).length : Int) ≠ g) || decide ((((ix ([], []) l k).2).length : Int) ≠ g))
            first | rw [g_24, Bool.true_or] | (rw [g_24]; rfl)
          · -- False
            have gp_26 := of_decide_eq_false g_24
            refine Wx.gyes rfl rfl (congrArg Value.bool g_24) ?_
            refine Wx.rd (v := .pointer (some ⟨g_18, 1, none⟩)) (rd_fieldAddr rfl foKc_88_1) rfl ?_
            refine Wx.gyes rfl rfl (congrArg Value.bool g_24) ?_
            refine Wx.rd (v := v_11) (rd_loadX hS 0 rfl rfl rfl Try.isAgg39) rfl ?_
            refine Wx.gyes rfl rfl (congrArg Value.bool g_24) ?_
            refine Wx.rd (v := .int .i64 (((ix ([], []) l k).2).length : Int)) (rd_lenV rfl (hS.v 1 rfl) Try.underlying39) rfl ?_
            refine Wx.gyes rfl rfl (congrArg Value.bool g_24) ?_
            refine Wx.rd (v := .int .i64 g) (rd_move rfl) rfl ?_
            refine Wx.gyes rfl rfl (congrArg Value.bool g_24) ?_
            refine Wx.rd (v := .bool (decide ((((ix ([], []) l k).2).length : Int) ≠ g))) (rd_neq rfl rfl) rfl ?_
            refine Wx.rd (v := .bool (decide ((((ix ([], []) l k).2).length : Int) ≠ g))) (rd_pickF (congrArg Value.bool g_24) rfl) rfl ?_
            refine Wx.nil ⟨(), hS, ⟨?_, trivial⟩, Out.look rfl Out.refl⟩
            show Value.bool (decide ((((ix ([], []) l k).2).length : Int) ≠ g)) = Value.bool (decide ((((ix ([], []) l k).1).length : Int) ≠ g) || decide ((((ix ([], []) l k).2).length : Int) ≠ g))
            first | rw [g_24, Bool.false_or] | (rw [g_24]; rfl)
        rintro ⟨⟩ u_28 w_27 hS
        refine Wx.nil ?_
        refine W.cond rfl (fun c3 => ?_) (fun c3 => ?_)
        · -- yes
          try simp only [Bool.and_eq_true, Bool.or_eq_true, Bool.not_eq_true', Bool.and_eq_false_iff, Bool.or_eq_false_iff, Bool.not_eq_false', decide_eq_true_eq, decide_eq_false_iff_not, not_or, Bool.false_eq_true, Bool.true_eq_false, false_or, or_false, not_false_eq_true] at c3
          refine W.seq ?_
          refine W.reg ?_
          refine Wx.rd (v := .int .i64 5) (rd_assign rfl) rfl ?_
          refine Wx.nil ?_
          have e2_0 : (checkE g l) = (5 : Int) := by rw [hE]; exact sales_bad h0 c2 (by rw [saleE, if_pos (by omega)]) (by decide) h2
          exact W.ret ⟨.int .i64 5, ResIs.one, hS.bel, (by rw [e2_0])⟩
        · -- no
          try simp only [Bool.and_eq_true, Bool.or_eq_true, Bool.not_eq_true', Bool.and_eq_false_iff, Bool.or_eq_false_iff, Bool.not_eq_false', decide_eq_true_eq, decide_eq_false_iff_not, not_or, Bool.false_eq_true, Bool.true_eq_false, false_or, or_false, not_false_eq_true] at c3
          refine W.skip ?_
          refine W.seq ?_
          refine W.reg ?_
          refine Wx.rd (v := .int .i64 0) (rd_assign rfl) rfl ?_
          refine Wx.nil ?_
          refine W.block ?_
          refine W.loop [4, 7, 36, 37, 38, 39, 40, 41, 42, 43, 44, 45, 46, 47, 48, 49, 50, 51, 52, 53, 54, 55, 56] (fun (j : Int) => [(7, .int .i64 j)]) (fun (j : Int) w' => St w [] w' [.box g_18 88 [v_10, v_11], Ob.v (tSl (tI .i64)) ((ix ([], []) l k).2) v_11, Ob.v (tSl (tI .i64)) ((ix ([], []) l k).1) v_10] ∧ 0 ≤ j ∧ j ≤ g ∧ (∀ i : Int, 0 ≤ i → i < j → (1 ≤ ix 0 (ix ([], []) l k).1 i ∧ ix 0 (ix ([], []) l k).1 i ≤ 9) ∧ 0 ≤ ix 0 (ix ([], []) l k).2 i ∧ ix 0 (ix ([], []) l k).2 i ≤ 9)) (fun (j : Int) => (g - j).toNat) 0 ⟨rfl, trivial⟩ ⟨hS, (by first | omega | simp), (by first | omega | simp), (fun i i0 i1 => by omega)⟩ ?_
          rintro j u_30 w_29 ⟨hS, g0, g1, g2⟩
          refine W.seq ?_
          refine W.seq ?_
          refine W.reg ?_
          refine Wx.rd (v := .int .i64 j) (rd_move rfl) rfl ?_
          refine Wx.rd (v := .int .i64 g) (rd_move rfl) rfl ?_
          refine Wx.rd (v := .bool (decide (j < g))) (rd_lss rfl rfl) rfl ?_
          refine Wx.nil ?_
          refine W.condD rfl (fun c4 => ?_) (fun c4 => ?_)
          · -- yes
            refine W.skip ?_
            refine W.seq ?_
            refine W.block ?_
            refine W.seq ?_
            refine W.reg ?_
            refine Wx.rd (v := .pointer (some ⟨g_18, 0, none⟩)) (rd_fieldAddr rfl foKc_88_0) rfl ?_
            refine Wx.rd (v := v_10) (rd_loadX hS 0 rfl rfl rfl Try.isAgg39) rfl ?_
            refine Wx.rd (v := .int .i64 j) (rd_move rfl) rfl ?_
            refine Wx.ex (rd_index 0 (hS.v 2 rfl) rfl rfl Try.underlying39 Try.sizeOf3 (by first | omega | (simp only [List.length_set, List.length_append, List.length_cons, List.length_nil, List.length_replicate]; omega)) (by first | omega | (simp only [List.length_set, List.length_append, List.length_cons, List.length_nil, List.length_replicate]; omega))) rfl (fun p_31 hp_32 => ?_)
            refine Wx.rd (v := .int .i64 (ix 0 ((ix ([], []) l k).1) j)) (rd_loadI hp_32 rfl Try.isAgg3 Try.sizeOf3) rfl ?_
            have bd_33 := bd_i64 hp_32.inK
            refine Wx.callF (run_callF Try.call73 rfl) (F73 (in_i64 (by omega) (by omega)) (in_i64 (by omega) (by omega)) (in_i64 (by omega) (by omega))) rfl ?_
            rintro r_34 w_35 hx_36 rfl
            have hS := hS.ext hx_36
            refine Wx.rd (v := .bool (!(decide (1 ≤ (ix 0 ((ix ([], []) l k).1) j)) && decide ((ix 0 ((ix ([], []) l k).1) j) ≤ 9)))) (rd_not rfl) rfl ?_
            refine Wx.rd (v := .bool (!(decide (1 ≤ (ix 0 ((ix ([], []) l k).1) j)) && decide ((ix 0 ((ix ([], []) l k).1) j) ≤ 9)))) (rd_move rfl) rfl ?_
            refine Wx.cut (X := Unit) 8 [49, 50, 51, 52, 53, 54, 55, 56] (fun _ => [(56, .bool (!(decide (1 ≤ (ix 0 ((ix ([], []) l k).1) j)) && decide ((ix 0 ((ix ([], []) l k).1) j) ≤ 9)) || !(decide (0 ≤ (ix 0 ((ix ([], []) l k).2) j)) && decide ((ix 0 ((ix ([], []) l k).2) j) ≤ 9))))]) (fun _ w' => St w [] w' [.box g_18 88 [v_10, v_11], Ob.v (tSl (tI .i64)) ((ix ([], []) l k).2) v_11, Ob.v (tSl (tI .i64)) ((ix ([], []) l k).1) v_10]) ?_ ?_
            · rcases Bool.eq_false_or_eq_true (!(decide (1 ≤ (ix 0 ((ix ([], []) l k).1) j)) && decide ((ix 0 ((ix ([], []) l k).1) j) ≤ 9))) with g_37 | g_37
              · -- True
                have gp_38 := g_37
                try simp only [Bool.and_eq_true, Bool.or_eq_true, Bool.not_eq_true', Bool.and_eq_false_iff, Bool.or_eq_false_iff, Bool.not_eq_false', decide_eq_true_eq, decide_eq_false_iff_not, not_or, Bool.false_eq_true, Bool.true_eq_false, false_or, or_false, not_false_eq_true] at gp_38
                refine Wx.gnoB rfl rfl (congrArg Value.bool g_37) rfl rfl ?_
                refine Wx.gnoB rfl rfl (congrArg Value.bool g_37) rfl rfl ?_
                refine Wx.gnoB rfl rfl (congrArg Value.bool g_37) rfl rfl ?_
                refine Wx.gnoB rfl rfl (congrArg Value.bool g_37) rfl rfl ?_
                refine Wx.gnoB rfl rfl (congrArg Value.bool g_37) rfl rfl ?_
                refine Wx.gnoB rfl rfl (congrArg Value.bool g_37) rfl rfl ?_
                refine Wx.gnoB rfl rfl (congrArg Value.bool g_37) rfl rfl ?_
                refine Wx.rd (v := .bool true) (rd_pickT (congrArg Value.bool g_37) rfl) rfl ?_
                refine Wx.nil ⟨(), hS, ⟨?_, trivial⟩, Out.look rfl Out.refl⟩
                show Value.bool true = Value.bool (!(decide (1 ≤ (ix 0 ((ix ([], []) l k).1) j)) && decide ((ix 0 ((ix ([], []) l k).1) j) ≤ 9)) || !(decide (0 ≤ (ix 0 ((ix ([], []) l k).2) j)) && decide ((ix 0 ((ix ([], []) l k).2) j) ≤ 9)))
                first | rw [g_37, Bool.true_or] | (rw [g_37]; rfl)
              · -- False
                have gp_39 := g_37
                try simp only [Bool.and_eq_true, Bool.or_eq_true, Bool.not_eq_true', Bool.and_eq_false_iff, Bool.or_eq_false_iff, Bool.not_eq_false', decide_eq_true_eq, decide_eq_false_iff_not, not_or, Bool.false_eq_true, Bool.true_eq_false, false_or, or_false, not_false_eq_true] at gp_39
                refine Wx.gyes rfl rfl (congrArg Value.bool g_37) ?_
                refine Wx.rd (v := .pointer (some ⟨g_18, 1, none⟩)) (rd_fieldAddr rfl foKc_88_1) rfl ?_
                refine Wx.gyes rfl rfl (congrArg Value.bool g_37) ?_
                refine Wx.rd (v := v_11) (rd_loadX hS 0 rfl rfl rfl Try.isAgg39) rfl ?_
                refine Wx.gyes rfl rfl (congrArg Value.bool g_37) ?_
                refine Wx.rd (v := .int .i64 j) (rd_move rfl) rfl ?_
                refine Wx.gyes rfl rfl (congrArg Value.bool g_37) ?_
                refine Wx.ex (rd_index 0 (hS.v 1 rfl) rfl rfl Try.underlying39 Try.sizeOf3 (by first | omega | (simp only [List.length_set, List.length_append, List.length_cons, List.length_nil, List.length_replicate]; omega)) (by first | omega | (simp only [List.length_set, List.length_append, List.length_cons, List.length_nil, List.length_replicate]; omega))) rfl (fun p_40 hp_41 => ?_)
                refine Wx.gyes rfl rfl (congrArg Value.bool g_37) ?_
                refine Wx.rd (v := .int .i64 (ix 0 ((ix ([], []) l k).2) j)) (rd_loadI hp_41 rfl Try.isAgg3 Try.sizeOf3) rfl ?_
                have bd_42 := bd_i64 hp_41.inK
                refine Wx.gyes rfl rfl (congrArg Value.bool g_37) ?_
                refine Wx.callF (run_callF Try.call73 rfl) (F73 (in_i64 (by omega) (by omega)) (in_i64 (by omega) (by omega)) (in_i64 (by omega) (by omega))) rfl ?_
                rintro r_43 w_44 hx_45 rfl
                have hS := hS.ext hx_45
                refine Wx.gyes rfl rfl (congrArg Value.bool g_37) ?_
                refine Wx.rd (v := .bool (!(decide (0 ≤ (ix 0 ((ix ([], []) l k).2) j)) && decide ((ix 0 ((ix ([], []) l k).2) j) ≤ 9)))) (rd_not rfl) rfl ?_
                refine Wx.rd (v := .bool (!(decide (0 ≤ (ix 0 ((ix ([], []) l k).2) j)) && decide ((ix 0 ((ix ([], []) l k).2) j) ≤ 9)))) (rd_pickF (congrArg Value.bool g_37) rfl) rfl ?_
                refine Wx.nil ⟨(), hS, ⟨?_, trivial⟩, Out.look rfl Out.refl⟩
                show Value.bool (!(decide (0 ≤ (ix 0 ((ix ([], []) l k).2) j)) && decide ((ix 0 ((ix ([], []) l k).2) j) ≤ 9))) = Value.bool (!(decide (1 ≤ (ix 0 ((ix ([], []) l k).1) j)) && decide ((ix 0 ((ix ([], []) l k).1) j) ≤ 9)) || !(decide (0 ≤ (ix 0 ((ix ([], []) l k).2) j)) && decide ((ix 0 ((ix ([], []) l k).2) j) ≤ 9)))
                first | rw [g_37, Bool.false_or] | (rw [g_37]; rfl)
            rintro ⟨⟩ u_47 w_46 hS
            refine Wx.nil ?_
            refine W.cond rfl (fun c5 => ?_) (fun c5 => ?_)
            · -- yes
              try simp only [Bool.and_eq_true, Bool.or_eq_true, Bool.not_eq_true', Bool.and_eq_false_iff, Bool.or_eq_false_iff, Bool.not_eq_false', decide_eq_true_eq, decide_eq_false_iff_not, not_or, Bool.false_eq_true, Bool.true_eq_false, false_or, or_false, not_false_eq_true] at c5
              refine W.seq ?_
              refine W.reg ?_
              refine Wx.rd (v := .int .i64 1) (rd_assign rfl) rfl ?_
              refine Wx.nil ?_
              have e3_0 : (checkE g l) = (1 : Int) := by rw [hE]; exact sales_bad h0 c2 (sale_bad g0 (by omega) (by omega) (by omega) (by omega)) (by decide) h2
              exact W.ret ⟨.int .i64 1, ResIs.one, hS.bel, (by rw [e3_0])⟩
            · -- no
              try simp only [Bool.and_eq_true, Bool.or_eq_true, Bool.not_eq_true', Bool.and_eq_false_iff, Bool.or_eq_false_iff, Bool.not_eq_false', decide_eq_true_eq, decide_eq_false_iff_not, not_or, Bool.false_eq_true, Bool.true_eq_false, false_or, or_false, not_false_eq_true] at c5
              refine W.skip ?_
              refine W.reg ?_
              refine Wx.rd (v := .int .i64 j) (rd_move rfl) rfl ?_
              refine Wx.rd (v := .int .i64 (j + 1)) (rd_add rfl rfl (in_i64 (by omega) (by omega))) rfl ?_
              refine Wx.rd (v := .int .i64 (j + 1)) (rd_assign rfl) rfl ?_
              refine Wx.nil ?_
              refine ⟨j + 1, (by show (g - (j + 1)).toNat < (g - j).toNat; omega), ?_, ?_, Out.look rfl (Out.hav rfl (Out.look rfl Out.self))⟩
              · exact ⟨hS, (by first | omega | assumption), (by first | omega | assumption), (fun i i0 i1 => by by_cases hi : i = j; (subst hi; omega); exact g2 i i0 (by omega))⟩
              · exact ⟨rfl, trivial⟩
          · -- no
            refine W.exit rfl ?_
            refine W.reg ?_
            refine Wx.rd (v := .int .i64 k) (rd_move rfl) rfl ?_
            refine Wx.rd (v := .int .i64 (k + 1)) (rd_add rfl rfl (in_i64 (by omega) (by omega))) rfl ?_
            refine Wx.rd (v := .int .i64 (k + 1)) (rd_assign rfl) rfl ?_
            refine Wx.nil ?_
            have hok : saleE g (ix ([], []) l k) = 0 := sale_end (by omega) (by omega) (by omega) g2
            refine ⟨k + 1, (by show (l.length - (k + 1)).toNat < (l.length - k).toNat; omega), ?_, ?_, Out.look rfl (Out.hav rfl (Out.look rfl (Out.hav rfl (Out.look rfl Out.self))))⟩
            · exact ⟨St.tl (St.tl (hS.tl)), (by first | omega | assumption), (by first | omega | assumption), (sales_next h0 (by omega) hok h2)⟩
            · exact ⟨rfl, trivial⟩
      · -- no
        refine W.exit rfl ?_
        refine W.seq ?_
        refine W.reg ?_
        refine Wx.rd (v := .int .i64 0) (rd_assign rfl) rfl ?_
        refine Wx.nil ?_
        have e4_0 : (checkE g l) = (0 : Int) := by rw [hE, ← h2, drop_end (by omega)]; rfl
        exact W.ret ⟨.int .i64 0, ResIs.one, hS.bel, (by rw [e4_0])⟩

set_option maxHeartbeats 1000000 in
theorem F25 {g : Int} {v : Value} {l : List ((List Int) × (List Int))} {Fr_v : List (Option Nat)} {w : World} (i_g : InK .i64 g) (h_v : V (tSl (tP (tSl (tI .i64)) (tSl (tI .i64)))) l v Fr_v w) : Calls Try.prog 25 #[.int .i64 g, v] w (Ret w (fun r _ => r = .int .i64 (checkE g l))) := by
  have b_g := bd_i64 i_g
  have a_v := h_v.any
  have l_v := h_v.len63
  have hS := St.start0 w
  refine enterR Try.func25 rfl Try.ntmps25 Try.results25 rfl ?_
  refine W.seq ?_
  refine W.reg ?_
  refine Wx.rd (v := .int .i64 0) (rd_assign rfl) rfl ?_
  refine Wx.nil ?_
  refine W.seq ?_
  refine W.block ?_
  refine W.seq ?_
  refine W.reg ?_
  refine Wx.rd (v := .int .i64 g) (rd_move rfl) rfl ?_
  refine Wx.rd (v := .bool (decide (g < 1))) (rd_lss rfl rfl) rfl ?_
  refine Wx.rd (v := .bool (decide (g < 1))) (rd_move rfl) rfl ?_
  refine Wx.cut (X := Unit) 3 [11, 12, 13] (fun _ => [(13, .bool (decide (g < 1) || decide (3 < g)))]) (fun _ w' => St w [] w' []) ?_ ?_
  · rcases Bool.eq_false_or_eq_true (decide (g < 1)) with g_1 | g_1
    · -- True
      have gp_2 := of_decide_eq_true g_1
      refine Wx.gnoB rfl rfl (congrArg Value.bool g_1) rfl rfl ?_
      refine Wx.gnoB rfl rfl (congrArg Value.bool g_1) rfl rfl ?_
      refine Wx.rd (v := .bool true) (rd_pickT (congrArg Value.bool g_1) rfl) rfl ?_
      refine Wx.nil ⟨(), hS, ⟨?_, trivial⟩, Out.look rfl Out.refl⟩
      show Value.bool true = Value.bool (decide (g < 1) || decide (3 < g))
      first | rw [g_1, Bool.true_or] | (rw [g_1]; rfl)
    · -- False
      have gp_3 := of_decide_eq_false g_1
      refine Wx.gyes rfl rfl (congrArg Value.bool g_1) ?_
      refine Wx.rd (v := .int .i64 g) (rd_move rfl) rfl ?_
      refine Wx.gyes rfl rfl (congrArg Value.bool g_1) ?_
      refine Wx.rd (v := .bool (decide (3 < g))) (rd_gtr rfl rfl) rfl ?_
      refine Wx.rd (v := .bool (decide (3 < g))) (rd_pickF (congrArg Value.bool g_1) rfl) rfl ?_
      refine Wx.nil ⟨(), hS, ⟨?_, trivial⟩, Out.look rfl Out.refl⟩
      show Value.bool (decide (3 < g)) = Value.bool (decide (g < 1) || decide (3 < g))
      first | rw [g_1, Bool.false_or] | (rw [g_1]; rfl)
  rintro ⟨⟩ u_5 w_4 hS
  refine Wx.rd (v := .bool (decide (g < 1) || decide (3 < g))) (rd_assign rfl) rfl ?_
  refine Wx.nil ?_
  refine W.cond rfl (fun c0 => ?_) (fun c0 => ?_)
  · -- yes
    try simp only [Bool.and_eq_true, Bool.or_eq_true, Bool.not_eq_true', Bool.and_eq_false_iff, Bool.or_eq_false_iff, Bool.not_eq_false', decide_eq_true_eq, decide_eq_false_iff_not, not_or, Bool.false_eq_true, Bool.true_eq_false, false_or, or_false, not_false_eq_true] at c0
    refine W.seq ?_
    refine W.reg ?_
    refine Wx.rd (v := .int .i64 1) (rd_assign rfl) rfl ?_
    refine Wx.nil ?_
    have e0_0 : (checkE g l) = (1 : Int) := by rw [checkE, if_pos (by omega)]
    exact W.ret ⟨.int .i64 1, ResIs.one, hS.bel, (by rw [e0_0])⟩
  · -- no
    try simp only [Bool.and_eq_true, Bool.or_eq_true, Bool.not_eq_true', Bool.and_eq_false_iff, Bool.or_eq_false_iff, Bool.not_eq_false', decide_eq_true_eq, decide_eq_false_iff_not, not_or, Bool.false_eq_true, Bool.true_eq_false, false_or, or_false, not_false_eq_true] at c0
    refine W.seq ?_
    refine W.reg ?_
    refine Wx.rd (v := v) (rd_move rfl) rfl ?_
    refine Wx.rd (v := .int .i64 (l.length : Int)) (rd_lenV rfl (hS.arg a_v) Try.underlying22) rfl ?_
    refine Wx.rd (v := .bool (decide (6 < (l.length : Int)))) (rd_gtr rfl rfl) rfl ?_
    refine Wx.rd (v := .bool (decide (6 < (l.length : Int)))) (rd_assign rfl) rfl ?_
    refine Wx.nil ?_
    refine W.condD rfl (fun c1 => ?_) (fun c1 => ?_)
    · -- yes
      refine W.seq ?_
      refine W.reg ?_
      refine Wx.rd (v := .int .i64 3) (rd_assign rfl) rfl ?_
      refine Wx.nil ?_
      have e1_0 : (checkE g l) = (3 : Int) := by rw [checkE, if_neg (by omega), if_pos (by omega)]
      exact W.ret ⟨.int .i64 3, ResIs.one, hS.bel, (by rw [e1_0])⟩
    · -- no
      refine W.skip ?_
      refine W.seq ?_
      refine W.seq ?_
      refine W.reg ?_
      refine Wx.rd (v := v) (rd_move rfl) rfl ?_
      refine Wx.rd (v := .int .i64 (l.length : Int)) (rd_lenV rfl (hS.arg a_v) Try.underlying22) rfl ?_
      refine Wx.rd (v := .int .i64 0) (rd_move rfl) rfl ?_
      refine Wx.nil ?_
      refine W.block ?_
      have hE : checkE g l = salesE g l := by rw [checkE, if_neg (by omega), if_neg (by omega)]
      refine W.loop [4, 6, 20, 21, 22, 23, 24, 25, 26, 27, 28, 29, 30, 31, 32, 33, 34, 35, 36, 37, 38, 39, 40, 41, 42, 43, 44, 45, 46, 47, 48, 49, 50, 51, 52, 53, 54, 55, 56, 57, 58, 59, 60] (fun (k : Int) => [(20, .int .i64 k)]) (fun (k : Int) w' => St w [] w' [] ∧ 0 ≤ k ∧ k ≤ l.length ∧ salesE g (l.drop k.toNat) = salesE g l) (fun (k : Int) => (l.length - k).toNat) 0 ⟨rfl, trivial⟩ ⟨hS, (by first | omega | simp), (by first | omega | simp), (rfl)⟩ ?_
      rintro k u_7 w_6 ⟨hS, h0, h1, h2⟩
      refine W.seq ?_
      refine W.reg ?_
      refine Wx.rd (v := .bool (decide (k < (l.length : Int)))) (rd_lss rfl rfl) rfl ?_
      refine Wx.nil ?_
      refine W.seq ?_
      refine W.condD rfl (fun c2 => ?_) (fun c2 => ?_)
      · -- yes
        refine W.skip ?_
        refine W.seq ?_
        refine W.block ?_
        refine W.seq ?_
        refine W.reg ?_
        refine Wx.ex (rd_index ([], []) (hS.arg a_v) rfl rfl Try.underlying22 Try.sizeOf62 (by first | omega | (simp only [List.length_set, List.length_append, List.length_cons, List.length_nil, List.length_replicate]; omega)) (by first | omega | (simp only [List.length_set, List.length_append, List.length_cons, List.length_nil, List.length_replicate]; omega))) rfl (fun p_8 hp_9 => ?_)
        refine Wx.ex (rd_load hp_9 rfl Try.isAgg62 Try.sizeOf62) rfl (fun v_10 hv_11 => ?_)
        obtain ⟨v_12, v_13, rfl, hv_14, hv_15⟩ := hv_11.s2
        have hS := hS.add (hv_14)
        have ln_17 := (hS.v 0 rfl).len63
        have hS := hS.add (V.upF (hv_15))
        have ln_19 := (hS.v 0 rfl).len63
        refine Wx.alloc (cs := [(.slice none 0 0), (.slice none 0 0)]) hS Try.zeroValue62 rfl rfl (fun g_20 w_21 hx_23 hb_22 hS => ?_)
        refine Wx.storeX (cs' := [v_12, v_13]) (ds := [v_12, v_13]) hS 0 rfl rfl rfl rfl Try.sizeOf62 (Nat.le_of_ble_eq_true rfl) (one_cons (V.oneC (hS.v 2 rfl)) (one_cons (V.oneC (hS.v 1 rfl)) one_nil)) rfl (fun w_24 hz_25 hS => ?_)
        refine Wx.nil ?_
        refine W.block ?_
        refine W.seq ?_
        refine W.reg ?_
        refine Wx.rd (v := .pointer (some ⟨g_20, 0, none⟩)) (rd_fieldAddr rfl foKc_62_0) rfl ?_
        refine Wx.rd (v := v_12) (rd_loadX hS 0 rfl rfl rfl Try.isAgg39) rfl ?_
        refine Wx.rd (v := .int .i64 (((ix ([], []) l k).1).length : Int)) (rd_lenV rfl (hS.v 2 rfl) Try.underlying39) rfl ?_
        refine Wx.rd (v := .int .i64 g) (rd_move rfl) rfl ?_
        refine Wx.rd (v := .bool (decide ((((ix ([], []) l k).1).length : Int) ≠ g))) (rd_neq rfl rfl) rfl ?_
        refine Wx.rd (v := .bool (decide ((((ix ([], []) l k).1).length : Int) ≠ g))) (rd_move rfl) rfl ?_
        refine Wx.cut (X := Unit) 6 [31, 32, 33, 34, 35, 36] (fun _ => [(36, .bool (decide ((((ix ([], []) l k).1).length : Int) ≠ g) || decide ((((ix ([], []) l k).2).length : Int) ≠ g)))]) (fun _ w' => St w [] w' [.box g_20 62 [v_12, v_13], Ob.v (tSl (tI .i64)) ((ix ([], []) l k).2) v_13, Ob.v (tSl (tI .i64)) ((ix ([], []) l k).1) v_12]) ?_ ?_
        · rcases Bool.eq_false_or_eq_true (decide ((((ix ([], []) l k).1).length : Int) ≠ g)) with g_26 | g_26
          · -- True
            have gp_27 := of_decide_eq_true g_26
            refine Wx.gnoB rfl rfl (congrArg Value.bool g_26) rfl rfl ?_
            refine Wx.gnoB rfl rfl (congrArg Value.bool g_26) rfl rfl ?_
            refine Wx.gnoB rfl rfl (congrArg Value.bool g_26) rfl rfl ?_
            refine Wx.gnoB rfl rfl (congrArg Value.bool g_26) rfl rfl ?_
            refine Wx.gnoB rfl rfl (congrArg Value.bool g_26) rfl rfl ?_
            refine Wx.rd (v := .bool true) (rd_pickT (congrArg Value.bool g_26) rfl) rfl ?_
            refine Wx.nil ⟨(), hS, ⟨?_, trivial⟩, Out.look rfl Out.refl⟩
            show Value.bool true = Value.bool (decide ((((ix ([], []) l k).1).length : Int) ≠ g) || decide ((((ix ([], []) l k).2).length : Int) ≠ g))
            first | rw [g_26, Bool.true_or] | (rw [g_26]; rfl)
          · -- False
            have gp_28 := of_decide_eq_false g_26
            refine Wx.gyes rfl rfl (congrArg Value.bool g_26) ?_
            refine Wx.rd (v := .pointer (some ⟨g_20, 1, none⟩)) (rd_fieldAddr rfl foKc_62_1) rfl ?_
            refine Wx.gyes rfl rfl (congrArg Value.bool g_26) ?_
            refine Wx.rd (v := v_13) (rd_loadX hS 0 rfl rfl rfl Try.isAgg39) rfl ?_
            refine Wx.gyes rfl rfl (congrArg Value.bool g_26) ?_
            refine Wx.rd (v := .int .i64 (((ix ([], []) l k).2).length : Int)) (rd_lenV rfl (hS.v 1 rfl) Try.underlying39) rfl ?_
            refine Wx.gyes rfl rfl (congrArg Value.bool g_26) ?_
            refine Wx.rd (v := .int .i64 g) (rd_move rfl) rfl ?_
            refine Wx.gyes rfl rfl (congrArg Value.bool g_26) ?_
            refine Wx.rd (v := .bool (decide ((((ix ([], []) l k).2).length : Int) ≠ g))) (rd_neq rfl rfl) rfl ?_
            refine Wx.rd (v := .bool (decide ((((ix ([], []) l k).2).length : Int) ≠ g))) (rd_pickF (congrArg Value.bool g_26) rfl) rfl ?_
            refine Wx.nil ⟨(), hS, ⟨?_, trivial⟩, Out.look rfl Out.refl⟩
            show Value.bool (decide ((((ix ([], []) l k).2).length : Int) ≠ g)) = Value.bool (decide ((((ix ([], []) l k).1).length : Int) ≠ g) || decide ((((ix ([], []) l k).2).length : Int) ≠ g))
            first | rw [g_26, Bool.false_or] | (rw [g_26]; rfl)
        rintro ⟨⟩ u_30 w_29 hS
        refine Wx.rd (v := .bool (decide ((((ix ([], []) l k).1).length : Int) ≠ g) || decide ((((ix ([], []) l k).2).length : Int) ≠ g))) (rd_assign rfl) rfl ?_
        refine Wx.nil ?_
        refine W.cond rfl (fun c3 => ?_) (fun c3 => ?_)
        · -- yes
          try simp only [Bool.and_eq_true, Bool.or_eq_true, Bool.not_eq_true', Bool.and_eq_false_iff, Bool.or_eq_false_iff, Bool.not_eq_false', decide_eq_true_eq, decide_eq_false_iff_not, not_or, Bool.false_eq_true, Bool.true_eq_false, false_or, or_false, not_false_eq_true] at c3
          refine W.seq ?_
          refine W.reg ?_
          refine Wx.rd (v := .int .i64 5) (rd_assign rfl) rfl ?_
          refine Wx.nil ?_
          have e2_0 : (checkE g l) = (5 : Int) := by rw [hE]; exact sales_bad h0 c2 (by rw [saleE, if_pos (by omega)]) (by decide) h2
          exact W.ret ⟨.int .i64 5, ResIs.one, hS.bel, (by rw [e2_0])⟩
        · -- no
          try simp only [Bool.and_eq_true, Bool.or_eq_true, Bool.not_eq_true', Bool.and_eq_false_iff, Bool.or_eq_false_iff, Bool.not_eq_false', decide_eq_true_eq, decide_eq_false_iff_not, not_or, Bool.false_eq_true, Bool.true_eq_false, false_or, or_false, not_false_eq_true] at c3
          refine W.seq ?_
          refine W.reg ?_
          refine Wx.rd (v := .pointer (some ⟨g_20, 0, none⟩)) (rd_fieldAddr rfl foKc_62_0) rfl ?_
          refine Wx.rd (v := v_12) (rd_loadX hS 0 rfl rfl rfl Try.isAgg39) rfl ?_
          refine Wx.callF (run_callF Try.call71 rfl) (F71 (hS.v 2 rfl) (by omega)) rfl ?_
          rintro r_31 w_32 hx_33 rfl
          have hS := hS.ext hx_33
          refine Wx.rd (v := .bool (decide ((minL ((ix ([], []) l k).1)) < 1))) (rd_lss rfl rfl) rfl ?_
          refine Wx.rd (v := .bool (decide ((minL ((ix ([], []) l k).1)) < 1))) (rd_move rfl) rfl ?_
          refine Wx.cut (X := Unit) 5 [43, 44, 45, 46, 47] (fun _ => [(47, .bool (decide ((minL ((ix ([], []) l k).1)) < 1) || decide (9 < (maxL ((ix ([], []) l k).1)))))]) (fun _ w' => St w [] w' [.box g_20 62 [v_12, v_13], Ob.v (tSl (tI .i64)) ((ix ([], []) l k).2) v_13, Ob.v (tSl (tI .i64)) ((ix ([], []) l k).1) v_12]) ?_ ?_
          · rcases Bool.eq_false_or_eq_true (decide ((minL ((ix ([], []) l k).1)) < 1)) with g_34 | g_34
            · -- True
              have gp_35 := of_decide_eq_true g_34
              refine Wx.gnoB rfl rfl (congrArg Value.bool g_34) rfl rfl ?_
              refine Wx.gnoB rfl rfl (congrArg Value.bool g_34) rfl rfl ?_
              refine Wx.gnoB rfl rfl (congrArg Value.bool g_34) rfl rfl ?_
              refine Wx.gnoB rfl rfl (congrArg Value.bool g_34) rfl rfl ?_
              refine Wx.rd (v := .bool true) (rd_pickT (congrArg Value.bool g_34) rfl) rfl ?_
              refine Wx.nil ⟨(), hS, ⟨?_, trivial⟩, Out.look rfl Out.refl⟩
              show Value.bool true = Value.bool (decide ((minL ((ix ([], []) l k).1)) < 1) || decide (9 < (maxL ((ix ([], []) l k).1))))
              first | rw [g_34, Bool.true_or] | (rw [g_34]; rfl)
            · -- False
              have gp_36 := of_decide_eq_false g_34
              refine Wx.gyes rfl rfl (congrArg Value.bool g_34) ?_
              refine Wx.rd (v := .pointer (some ⟨g_20, 0, none⟩)) (rd_fieldAddr rfl foKc_62_0) rfl ?_
              refine Wx.gyes rfl rfl (congrArg Value.bool g_34) ?_
              refine Wx.rd (v := v_12) (rd_loadX hS 0 rfl rfl rfl Try.isAgg39) rfl ?_
              refine Wx.gyes rfl rfl (congrArg Value.bool g_34) ?_
              refine Wx.callF (run_callF Try.call72 rfl) (F72 (hS.v 2 rfl) (by omega)) rfl ?_
              rintro r_37 w_38 hx_39 rfl
              have hS := hS.ext hx_39
              refine Wx.gyes rfl rfl (congrArg Value.bool g_34) ?_
              refine Wx.rd (v := .bool (decide (9 < (maxL ((ix ([], []) l k).1))))) (rd_gtr rfl rfl) rfl ?_
              refine Wx.rd (v := .bool (decide (9 < (maxL ((ix ([], []) l k).1))))) (rd_pickF (congrArg Value.bool g_34) rfl) rfl ?_
              refine Wx.nil ⟨(), hS, ⟨?_, trivial⟩, Out.look rfl Out.refl⟩
              show Value.bool (decide (9 < (maxL ((ix ([], []) l k).1)))) = Value.bool (decide ((minL ((ix ([], []) l k).1)) < 1) || decide (9 < (maxL ((ix ([], []) l k).1))))
              first | rw [g_34, Bool.false_or] | (rw [g_34]; rfl)
          rintro ⟨⟩ u_41 w_40 hS
          refine Wx.rd (v := .bool (decide ((minL ((ix ([], []) l k).1)) < 1) || decide (9 < (maxL ((ix ([], []) l k).1))))) (rd_move rfl) rfl ?_
          refine Wx.cut (X := Unit) 5 [49, 50, 51, 52, 53] (fun _ => [(53, .bool ((decide ((minL ((ix ([], []) l k).1)) < 1) || decide (9 < (maxL ((ix ([], []) l k).1)))) || decide ((minL ((ix ([], []) l k).2)) < 0)))]) (fun _ w' => St w [] w' [.box g_20 62 [v_12, v_13], Ob.v (tSl (tI .i64)) ((ix ([], []) l k).2) v_13, Ob.v (tSl (tI .i64)) ((ix ([], []) l k).1) v_12]) ?_ ?_
          · rcases Bool.eq_false_or_eq_true (decide ((minL ((ix ([], []) l k).1)) < 1) || decide (9 < (maxL ((ix ([], []) l k).1)))) with g_42 | g_42
            · -- True
              have gp_43 := g_42
              try simp only [Bool.and_eq_true, Bool.or_eq_true, Bool.not_eq_true', Bool.and_eq_false_iff, Bool.or_eq_false_iff, Bool.not_eq_false', decide_eq_true_eq, decide_eq_false_iff_not, not_or, Bool.false_eq_true, Bool.true_eq_false, false_or, or_false, not_false_eq_true] at gp_43
              refine Wx.gnoB rfl rfl (congrArg Value.bool g_42) rfl rfl ?_
              refine Wx.gnoB rfl rfl (congrArg Value.bool g_42) rfl rfl ?_
              refine Wx.gnoB rfl rfl (congrArg Value.bool g_42) rfl rfl ?_
              refine Wx.gnoB rfl rfl (congrArg Value.bool g_42) rfl rfl ?_
              refine Wx.rd (v := .bool true) (rd_pickT (congrArg Value.bool g_42) rfl) rfl ?_
              refine Wx.nil ⟨(), hS, ⟨?_, trivial⟩, Out.look rfl Out.refl⟩
              show Value.bool true = Value.bool ((decide ((minL ((ix ([], []) l k).1)) < 1) || decide (9 < (maxL ((ix ([], []) l k).1)))) || decide ((minL ((ix ([], []) l k).2)) < 0))
              first | rw [g_42, Bool.true_or] | (rw [g_42]; rfl)
            · -- False
              have gp_44 := g_42
              try simp only [Bool.and_eq_true, Bool.or_eq_true, Bool.not_eq_true', Bool.and_eq_false_iff, Bool.or_eq_false_iff, Bool.not_eq_false', decide_eq_true_eq, decide_eq_false_iff_not, not_or, Bool.false_eq_true, Bool.true_eq_false, false_or, or_false, not_false_eq_true] at gp_44
              refine Wx.gyes rfl rfl (congrArg Value.bool g_42) ?_
              refine Wx.rd (v := .pointer (some ⟨g_20, 1, none⟩)) (rd_fieldAddr rfl foKc_62_1) rfl ?_
              refine Wx.gyes rfl rfl (congrArg Value.bool g_42) ?_
              refine Wx.rd (v := v_13) (rd_loadX hS 0 rfl rfl rfl Try.isAgg39) rfl ?_
              refine Wx.gyes rfl rfl (congrArg Value.bool g_42) ?_
              refine Wx.callF (run_callF Try.call71 rfl) (F71 (hS.v 1 rfl) (by omega)) rfl ?_
              rintro r_45 w_46 hx_47 rfl
              have hS := hS.ext hx_47
              refine Wx.gyes rfl rfl (congrArg Value.bool g_42) ?_
              refine Wx.rd (v := .bool (decide ((minL ((ix ([], []) l k).2)) < 0))) (rd_lss rfl rfl) rfl ?_
              refine Wx.rd (v := .bool (decide ((minL ((ix ([], []) l k).2)) < 0))) (rd_pickF (congrArg Value.bool g_42) rfl) rfl ?_
              refine Wx.nil ⟨(), hS, ⟨?_, trivial⟩, Out.look rfl Out.refl⟩
              show Value.bool (decide ((minL ((ix ([], []) l k).2)) < 0)) = Value.bool ((decide ((minL ((ix ([], []) l k).1)) < 1) || decide (9 < (maxL ((ix ([], []) l k).1)))) || decide ((minL ((ix ([], []) l k).2)) < 0))
              first | rw [g_42, Bool.false_or] | (rw [g_42]; rfl)
          rintro ⟨⟩ u_49 w_48 hS
          refine Wx.rd (v := .bool ((decide ((minL ((ix ([], []) l k).1)) < 1) || decide (9 < (maxL ((ix ([], []) l k).1)))) || decide ((minL ((ix ([], []) l k).2)) < 0))) (rd_move rfl) rfl ?_
          refine Wx.cut (X := Unit) 5 [55, 56, 57, 58, 59] (fun _ => [(59, .bool (((decide ((minL ((ix ([], []) l k).1)) < 1) || decide (9 < (maxL ((ix ([], []) l k).1)))) || decide ((minL ((ix ([], []) l k).2)) < 0)) || decide (9 < (maxL ((ix ([], []) l k).2)))))]) (fun _ w' => St w [] w' [.box g_20 62 [v_12, v_13], Ob.v (tSl (tI .i64)) ((ix ([], []) l k).2) v_13, Ob.v (tSl (tI .i64)) ((ix ([], []) l k).1) v_12]) ?_ ?_
          · rcases Bool.eq_false_or_eq_true ((decide ((minL ((ix ([], []) l k).1)) < 1) || decide (9 < (maxL ((ix ([], []) l k).1)))) || decide ((minL ((ix ([], []) l k).2)) < 0)) with g_50 | g_50
            · -- True
              have gp_51 := g_50
              try simp only [Bool.and_eq_true, Bool.or_eq_true, Bool.not_eq_true', Bool.and_eq_false_iff, Bool.or_eq_false_iff, Bool.not_eq_false', decide_eq_true_eq, decide_eq_false_iff_not, not_or, Bool.false_eq_true, Bool.true_eq_false, false_or, or_false, not_false_eq_true] at gp_51
              refine Wx.gnoB rfl rfl (congrArg Value.bool g_50) rfl rfl ?_
              refine Wx.gnoB rfl rfl (congrArg Value.bool g_50) rfl rfl ?_
              refine Wx.gnoB rfl rfl (congrArg Value.bool g_50) rfl rfl ?_
              refine Wx.gnoB rfl rfl (congrArg Value.bool g_50) rfl rfl ?_
              refine Wx.rd (v := .bool true) (rd_pickT (congrArg Value.bool g_50) rfl) rfl ?_
              refine Wx.nil ⟨(), hS, ⟨?_, trivial⟩, Out.look rfl Out.refl⟩
              show Value.bool true = Value.bool (((decide ((minL ((ix ([], []) l k).1)) < 1) || decide (9 < (maxL ((ix ([], []) l k).1)))) || decide ((minL ((ix ([], []) l k).2)) < 0)) || decide (9 < (maxL ((ix ([], []) l k).2))))
              first | rw [g_50, Bool.true_or] | (rw [g_50]; rfl)
            · -- False
              have gp_52 := g_50
              try simp only [Bool.and_eq_true, Bool.or_eq_true, Bool.not_eq_true', Bool.and_eq_false_iff, Bool.or_eq_false_iff, Bool.not_eq_false', decide_eq_true_eq, decide_eq_false_iff_not, not_or, Bool.false_eq_true, Bool.true_eq_false, false_or, or_false, not_false_eq_true] at gp_52
              refine Wx.gyes rfl rfl (congrArg Value.bool g_50) ?_
              refine Wx.rd (v := .pointer (some ⟨g_20, 1, none⟩)) (rd_fieldAddr rfl foKc_62_1) rfl ?_
              refine Wx.gyes rfl rfl (congrArg Value.bool g_50) ?_
              refine Wx.rd (v := v_13) (rd_loadX hS 0 rfl rfl rfl Try.isAgg39) rfl ?_
              refine Wx.gyes rfl rfl (congrArg Value.bool g_50) ?_
              refine Wx.callF (run_callF Try.call72 rfl) (F72 (hS.v 1 rfl) (by omega)) rfl ?_
              rintro r_53 w_54 hx_55 rfl
              have hS := hS.ext hx_55
              refine Wx.gyes rfl rfl (congrArg Value.bool g_50) ?_
              refine Wx.rd (v := .bool (decide (9 < (maxL ((ix ([], []) l k).2))))) (rd_gtr rfl rfl) rfl ?_
              refine Wx.rd (v := .bool (decide (9 < (maxL ((ix ([], []) l k).2))))) (rd_pickF (congrArg Value.bool g_50) rfl) rfl ?_
              refine Wx.nil ⟨(), hS, ⟨?_, trivial⟩, Out.look rfl Out.refl⟩
              show Value.bool (decide (9 < (maxL ((ix ([], []) l k).2)))) = Value.bool (((decide ((minL ((ix ([], []) l k).1)) < 1) || decide (9 < (maxL ((ix ([], []) l k).1)))) || decide ((minL ((ix ([], []) l k).2)) < 0)) || decide (9 < (maxL ((ix ([], []) l k).2))))
              first | rw [g_50, Bool.false_or] | (rw [g_50]; rfl)
          rintro ⟨⟩ u_57 w_56 hS
          refine Wx.rd (v := .bool (((decide ((minL ((ix ([], []) l k).1)) < 1) || decide (9 < (maxL ((ix ([], []) l k).1)))) || decide ((minL ((ix ([], []) l k).2)) < 0)) || decide (9 < (maxL ((ix ([], []) l k).2))))) (rd_assign rfl) rfl ?_
          refine Wx.nil ?_
          refine W.cond rfl (fun c4 => ?_) (fun c4 => ?_)
          · -- yes
            try simp only [Bool.and_eq_true, Bool.or_eq_true, Bool.not_eq_true', Bool.and_eq_false_iff, Bool.or_eq_false_iff, Bool.not_eq_false', decide_eq_true_eq, decide_eq_false_iff_not, not_or, Bool.false_eq_true, Bool.true_eq_false, false_or, or_false, not_false_eq_true] at c4
            refine W.seq ?_
            refine W.reg ?_
            refine Wx.rd (v := .int .i64 1) (rd_assign rfl) rfl ?_
            refine Wx.nil ?_
            have e3_0 : (checkE g l) = (1 : Int) := by rw [hE]; exact sales_bad h0 c2 (sale_one (by omega) (by omega) (fun hh => by have := (sale_mm (by omega) (by omega) (by omega)).1 hh; omega)) (by decide) h2
            exact W.ret ⟨.int .i64 1, ResIs.one, hS.bel, (by rw [e3_0])⟩
          · -- no
            try simp only [Bool.and_eq_true, Bool.or_eq_true, Bool.not_eq_true', Bool.and_eq_false_iff, Bool.or_eq_false_iff, Bool.not_eq_false', decide_eq_true_eq, decide_eq_false_iff_not, not_or, Bool.false_eq_true, Bool.true_eq_false, false_or, or_false, not_false_eq_true] at c4
            refine W.skip ?_
            refine W.reg ?_
            refine Wx.rd (v := .int .i64 (k + 1)) (rd_add rfl rfl (in_i64 (by omega) (by omega))) rfl ?_
            refine Wx.rd (v := .int .i64 (k + 1)) (rd_move rfl) rfl ?_
            refine Wx.nil ?_
            refine ⟨k + 1, (by show (l.length - (k + 1)).toNat < (l.length - k).toNat; omega), ?_, ?_, Out.look rfl (Out.hav rfl (Out.look rfl (Out.hav rfl (Out.look rfl (Out.hav rfl (Out.look rfl (Out.hav rfl (Out.look rfl Out.self))))))))⟩
            · exact ⟨St.tl (St.tl (hS.tl)), (by first | omega | assumption), (by first | omega | assumption), (sales_next h0 (by omega) ((sale_mm (by omega) (by omega) (by omega)).2 (by omega)) h2)⟩
            · exact ⟨rfl, trivial⟩
      · -- no
        refine W.exit rfl ?_
        refine W.seq ?_
        refine W.reg ?_
        refine Wx.rd (v := .int .i64 0) (rd_assign rfl) rfl ?_
        refine Wx.nil ?_
        have e4_0 : (checkE g l) = (0 : Int) := by rw [hE, ← h2, drop_end (by omega)]; rfl
        exact W.ret ⟨.int .i64 0, ResIs.one, hS.bel, (by rw [e4_0])⟩
end Go.Proofs.Ytjbcpggikaeleaa

namespace Go.Proofs.Ytjbcpggikaeleaa
open Go.Wk Go.RowKit Go.Lib
set_option linter.unusedVariables false
set_option linter.unusedSimpArgs false
end Go.Proofs.Ytjbcpggikaeleaa

namespace Go.Proofs.Ytjbcpggikaeleaa
open Go.Wk Go.RowKit Go.Lib
set_option linter.unusedVariables false
set_option linter.unusedSimpArgs false
theorem mixedLh_ : Try.prog.follows .mixedOrders = true := by kernel_rfl
theorem elLh_39 : ElemI Try.prog 39 3 (.int .i64 0) 1 8 := ElemI.of Try.underlying39 (by kernel_rfl) (by first | rfl | kernel_rfl) (by decide)
theorem elLh_22 : ElemI Try.prog 22 62 (.agg #[(.slice none 0 0), (.slice none 0 0)]) 2 48 := ElemI.of Try.underlying22 (by kernel_rfl) (by first | rfl | kernel_rfl) (by decide)
theorem F33 {xv : Value} {xs : List Int} {Fr_xv : List (Option Nat)} {yv : Value} {ys : List Int} {Fr_yv : List (Option Nat)} {w : World} (h_xv : V (tSl (tI .i64)) xs xv Fr_xv w) (h_yv : V (tSl (tI .i64)) ys yv Fr_yv w) : Calls Try.prog 33 #[xv, yv] w (Ret w (fun r _ => r = .bool (decide (xs = ys)))) := by
  have a_xv := h_xv.any
  have l_xv := h_xv.len63
  have a_yv := h_yv.any
  have l_yv := h_yv.len63
  have hS := St.start0 w
  refine enterR Try.func33 rfl Try.ntmps33 Try.results33 rfl ?_
  refine W.seq ?_
  refine W.reg ?_
  refine Wx.rd (v := .bool false) (rd_assign rfl) rfl ?_
  refine Wx.nil ?_
  refine W.seq ?_
  refine W.seq ?_
  refine W.reg ?_
  refine Wx.rd (v := xv) (rd_move rfl) rfl ?_
  refine Wx.rd (v := .int .i64 (xs.length : Int)) (rd_lenV rfl (hS.arg a_xv) Try.underlying39) rfl ?_
  refine Wx.rd (v := yv) (rd_move rfl) rfl ?_
  refine Wx.rd (v := .int .i64 (ys.length : Int)) (rd_lenV rfl (hS.arg a_yv) Try.underlying39) rfl ?_
  refine Wx.rd (v := .bool (decide ((xs.length : Int) ≠ (ys.length : Int)))) (rd_neq rfl rfl) rfl ?_
  refine Wx.nil ?_
  refine W.condD rfl (fun c0 => ?_) (fun c0 => ?_)
  · -- yes
    refine W.seq ?_
    refine W.reg ?_
    refine Wx.rd (v := .bool false) (rd_assign rfl) rfl ?_
    refine Wx.nil ?_
    have e0_0 : (decide (xs = ys)) = false := by exact decide_eq_false (fun h : xs = ys => c0 (by rw [h]))
    exact W.ret ⟨.bool false, ResIs.one, hS.bel, (by rw [e0_0])⟩
  · -- no
    refine W.skip ?_
    refine W.seq ?_
    refine W.seq ?_
    refine W.reg ?_
    refine Wx.rd (v := .int .i64 0) (rd_assign rfl) rfl ?_
    refine Wx.nil ?_
    refine W.block ?_
    refine W.loop [4, 5, 11, 12, 13, 14, 15, 16, 17, 18, 19, 20, 21, 22, 23, 24, 25] (fun (k : Int) => [(5, .int .i64 k)]) (fun (k : Int) w' => St w [] w' [] ∧ 0 ≤ k ∧ k ≤ xs.length ∧ decide (xs.drop k.toNat = ys.drop k.toNat) = decide (xs = ys)) (fun (k : Int) => (xs.length - k).toNat) 0 ⟨rfl, trivial⟩ ⟨hS, (by first | omega | simp), (by first | omega | simp), (by simp)⟩ ?_
    rintro k u_2 w_1 ⟨hS, h0, h1, h2⟩
    refine W.seq ?_
    refine W.seq ?_
    refine W.reg ?_
    refine Wx.rd (v := .int .i64 k) (rd_move rfl) rfl ?_
    refine Wx.rd (v := xv) (rd_move rfl) rfl ?_
    refine Wx.rd (v := .int .i64 (xs.length : Int)) (rd_lenV rfl (hS.arg a_xv) Try.underlying39) rfl ?_
    refine Wx.rd (v := .bool (decide (k < (xs.length : Int)))) (rd_lss rfl rfl) rfl ?_
    refine Wx.nil ?_
    refine W.condD rfl (fun c1 => ?_) (fun c1 => ?_)
    · -- yes
      refine W.skip ?_
      refine W.seq ?_
      refine W.block ?_
      refine W.seq ?_
      refine W.regQ mixedLh_ (by kernel_rfl) ?_
      refine Wx.rd (v := xv) (rd_move rfl) rfl ?_
      refine Wx.rd (v := .int .i64 k) (rd_move rfl) rfl ?_
      refine Wx.ex (rd_index 0 (hS.arg a_xv) rfl rfl Try.underlying39 Try.sizeOf3 (by first | omega | (simp only [List.length_set, List.length_append, List.length_cons, List.length_nil, List.length_replicate]; omega)) (by first | omega | (simp only [List.length_set, List.length_append, List.length_cons, List.length_nil, List.length_replicate]; omega))) rfl (fun p_3 hp_4 => ?_)
      refine Wx.rd (v := .int .i64 (ix 0 xs k)) (rd_loadI hp_4 rfl Try.isAgg3 Try.sizeOf3) rfl ?_
      have bd_5 := bd_i64 hp_4.inK
      refine Wx.rd (v := yv) (rd_move rfl) rfl ?_
      refine Wx.rd (v := .int .i64 k) (rd_move rfl) rfl ?_
      refine Wx.ex (rd_index 0 (hS.arg a_yv) rfl rfl Try.underlying39 Try.sizeOf3 (by first | omega | (simp only [List.length_set, List.length_append, List.length_cons, List.length_nil, List.length_replicate]; omega)) (by first | omega | (simp only [List.length_set, List.length_append, List.length_cons, List.length_nil, List.length_replicate]; omega))) rfl (fun p_6 hp_7 => ?_)
      refine Wx.rd (v := .int .i64 (ix 0 ys k)) (rd_loadI hp_7 rfl Try.isAgg3 Try.sizeOf3) rfl ?_
      have bd_8 := bd_i64 hp_7.inK
      refine Wx.rd (v := .bool (decide ((ix 0 xs k) ≠ (ix 0 ys k)))) (rd_neq rfl rfl) rfl ?_
      refine Wx.nilQ (fun w_9 hx_10 => ?_)
      have hS := hS.ext hx_10
      refine W.condD rfl (fun c2 => ?_) (fun c2 => ?_)
      · -- yes
        refine W.seq ?_
        refine W.reg ?_
        refine Wx.rd (v := .bool false) (rd_assign rfl) rfl ?_
        refine Wx.nil ?_
        have he : ¬ ix 0 xs k = ix 0 ys k := fun hh => by rw [hh] at c2; omega
        have e1_0 : (decide (xs = ys)) = false := by rw [← h2, drop_ix (d := 0) h0 c1, drop_ix (d := 0) (xs := ys) h0 (by omega)]; simp [he]
        exact W.ret ⟨.bool false, ResIs.one, hS.bel, (by rw [e1_0])⟩
      · -- no
        refine W.skip ?_
        refine W.reg ?_
        refine Wx.rd (v := .int .i64 k) (rd_move rfl) rfl ?_
        refine Wx.rd (v := .int .i64 (k + 1)) (rd_add rfl rfl (in_i64 (by omega) (by omega))) rfl ?_
        refine Wx.rd (v := .int .i64 (k + 1)) (rd_assign rfl) rfl ?_
        refine Wx.nil ?_
        have he : ix 0 xs k = ix 0 ys k := by omega
        refine ⟨k + 1, (by show (xs.length - (k + 1)).toNat < (xs.length - k).toNat; omega), ?_, ?_, Out.look rfl Out.self⟩
        · exact ⟨hS, (by first | omega | assumption), (by first | omega | assumption), (by rw [← h2, drop_ix (d := 0) h0 c1, drop_ix (d := 0) (xs := ys) h0 (by omega)]; simp [he])⟩
        · exact ⟨rfl, trivial⟩
    · -- no
      refine W.exit rfl ?_
      refine W.seq ?_
      refine W.reg ?_
      refine Wx.rd (v := .bool true) (rd_assign rfl) rfl ?_
      refine Wx.nil ?_
      have e2_0 : (decide (xs = ys)) = true := by rw [← h2, drop_end (by omega), drop_end (xs := ys) (by omega)]; simp
      exact W.ret ⟨.bool true, ResIs.one, hS.bel, (by rw [e2_0])⟩

theorem F24 {xv : Value} {xs : List (Int × Int)} {Fr_xv : List (Option Nat)} {yv : Value} {ys : List (Int × Int)} {Fr_yv : List (Option Nat)} {w : World} (h_xv : V (tSl (tP (tI .i64) (tI .i64))) xs xv Fr_xv w) (h_yv : V (tSl (tP (tI .i64) (tI .i64))) ys yv Fr_yv w) : Calls Try.prog 24 #[xv, yv] w (Ret w (fun r _ => r = .bool (decide (xs = ys)))) := by
  have a_xv := h_xv.any
  have l_xv := h_xv.len63
  have a_yv := h_yv.any
  have l_yv := h_yv.len63
  have hS := St.start0 w
  refine enterR Try.func24 rfl Try.ntmps24 Try.results24 rfl ?_
  refine W.seq ?_
  refine W.reg ?_
  refine Wx.rd (v := .bool false) (rd_assign rfl) rfl ?_
  refine Wx.nil ?_
  refine W.seq ?_
  refine W.seq ?_
  refine W.reg ?_
  refine Wx.rd (v := xv) (rd_move rfl) rfl ?_
  refine Wx.rd (v := .int .i64 (xs.length : Int)) (rd_lenV rfl (hS.arg a_xv) Try.underlying31) rfl ?_
  refine Wx.rd (v := yv) (rd_move rfl) rfl ?_
  refine Wx.rd (v := .int .i64 (ys.length : Int)) (rd_lenV rfl (hS.arg a_yv) Try.underlying31) rfl ?_
  refine Wx.rd (v := .bool (decide ((xs.length : Int) ≠ (ys.length : Int)))) (rd_neq rfl rfl) rfl ?_
  refine Wx.nil ?_
  refine W.condD rfl (fun c0 => ?_) (fun c0 => ?_)
  · -- yes
    refine W.seq ?_
    refine W.reg ?_
    refine Wx.rd (v := .bool false) (rd_assign rfl) rfl ?_
    refine Wx.nil ?_
    have e0_0 : (decide (xs = ys)) = false := by exact decide_eq_false (fun h : xs = ys => c0 (by rw [h]))
    exact W.ret ⟨.bool false, ResIs.one, hS.bel, (by rw [e0_0])⟩
  · -- no
    refine W.skip ?_
    refine W.seq ?_
    refine W.seq ?_
    refine W.reg ?_
    refine Wx.rd (v := .int .i64 0) (rd_assign rfl) rfl ?_
    refine Wx.nil ?_
    refine W.block ?_
    refine W.loop [4, 5, 11, 12, 13, 14, 15, 16, 17, 18, 19, 20, 21, 22, 23, 24, 25] (fun (k : Int) => [(5, .int .i64 k)]) (fun (k : Int) w' => St w [] w' [] ∧ 0 ≤ k ∧ k ≤ xs.length ∧ decide (xs.drop k.toNat = ys.drop k.toNat) = decide (xs = ys)) (fun (k : Int) => (xs.length - k).toNat) 0 ⟨rfl, trivial⟩ ⟨hS, (by first | omega | simp), (by first | omega | simp), (by simp)⟩ ?_
    rintro k u_2 w_1 ⟨hS, h0, h1, h2⟩
    refine W.seq ?_
    refine W.seq ?_
    refine W.reg ?_
    refine Wx.rd (v := .int .i64 k) (rd_move rfl) rfl ?_
    refine Wx.rd (v := xv) (rd_move rfl) rfl ?_
    refine Wx.rd (v := .int .i64 (xs.length : Int)) (rd_lenV rfl (hS.arg a_xv) Try.underlying31) rfl ?_
    refine Wx.rd (v := .bool (decide (k < (xs.length : Int)))) (rd_lss rfl rfl) rfl ?_
    refine Wx.nil ?_
    refine W.condD rfl (fun c1 => ?_) (fun c1 => ?_)
    · -- yes
      refine W.skip ?_
      refine W.seq ?_
      refine W.block ?_
      refine W.seq ?_
      refine W.regQ mixedLh_ (by kernel_rfl) ?_
      refine Wx.rd (v := xv) (rd_move rfl) rfl ?_
      refine Wx.rd (v := .int .i64 k) (rd_move rfl) rfl ?_
      refine Wx.ex (rd_index (0, 0) (hS.arg a_xv) rfl rfl Try.underlying31 Try.sizeOf59 (by first | omega | (simp only [List.length_set, List.length_append, List.length_cons, List.length_nil, List.length_replicate]; omega)) (by first | omega | (simp only [List.length_set, List.length_append, List.length_cons, List.length_nil, List.length_replicate]; omega))) rfl (fun p_3 hp_4 => ?_)
      refine Wx.ex (rd_load hp_4 rfl Try.isAgg59 Try.sizeOf59) rfl (fun v_5 hv_6 => ?_)
      obtain ⟨rfl, bd_7, bd_8⟩ := hv_6.i2
      have bd_7 := bd_i64 bd_7
      have bd_8 := bd_i64 bd_8
      refine Wx.rd (v := yv) (rd_move rfl) rfl ?_
      refine Wx.rd (v := .int .i64 k) (rd_move rfl) rfl ?_
      refine Wx.ex (rd_index (0, 0) (hS.arg a_yv) rfl rfl Try.underlying31 Try.sizeOf59 (by first | omega | (simp only [List.length_set, List.length_append, List.length_cons, List.length_nil, List.length_replicate]; omega)) (by first | omega | (simp only [List.length_set, List.length_append, List.length_cons, List.length_nil, List.length_replicate]; omega))) rfl (fun p_9 hp_10 => ?_)
      refine Wx.ex (rd_load hp_10 rfl Try.isAgg59 Try.sizeOf59) rfl (fun v_11 hv_12 => ?_)
      obtain ⟨rfl, bd_13, bd_14⟩ := hv_12.i2
      have bd_13 := bd_i64 bd_13
      have bd_14 := bd_i64 bd_14
      refine Wx.rd (v := .bool (!(decide ((ix (0, 0) xs k).1 = (ix (0, 0) ys k).1) && decide ((ix (0, 0) xs k).2 = (ix (0, 0) ys k).2)))) (rd_neqA2 rfl rfl Try.underlying59 Try.underlying3 Try.sizeOf3 Try.eqGuardType59) rfl ?_
      refine Wx.nilQ (fun w_15 hx_16 => ?_)
      have hS := hS.ext hx_16
      refine W.cond rfl (fun c2 => ?_) (fun c2 => ?_)
      · -- yes
        try simp only [Bool.and_eq_true, Bool.or_eq_true, Bool.not_eq_true', Bool.and_eq_false_iff, Bool.or_eq_false_iff, Bool.not_eq_false', decide_eq_true_eq, decide_eq_false_iff_not, not_or, Bool.false_eq_true, Bool.true_eq_false, false_or, or_false, not_false_eq_true] at c2
        refine W.seq ?_
        refine W.reg ?_
        refine Wx.rd (v := .bool false) (rd_assign rfl) rfl ?_
        refine Wx.nil ?_
        have he : ¬ ix (0, 0) xs k = ix (0, 0) ys k := fun hh => by rw [hh] at c2; omega
        have e1_0 : (decide (xs = ys)) = false := by rw [← h2, drop_ix (d := (0, 0)) h0 c1, drop_ix (d := (0, 0)) (xs := ys) h0 (by omega)]; simp [he]
        exact W.ret ⟨.bool false, ResIs.one, hS.bel, (by rw [e1_0])⟩
      · -- no
        try simp only [Bool.and_eq_true, Bool.or_eq_true, Bool.not_eq_true', Bool.and_eq_false_iff, Bool.or_eq_false_iff, Bool.not_eq_false', decide_eq_true_eq, decide_eq_false_iff_not, not_or, Bool.false_eq_true, Bool.true_eq_false, false_or, or_false, not_false_eq_true] at c2
        refine W.skip ?_
        refine W.reg ?_
        refine Wx.rd (v := .int .i64 k) (rd_move rfl) rfl ?_
        refine Wx.rd (v := .int .i64 (k + 1)) (rd_add rfl rfl (in_i64 (by omega) (by omega))) rfl ?_
        refine Wx.rd (v := .int .i64 (k + 1)) (rd_assign rfl) rfl ?_
        refine Wx.nil ?_
        have he : ix (0, 0) xs k = ix (0, 0) ys k := Prod.ext (by omega) (by omega)
        refine ⟨k + 1, (by show (xs.length - (k + 1)).toNat < (xs.length - k).toNat; omega), ?_, ?_, Out.look rfl Out.self⟩
        · exact ⟨hS, (by first | omega | assumption), (by first | omega | assumption), (by rw [← h2, drop_ix (d := (0, 0)) h0 c1, drop_ix (d := (0, 0)) (xs := ys) h0 (by omega)]; simp [he])⟩
        · exact ⟨rfl, trivial⟩
    · -- no
      refine W.exit rfl ?_
      refine W.seq ?_
      refine W.reg ?_
      refine Wx.rd (v := .bool true) (rd_assign rfl) rfl ?_
      refine Wx.nil ?_
      have e2_0 : (decide (xs = ys)) = true := by rw [← h2, drop_end (by omega), drop_end (xs := ys) (by omega)]; simp
      exact W.ret ⟨.bool true, ResIs.one, hS.bel, (by rw [e2_0])⟩

theorem F44 {lv : Value} {l : List Int} {O : List (Option Nat)} {w : World} (h_lv : V (tSl (tI .i64)) l lv O w) (hO : ∀ b, some b ∈ O → b < w.heap.size) : Calls Try.prog 44 #[lv] w (Ret w (fun r w' => ∃ rv, r = rv ∧ V (tSl (tI .i64)) l rv O w')) := by
  have a_lv := h_lv
  have l_lv := h_lv.len63
  have hS := St.start w O hO
  refine enterR Try.func44 rfl Try.ntmps44 Try.results44 rfl ?_
  refine W.seq ?_
  refine W.reg ?_
  refine Wx.rd (v := (.slice none 0 0)) (rd_assign rfl) rfl ?_
  refine Wx.nil ?_
  refine W.seq ?_
  refine W.reg ?_
  refine Wx.rd (v := lv) (rd_move rfl) rfl ?_
  refine Wx.rd (v := lv) (rd_assign rfl) rfl ?_
  refine Wx.nil ?_
  exact W.ret ⟨lv, ResIs.one, hS.bel, ⟨lv, rfl, (V.mv (hS.arg a_lv) (.less (fun _ h => List.mem_append.2 (.inr h))))⟩⟩

theorem F43 {O : List (Option Nat)} {w : World} (hO : ∀ b, some b ∈ O → b < w.heap.size) : Calls Try.prog 43 #[] w (Ret w (fun r w' => ∃ rv, r = rv ∧ V (tSl (tP (tSl (tI .i64)) (tSl (tI .i64)))) sS rv O w')) := by
  have hS := St.start w O hO
  refine enterR Try.func43 rfl Try.ntmps43 Try.results43 rfl ?_
  refine W.seq ?_
  refine W.reg ?_
  refine Wx.rd (v := (.slice none 0 0)) (rd_assign rfl) rfl ?_
  refine Wx.nil ?_
  refine W.seq ?_
  refine W.reg ?_
  refine Wx.lit (t := (tI .i64)) (ys := [1, 2]) (vs := [.int .i64 1, .int .i64 2]) elLh_39 hS rfl rfl ⟨(V.mkInt (in_i64 (by omega) (by omega))), ⟨(V.mkInt (in_i64 (by omega) (by omega))), trivial⟩⟩ (by decide) rfl (fun v_1 w_2 hx_3 hS => ?_)
  have hS := hS.freeze 0 rfl
  refine Wx.callF (run_callF Try.call44 rfl) (F44 (hS.v 0 rfl) hS.fb_lt) rfl ?_
  rintro r_5 w_6 hx_7 ⟨_, rfl, hv_8⟩
  have ln_10 := hv_8.len63
  have hS := hS.ext hx_7
  have hS := hS.add hv_8
  refine Wx.lit (t := (tI .i64)) (ys := [2, 1]) (vs := [.int .i64 2, .int .i64 1]) elLh_39 hS rfl rfl ⟨(V.mkInt (in_i64 (by omega) (by omega))), ⟨(V.mkInt (in_i64 (by omega) (by omega))), trivial⟩⟩ (by decide) rfl (fun v_11 w_12 hx_13 hS => ?_)
  have hS := hS.freeze 0 rfl
  refine Wx.callF (run_callF Try.call44 rfl) (F44 (hS.v 0 rfl) hS.fb_lt) rfl ?_
  rintro r_15 w_16 hx_17 ⟨_, rfl, hv_18⟩
  have ln_20 := hv_18.len63
  have hS := hS.ext hx_17
  have hS := hS.add hv_18
  refine Wx.rd (v := .agg #[r_5, r_15]) (rd_buildC (vs := [(0, r_5), (1, r_15)]) (us := [(0, .agg #[r_5]), (1, .agg #[r_15])]) rfl (parts_cons (Go.Wk.cells_one (V.oneC (hS.v 2 rfl))) (parts_cons (Go.Wk.cells_one (V.oneC (hS.v 0 rfl))) parts_nil)) (by kernel_rfl)) rfl ?_
  refine Wx.lit (t := (tI .i64)) (ys := [2, 1]) (vs := [.int .i64 2, .int .i64 1]) elLh_39 hS rfl rfl ⟨(V.mkInt (in_i64 (by omega) (by omega))), ⟨(V.mkInt (in_i64 (by omega) (by omega))), trivial⟩⟩ (by decide) rfl (fun v_21 w_22 hx_23 hS => ?_)
  have hS := hS.freeze 0 rfl
  refine Wx.callF (run_callF Try.call44 rfl) (F44 (hS.v 0 rfl) hS.fb_lt) rfl ?_
  rintro r_25 w_26 hx_27 ⟨_, rfl, hv_28⟩
  have ln_30 := hv_28.len63
  have hS := hS.ext hx_27
  have hS := hS.add hv_28
  refine Wx.lit (t := (tI .i64)) (ys := [1, 2]) (vs := [.int .i64 1, .int .i64 2]) elLh_39 hS rfl rfl ⟨(V.mkInt (in_i64 (by omega) (by omega))), ⟨(V.mkInt (in_i64 (by omega) (by omega))), trivial⟩⟩ (by decide) rfl (fun v_31 w_32 hx_33 hS => ?_)
  have hS := hS.freeze 0 rfl
  refine Wx.callF (run_callF Try.call44 rfl) (F44 (hS.v 0 rfl) hS.fb_lt) rfl ?_
  rintro r_35 w_36 hx_37 ⟨_, rfl, hv_38⟩
  have ln_40 := hv_38.len63
  have hS := hS.ext hx_37
  have hS := hS.add hv_38
  refine Wx.rd (v := .agg #[r_25, r_35]) (rd_buildC (vs := [(0, r_25), (1, r_35)]) (us := [(0, .agg #[r_25]), (1, .agg #[r_35])]) rfl (parts_cons (Go.Wk.cells_one (V.oneC (hS.v 2 rfl))) (parts_cons (Go.Wk.cells_one (V.oneC (hS.v 0 rfl))) parts_nil)) (by kernel_rfl)) rfl ?_
  refine Wx.lit (t := (tI .i64)) (ys := [1, 1]) (vs := [.int .i64 1, .int .i64 1]) elLh_39 hS rfl rfl ⟨(V.mkInt (in_i64 (by omega) (by omega))), ⟨(V.mkInt (in_i64 (by omega) (by omega))), trivial⟩⟩ (by decide) rfl (fun v_41 w_42 hx_43 hS => ?_)
  have hS := hS.freeze 0 rfl
  refine Wx.callF (run_callF Try.call44 rfl) (F44 (hS.v 0 rfl) hS.fb_lt) rfl ?_
  rintro r_45 w_46 hx_47 ⟨_, rfl, hv_48⟩
  have ln_50 := hv_48.len63
  have hS := hS.ext hx_47
  have hS := hS.add hv_48
  refine Wx.lit (t := (tI .i64)) (ys := [2, 2]) (vs := [.int .i64 2, .int .i64 2]) elLh_39 hS rfl rfl ⟨(V.mkInt (in_i64 (by omega) (by omega))), ⟨(V.mkInt (in_i64 (by omega) (by omega))), trivial⟩⟩ (by decide) rfl (fun v_51 w_52 hx_53 hS => ?_)
  have hS := hS.freeze 0 rfl
  refine Wx.callF (run_callF Try.call44 rfl) (F44 (hS.v 0 rfl) hS.fb_lt) rfl ?_
  rintro r_55 w_56 hx_57 ⟨_, rfl, hv_58⟩
  have ln_60 := hv_58.len63
  have hS := hS.ext hx_57
  have hS := hS.add hv_58
  refine Wx.rd (v := .agg #[r_45, r_55]) (rd_buildC (vs := [(0, r_45), (1, r_55)]) (us := [(0, .agg #[r_45]), (1, .agg #[r_55])]) rfl (parts_cons (Go.Wk.cells_one (V.oneC (hS.v 2 rfl))) (parts_cons (Go.Wk.cells_one (V.oneC (hS.v 0 rfl))) parts_nil)) (by kernel_rfl)) rfl ?_
  refine Wx.lit (t := (tP (tSl (tI .i64)) (tSl (tI .i64)))) (ys := [([1, 2], [2, 1]), ([2, 1], [1, 2]), ([1, 1], [2, 2])]) (vs := [.agg #[r_5, r_15], .agg #[r_25, r_35], .agg #[r_45, r_55]]) elLh_22 hS rfl rfl ⟨(V.mkS2 (z := ([1, 2], [2, 1])) (hS.v 10 rfl) (hS.v 8 rfl)), ⟨(V.mkS2 (z := ([2, 1], [1, 2])) (hS.v 6 rfl) (hS.v 4 rfl)), ⟨(V.mkS2 (z := ([1, 1], [2, 2])) (hS.v 2 rfl) (hS.v 0 rfl)), trivial⟩⟩⟩ (by decide) rfl (fun v_61 w_62 hx_63 hS => ?_)
  refine Wx.rd (v := v_61) (rd_assign rfl) rfl ?_
  refine Wx.nil ?_
  have e0_0 : sS = [([1, 2], [2, 1]), ([2, 1], [1, 2]), ([1, 1], [2, 2])] := by rfl
  exact W.ret ⟨v_61, ResIs.one, hS.bel, ⟨v_61, rfl, (by rw [e0_0]; exact ((hS.lend 0 rfl).mv (.less (fun _ h => List.mem_append.2 (.inr h)))))⟩⟩

theorem F45 {O : List (Option Nat)} {w : World} (hO : ∀ b, some b ∈ O → b < w.heap.size) : Calls Try.prog 45 #[] w (Ret w (fun r w' => ∃ rv, r = rv ∧ V (tSl (tP (tSl (tI .i64)) (tSl (tI .i64)))) sT rv O w')) := by
  have hS := St.start w O hO
  refine enterR Try.func45 rfl Try.ntmps45 Try.results45 rfl ?_
  refine W.seq ?_
  refine W.reg ?_
  refine Wx.rd (v := (.slice none 0 0)) (rd_assign rfl) rfl ?_
  refine Wx.nil ?_
  refine W.seq ?_
  refine W.reg ?_
  refine Wx.lit (t := (tI .i64)) (ys := [2, 1]) (vs := [.int .i64 2, .int .i64 1]) elLh_39 hS rfl rfl ⟨(V.mkInt (in_i64 (by omega) (by omega))), ⟨(V.mkInt (in_i64 (by omega) (by omega))), trivial⟩⟩ (by decide) rfl (fun v_1 w_2 hx_3 hS => ?_)
  have hS := hS.freeze 0 rfl
  refine Wx.callF (run_callF Try.call44 rfl) (F44 (hS.v 0 rfl) hS.fb_lt) rfl ?_
  rintro r_5 w_6 hx_7 ⟨_, rfl, hv_8⟩
  have ln_10 := hv_8.len63
  have hS := hS.ext hx_7
  have hS := hS.add hv_8
  refine Wx.lit (t := (tI .i64)) (ys := [2, 1]) (vs := [.int .i64 2, .int .i64 1]) elLh_39 hS rfl rfl ⟨(V.mkInt (in_i64 (by omega) (by omega))), ⟨(V.mkInt (in_i64 (by omega) (by omega))), trivial⟩⟩ (by decide) rfl (fun v_11 w_12 hx_13 hS => ?_)
  have hS := hS.freeze 0 rfl
  refine Wx.callF (run_callF Try.call44 rfl) (F44 (hS.v 0 rfl) hS.fb_lt) rfl ?_
  rintro r_15 w_16 hx_17 ⟨_, rfl, hv_18⟩
  have ln_20 := hv_18.len63
  have hS := hS.ext hx_17
  have hS := hS.add hv_18
  refine Wx.rd (v := .agg #[r_5, r_15]) (rd_buildC (vs := [(0, r_5), (1, r_15)]) (us := [(0, .agg #[r_5]), (1, .agg #[r_15])]) rfl (parts_cons (Go.Wk.cells_one (V.oneC (hS.v 2 rfl))) (parts_cons (Go.Wk.cells_one (V.oneC (hS.v 0 rfl))) parts_nil)) (by kernel_rfl)) rfl ?_
  refine Wx.lit (t := (tI .i64)) (ys := [1, 2]) (vs := [.int .i64 1, .int .i64 2]) elLh_39 hS rfl rfl ⟨(V.mkInt (in_i64 (by omega) (by omega))), ⟨(V.mkInt (in_i64 (by omega) (by omega))), trivial⟩⟩ (by decide) rfl (fun v_21 w_22 hx_23 hS => ?_)
  have hS := hS.freeze 0 rfl
  refine Wx.callF (run_callF Try.call44 rfl) (F44 (hS.v 0 rfl) hS.fb_lt) rfl ?_
  rintro r_25 w_26 hx_27 ⟨_, rfl, hv_28⟩
  have ln_30 := hv_28.len63
  have hS := hS.ext hx_27
  have hS := hS.add hv_28
  refine Wx.lit (t := (tI .i64)) (ys := [1, 2]) (vs := [.int .i64 1, .int .i64 2]) elLh_39 hS rfl rfl ⟨(V.mkInt (in_i64 (by omega) (by omega))), ⟨(V.mkInt (in_i64 (by omega) (by omega))), trivial⟩⟩ (by decide) rfl (fun v_31 w_32 hx_33 hS => ?_)
  have hS := hS.freeze 0 rfl
  refine Wx.callF (run_callF Try.call44 rfl) (F44 (hS.v 0 rfl) hS.fb_lt) rfl ?_
  rintro r_35 w_36 hx_37 ⟨_, rfl, hv_38⟩
  have ln_40 := hv_38.len63
  have hS := hS.ext hx_37
  have hS := hS.add hv_38
  refine Wx.rd (v := .agg #[r_25, r_35]) (rd_buildC (vs := [(0, r_25), (1, r_35)]) (us := [(0, .agg #[r_25]), (1, .agg #[r_35])]) rfl (parts_cons (Go.Wk.cells_one (V.oneC (hS.v 2 rfl))) (parts_cons (Go.Wk.cells_one (V.oneC (hS.v 0 rfl))) parts_nil)) (by kernel_rfl)) rfl ?_
  refine Wx.lit (t := (tP (tSl (tI .i64)) (tSl (tI .i64)))) (ys := [([2, 1], [2, 1]), ([1, 2], [1, 2])]) (vs := [.agg #[r_5, r_15], .agg #[r_25, r_35]]) elLh_22 hS rfl rfl ⟨(V.mkS2 (z := ([2, 1], [2, 1])) (hS.v 6 rfl) (hS.v 4 rfl)), ⟨(V.mkS2 (z := ([1, 2], [1, 2])) (hS.v 2 rfl) (hS.v 0 rfl)), trivial⟩⟩ (by decide) rfl (fun v_41 w_42 hx_43 hS => ?_)
  refine Wx.rd (v := v_41) (rd_assign rfl) rfl ?_
  refine Wx.nil ?_
  have e0_0 : sT = [([2, 1], [2, 1]), ([1, 2], [1, 2])] := by rfl
  exact W.ret ⟨v_41, ResIs.one, hS.bel, ⟨v_41, rfl, (by rw [e0_0]; exact ((hS.lend 0 rfl).mv (.less (fun _ h => List.mem_append.2 (.inr h)))))⟩⟩

end Go.Proofs.Ytjbcpggikaeleaa

namespace Go.Proofs.Ytjbcpggikaeleaa
open Go.Wk Go.RowKit Go.Lib
set_option linter.unusedVariables false
set_option linter.unusedSimpArgs false
theorem mixedKo_ : Try.prog.follows .mixedOrders = true := by kernel_rfl
theorem foKo_93_1 : fldOff Try.prog 93 1 = some 1 := by kernel_rfl

set_option maxHeartbeats 2000000 in
theorem F62 {g : Int} {v : Value} {l : List ((List Int) × (List Int))} {iv : Value} {is : List Int} {O : List (Option Nat)} {w : World} (i_g : InK .i64 g) (h_v : V (tSl (tP (tSl (tI .i64)) (tSl (tI .i64)))) l v O w) (h_iv : V (tSl (tI .i64)) is iv O w) (hO : ∀ b, some b ∈ O → b < w.heap.size) : Calls Try.prog 62 #[.int .i64 g, v, iv] w (Ret w (fun r w' => ∃ mv, r = .tuple #[mv, .int .i64 (openE g l is)] ∧ V (tMk (decide (openE g l is = 0))) l mv O w')) := by
  have b_g := bd_i64 i_g
  have a_v := h_v
  have l_v := h_v.len63
  have a_iv := h_iv
  have l_iv := h_iv.len63
  have hS := St.start w O hO
  refine enterR Try.func62 rfl Try.ntmps62 Try.results62 rfl ?_
  refine W.seq ?_
  refine W.reg ?_
  refine Wx.rd (v := (Go.Value.pointer none)) (rd_assign rfl) rfl ?_
  refine Wx.rd (v := .int .i64 0) (rd_assign rfl) rfl ?_
  refine Wx.nil ?_
  refine W.seq ?_
  refine W.seq ?_
  refine W.reg ?_
  refine Wx.rd (v := .int .i64 g) (rd_move rfl) rfl ?_
  refine Wx.rd (v := v) (rd_move rfl) rfl ?_
  refine Wx.callF (run_callF Try.call25 rfl) (F25 i_g (hS.arg a_v)) rfl ?_
  rintro r_1 w_2 hx_3 rfl
  have hS := hS.ext hx_3
  refine Wx.rd (v := .int .i64 (checkE g l)) (rd_assign rfl) rfl ?_
  refine Wx.nil ?_
  refine W.seq ?_
  refine W.reg ?_
  refine Wx.rd (v := .int .i64 (checkE g l)) (rd_move rfl) rfl ?_
  refine Wx.rd (v := .bool (decide ((checkE g l) ≠ 0))) (rd_neq rfl rfl) rfl ?_
  refine Wx.nil ?_
  refine W.condD rfl (fun c0 => ?_) (fun c0 => ?_)
  · -- yes
    refine W.seq ?_
    refine W.reg ?_
    refine Wx.rd (v := .int .i64 (checkE g l)) (rd_move rfl) rfl ?_
    refine Wx.rd (v := (Go.Value.pointer none)) (rd_assign rfl) rfl ?_
    refine Wx.rd (v := .int .i64 (checkE g l)) (rd_assign rfl) rfl ?_
    refine Wx.nil ?_
    have e0_1 : (openE g l is) = (checkE g l : Int) := by rw [openE, if_neg c0]
    exact W.ret ⟨.tuple #[(Go.Value.pointer none), .int .i64 (checkE g l)], ResIs.two, hS.bel, ⟨(.pointer none), (by rw [e0_1]), (V.mkNo (by rw [openE, if_neg c0]; exact decide_eq_false c0))⟩⟩
  · -- no
    have h0c : checkE g l = 0 := by omega
    have hsok := SalesOK.of h0c
    have hl6 := hsok.1
    obtain ⟨gd, hgd, hok⟩ := hsok.at
    refine W.skip ?_
    refine W.seq ?_
    refine W.seq ?_
    refine W.reg ?_
    refine Wx.rd (v := iv) (rd_move rfl) rfl ?_
    refine Wx.rd (v := .int .i64 (is.length : Int)) (rd_lenV rfl (hS.arg a_iv) Try.underlying39) rfl ?_
    refine Wx.rd (v := .int .i64 0) (rd_move rfl) rfl ?_
    refine Wx.nil ?_
    refine W.block ?_
    refine W.loop [6, 7, 10, 27, 28, 29, 30, 31, 32, 33, 34, 35, 36, 37, 38, 39] (fun (k : Int) => [(27, .int .i64 k)]) (fun (k : Int) w' => St w O w' [] ∧ 0 ≤ k ∧ k ≤ is.length ∧ idxE l.length (is.drop k.toNat) = idxE l.length is) (fun (k : Int) => (is.length - k).toNat) 0 ⟨rfl, trivial⟩ ⟨hS, (by first | omega | simp), (by first | omega | simp), (rfl)⟩ ?_
    rintro k u_5 w_4 ⟨hS, k0, k1, k2⟩
    refine W.seq ?_
    refine W.reg ?_
    refine Wx.rd (v := .bool (decide (k < (is.length : Int)))) (rd_lss rfl rfl) rfl ?_
    refine Wx.nil ?_
    refine W.seq ?_
    refine W.condD rfl (fun c1 => ?_) (fun c1 => ?_)
    · -- yes
      refine W.skip ?_
      refine W.seq ?_
      refine W.block ?_
      refine W.seq ?_
      refine W.reg ?_
      refine Wx.ex (rd_index 0 (hS.arg a_iv) rfl rfl Try.underlying39 Try.sizeOf3 (by first | omega | (simp only [List.length_set, List.length_append, List.length_cons, List.length_nil, List.length_replicate]; omega)) (by first | omega | (simp only [List.length_set, List.length_append, List.length_cons, List.length_nil, List.length_replicate]; omega))) rfl (fun p_6 hp_7 => ?_)
      refine Wx.rd (v := .int .i64 (ix 0 is k)) (rd_loadI hp_7 rfl Try.isAgg3 Try.sizeOf3) rfl ?_
      have bd_8 := bd_i64 hp_7.inK
      refine Wx.rd (v := .int .i64 (ix 0 is k)) (rd_assign rfl) rfl ?_
      refine Wx.nil ?_
      refine W.seq ?_
      refine W.reg ?_
      refine Wx.rd (v := .int .i64 (ix 0 is k)) (rd_move rfl) rfl ?_
      refine Wx.rd (v := .bool (decide ((ix 0 is k) < 0))) (rd_lss rfl rfl) rfl ?_
      refine Wx.rd (v := .bool (decide ((ix 0 is k) < 0))) (rd_move rfl) rfl ?_
      refine Wx.cut (X := Unit) 5 [34, 35, 36, 37, 38] (fun _ => [(38, .bool (decide ((ix 0 is k) < 0) || decide ((l.length : Int) ≤ (ix 0 is k))))]) (fun _ w' => St w O w' []) ?_ ?_
      · rcases Bool.eq_false_or_eq_true (decide ((ix 0 is k) < 0)) with g_9 | g_9
        · -- True
          have gp_10 := of_decide_eq_true g_9
          refine Wx.gnoB rfl rfl (congrArg Value.bool g_9) rfl rfl ?_
          refine Wx.gnoB rfl rfl (congrArg Value.bool g_9) rfl rfl ?_
          refine Wx.gnoB rfl rfl (congrArg Value.bool g_9) rfl rfl ?_
          refine Wx.gnoB rfl rfl (congrArg Value.bool g_9) rfl rfl ?_
          refine Wx.rd (v := .bool true) (rd_pickT (congrArg Value.bool g_9) rfl) rfl ?_
          refine Wx.nil ⟨(), hS, ⟨?_, trivial⟩, Out.look rfl Out.refl⟩
          show Value.bool true = Value.bool (decide ((ix 0 is k) < 0) || decide ((l.length : Int) ≤ (ix 0 is k)))
          first | rw [g_9, Bool.true_or] | (rw [g_9]; rfl)
        · -- False
          have gp_11 := of_decide_eq_false g_9
          refine Wx.gyes rfl rfl (congrArg Value.bool g_9) ?_
          refine Wx.rd (v := .int .i64 (ix 0 is k)) (rd_move rfl) rfl ?_
          refine Wx.gyes rfl rfl (congrArg Value.bool g_9) ?_
          refine Wx.rd (v := v) (rd_move rfl) rfl ?_
          refine Wx.gyes rfl rfl (congrArg Value.bool g_9) ?_
          refine Wx.rd (v := .int .i64 (l.length : Int)) (rd_lenV rfl (hS.arg a_v) Try.underlying22) rfl ?_
          refine Wx.gyes rfl rfl (congrArg Value.bool g_9) ?_
          refine Wx.rd (v := .bool (decide ((l.length : Int) ≤ (ix 0 is k)))) (rd_geq rfl rfl) rfl ?_
          refine Wx.rd (v := .bool (decide ((l.length : Int) ≤ (ix 0 is k)))) (rd_pickF (congrArg Value.bool g_9) rfl) rfl ?_
          refine Wx.nil ⟨(), hS, ⟨?_, trivial⟩, Out.look rfl Out.refl⟩
          show Value.bool (decide ((l.length : Int) ≤ (ix 0 is k))) = Value.bool (decide ((ix 0 is k) < 0) || decide ((l.length : Int) ≤ (ix 0 is k)))
          first | rw [g_9, Bool.false_or] | (rw [g_9]; rfl)
      rintro ⟨⟩ u_13 w_12 hS
      refine Wx.nil ?_
      refine W.cond rfl (fun c2 => ?_) (fun c2 => ?_)
      · -- yes
        try simp only [Bool.and_eq_true, Bool.or_eq_true, Bool.not_eq_true', Bool.and_eq_false_iff, Bool.or_eq_false_iff, Bool.not_eq_false', decide_eq_true_eq, decide_eq_false_iff_not, not_or, Bool.false_eq_true, Bool.true_eq_false, false_or, or_false, not_false_eq_true] at c2
        refine W.seq ?_
        refine W.reg ?_
        refine Wx.rd (v := (Go.Value.pointer none)) (rd_assign rfl) rfl ?_
        refine Wx.rd (v := .int .i64 2) (rd_assign rfl) rfl ?_
        refine Wx.nil ?_
        have e1_1 : (openE g l is) = (2 : Int) := by rw [openE, if_pos h0c]; exact idx_bad k0 c1 (by omega) k2
        exact W.ret ⟨.tuple #[(Go.Value.pointer none), .int .i64 2], ResIs.two, hS.bel, ⟨(.pointer none), (by rw [e1_1]), (V.mkNo (by rw [openE, if_pos h0c, idx_bad k0 c1 (by omega) k2]; rfl))⟩⟩
      · -- no
        try simp only [Bool.and_eq_true, Bool.or_eq_true, Bool.not_eq_true', Bool.and_eq_false_iff, Bool.or_eq_false_iff, Bool.not_eq_false', decide_eq_true_eq, decide_eq_false_iff_not, not_or, Bool.false_eq_true, Bool.true_eq_false, false_or, or_false, not_false_eq_true] at c2
        refine W.skip ?_
        refine W.reg ?_
        refine Wx.rd (v := .int .i64 (k + 1)) (rd_add rfl rfl (in_i64 (by omega) (by omega))) rfl ?_
        refine Wx.rd (v := .int .i64 (k + 1)) (rd_move rfl) rfl ?_
        refine Wx.nil ?_
        refine ⟨k + 1, (by show (is.length - (k + 1)).toNat < (is.length - k).toNat; omega), ?_, ?_, Out.look rfl (Out.hav rfl (Out.look rfl Out.self))⟩
        · exact ⟨hS, (by first | omega | assumption), (by first | omega | assumption), (idx_next k0 c1 (by omega) k2)⟩
        · exact ⟨rfl, trivial⟩
    · -- no
      refine W.exit rfl ?_
      refine W.seq ?_
      refine W.reg ?_
      refine Wx.rd (v := v) (rd_move rfl) rfl ?_
      refine Wx.rd (v := .agg #[v, .bool false, .bool false, .bool false, .bool false, .bool false, .bool false, .bool false, .bool false, .bool false, .bool false, .bool false, .bool false, .bool false, .bool false, .bool false, .bool false, .bool false, .bool false, .bool false, .bool false, .bool false, .bool false, .bool false, .bool false, .bool false, .bool false, .bool false, .bool false, .bool false, .bool false, .bool false, .bool false, .bool false, .bool false, .bool false, .bool false]) (rd_buildC (vs := [(0, v)]) (us := [(0, .agg #[v])]) rfl (parts_cons (Go.Wk.cells_one (V.oneC (hS.arg a_v))) parts_nil) (by kernel_rfl)) rfl ?_
      refine Wx.box (cs := mkC v (fun _ _ => false)) hS rfl rfl rfl (fun g_14 w_15 hx_17 hb_16 hS => ?_)
      refine Wx.rd (v := .pointer (some ⟨g_14, 0, none⟩)) (rd_assign rfl) rfl ?_
      refine Wx.nil ?_
      refine W.seq ?_
      refine W.seq ?_
      refine W.reg ?_
      refine Wx.rd (v := v) (rd_move rfl) rfl ?_
      refine Wx.rd (v := .int .i64 (l.length : Int)) (rd_lenV rfl (hS.arg a_v) Try.underlying22) rfl ?_
      refine Wx.rd (v := .int .i64 0) (rd_move rfl) rfl ?_
      refine Wx.nil ?_
      refine W.block ?_
      have hidx := idx_end (by omega) k2
      have hop : openE g l is = 0 := by rw [openE, if_pos h0c]; exact hidx
      refine W.loop [12, 13, 14, 15, 45, 46, 47, 48, 49, 50, 51, 52, 53, 54, 55, 56, 57, 58, 59, 60, 61, 62, 63, 64, 65, 66, 67, 68] (fun x : Int × Rel => match x with | (a, T) => [(45, .int .i64 a)]) (fun (x : Int × Rel) w' => match x with | (a, T) => St w O w' [.box g_14 93 (mkC v T)] ∧ 0 ≤ a ∧ a ≤ l.length ∧ fillI (gS l) l.length a 0 T) (fun x : Int × Rel => match x with | (a, T) => (l.length - a).toNat) (0, (fun _ _ => false)) ⟨rfl, trivial⟩ ⟨hS, (by first | omega | simp), (by first | omega | simp), (fill_start)⟩ ?_
      rintro ⟨a, T⟩ u_19 w_18 ⟨hS, a0, a1, a2⟩
      refine W.seq ?_
      refine W.reg ?_
      refine Wx.rd (v := .bool (decide (a < (l.length : Int)))) (rd_lss rfl rfl) rfl ?_
      refine Wx.nil ?_
      refine W.seq ?_
      refine W.condD rfl (fun c3 => ?_) (fun c3 => ?_)
      · -- yes
        refine W.skip ?_
        refine W.seq ?_
        refine W.block ?_
        refine W.seq ?_
        refine W.reg ?_
        refine Wx.rd (v := .int .i64 a) (rd_move rfl) rfl ?_
        refine Wx.ex (rd_index ([], []) (hS.arg a_v) rfl rfl Try.underlying22 Try.sizeOf62 (by first | omega | (simp only [List.length_set, List.length_append, List.length_cons, List.length_nil, List.length_replicate]; omega)) (by first | omega | (simp only [List.length_set, List.length_append, List.length_cons, List.length_nil, List.length_replicate]; omega))) rfl (fun p_20 hp_21 => ?_)
        refine Wx.ex (rd_load hp_21 rfl Try.isAgg62 Try.sizeOf62) rfl (fun v_22 hv_23 => ?_)
        obtain ⟨v_24, v_25, rfl, hv_26, hv_27⟩ := hv_23.s2
        have hS := hS.add (hv_26)
        have ln_29 := (hS.v 0 rfl).len63
        have hS := hS.add (V.upF (hv_27))
        have ln_31 := (hS.v 0 rfl).len63
        refine Wx.alloc (cs := [(.slice none 0 0), (.slice none 0 0)]) hS Try.zeroValue62 rfl rfl (fun g_32 w_33 hx_35 hb_34 hS => ?_)
        refine Wx.rd (v := .int .i64 a) (rd_assign rfl) rfl ?_
        refine Wx.storeX (cs' := [v_24, v_25]) (ds := [v_24, v_25]) hS 0 rfl rfl rfl rfl Try.sizeOf62 (Nat.le_of_ble_eq_true rfl) (one_cons (V.oneC (hS.v 2 rfl)) (one_cons (V.oneC (hS.v 1 rfl)) one_nil)) rfl (fun w_36 hz_37 hS => ?_)
        refine Wx.nil ?_
        refine W.seq ?_
        refine W.reg ?_
        refine Wx.rd (v := v) (rd_move rfl) rfl ?_
        refine Wx.rd (v := .int .i64 (l.length : Int)) (rd_lenV rfl (hS.arg a_v) Try.underlying22) rfl ?_
        refine Wx.rd (v := .int .i64 0) (rd_move rfl) rfl ?_
        refine Wx.nil ?_
        refine W.block ?_
        refine W.loop [14, 15, 52, 53, 54, 55, 56, 57, 58, 59, 60, 61, 62, 63, 64, 65, 66, 67] (fun x : Int × Rel => match x with | (b, T2) => [(52, .int .i64 b)]) (fun (x : Int × Rel) w' => match x with | (b, T2) => St w O w' [.box g_32 62 [v_24, v_25], Ob.v (tSl (tI .i64)) ((ix ([], []) l a).2) v_25, Ob.v (tSl (tI .i64)) ((ix ([], []) l a).1) v_24, .box g_14 93 (mkC v T2)] ∧ 0 ≤ b ∧ b ≤ l.length ∧ fillI (gS l) l.length a b T2) (fun x : Int × Rel => match x with | (b, T2) => (l.length - b).toNat) (0, T) ⟨rfl, trivial⟩ ⟨hS, (by first | omega | simp), (by first | omega | simp), (a2)⟩ ?_
        rintro ⟨b, T2⟩ u_39 w_38 ⟨hS, b0, b1, b2⟩
        refine W.seq ?_
        refine W.reg ?_
        refine Wx.rd (v := .bool (decide (b < (l.length : Int)))) (rd_lss rfl rfl) rfl ?_
        refine Wx.nil ?_
        refine W.seq ?_
        refine W.condD rfl (fun c4 => ?_) (fun c4 => ?_)
        · -- yes
          refine W.skip ?_
          refine W.seq ?_
          refine W.block ?_
          refine W.seq ?_
          refine W.reg ?_
          refine Wx.rd (v := .int .i64 b) (rd_move rfl) rfl ?_
          refine Wx.ex (rd_index ([], []) (hS.arg a_v) rfl rfl Try.underlying22 Try.sizeOf62 (by first | omega | (simp only [List.length_set, List.length_append, List.length_cons, List.length_nil, List.length_replicate]; omega)) (by first | omega | (simp only [List.length_set, List.length_append, List.length_cons, List.length_nil, List.length_replicate]; omega))) rfl (fun p_40 hp_41 => ?_)
          refine Wx.ex (rd_load hp_41 rfl Try.isAgg62 Try.sizeOf62) rfl (fun v_42 hv_43 => ?_)
          obtain ⟨v_44, v_45, rfl, hv_46, hv_47⟩ := hv_43.s2
          have hS := hS.add (hv_46)
          have ln_49 := (hS.v 0 rfl).len63
          have hS := hS.add (V.upF (hv_47))
          have ln_51 := (hS.v 0 rfl).len63
          refine Wx.alloc (cs := [(.slice none 0 0), (.slice none 0 0)]) hS Try.zeroValue62 rfl rfl (fun g_52 w_53 hx_55 hb_54 hS => ?_)
          refine Wx.rd (v := .int .i64 b) (rd_assign rfl) rfl ?_
          refine Wx.storeX (cs' := [v_44, v_45]) (ds := [v_44, v_45]) hS 0 rfl rfl rfl rfl Try.sizeOf62 (Nat.le_of_ble_eq_true rfl) (one_cons (V.oneC (hS.v 2 rfl)) (one_cons (V.oneC (hS.v 1 rfl)) one_nil)) rfl (fun w_56 hz_57 hS => ?_)
          refine Wx.nil ?_
          refine W.regT 10 mixedKo_ (by kernel_rfl) ?_
          refine Wx.rd (v := .pointer (some ⟨g_14, 0, none⟩)) (rd_move rfl) rfl ?_
          refine Wx.rd (v := .int .i64 a) (rd_move rfl) rfl ?_
          refine Wx.rd (v := .int .i64 b) (rd_move rfl) rfl ?_
          refine Wx.rd (v := .agg #[v_24, v_25]) (rd_loadXs (ds := [v_24, v_25]) hS 3 rfl rfl rfl rfl Try.isAgg62 Try.sizeOf62) rfl ?_
          refine Wx.rd (v := .agg #[v_44, v_45]) (rd_loadXs (ds := [v_44, v_45]) hS 0 rfl rfl rfl rfl Try.isAgg62 Try.sizeOf62) rfl ?_
          refine Wx.callV (v := .bool (goodS (((ix ([], []) l a).1), ((ix ([], []) l a).2)) (((ix ([], []) l b).1), ((ix ([], []) l b).2)))) (run_callF Try.call67 rfl) (fun w_58 hw_59 => (F67 ((hS.v 5 rfl).ext hw_59) ((hS.v 4 rfl).ext hw_59) ((hS.v 2 rfl).ext hw_59) ((hS.v 1 rfl).ext hw_59) (hok a (by omega) (by omega)).b1 (hok a (by omega) (by omega)).b2 (hok b (by omega) (by omega)).b2 (by have := (hok a (by omega) (by omega)).l1; omega) (by have h1 := (hok a (by omega) (by omega)).l1; have h2 := (hok a (by omega) (by omega)).l2; omega) (by have h1 := (hok a (by omega) (by omega)).l1; have h2 := (hok b (by omega) (by omega)).l2; omega))) rfl ?_
          refine Wx.rd (v := .pointer (some ⟨g_14, 0, none⟩)) (rd_nilCheck rfl rfl) rfl ?_
          refine Wx.rd (v := .pointer (some ⟨g_14, 1, none⟩)) (rd_fieldAddr rfl foKo_93_1) rfl ?_
          refine Wx.rd (v := .pointer (some ⟨g_14, 1 + a.toNat * 6, none⟩)) (rd_indexArr (o := 1) rfl rfl Try.underlying82 Try.sizeOf81 (by omega) (by omega)) rfl ?_
          refine Wx.rd (v := .pointer (some ⟨g_14, 1 + a.toNat * 6 + b.toNat * 1, none⟩)) (rd_indexArr (o := 1 + a.toNat * 6) rfl rfl Try.underlying81 Try.sizeOf4 (by omega) (by omega)) rfl ?_
          refine Wx.nilQ (fun w_60 hx_61 => ?_)
          have hS := hS.ext hx_61
          refine Wx.storeX (cs' := mkC v (updM T2 a b (goodS (((ix ([], []) l a).1), ((ix ([], []) l a).2)) (((ix ([], []) l b).1), ((ix ([], []) l b).2))))) (ds := [.bool (goodS (((ix ([], []) l a).1), ((ix ([], []) l a).2)) (((ix ([], []) l b).1), ((ix ([], []) l b).2)))]) hS 6 rfl rfl rfl rfl Try.sizeOf4 (by rw [mkC_len]; show _ + 1 ≤ 37; omega) (by intro u hu; simp at hu; subst hu; rfl) (mkC_set v T2 (by omega) (by omega) (by omega) (by omega) (goodS (((ix ([], []) l a).1), ((ix ([], []) l a).2)) (((ix ([], []) l b).1), ((ix ([], []) l b).2)))) (fun w_62 hz_63 hS => ?_)
          refine Wx.nil ?_
          refine W.reg ?_
          refine Wx.rd (v := .int .i64 (b + 1)) (rd_add rfl rfl (in_i64 (by omega) (by omega))) rfl ?_
          refine Wx.rd (v := .int .i64 (b + 1)) (rd_move rfl) rfl ?_
          refine Wx.nil ?_
          refine ⟨(b + 1, updM T2 a b (goodS (((ix ([], []) l a).1), ((ix ([], []) l a).2)) (((ix ([], []) l b).1), ((ix ([], []) l b).2)))), (by show (l.length - (b + 1)).toNat < (l.length - b).toNat; omega), ?_, ?_, Out.look rfl Out.self⟩
          · exact ⟨St.tl (St.tl (hS.tl)), (by first | omega | assumption), (by first | omega | assumption), (fill_step b2)⟩
          · exact ⟨rfl, trivial⟩
        · -- no
          refine W.exit rfl ?_
          refine W.reg ?_
          refine Wx.rd (v := .int .i64 (a + 1)) (rd_add rfl rfl (in_i64 (by omega) (by omega))) rfl ?_
          refine Wx.rd (v := .int .i64 (a + 1)) (rd_move rfl) rfl ?_
          refine Wx.nil ?_
          refine ⟨(a + 1, T2), (by show (l.length - (a + 1)).toNat < (l.length - a).toNat; omega), ?_, ?_, Out.look rfl (Out.hav rfl (Out.look rfl Out.self))⟩
          · exact ⟨St.tl (St.tl (hS.tl)), (by first | omega | assumption), (by first | omega | assumption), (fill_row b2 (by omega))⟩
          · exact ⟨rfl, trivial⟩
      · -- no
        refine W.exit rfl ?_
        refine W.seq ?_
        refine W.seq ?_
        refine W.reg ?_
        refine Wx.rd (v := v) (rd_move rfl) rfl ?_
        refine Wx.rd (v := .int .i64 (l.length : Int)) (rd_lenV rfl (hS.arg a_v) Try.underlying22) rfl ?_
        refine Wx.rd (v := .int .i64 0) (rd_move rfl) rfl ?_
        refine Wx.nil ?_
        refine W.block ?_
        refine W.loop [16, 17, 18, 71, 72, 73, 74, 75, 76, 77, 78, 79, 80, 81, 82, 83, 84, 85, 86, 87, 88, 89, 90, 91, 92, 93, 94, 95, 96, 97, 98, 99, 100, 101, 102, 103, 104, 105, 106, 107, 108, 109, 110, 111, 112, 113, 114, 115, 116, 117, 118, 119, 120, 121] (fun x : Int × Rel => match x with | (c, T) => [(71, .int .i64 c)]) (fun (x : Int × Rel) w' => match x with | (c, T) => St w O w' [.box g_14 93 (mkC v T)] ∧ 0 ≤ c ∧ c ≤ l.length ∧ wsI (gS l) l.length c 0 0 T) (fun x : Int × Rel => match x with | (c, T) => (l.length - c).toNat) (0, T) ⟨rfl, trivial⟩ ⟨hS, (by first | omega | simp), (by first | omega | simp), (ws_start a2 (by omega))⟩ ?_
        rintro ⟨c, T⟩ u_65 w_64 ⟨hS, a0, a1, a2⟩
        refine W.seq ?_
        refine W.reg ?_
        refine Wx.rd (v := .bool (decide (c < (l.length : Int)))) (rd_lss rfl rfl) rfl ?_
        refine Wx.nil ?_
        refine W.seq ?_
        refine W.condD rfl (fun c5 => ?_) (fun c5 => ?_)
        · -- yes
          refine W.skip ?_
          refine W.seq ?_
          refine W.block ?_
          refine W.seq ?_
          refine W.reg ?_
          refine Wx.rd (v := .int .i64 c) (rd_move rfl) rfl ?_
          refine Wx.rd (v := .int .i64 c) (rd_assign rfl) rfl ?_
          refine Wx.nil ?_
          refine W.seq ?_
          refine W.reg ?_
          refine Wx.rd (v := v) (rd_move rfl) rfl ?_
          refine Wx.rd (v := .int .i64 (l.length : Int)) (rd_lenV rfl (hS.arg a_v) Try.underlying22) rfl ?_
          refine Wx.rd (v := .int .i64 0) (rd_move rfl) rfl ?_
          refine Wx.nil ?_
          refine W.block ?_
          refine W.loop [17, 18, 76, 77, 78, 79, 80, 81, 82, 83, 84, 85, 86, 87, 88, 89, 90, 91, 92, 93, 94, 95, 96, 97, 98, 99, 100, 101, 102, 103, 104, 105, 106, 107, 108, 109, 110, 111, 112, 113, 114, 115, 116, 117, 118, 119, 120] (fun x : Int × Rel => match x with | (a, T2) => [(76, .int .i64 a)]) (fun (x : Int × Rel) w' => match x with | (a, T2) => St w O w' [.box g_14 93 (mkC v T2)] ∧ 0 ≤ a ∧ a ≤ l.length ∧ wsI (gS l) l.length c a 0 T2) (fun x : Int × Rel => match x with | (a, T2) => (l.length - a).toNat) (0, T) ⟨rfl, trivial⟩ ⟨hS, (by first | omega | simp), (by first | omega | simp), (a2)⟩ ?_
          rintro ⟨a, T2⟩ u_67 w_66 ⟨hS, b0, b1, b2⟩
          refine W.seq ?_
          refine W.reg ?_
          refine Wx.rd (v := .bool (decide (a < (l.length : Int)))) (rd_lss rfl rfl) rfl ?_
          refine Wx.nil ?_
          refine W.seq ?_
          refine W.condD rfl (fun c6 => ?_) (fun c6 => ?_)
          · -- yes
            refine W.skip ?_
            refine W.seq ?_
            refine W.block ?_
            refine W.seq ?_
            refine W.reg ?_
            refine Wx.rd (v := .int .i64 a) (rd_move rfl) rfl ?_
            refine Wx.rd (v := .int .i64 a) (rd_assign rfl) rfl ?_
            refine Wx.nil ?_
            refine W.seq ?_
            refine W.reg ?_
            refine Wx.rd (v := v) (rd_move rfl) rfl ?_
            refine Wx.rd (v := .int .i64 (l.length : Int)) (rd_lenV rfl (hS.arg a_v) Try.underlying22) rfl ?_
            refine Wx.rd (v := .int .i64 0) (rd_move rfl) rfl ?_
            refine Wx.nil ?_
            refine W.block ?_
            refine W.loop [18, 81, 82, 83, 84, 85, 86, 87, 88, 89, 90, 91, 92, 93, 94, 95, 96, 97, 98, 99, 100, 101, 102, 103, 104, 105, 106, 107, 108, 109, 110, 111, 112, 113, 114, 115, 116, 117, 118, 119] (fun x : Int × Rel => match x with | (b, T3) => [(81, .int .i64 b)]) (fun (x : Int × Rel) w' => match x with | (b, T3) => St w O w' [.box g_14 93 (mkC v T3)] ∧ 0 ≤ b ∧ b ≤ l.length ∧ wsI (gS l) l.length c a b T3) (fun x : Int × Rel => match x with | (b, T3) => (l.length - b).toNat) (0, T2) ⟨rfl, trivial⟩ ⟨hS, (by first | omega | simp), (by first | omega | simp), (b2)⟩ ?_
            rintro ⟨b, T3⟩ u_69 w_68 ⟨hS, d0, d1, d2⟩
            refine W.seq ?_
            refine W.reg ?_
            refine Wx.rd (v := .bool (decide (b < (l.length : Int)))) (rd_lss rfl rfl) rfl ?_
            refine Wx.nil ?_
            refine W.seq ?_
            refine W.condD rfl (fun c7 => ?_) (fun c7 => ?_)
            · -- yes
              refine W.skip ?_
              refine W.seq ?_
              refine W.block ?_
              refine W.seq ?_
              refine W.reg ?_
              refine Wx.rd (v := .int .i64 b) (rd_move rfl) rfl ?_
              refine Wx.rd (v := .int .i64 b) (rd_assign rfl) rfl ?_
              refine Wx.nil ?_
              refine W.regT 35 mixedKo_ (by kernel_rfl) ?_
              refine Wx.rd (v := .pointer (some ⟨g_14, 0, none⟩)) (rd_move rfl) rfl ?_
              refine Wx.rd (v := .int .i64 a) (rd_move rfl) rfl ?_
              refine Wx.rd (v := .int .i64 b) (rd_move rfl) rfl ?_
              refine Wx.rd (v := .pointer (some ⟨g_14, 0, none⟩)) (rd_move rfl) rfl ?_
              refine Wx.rd (v := .int .i64 a) (rd_move rfl) rfl ?_
              refine Wx.rd (v := .int .i64 b) (rd_move rfl) rfl ?_
              refine Wx.rd (v := .pointer (some ⟨g_14, 0, none⟩)) (rd_nilCheck rfl rfl) rfl ?_
              refine Wx.rd (v := .pointer (some ⟨g_14, 1, none⟩)) (rd_fieldAddr rfl foKo_93_1) rfl ?_
              refine Wx.rd (v := .pointer (some ⟨g_14, 1 + a.toNat * 6, none⟩)) (rd_indexArr (o := 1) rfl rfl Try.underlying82 Try.sizeOf81 (by omega) (by omega)) rfl ?_
              refine Wx.rd (v := .pointer (some ⟨g_14, 1 + a.toNat * 6 + b.toNat * 1, none⟩)) (rd_indexArr (o := 1 + a.toNat * 6) rfl rfl Try.underlying81 Try.sizeOf4 (by omega) (by omega)) rfl ?_
              refine Wx.rd (v := .bool (T3 a b)) (rd_mkO hS 0 rfl rfl (by omega) (by omega) (by omega) (by omega) Try.isAgg4) rfl ?_
              refine Wx.rd (v := .bool (T3 a b)) (rd_move rfl) rfl ?_
              refine Wx.cutQ (X := Unit) 19 [96, 97, 98, 99, 100, 101, 102, 103, 104, 105, 106, 107, 108, 109, 110, 111, 112, 113, 114] (fun _ => [(114, .bool (T3 a b || (T3 a c && T3 c b)))]) (fun _ => True) ?_ ?_
              · rcases Bool.eq_false_or_eq_true (T3 a b) with g_70 | g_70
                · -- True
                  have gp_71 := g_70
                  try simp only [Bool.and_eq_true, Bool.or_eq_true, Bool.not_eq_true', Bool.and_eq_false_iff, Bool.or_eq_false_iff, Bool.not_eq_false', decide_eq_true_eq, decide_eq_false_iff_not, not_or, Bool.false_eq_true, Bool.true_eq_false, false_or, or_false, not_false_eq_true] at gp_71
                  refine Wx.gnoB rfl rfl (congrArg Value.bool g_70) rfl rfl ?_
                  refine Wx.gnoB rfl rfl (congrArg Value.bool g_70) rfl rfl ?_
                  refine Wx.gnoB rfl rfl (congrArg Value.bool g_70) rfl rfl ?_
                  refine Wx.gnoB rfl rfl (congrArg Value.bool g_70) rfl rfl ?_
                  refine Wx.gnoB rfl rfl (congrArg Value.bool g_70) rfl rfl ?_
                  refine Wx.gnoB rfl rfl (congrArg Value.bool g_70) rfl rfl ?_
                  refine Wx.gnoB rfl rfl (congrArg Value.bool g_70) rfl rfl ?_
                  refine Wx.gnoB rfl rfl (congrArg Value.bool g_70) rfl rfl ?_
                  refine Wx.gnoB rfl rfl (congrArg Value.bool g_70) rfl rfl ?_
                  refine Wx.gno rfl rfl rfl rfl ?_
                  refine Wx.gno rfl rfl rfl rfl ?_
                  refine Wx.gno rfl rfl rfl rfl ?_
                  refine Wx.gno rfl rfl rfl rfl ?_
                  refine Wx.gno rfl rfl rfl rfl ?_
                  refine Wx.gno rfl rfl rfl rfl ?_
                  refine Wx.gno rfl rfl rfl rfl ?_
                  refine Wx.gno rfl rfl rfl rfl ?_
                  refine Wx.gnoB rfl rfl (congrArg Value.bool g_70) rfl rfl ?_
                  refine Wx.rd (v := .bool true) (rd_pickT (congrArg Value.bool g_70) rfl) rfl ?_
                  refine Wx.nilQ (fun _ _ => ⟨(), trivial, ⟨?_, trivial⟩, Out.look rfl Out.refl⟩)
                  show Value.bool true = Value.bool (T3 a b || (T3 a c && T3 c b))
                  first | rw [g_70, Bool.true_or] | (rw [g_70]; rfl)
                · -- False
                  have gp_72 := g_70
                  try simp only [Bool.and_eq_true, Bool.or_eq_true, Bool.not_eq_true', Bool.and_eq_false_iff, Bool.or_eq_false_iff, Bool.not_eq_false', decide_eq_true_eq, decide_eq_false_iff_not, not_or, Bool.false_eq_true, Bool.true_eq_false, false_or, or_false, not_false_eq_true] at gp_72
                  refine Wx.gyes rfl rfl (congrArg Value.bool g_70) ?_
                  refine Wx.rd (v := .pointer (some ⟨g_14, 0, none⟩)) (rd_move rfl) rfl ?_
                  refine Wx.gyes rfl rfl (congrArg Value.bool g_70) ?_
                  refine Wx.rd (v := .int .i64 a) (rd_move rfl) rfl ?_
                  refine Wx.gyes rfl rfl (congrArg Value.bool g_70) ?_
                  refine Wx.rd (v := .int .i64 c) (rd_move rfl) rfl ?_
                  refine Wx.gyes rfl rfl (congrArg Value.bool g_70) ?_
                  refine Wx.rd (v := .pointer (some ⟨g_14, 0, none⟩)) (rd_nilCheck rfl rfl) rfl ?_
                  refine Wx.gyes rfl rfl (congrArg Value.bool g_70) ?_
                  refine Wx.rd (v := .pointer (some ⟨g_14, 1, none⟩)) (rd_fieldAddr rfl foKo_93_1) rfl ?_
                  refine Wx.gyes rfl rfl (congrArg Value.bool g_70) ?_
                  refine Wx.rd (v := .pointer (some ⟨g_14, 1 + a.toNat * 6, none⟩)) (rd_indexArr (o := 1) rfl rfl Try.underlying82 Try.sizeOf81 (by omega) (by omega)) rfl ?_
                  refine Wx.gyes rfl rfl (congrArg Value.bool g_70) ?_
                  refine Wx.rd (v := .pointer (some ⟨g_14, 1 + a.toNat * 6 + c.toNat * 1, none⟩)) (rd_indexArr (o := 1 + a.toNat * 6) rfl rfl Try.underlying81 Try.sizeOf4 (by omega) (by omega)) rfl ?_
                  refine Wx.gyes rfl rfl (congrArg Value.bool g_70) ?_
                  refine Wx.rd (v := .bool (T3 a c)) (rd_mkO hS 0 rfl rfl (by omega) (by omega) (by omega) (by omega) Try.isAgg4) rfl ?_
                  refine Wx.gyes rfl rfl (congrArg Value.bool g_70) ?_
                  refine Wx.rd (v := .bool (T3 a c)) (rd_move rfl) rfl ?_
                  refine Wx.cutQ (X := Unit) 9 [105, 106, 107, 108, 109, 110, 111, 112, 113] (fun _ => [(113, .bool (T3 a c && T3 c b))]) (fun _ => True) ?_ ?_
                  · rcases Bool.eq_false_or_eq_true (T3 a c) with g_73 | g_73
                    · -- True
                      have gp_74 := g_73
                      try simp only [Bool.and_eq_true, Bool.or_eq_true, Bool.not_eq_true', Bool.and_eq_false_iff, Bool.or_eq_false_iff, Bool.not_eq_false', decide_eq_true_eq, decide_eq_false_iff_not, not_or, Bool.false_eq_true, Bool.true_eq_false, false_or, or_false, not_false_eq_true] at gp_74
                      refine Wx.gyes rfl rfl (congrArg Value.bool g_73) ?_
                      refine Wx.rd (v := .pointer (some ⟨g_14, 0, none⟩)) (rd_move rfl) rfl ?_
                      refine Wx.gyes rfl rfl (congrArg Value.bool g_73) ?_
                      refine Wx.rd (v := .int .i64 c) (rd_move rfl) rfl ?_
                      refine Wx.gyes rfl rfl (congrArg Value.bool g_73) ?_
                      refine Wx.rd (v := .int .i64 b) (rd_move rfl) rfl ?_
                      refine Wx.gyes rfl rfl (congrArg Value.bool g_73) ?_
                      refine Wx.rd (v := .pointer (some ⟨g_14, 0, none⟩)) (rd_nilCheck rfl rfl) rfl ?_
                      refine Wx.gyes rfl rfl (congrArg Value.bool g_73) ?_
                      refine Wx.rd (v := .pointer (some ⟨g_14, 1, none⟩)) (rd_fieldAddr rfl foKo_93_1) rfl ?_
                      refine Wx.gyes rfl rfl (congrArg Value.bool g_73) ?_
                      refine Wx.rd (v := .pointer (some ⟨g_14, 1 + c.toNat * 6, none⟩)) (rd_indexArr (o := 1) rfl rfl Try.underlying82 Try.sizeOf81 (by omega) (by omega)) rfl ?_
                      refine Wx.gyes rfl rfl (congrArg Value.bool g_73) ?_
                      refine Wx.rd (v := .pointer (some ⟨g_14, 1 + c.toNat * 6 + b.toNat * 1, none⟩)) (rd_indexArr (o := 1 + c.toNat * 6) rfl rfl Try.underlying81 Try.sizeOf4 (by omega) (by omega)) rfl ?_
                      refine Wx.gyes rfl rfl (congrArg Value.bool g_73) ?_
                      refine Wx.rd (v := .bool (T3 c b)) (rd_mkO hS 0 rfl rfl (by omega) (by omega) (by omega) (by omega) Try.isAgg4) rfl ?_
                      refine Wx.gyes rfl rfl (congrArg Value.bool g_70) ?_
                      refine Wx.rd (v := .bool (T3 c b)) (rd_pickT (congrArg Value.bool g_73) rfl) rfl ?_
                      refine Wx.nilQ (fun _ _ => ⟨(), trivial, ⟨?_, trivial⟩, Out.look rfl Out.refl⟩)
                      show Value.bool (T3 c b) = Value.bool (T3 a c && T3 c b)
                      first | rw [g_73, Bool.true_and] | (rw [g_73]; rfl)
                    · -- False
                      have gp_75 := g_73
                      try simp only [Bool.and_eq_true, Bool.or_eq_true, Bool.not_eq_true', Bool.and_eq_false_iff, Bool.or_eq_false_iff, Bool.not_eq_false', decide_eq_true_eq, decide_eq_false_iff_not, not_or, Bool.false_eq_true, Bool.true_eq_false, false_or, or_false, not_false_eq_true] at gp_75
                      refine Wx.gnoB rfl rfl (congrArg Value.bool g_73) rfl rfl ?_
                      refine Wx.gnoB rfl rfl (congrArg Value.bool g_73) rfl rfl ?_
                      refine Wx.gnoB rfl rfl (congrArg Value.bool g_73) rfl rfl ?_
                      refine Wx.gnoB rfl rfl (congrArg Value.bool g_73) rfl rfl ?_
                      refine Wx.gnoB rfl rfl (congrArg Value.bool g_73) rfl rfl ?_
                      refine Wx.gnoB rfl rfl (congrArg Value.bool g_73) rfl rfl ?_
                      refine Wx.gnoB rfl rfl (congrArg Value.bool g_73) rfl rfl ?_
                      refine Wx.gnoB rfl rfl (congrArg Value.bool g_73) rfl rfl ?_
                      refine Wx.gyes rfl rfl (congrArg Value.bool g_70) ?_
                      refine Wx.rd (v := .bool false) (rd_pickF (congrArg Value.bool g_73) rfl) rfl ?_
                      refine Wx.nilQ (fun _ _ => ⟨(), trivial, ⟨?_, trivial⟩, Out.look rfl Out.refl⟩)
                      show Value.bool false = Value.bool (T3 a c && T3 c b)
                      first | rw [g_73, Bool.false_and] | (rw [g_73]; rfl)
                  rintro ⟨⟩ u_77 -
                  refine Wx.rd (v := .bool (T3 a c && T3 c b)) (rd_pickF (congrArg Value.bool g_70) rfl) rfl ?_
                  refine Wx.nilQ (fun _ _ => ⟨(), trivial, ⟨?_, trivial⟩, Out.look rfl (Out.hav rfl (Out.look rfl Out.refl))⟩)
                  show Value.bool (T3 a c && T3 c b) = Value.bool (T3 a b || (T3 a c && T3 c b))
                  first | rw [g_70, Bool.false_or] | (rw [g_70]; rfl)
              rintro ⟨⟩ u_79 -
              refine Wx.rd (v := .pointer (some ⟨g_14, 0, none⟩)) (rd_nilCheck rfl rfl) rfl ?_
              refine Wx.rd (v := .pointer (some ⟨g_14, 1, none⟩)) (rd_fieldAddr rfl foKo_93_1) rfl ?_
              refine Wx.rd (v := .pointer (some ⟨g_14, 1 + a.toNat * 6, none⟩)) (rd_indexArr (o := 1) rfl rfl Try.underlying82 Try.sizeOf81 (by omega) (by omega)) rfl ?_
              refine Wx.rd (v := .pointer (some ⟨g_14, 1 + a.toNat * 6 + b.toNat * 1, none⟩)) (rd_indexArr (o := 1 + a.toNat * 6) rfl rfl Try.underlying81 Try.sizeOf4 (by omega) (by omega)) rfl ?_
              refine Wx.nilQ (fun w_80 hx_81 => ?_)
              have hS := hS.ext hx_81
              refine Wx.storeX (cs' := mkC v (updM T3 a b (T3 a b || (T3 a c && T3 c b)))) (ds := [.bool (T3 a b || (T3 a c && T3 c b))]) hS 0 rfl rfl rfl rfl Try.sizeOf4 (by rw [mkC_len]; show _ + 1 ≤ 37; omega) (by intro u hu; simp at hu; subst hu; rfl) (mkC_set v T3 (by omega) (by omega) (by omega) (by omega) (T3 a b || (T3 a c && T3 c b))) (fun w_82 hz_83 hS => ?_)
              refine Wx.nil ?_
              refine W.reg ?_
              refine Wx.rd (v := .int .i64 (b + 1)) (rd_add rfl rfl (in_i64 (by omega) (by omega))) rfl ?_
              refine Wx.rd (v := .int .i64 (b + 1)) (rd_move rfl) rfl ?_
              refine Wx.nil ?_
              refine ⟨(b + 1, updM T3 a b (T3 a b || (T3 a c && T3 c b))), (by show (l.length - (b + 1)).toNat < (l.length - b).toNat; omega), ?_, ?_, Out.look rfl (Out.hav rfl (Out.look rfl Out.self))⟩
              · exact ⟨hS, (by first | omega | assumption), (by first | omega | assumption), (ws_step d2 (by omega) (by omega) (by omega))⟩
              · exact ⟨rfl, trivial⟩
            · -- no
              refine W.exit rfl ?_
              refine W.reg ?_
              refine Wx.rd (v := .int .i64 (a + 1)) (rd_add rfl rfl (in_i64 (by omega) (by omega))) rfl ?_
              refine Wx.rd (v := .int .i64 (a + 1)) (rd_move rfl) rfl ?_
              refine Wx.nil ?_
              refine ⟨(a + 1, T3), (by show (l.length - (a + 1)).toNat < (l.length - a).toNat; omega), ?_, ?_, Out.look rfl (Out.hav rfl (Out.look rfl Out.self))⟩
              · exact ⟨hS, (by first | omega | assumption), (by first | omega | assumption), (ws_row d2 (by omega))⟩
              · exact ⟨rfl, trivial⟩
          · -- no
            refine W.exit rfl ?_
            refine W.reg ?_
            refine Wx.rd (v := .int .i64 (c + 1)) (rd_add rfl rfl (in_i64 (by omega) (by omega))) rfl ?_
            refine Wx.rd (v := .int .i64 (c + 1)) (rd_move rfl) rfl ?_
            refine Wx.nil ?_
            refine ⟨(c + 1, T2), (by show (l.length - (c + 1)).toNat < (l.length - c).toNat; omega), ?_, ?_, Out.look rfl (Out.hav rfl (Out.look rfl Out.self))⟩
            · exact ⟨hS, (by first | omega | assumption), (by first | omega | assumption), (ws_next b2 (by omega))⟩
            · exact ⟨rfl, trivial⟩
        · -- no
          refine W.exit rfl ?_
          refine W.seq ?_
          refine W.reg ?_
          refine Wx.rd (v := .pointer (some ⟨g_14, 0, none⟩)) (rd_move rfl) rfl ?_
          refine Wx.rd (v := .pointer (some ⟨g_14, 0, none⟩)) (rd_assign rfl) rfl ?_
          refine Wx.rd (v := .int .i64 0) (rd_assign rfl) rfl ?_
          refine Wx.nil ?_
          have e2_1 : (openE g l is) = (0 : Int) := by exact hop
          exact W.ret ⟨.tuple #[.pointer (some ⟨g_14, 0, none⟩), .int .i64 0], ResIs.two, hS.bel, ⟨(.pointer (some ⟨g_14, 0, none⟩)), (by rw [e2_1]), (V.mkYes (St.mk hS 0 rfl (hS.arg a_v) hsok (ws_led a2 (by omega))))⟩⟩
end Go.Proofs.Ytjbcpggikaeleaa

namespace Go.Proofs.Ytjbcpggikaeleaa
open Go.Wk Go.RowKit Go.Lib
set_option linter.unusedVariables false
set_option linter.unusedSimpArgs false
theorem elKp_31 : ElemI Try.prog 31 59 (.agg #[.int .i64 0, .int .i64 0]) 2 16 := ElemI.of Try.underlying31 (by kernel_rfl) (by first | rfl | kernel_rfl) (by decide)
theorem elKp_39 : ElemI Try.prog 39 3 (.int .i64 0) 1 8 := ElemI.of Try.underlying39 (by kernel_rfl) (by first | rfl | kernel_rfl) (by decide)
theorem mixedKp_ : Try.prog.follows .mixedOrders = true := by kernel_rfl
theorem foKp_93_0 : fldOff Try.prog 93 0 = some 0 := by kernel_rfl

set_option maxHeartbeats 1000000 in
theorem F66Shows {g : Int} {v : Value} {l : List ((List Int) × (List Int))} {O : List (Option Nat)} {w : World} (i_g : InK .i64 g) (h_v : V (tSl (tP (tSl (tI .i64)) (tSl (tI .i64)))) l v O w) (hO : ∀ b, some b ∈ O → b < w.heap.size) : Calls Try.prog 66 #[.int .i64 g, v, .func (.func 67) #[] #[]] w (Ret w (fun r w' => ∃ rv, r = .tuple #[rv, .int .i64 (checkE g l)] ∧ Fresh (tP (tI .i64) (tI .i64)) 59 (pairsE (gS l) g l) rv w.heap.size w')) := by
  have b_g := bd_i64 i_g
  have a_v := h_v
  have l_v := h_v.len63
  have hS := St.start w O hO
  refine enterR Try.func66 rfl Try.ntmps66 Try.results66 rfl ?_
  refine W.seq ?_
  refine W.reg ?_
  refine Wx.rd (v := (.slice none 0 0)) (rd_assign rfl) rfl ?_
  refine Wx.rd (v := .int .i64 0) (rd_assign rfl) rfl ?_
  refine Wx.nil ?_
  refine W.seq ?_
  refine W.seq ?_
  refine W.reg ?_
  refine Wx.rd (v := .int .i64 g) (rd_move rfl) rfl ?_
  refine Wx.rd (v := v) (rd_move rfl) rfl ?_
  refine Wx.callF (run_callF Try.call25 rfl) (F25 i_g (hS.arg a_v)) rfl ?_
  rintro r_1 w_2 hx_3 rfl
  have hS := hS.ext hx_3
  refine Wx.rd (v := .int .i64 (checkE g l)) (rd_assign rfl) rfl ?_
  refine Wx.nil ?_
  refine W.seq ?_
  refine W.reg ?_
  refine Wx.rd (v := .int .i64 (checkE g l)) (rd_move rfl) rfl ?_
  refine Wx.rd (v := .bool (decide ((checkE g l) ≠ 0))) (rd_neq rfl rfl) rfl ?_
  refine Wx.nil ?_
  refine W.condD rfl (fun c0 => ?_) (fun c0 => ?_)
  · -- yes
    refine W.seq ?_
    refine W.reg ?_
    refine Wx.rd (v := .int .i64 (checkE g l)) (rd_move rfl) rfl ?_
    refine Wx.rd (v := (.slice none 0 0)) (rd_assign rfl) rfl ?_
    refine Wx.rd (v := .int .i64 (checkE g l)) (rd_assign rfl) rfl ?_
    refine Wx.nil ?_
    have e0_0 : pairsE (gS l) g l = [] := by rw [pairsE, if_neg c0]
    exact W.ret ⟨.tuple #[(.slice none 0 0), .int .i64 (checkE g l)], ResIs.two, hS.bel, ⟨(.slice none 0 0), rfl, (by rw [e0_0]; exact ((hS.addNil (tP (tI .i64) (tI .i64)) 59).fr 0 rfl flat_i2))⟩⟩
  · -- no
    have h0c : checkE g l = 0 := by omega
    have hsok := SalesOK.of h0c
    have hl6 := hsok.1
    obtain ⟨gd, hgd, hok⟩ := hsok.at
    refine W.skip ?_
    refine W.seq ?_
    refine W.reg ?_
    refine Wx.rd (v := (.slice none 0 0)) (rd_assign rfl) rfl ?_
    refine Wx.nil ?_
    refine W.seq ?_
    refine W.seq ?_
    refine W.reg ?_
    refine Wx.rd (v := v) (rd_move rfl) rfl ?_
    refine Wx.rd (v := .int .i64 (l.length : Int)) (rd_lenV rfl (hS.arg a_v) Try.underlying22) rfl ?_
    refine Wx.rd (v := .int .i64 0) (rd_move rfl) rfl ?_
    refine Wx.nil ?_
    refine W.block ?_
    have hS := hS.addNil (tP (tI .i64) (tI .i64)) 59
    refine W.loop [9, 10, 11, 12, 13, 22, 23, 24, 25, 26, 27, 28, 29, 30, 31, 32, 33, 34, 35, 36, 37, 38, 39, 40, 41, 42, 43, 44, 45, 46, 47, 48, 49, 50] (fun x : Int × Value × (List (Int × Int)) => match x with | (a, ov, out) => [(22, .int .i64 a), (9, ov)]) (fun (x : Int × Value × (List (Int × Int))) w' => match x with | (a, ov, out) => St w O w' [.row (tP (tI .i64) (tI .i64)) 59 ov out] ∧ 0 ≤ a ∧ a ≤ l.length ∧ out ++ pairsR (gS l) l.length (rng a l.length) = pairsV (gS l) l.length ∧ (out.length : Int) ≤ 6 * a) (fun x : Int × Value × (List (Int × Int)) => match x with | (a, ov, out) => (l.length - a).toNat) (0, (.slice none 0 0), []) ⟨rfl, rfl, trivial⟩ ⟨hS, (by first | omega | simp), (by first | omega | simp), (rfl), (by decide)⟩ ?_
    rintro ⟨a, ov, out⟩ u_5 w_4 ⟨hS, h0, h1, h2, h3⟩
    refine W.seq ?_
    refine W.reg ?_
    refine Wx.rd (v := .bool (decide (a < (l.length : Int)))) (rd_lss rfl rfl) rfl ?_
    refine Wx.nil ?_
    refine W.seq ?_
    refine W.condD rfl (fun c1 => ?_) (fun c1 => ?_)
    · -- yes
      refine W.skip ?_
      refine W.seq ?_
      refine W.block ?_
      refine W.seq ?_
      refine W.reg ?_
      refine Wx.rd (v := .int .i64 a) (rd_move rfl) rfl ?_
      refine Wx.ex (rd_index ([], []) (hS.arg a_v) rfl rfl Try.underlying22 Try.sizeOf62 (by first | omega | (simp only [List.length_set, List.length_append, List.length_cons, List.length_nil, List.length_replicate]; omega)) (by first | omega | (simp only [List.length_set, List.length_append, List.length_cons, List.length_nil, List.length_replicate]; omega))) rfl (fun p_6 hp_7 => ?_)
      refine Wx.ex (rd_load hp_7 rfl Try.isAgg62 Try.sizeOf62) rfl (fun v_8 hv_9 => ?_)
      obtain ⟨v_10, v_11, rfl, hv_12, hv_13⟩ := hv_9.s2
      have hS := hS.add (hv_12)
      have ln_15 := (hS.v 0 rfl).len63
      have hS := hS.add (V.upF (hv_13))
      have ln_17 := (hS.v 0 rfl).len63
      refine Wx.alloc (cs := [(.slice none 0 0), (.slice none 0 0)]) hS Try.zeroValue62 rfl rfl (fun g_18 w_19 hx_21 hb_20 hS => ?_)
      refine Wx.rd (v := .int .i64 a) (rd_assign rfl) rfl ?_
      refine Wx.storeX (cs' := [v_10, v_11]) (ds := [v_10, v_11]) hS 0 rfl rfl rfl rfl Try.sizeOf62 (Nat.le_of_ble_eq_true rfl) (one_cons (V.oneC (hS.v 2 rfl)) (one_cons (V.oneC (hS.v 1 rfl)) one_nil)) rfl (fun w_22 hz_23 hS => ?_)
      refine Wx.nil ?_
      refine W.seq ?_
      refine W.reg ?_
      refine Wx.rd (v := v) (rd_move rfl) rfl ?_
      refine Wx.rd (v := .int .i64 (l.length : Int)) (rd_lenV rfl (hS.arg a_v) Try.underlying22) rfl ?_
      refine Wx.rd (v := .int .i64 0) (rd_move rfl) rfl ?_
      refine Wx.nil ?_
      refine W.block ?_
      refine W.loop [9, 12, 13, 29, 30, 31, 32, 33, 34, 35, 36, 37, 38, 39, 40, 41, 42, 43, 44, 45, 46, 47, 48, 49] (fun x : Int × Value × (List (Int × Int)) => match x with | (b, ov2, out2) => [(29, .int .i64 b), (9, ov2)]) (fun (x : Int × Value × (List (Int × Int))) w' => match x with | (b, ov2, out2) => St w O w' [.box g_18 62 [v_10, v_11], Ob.v (tSl (tI .i64)) ((ix ([], []) l a).2) v_11, Ob.v (tSl (tI .i64)) ((ix ([], []) l a).1) v_10, .row (tP (tI .i64) (tI .i64)) 59 ov2 out2] ∧ 0 ≤ b ∧ b ≤ l.length ∧ out2 ++ (pairR (gS l) a (rng b l.length) ++ pairsR (gS l) l.length (rng (a + 1) l.length)) = pairsV (gS l) l.length ∧ (out2.length : Int) ≤ 6 * a + b) (fun x : Int × Value × (List (Int × Int)) => match x with | (b, ov2, out2) => (l.length - b).toNat) (0, ov, out) ⟨rfl, rfl, trivial⟩ ⟨hS, (by first | omega | simp), (by first | omega | simp), (by rw [← h2, pairsR_next c1]), (by first | omega | simp)⟩ ?_
      rintro ⟨b, ov2, out2⟩ u_25 w_24 ⟨hS, g0, g1, g2, g3⟩
      refine W.seq ?_
      refine W.reg ?_
      refine Wx.rd (v := .bool (decide (b < (l.length : Int)))) (rd_lss rfl rfl) rfl ?_
      refine Wx.nil ?_
      refine W.seq ?_
      refine W.condD rfl (fun c2 => ?_) (fun c2 => ?_)
      · -- yes
        refine W.skip ?_
        refine W.seq ?_
        refine W.block ?_
        refine W.seq ?_
        refine W.reg ?_
        refine Wx.rd (v := .int .i64 b) (rd_move rfl) rfl ?_
        refine Wx.ex (rd_index ([], []) (hS.arg a_v) rfl rfl Try.underlying22 Try.sizeOf62 (by first | omega | (simp only [List.length_set, List.length_append, List.length_cons, List.length_nil, List.length_replicate]; omega)) (by first | omega | (simp only [List.length_set, List.length_append, List.length_cons, List.length_nil, List.length_replicate]; omega))) rfl (fun p_26 hp_27 => ?_)
        refine Wx.ex (rd_load hp_27 rfl Try.isAgg62 Try.sizeOf62) rfl (fun v_28 hv_29 => ?_)
        obtain ⟨v_30, v_31, rfl, hv_32, hv_33⟩ := hv_29.s2
        have hS := hS.add (hv_32)
        have ln_35 := (hS.v 0 rfl).len63
        have hS := hS.add (V.upF (hv_33))
        have ln_37 := (hS.v 0 rfl).len63
        refine Wx.alloc (cs := [(.slice none 0 0), (.slice none 0 0)]) hS Try.zeroValue62 rfl rfl (fun g_38 w_39 hx_41 hb_40 hS => ?_)
        refine Wx.rd (v := .int .i64 b) (rd_assign rfl) rfl ?_
        refine Wx.storeX (cs' := [v_30, v_31]) (ds := [v_30, v_31]) hS 0 rfl rfl rfl rfl Try.sizeOf62 (Nat.le_of_ble_eq_true rfl) (one_cons (V.oneC (hS.v 2 rfl)) (one_cons (V.oneC (hS.v 1 rfl)) one_nil)) rfl (fun w_42 hz_43 hS => ?_)
        refine Wx.nil ?_
        refine W.seq ?_
        refine W.reg ?_
        refine Wx.rd (v := .int .i64 a) (rd_move rfl) rfl ?_
        refine Wx.rd (v := .int .i64 b) (rd_move rfl) rfl ?_
        refine Wx.rd (v := .bool (decide (a ≠ b))) (rd_neq rfl rfl) rfl ?_
        refine Wx.rd (v := .bool (decide (a ≠ b))) (rd_move rfl) rfl ?_
        refine Wx.cut (X := Unit) 5 [38, 39, 40, 41, 42] (fun _ => [(42, .bool (decide (a ≠ b) && goodS (((ix ([], []) l a).1), ((ix ([], []) l a).2)) (((ix ([], []) l b).1), ((ix ([], []) l b).2))))]) (fun _ w' => St w O w' [.box g_38 62 [v_30, v_31], Ob.v (tSl (tI .i64)) ((ix ([], []) l b).2) v_31, Ob.v (tSl (tI .i64)) ((ix ([], []) l b).1) v_30, .box g_18 62 [v_10, v_11], Ob.v (tSl (tI .i64)) ((ix ([], []) l a).2) v_11, Ob.v (tSl (tI .i64)) ((ix ([], []) l a).1) v_10, .row (tP (tI .i64) (tI .i64)) 59 ov2 out2]) ?_ ?_
        · rcases Bool.eq_false_or_eq_true (decide (a ≠ b)) with g_44 | g_44
          · -- True
            have gp_45 := of_decide_eq_true g_44
            refine Wx.gyes rfl rfl (congrArg Value.bool g_44) ?_
            refine Wx.rd (v := .func (.func 67) #[] #[]) (rd_move rfl) rfl ?_
            refine Wx.gyes rfl rfl (congrArg Value.bool g_44) ?_
            refine Wx.rd (v := .agg #[v_10, v_11]) (rd_loadXs (ds := [v_10, v_11]) hS 3 rfl rfl rfl rfl Try.isAgg62 Try.sizeOf62) rfl ?_
            refine Wx.gyes rfl rfl (congrArg Value.bool g_44) ?_
            refine Wx.rd (v := .agg #[v_30, v_31]) (rd_loadXs (ds := [v_30, v_31]) hS 0 rfl rfl rfl rfl Try.isAgg62 Try.sizeOf62) rfl ?_
            refine Wx.gyes rfl rfl (congrArg Value.bool g_44) ?_
            refine Wx.callF (run_callC (fs := []) (cs := []) (vs := [.agg #[v_10, v_11], .agg #[v_30, v_31]]) Try.call67 rfl rfl) (F67 (hS.v 5 rfl) (hS.v 4 rfl) (hS.v 2 rfl) (hS.v 1 rfl) (hok a (by omega) (by omega)).b1 (hok a (by omega) (by omega)).b2 (hok b (by omega) (by omega)).b2 (by have := (hok a (by omega) (by omega)).l1; omega) (by have h1 := (hok a (by omega) (by omega)).l1; have h2 := (hok a (by omega) (by omega)).l2; omega) (by have h1 := (hok a (by omega) (by omega)).l1; have h2 := (hok b (by omega) (by omega)).l2; omega)) rfl ?_
            rintro r_46 w_47 hx_48 rfl
            have hS := hS.ext hx_48
            refine Wx.rd (v := .bool (goodS (((ix ([], []) l a).1), ((ix ([], []) l a).2)) (((ix ([], []) l b).1), ((ix ([], []) l b).2)))) (rd_pickT (congrArg Value.bool g_44) rfl) rfl ?_
            refine Wx.nil ⟨(), hS, ⟨?_, trivial⟩, Out.look rfl Out.refl⟩
            show Value.bool (goodS (((ix ([], []) l a).1), ((ix ([], []) l a).2)) (((ix ([], []) l b).1), ((ix ([], []) l b).2))) = Value.bool (decide (a ≠ b) && goodS (((ix ([], []) l a).1), ((ix ([], []) l a).2)) (((ix ([], []) l b).1), ((ix ([], []) l b).2)))
            first | rw [g_44, Bool.true_and] | (rw [g_44]; rfl)
          · -- False
            have gp_49 := of_decide_eq_false g_44
            refine Wx.gnoB rfl rfl (congrArg Value.bool g_44) rfl rfl ?_
            refine Wx.gnoB rfl rfl (congrArg Value.bool g_44) rfl rfl ?_
            refine Wx.gnoB rfl rfl (congrArg Value.bool g_44) rfl rfl ?_
            refine Wx.gnoB rfl rfl (congrArg Value.bool g_44) rfl rfl ?_
            refine Wx.rd (v := .bool false) (rd_pickF (congrArg Value.bool g_44) rfl) rfl ?_
            refine Wx.nil ⟨(), hS, ⟨?_, trivial⟩, Out.look rfl Out.refl⟩
            show Value.bool false = Value.bool (decide (a ≠ b) && goodS (((ix ([], []) l a).1), ((ix ([], []) l a).2)) (((ix ([], []) l b).1), ((ix ([], []) l b).2)))
            first | rw [g_44, Bool.false_and] | (rw [g_44]; rfl)
        rintro ⟨⟩ u_51 w_50 hS
        refine Wx.nil ?_
        refine W.cond rfl (fun c3 => ?_) (fun c3 => ?_)
        · -- yes
          try simp only [Bool.and_eq_true, Bool.or_eq_true, Bool.not_eq_true', Bool.and_eq_false_iff, Bool.or_eq_false_iff, Bool.not_eq_false', decide_eq_true_eq, decide_eq_false_iff_not, not_or, Bool.false_eq_true, Bool.true_eq_false, false_or, or_false, not_false_eq_true] at c3
          refine W.reg ?_
          refine Wx.rd (v := ov2) (rd_move rfl) rfl ?_
          refine Wx.rd (v := .int .i64 a) (rd_move rfl) rfl ?_
          refine Wx.rd (v := .int .i64 b) (rd_move rfl) rfl ?_
          refine Wx.rd (v := .agg #[.int .i64 a, .int .i64 b]) (rd_build (vs := [(0, .int .i64 a), (1, .int .i64 b)]) rfl (by kernel_rfl)) rfl ?_
          refine Wx.lit (t := (tP (tI .i64) (tI .i64))) (ys := [(a, b)]) (vs := [.agg #[.int .i64 a, .int .i64 b]]) elKp_31 hS rfl rfl ⟨(V.mk2 (in_i64 (by omega) (by omega)) (in_i64 (by omega) (by omega))), trivial⟩ (by decide) rfl (fun v_52 w_53 hx_54 hS => ?_)
          refine Wx.append elKp_31 hS 7 rfl rfl rfl (Src.ofR hS 0 rfl) (by simp only [maxLen]; simp; omega) (by simp; omega) rfl (fun v_55 w_56 hz_57 hS => ?_)
          refine Wx.rd (v := v_55) (rd_assign rfl) rfl ?_
          refine Wx.nil ?_
          refine W.reg ?_
          refine Wx.rd (v := .int .i64 (b + 1)) (rd_add rfl rfl (in_i64 (by omega) (by omega))) rfl ?_
          refine Wx.rd (v := .int .i64 (b + 1)) (rd_move rfl) rfl ?_
          refine Wx.nil ?_
          refine ⟨(b + 1, v_55, out2 ++ [(a, b)]), (by show (l.length - (b + 1)).toNat < (l.length - b).toNat; omega), ?_, ?_, Out.look rfl (Out.hav rfl (Out.look rfl Out.self))⟩
          · exact ⟨St.tl (St.tl (St.tl (hS.tl))), (by first | omega | assumption), (by first | omega | assumption), (by rw [← g2, pairR_yes c2 c3]; simp), (by simp only [List.length_append, List.length_cons, List.length_nil]; omega)⟩
          · exact ⟨rfl, rfl, trivial⟩
        · -- no
          try simp only [Bool.and_eq_true, Bool.or_eq_true, Bool.not_eq_true', Bool.and_eq_false_iff, Bool.or_eq_false_iff, Bool.not_eq_false', decide_eq_true_eq, decide_eq_false_iff_not, not_or, Bool.false_eq_true, Bool.true_eq_false, false_or, or_false, not_false_eq_true] at c3
          refine W.skip ?_
          refine W.reg ?_
          refine Wx.rd (v := .int .i64 (b + 1)) (rd_add rfl rfl (in_i64 (by omega) (by omega))) rfl ?_
          refine Wx.rd (v := .int .i64 (b + 1)) (rd_move rfl) rfl ?_
          refine Wx.nil ?_
          refine ⟨(b + 1, ov2, out2), (by show (l.length - (b + 1)).toNat < (l.length - b).toNat; omega), ?_, ?_, Out.look rfl (Out.hav rfl (Out.look rfl Out.self))⟩
          · exact ⟨St.tl (St.tl (hS.tl)), (by first | omega | assumption), (by first | omega | assumption), (by rw [← g2, pairR_no c2 (c3.imp Decidable.not_not.1 id)]), (by first | omega | assumption)⟩
          · exact ⟨rfl, rfl, trivial⟩
      · -- no
        refine W.exit rfl ?_
        refine W.reg ?_
        refine Wx.rd (v := .int .i64 (a + 1)) (rd_add rfl rfl (in_i64 (by omega) (by omega))) rfl ?_
        refine Wx.rd (v := .int .i64 (a + 1)) (rd_move rfl) rfl ?_
        refine Wx.nil ?_
        refine ⟨(a + 1, ov2, out2), (by show (l.length - (a + 1)).toNat < (l.length - a).toNat; omega), ?_, ?_, Out.look rfl (Out.hav rfl (Out.look rfl Out.self))⟩
        · exact ⟨St.tl (St.tl (hS.tl)), (by first | omega | assumption), (by first | omega | assumption), (by rw [← g2, pairR_end (by omega), List.nil_append]), (by first | omega | assumption)⟩
        · exact ⟨rfl, rfl, trivial⟩
    · -- no
      refine W.exit rfl ?_
      refine W.seq ?_
      refine W.reg ?_
      refine Wx.rd (v := ov) (rd_move rfl) rfl ?_
      refine Wx.rd (v := ov) (rd_assign rfl) rfl ?_
      refine Wx.rd (v := .int .i64 0) (rd_assign rfl) rfl ?_
      refine Wx.nil ?_
      have e1_0 : pairsE (gS l) g l = out := by rw [pairsE, if_pos h0c, ← h2, pairsR_end (by omega), List.append_nil]
      have e1_1 : (checkE g l) = (0 : Int) := by exact h0c
      exact W.ret ⟨.tuple #[ov, .int .i64 0], ResIs.two, hS.bel, ⟨ov, (by rw [e1_1]), (by rw [e1_0]; exact (hS.fr 0 rfl flat_i2))⟩⟩

theorem F20 {g : Int} {v : Value} {l : List ((List Int) × (List Int))} {O : List (Option Nat)} {w : World} (i_g : InK .i64 g) (h_v : V (tSl (tP (tSl (tI .i64)) (tSl (tI .i64)))) l v O w) (hO : ∀ b, some b ∈ O → b < w.heap.size) : Calls Try.prog 20 #[.int .i64 g, v] w (Ret w (fun r w' => ∃ rv, r = .tuple #[rv, .int .i64 (checkE g l)] ∧ Fresh (tP (tI .i64) (tI .i64)) 59 (pairsE (gS l) g l) rv w.heap.size w')) := by
  have b_g := bd_i64 i_g
  have a_v := h_v
  have l_v := h_v.len63
  have hS := St.start w O hO
  refine enterR Try.func20 rfl Try.ntmps20 Try.results20 rfl ?_
  refine W.seq ?_
  refine W.reg ?_
  refine Wx.rd (v := (.slice none 0 0)) (rd_assign rfl) rfl ?_
  refine Wx.rd (v := .int .i64 0) (rd_assign rfl) rfl ?_
  refine Wx.nil ?_
  refine W.seq ?_
  refine W.reg ?_
  refine Wx.rd (v := .int .i64 g) (rd_move rfl) rfl ?_
  refine Wx.rd (v := v) (rd_move rfl) rfl ?_
  refine Wx.callF (run_callF Try.call66 rfl) (F66Shows i_g (hS.arg a_v) hS.fb_lt) rfl ?_
  rintro r_1 w_2 hx_3 ⟨v_4, rfl, hv_5⟩
  have hS := hS.pushFr hx_3 hv_5
  refine Wx.rd (v := v_4) (rd_extract rfl rfl) rfl ?_
  refine Wx.rd (v := .int .i64 (checkE g l)) (rd_extract rfl rfl) rfl ?_
  refine Wx.rd (v := v_4) (rd_assign rfl) rfl ?_
  refine Wx.rd (v := .int .i64 (checkE g l)) (rd_assign rfl) rfl ?_
  refine Wx.nil ?_
  exact W.ret ⟨.tuple #[v_4, .int .i64 (checkE g l)], ResIs.two, hS.bel, ⟨v_4, rfl, (hS.fr 0 rfl flat_i2)⟩⟩

set_option maxHeartbeats 1000000 in
theorem F66Better {g : Int} {v : Value} {l : List ((List Int) × (List Int))} {O : List (Option Nat)} {w : World} (i_g : InK .i64 g) (h_v : V (tSl (tP (tSl (tI .i64)) (tSl (tI .i64)))) l v O w) (hO : ∀ b, some b ∈ O → b < w.heap.size) : Calls Try.prog 66 #[.int .i64 g, v, .func (.func 69) #[] #[]] w (Ret w (fun r w' => ∃ rv, r = .tuple #[rv, .int .i64 (checkE g l)] ∧ Fresh (tP (tI .i64) (tI .i64)) 59 (pairsE (bS l) g l) rv w.heap.size w')) := by
  have b_g := bd_i64 i_g
  have a_v := h_v
  have l_v := h_v.len63
  have hS := St.start w O hO
  refine enterR Try.func66 rfl Try.ntmps66 Try.results66 rfl ?_
  refine W.seq ?_
  refine W.reg ?_
  refine Wx.rd (v := (.slice none 0 0)) (rd_assign rfl) rfl ?_
  refine Wx.rd (v := .int .i64 0) (rd_assign rfl) rfl ?_
  refine Wx.nil ?_
  refine W.seq ?_
  refine W.seq ?_
  refine W.reg ?_
  refine Wx.rd (v := .int .i64 g) (rd_move rfl) rfl ?_
  refine Wx.rd (v := v) (rd_move rfl) rfl ?_
  refine Wx.callF (run_callF Try.call25 rfl) (F25 i_g (hS.arg a_v)) rfl ?_
  rintro r_1 w_2 hx_3 rfl
  have hS := hS.ext hx_3
  refine Wx.rd (v := .int .i64 (checkE g l)) (rd_assign rfl) rfl ?_
  refine Wx.nil ?_
  refine W.seq ?_
  refine W.reg ?_
  refine Wx.rd (v := .int .i64 (checkE g l)) (rd_move rfl) rfl ?_
  refine Wx.rd (v := .bool (decide ((checkE g l) ≠ 0))) (rd_neq rfl rfl) rfl ?_
  refine Wx.nil ?_
  refine W.condD rfl (fun c0 => ?_) (fun c0 => ?_)
  · -- yes
    refine W.seq ?_
    refine W.reg ?_
    refine Wx.rd (v := .int .i64 (checkE g l)) (rd_move rfl) rfl ?_
    refine Wx.rd (v := (.slice none 0 0)) (rd_assign rfl) rfl ?_
    refine Wx.rd (v := .int .i64 (checkE g l)) (rd_assign rfl) rfl ?_
    refine Wx.nil ?_
    have e0_0 : pairsE (bS l) g l = [] := by rw [pairsE, if_neg c0]
    exact W.ret ⟨.tuple #[(.slice none 0 0), .int .i64 (checkE g l)], ResIs.two, hS.bel, ⟨(.slice none 0 0), rfl, (by rw [e0_0]; exact ((hS.addNil (tP (tI .i64) (tI .i64)) 59).fr 0 rfl flat_i2))⟩⟩
  · -- no
    have h0c : checkE g l = 0 := by omega
    have hsok := SalesOK.of h0c
    have hl6 := hsok.1
    obtain ⟨gd, hgd, hok⟩ := hsok.at
    refine W.skip ?_
    refine W.seq ?_
    refine W.reg ?_
    refine Wx.rd (v := (.slice none 0 0)) (rd_assign rfl) rfl ?_
    refine Wx.nil ?_
    refine W.seq ?_
    refine W.seq ?_
    refine W.reg ?_
    refine Wx.rd (v := v) (rd_move rfl) rfl ?_
    refine Wx.rd (v := .int .i64 (l.length : Int)) (rd_lenV rfl (hS.arg a_v) Try.underlying22) rfl ?_
    refine Wx.rd (v := .int .i64 0) (rd_move rfl) rfl ?_
    refine Wx.nil ?_
    refine W.block ?_
    have hS := hS.addNil (tP (tI .i64) (tI .i64)) 59
    refine W.loop [9, 10, 11, 12, 13, 22, 23, 24, 25, 26, 27, 28, 29, 30, 31, 32, 33, 34, 35, 36, 37, 38, 39, 40, 41, 42, 43, 44, 45, 46, 47, 48, 49, 50] (fun x : Int × Value × (List (Int × Int)) => match x with | (a, ov, out) => [(22, .int .i64 a), (9, ov)]) (fun (x : Int × Value × (List (Int × Int))) w' => match x with | (a, ov, out) => St w O w' [.row (tP (tI .i64) (tI .i64)) 59 ov out] ∧ 0 ≤ a ∧ a ≤ l.length ∧ out ++ pairsR (bS l) l.length (rng a l.length) = pairsV (bS l) l.length ∧ (out.length : Int) ≤ 6 * a) (fun x : Int × Value × (List (Int × Int)) => match x with | (a, ov, out) => (l.length - a).toNat) (0, (.slice none 0 0), []) ⟨rfl, rfl, trivial⟩ ⟨hS, (by first | omega | simp), (by first | omega | simp), (rfl), (by decide)⟩ ?_
    rintro ⟨a, ov, out⟩ u_5 w_4 ⟨hS, h0, h1, h2, h3⟩
    refine W.seq ?_
    refine W.reg ?_
    refine Wx.rd (v := .bool (decide (a < (l.length : Int)))) (rd_lss rfl rfl) rfl ?_
    refine Wx.nil ?_
    refine W.seq ?_
    refine W.condD rfl (fun c1 => ?_) (fun c1 => ?_)
    · -- yes
      refine W.skip ?_
      refine W.seq ?_
      refine W.block ?_
      refine W.seq ?_
      refine W.reg ?_
      refine Wx.rd (v := .int .i64 a) (rd_move rfl) rfl ?_
      refine Wx.ex (rd_index ([], []) (hS.arg a_v) rfl rfl Try.underlying22 Try.sizeOf62 (by first | omega | (simp only [List.length_set, List.length_append, List.length_cons, List.length_nil, List.length_replicate]; omega)) (by first | omega | (simp only [List.length_set, List.length_append, List.length_cons, List.length_nil, List.length_replicate]; omega))) rfl (fun p_6 hp_7 => ?_)
      refine Wx.ex (rd_load hp_7 rfl Try.isAgg62 Try.sizeOf62) rfl (fun v_8 hv_9 => ?_)
      obtain ⟨v_10, v_11, rfl, hv_12, hv_13⟩ := hv_9.s2
      have hS := hS.add (hv_12)
      have ln_15 := (hS.v 0 rfl).len63
      have hS := hS.add (V.upF (hv_13))
      have ln_17 := (hS.v 0 rfl).len63
      refine Wx.alloc (cs := [(.slice none 0 0), (.slice none 0 0)]) hS Try.zeroValue62 rfl rfl (fun g_18 w_19 hx_21 hb_20 hS => ?_)
      refine Wx.rd (v := .int .i64 a) (rd_assign rfl) rfl ?_
      refine Wx.storeX (cs' := [v_10, v_11]) (ds := [v_10, v_11]) hS 0 rfl rfl rfl rfl Try.sizeOf62 (Nat.le_of_ble_eq_true rfl) (one_cons (V.oneC (hS.v 2 rfl)) (one_cons (V.oneC (hS.v 1 rfl)) one_nil)) rfl (fun w_22 hz_23 hS => ?_)
      refine Wx.nil ?_
      refine W.seq ?_
      refine W.reg ?_
      refine Wx.rd (v := v) (rd_move rfl) rfl ?_
      refine Wx.rd (v := .int .i64 (l.length : Int)) (rd_lenV rfl (hS.arg a_v) Try.underlying22) rfl ?_
      refine Wx.rd (v := .int .i64 0) (rd_move rfl) rfl ?_
      refine Wx.nil ?_
      refine W.block ?_
      refine W.loop [9, 12, 13, 29, 30, 31, 32, 33, 34, 35, 36, 37, 38, 39, 40, 41, 42, 43, 44, 45, 46, 47, 48, 49] (fun x : Int × Value × (List (Int × Int)) => match x with | (b, ov2, out2) => [(29, .int .i64 b), (9, ov2)]) (fun (x : Int × Value × (List (Int × Int))) w' => match x with | (b, ov2, out2) => St w O w' [.box g_18 62 [v_10, v_11], Ob.v (tSl (tI .i64)) ((ix ([], []) l a).2) v_11, Ob.v (tSl (tI .i64)) ((ix ([], []) l a).1) v_10, .row (tP (tI .i64) (tI .i64)) 59 ov2 out2] ∧ 0 ≤ b ∧ b ≤ l.length ∧ out2 ++ (pairR (bS l) a (rng b l.length) ++ pairsR (bS l) l.length (rng (a + 1) l.length)) = pairsV (bS l) l.length ∧ (out2.length : Int) ≤ 6 * a + b) (fun x : Int × Value × (List (Int × Int)) => match x with | (b, ov2, out2) => (l.length - b).toNat) (0, ov, out) ⟨rfl, rfl, trivial⟩ ⟨hS, (by first | omega | simp), (by first | omega | simp), (by rw [← h2, pairsR_next c1]), (by first | omega | simp)⟩ ?_
      rintro ⟨b, ov2, out2⟩ u_25 w_24 ⟨hS, g0, g1, g2, g3⟩
      refine W.seq ?_
      refine W.reg ?_
      refine Wx.rd (v := .bool (decide (b < (l.length : Int)))) (rd_lss rfl rfl) rfl ?_
      refine Wx.nil ?_
      refine W.seq ?_
      refine W.condD rfl (fun c2 => ?_) (fun c2 => ?_)
      · -- yes
        refine W.skip ?_
        refine W.seq ?_
        refine W.block ?_
        refine W.seq ?_
        refine W.reg ?_
        refine Wx.rd (v := .int .i64 b) (rd_move rfl) rfl ?_
        refine Wx.ex (rd_index ([], []) (hS.arg a_v) rfl rfl Try.underlying22 Try.sizeOf62 (by first | omega | (simp only [List.length_set, List.length_append, List.length_cons, List.length_nil, List.length_replicate]; omega)) (by first | omega | (simp only [List.length_set, List.length_append, List.length_cons, List.length_nil, List.length_replicate]; omega))) rfl (fun p_26 hp_27 => ?_)
        refine Wx.ex (rd_load hp_27 rfl Try.isAgg62 Try.sizeOf62) rfl (fun v_28 hv_29 => ?_)
        obtain ⟨v_30, v_31, rfl, hv_32, hv_33⟩ := hv_29.s2
        have hS := hS.add (hv_32)
        have ln_35 := (hS.v 0 rfl).len63
        have hS := hS.add (V.upF (hv_33))
        have ln_37 := (hS.v 0 rfl).len63
        refine Wx.alloc (cs := [(.slice none 0 0), (.slice none 0 0)]) hS Try.zeroValue62 rfl rfl (fun g_38 w_39 hx_41 hb_40 hS => ?_)
        refine Wx.rd (v := .int .i64 b) (rd_assign rfl) rfl ?_
        refine Wx.storeX (cs' := [v_30, v_31]) (ds := [v_30, v_31]) hS 0 rfl rfl rfl rfl Try.sizeOf62 (Nat.le_of_ble_eq_true rfl) (one_cons (V.oneC (hS.v 2 rfl)) (one_cons (V.oneC (hS.v 1 rfl)) one_nil)) rfl (fun w_42 hz_43 hS => ?_)
        refine Wx.nil ?_
        refine W.seq ?_
        refine W.reg ?_
        refine Wx.rd (v := .int .i64 a) (rd_move rfl) rfl ?_
        refine Wx.rd (v := .int .i64 b) (rd_move rfl) rfl ?_
        refine Wx.rd (v := .bool (decide (a ≠ b))) (rd_neq rfl rfl) rfl ?_
        refine Wx.rd (v := .bool (decide (a ≠ b))) (rd_move rfl) rfl ?_
        refine Wx.cut (X := Unit) 5 [38, 39, 40, 41, 42] (fun _ => [(42, .bool (decide (a ≠ b) && betterS (((ix ([], []) l a).1), ((ix ([], []) l a).2)) (((ix ([], []) l b).1), ((ix ([], []) l b).2))))]) (fun _ w' => St w O w' [.box g_38 62 [v_30, v_31], Ob.v (tSl (tI .i64)) ((ix ([], []) l b).2) v_31, Ob.v (tSl (tI .i64)) ((ix ([], []) l b).1) v_30, .box g_18 62 [v_10, v_11], Ob.v (tSl (tI .i64)) ((ix ([], []) l a).2) v_11, Ob.v (tSl (tI .i64)) ((ix ([], []) l a).1) v_10, .row (tP (tI .i64) (tI .i64)) 59 ov2 out2]) ?_ ?_
        · rcases Bool.eq_false_or_eq_true (decide (a ≠ b)) with g_44 | g_44
          · -- True
            have gp_45 := of_decide_eq_true g_44
            refine Wx.gyes rfl rfl (congrArg Value.bool g_44) ?_
            refine Wx.rd (v := .func (.func 69) #[] #[]) (rd_move rfl) rfl ?_
            refine Wx.gyes rfl rfl (congrArg Value.bool g_44) ?_
            refine Wx.rd (v := .agg #[v_10, v_11]) (rd_loadXs (ds := [v_10, v_11]) hS 3 rfl rfl rfl rfl Try.isAgg62 Try.sizeOf62) rfl ?_
            refine Wx.gyes rfl rfl (congrArg Value.bool g_44) ?_
            refine Wx.rd (v := .agg #[v_30, v_31]) (rd_loadXs (ds := [v_30, v_31]) hS 0 rfl rfl rfl rfl Try.isAgg62 Try.sizeOf62) rfl ?_
            refine Wx.gyes rfl rfl (congrArg Value.bool g_44) ?_
            refine Wx.callF (run_callC (fs := []) (cs := []) (vs := [.agg #[v_10, v_11], .agg #[v_30, v_31]]) Try.call69 rfl rfl) (F69 (hS.v 5 rfl) (hS.v 4 rfl) (hS.v 2 rfl) (hS.v 1 rfl) (hok a (by omega) (by omega)).b1 (hok a (by omega) (by omega)).b2 (hok b (by omega) (by omega)).b2 (by have := (hok a (by omega) (by omega)).l1; omega) (by have h1 := (hok a (by omega) (by omega)).l1; have h2 := (hok a (by omega) (by omega)).l2; omega) (by have h1 := (hok a (by omega) (by omega)).l1; have h2 := (hok b (by omega) (by omega)).l2; omega)) rfl ?_
            rintro r_46 w_47 hx_48 rfl
            have hS := hS.ext hx_48
            refine Wx.rd (v := .bool (betterS (((ix ([], []) l a).1), ((ix ([], []) l a).2)) (((ix ([], []) l b).1), ((ix ([], []) l b).2)))) (rd_pickT (congrArg Value.bool g_44) rfl) rfl ?_
            refine Wx.nil ⟨(), hS, ⟨?_, trivial⟩, Out.look rfl Out.refl⟩
            show Value.bool (betterS (((ix ([], []) l a).1), ((ix ([], []) l a).2)) (((ix ([], []) l b).1), ((ix ([], []) l b).2))) = Value.bool (decide (a ≠ b) && betterS (((ix ([], []) l a).1), ((ix ([], []) l a).2)) (((ix ([], []) l b).1), ((ix ([], []) l b).2)))
            first | rw [g_44, Bool.true_and] | (rw [g_44]; rfl)
          · -- False
            have gp_49 := of_decide_eq_false g_44
            refine Wx.gnoB rfl rfl (congrArg Value.bool g_44) rfl rfl ?_
            refine Wx.gnoB rfl rfl (congrArg Value.bool g_44) rfl rfl ?_
            refine Wx.gnoB rfl rfl (congrArg Value.bool g_44) rfl rfl ?_
            refine Wx.gnoB rfl rfl (congrArg Value.bool g_44) rfl rfl ?_
            refine Wx.rd (v := .bool false) (rd_pickF (congrArg Value.bool g_44) rfl) rfl ?_
            refine Wx.nil ⟨(), hS, ⟨?_, trivial⟩, Out.look rfl Out.refl⟩
            show Value.bool false = Value.bool (decide (a ≠ b) && betterS (((ix ([], []) l a).1), ((ix ([], []) l a).2)) (((ix ([], []) l b).1), ((ix ([], []) l b).2)))
            first | rw [g_44, Bool.false_and] | (rw [g_44]; rfl)
        rintro ⟨⟩ u_51 w_50 hS
        refine Wx.nil ?_
        refine W.cond rfl (fun c3 => ?_) (fun c3 => ?_)
        · -- yes
          try simp only [Bool.and_eq_true, Bool.or_eq_true, Bool.not_eq_true', Bool.and_eq_false_iff, Bool.or_eq_false_iff, Bool.not_eq_false', decide_eq_true_eq, decide_eq_false_iff_not, not_or, Bool.false_eq_true, Bool.true_eq_false, false_or, or_false, not_false_eq_true] at c3
          refine W.reg ?_
          refine Wx.rd (v := ov2) (rd_move rfl) rfl ?_
          refine Wx.rd (v := .int .i64 a) (rd_move rfl) rfl ?_
          refine Wx.rd (v := .int .i64 b) (rd_move rfl) rfl ?_
          refine Wx.rd (v := .agg #[.int .i64 a, .int .i64 b]) (rd_build (vs := [(0, .int .i64 a), (1, .int .i64 b)]) rfl (by kernel_rfl)) rfl ?_
          refine Wx.lit (t := (tP (tI .i64) (tI .i64))) (ys := [(a, b)]) (vs := [.agg #[.int .i64 a, .int .i64 b]]) elKp_31 hS rfl rfl ⟨(V.mk2 (in_i64 (by omega) (by omega)) (in_i64 (by omega) (by omega))), trivial⟩ (by decide) rfl (fun v_52 w_53 hx_54 hS => ?_)
          refine Wx.append elKp_31 hS 7 rfl rfl rfl (Src.ofR hS 0 rfl) (by simp only [maxLen]; simp; omega) (by simp; omega) rfl (fun v_55 w_56 hz_57 hS => ?_)
          refine Wx.rd (v := v_55) (rd_assign rfl) rfl ?_
          refine Wx.nil ?_
          refine W.reg ?_
          refine Wx.rd (v := .int .i64 (b + 1)) (rd_add rfl rfl (in_i64 (by omega) (by omega))) rfl ?_
          refine Wx.rd (v := .int .i64 (b + 1)) (rd_move rfl) rfl ?_
          refine Wx.nil ?_
          refine ⟨(b + 1, v_55, out2 ++ [(a, b)]), (by show (l.length - (b + 1)).toNat < (l.length - b).toNat; omega), ?_, ?_, Out.look rfl (Out.hav rfl (Out.look rfl Out.self))⟩
          · exact ⟨St.tl (St.tl (St.tl (hS.tl))), (by first | omega | assumption), (by first | omega | assumption), (by rw [← g2, pairR_yes c2 c3]; simp), (by simp only [List.length_append, List.length_cons, List.length_nil]; omega)⟩
          · exact ⟨rfl, rfl, trivial⟩
        · -- no
          try simp only [Bool.and_eq_true, Bool.or_eq_true, Bool.not_eq_true', Bool.and_eq_false_iff, Bool.or_eq_false_iff, Bool.not_eq_false', decide_eq_true_eq, decide_eq_false_iff_not, not_or, Bool.false_eq_true, Bool.true_eq_false, false_or, or_false, not_false_eq_true] at c3
          refine W.skip ?_
          refine W.reg ?_
          refine Wx.rd (v := .int .i64 (b + 1)) (rd_add rfl rfl (in_i64 (by omega) (by omega))) rfl ?_
          refine Wx.rd (v := .int .i64 (b + 1)) (rd_move rfl) rfl ?_
          refine Wx.nil ?_
          refine ⟨(b + 1, ov2, out2), (by show (l.length - (b + 1)).toNat < (l.length - b).toNat; omega), ?_, ?_, Out.look rfl (Out.hav rfl (Out.look rfl Out.self))⟩
          · exact ⟨St.tl (St.tl (hS.tl)), (by first | omega | assumption), (by first | omega | assumption), (by rw [← g2, pairR_no c2 (c3.imp Decidable.not_not.1 id)]), (by first | omega | assumption)⟩
          · exact ⟨rfl, rfl, trivial⟩
      · -- no
        refine W.exit rfl ?_
        refine W.reg ?_
        refine Wx.rd (v := .int .i64 (a + 1)) (rd_add rfl rfl (in_i64 (by omega) (by omega))) rfl ?_
        refine Wx.rd (v := .int .i64 (a + 1)) (rd_move rfl) rfl ?_
        refine Wx.nil ?_
        refine ⟨(a + 1, ov2, out2), (by show (l.length - (a + 1)).toNat < (l.length - a).toNat; omega), ?_, ?_, Out.look rfl (Out.hav rfl (Out.look rfl Out.self))⟩
        · exact ⟨St.tl (St.tl (hS.tl)), (by first | omega | assumption), (by first | omega | assumption), (by rw [← g2, pairR_end (by omega), List.nil_append]), (by first | omega | assumption)⟩
        · exact ⟨rfl, rfl, trivial⟩
    · -- no
      refine W.exit rfl ?_
      refine W.seq ?_
      refine W.reg ?_
      refine Wx.rd (v := ov) (rd_move rfl) rfl ?_
      refine Wx.rd (v := ov) (rd_assign rfl) rfl ?_
      refine Wx.rd (v := .int .i64 0) (rd_assign rfl) rfl ?_
      refine Wx.nil ?_
      have e1_0 : pairsE (bS l) g l = out := by rw [pairsE, if_pos h0c, ← h2, pairsR_end (by omega), List.append_nil]
      have e1_1 : (checkE g l) = (0 : Int) := by exact h0c
      exact W.ret ⟨.tuple #[ov, .int .i64 0], ResIs.two, hS.bel, ⟨ov, (by rw [e1_1]), (by rw [e1_0]; exact (hS.fr 0 rfl flat_i2))⟩⟩

theorem F22 {g : Int} {v : Value} {l : List ((List Int) × (List Int))} {O : List (Option Nat)} {w : World} (i_g : InK .i64 g) (h_v : V (tSl (tP (tSl (tI .i64)) (tSl (tI .i64)))) l v O w) (hO : ∀ b, some b ∈ O → b < w.heap.size) : Calls Try.prog 22 #[.int .i64 g, v] w (Ret w (fun r w' => ∃ rv, r = .tuple #[rv, .int .i64 (checkE g l)] ∧ Fresh (tP (tI .i64) (tI .i64)) 59 (pairsE (bS l) g l) rv w.heap.size w')) := by
  have b_g := bd_i64 i_g
  have a_v := h_v
  have l_v := h_v.len63
  have hS := St.start w O hO
  refine enterR Try.func22 rfl Try.ntmps22 Try.results22 rfl ?_
  refine W.seq ?_
  refine W.reg ?_
  refine Wx.rd (v := (.slice none 0 0)) (rd_assign rfl) rfl ?_
  refine Wx.rd (v := .int .i64 0) (rd_assign rfl) rfl ?_
  refine Wx.nil ?_
  refine W.seq ?_
  refine W.reg ?_
  refine Wx.rd (v := .int .i64 g) (rd_move rfl) rfl ?_
  refine Wx.rd (v := v) (rd_move rfl) rfl ?_
  refine Wx.callF (run_callF Try.call66 rfl) (F66Better i_g (hS.arg a_v) hS.fb_lt) rfl ?_
  rintro r_1 w_2 hx_3 ⟨v_4, rfl, hv_5⟩
  have hS := hS.pushFr hx_3 hv_5
  refine Wx.rd (v := v_4) (rd_extract rfl rfl) rfl ?_
  refine Wx.rd (v := .int .i64 (checkE g l)) (rd_extract rfl rfl) rfl ?_
  refine Wx.rd (v := v_4) (rd_assign rfl) rfl ?_
  refine Wx.rd (v := .int .i64 (checkE g l)) (rd_assign rfl) rfl ?_
  refine Wx.nil ?_
  exact W.ret ⟨.tuple #[v_4, .int .i64 (checkE g l)], ResIs.two, hS.bel, ⟨v_4, rfl, (hS.fr 0 rfl flat_i2)⟩⟩

theorem F18 {g : Int} {v : Value} {l : List ((List Int) × (List Int))} {a : Int} {b : Int} {O : List (Option Nat)} {w : World} (i_g : InK .i64 g) (h_v : V (tSl (tP (tSl (tI .i64)) (tSl (tI .i64)))) l v O w) (i_a : InK .i64 a) (i_b : InK .i64 b) (hO : ∀ b, some b ∈ O → b < w.heap.size) : Calls Try.prog 18 #[.int .i64 g, v, .int .i64 a, .int .i64 b] w (Ret w (fun r _ => r = .tuple #[.int .i64 (costE g l a b), .int .i64 (twoE g l a b)])) := by
  have b_b := bd_i64 i_b
  have b_a := bd_i64 i_a
  have b_g := bd_i64 i_g
  have a_v := h_v
  have l_v := h_v.len63
  have hS := St.start w O hO
  refine enterR Try.func18 rfl Try.ntmps18 Try.results18 rfl ?_
  refine W.seq ?_
  refine W.reg ?_
  refine Wx.rd (v := .int .i64 0) (rd_assign rfl) rfl ?_
  refine Wx.rd (v := .int .i64 0) (rd_assign rfl) rfl ?_
  refine Wx.nil ?_
  refine W.seq ?_
  refine W.reg ?_
  refine Wx.rd (v := .int .i64 g) (rd_move rfl) rfl ?_
  refine Wx.rd (v := v) (rd_move rfl) rfl ?_
  refine Wx.rd (v := .int .i64 a) (rd_move rfl) rfl ?_
  refine Wx.rd (v := .int .i64 b) (rd_move rfl) rfl ?_
  refine Wx.lit (t := (tI .i64)) (ys := [a, b]) (vs := [.int .i64 a, .int .i64 b]) elKp_39 hS rfl rfl ⟨(V.mkInt (in_i64 (by omega) (by omega))), ⟨(V.mkInt (in_i64 (by omega) (by omega))), trivial⟩⟩ (by decide) rfl (fun v_1 w_2 hx_3 hS => ?_)
  have hS := hS.freeze 0 rfl
  refine Wx.callF (run_callF Try.call62 rfl) (F62 i_g (hS.arg a_v) (hS.v 0 rfl) hS.fb_lt) rfl ?_
  rintro r_5 w_6 hx_7 ⟨v_8, rfl, hv_9⟩
  have hS := hS.ext hx_7
  have hS := hS.add hv_9
  refine Wx.rd (v := .tuple #[v_8, .int .i64 (openE g l [a, b])]) (rd_move rfl) rfl ?_
  refine Wx.rd (v := v_8) (rd_extract rfl rfl) rfl ?_
  refine Wx.rd (v := .int .i64 (openE g l [a, b])) (rd_extract rfl rfl) rfl ?_
  refine Wx.rd (v := v_8) (rd_assign rfl) rfl ?_
  refine Wx.rd (v := .int .i64 (openE g l [a, b])) (rd_assign rfl) rfl ?_
  refine Wx.nil ?_
  refine W.seq ?_
  refine W.seq ?_
  refine W.reg ?_
  refine Wx.rd (v := .int .i64 (openE g l [a, b])) (rd_move rfl) rfl ?_
  refine Wx.rd (v := .bool (decide ((openE g l [a, b]) ≠ 0))) (rd_neq rfl rfl) rfl ?_
  refine Wx.nil ?_
  refine W.condD rfl (fun c0 => ?_) (fun c0 => ?_)
  · -- yes
    refine W.seq ?_
    refine W.reg ?_
    refine Wx.rd (v := .int .i64 (openE g l [a, b])) (rd_move rfl) rfl ?_
    refine Wx.rd (v := .int .i64 0) (rd_assign rfl) rfl ?_
    refine Wx.rd (v := .int .i64 (openE g l [a, b])) (rd_assign rfl) rfl ?_
    refine Wx.nil ?_
    have e0_0 : (costE g l a b) = (0 : Int) := by rw [costE, if_neg (by rw [← openE_two]; exact c0)]
    have e0_1 : (twoE g l a b) = (openE g l [a, b] : Int) := by exact openE_two.symm
    exact W.ret ⟨.tuple #[.int .i64 0, .int .i64 (openE g l [a, b])], ResIs.two, hS.bel, (by rw [e0_0, e0_1])⟩
  · -- no
    have h0 : twoE g l a b = 0 := by rw [← openE_two]; omega
    obtain ⟨h1, h2, h3⟩ := twoE_ok h0
    have hsok := SalesOK.of h1
    obtain ⟨gd, hgd, hok⟩ := hsok.at
    obtain ⟨g_11, rfl, hm_12⟩ := V.mkOpen (hS.v 0 rfl) (decide_eq_true (by omega))
    have ok_g_11 := V.mkOK hm_12
    have hS := hS.add hm_12
    refine W.skip ?_
    refine W.seq ?_
    refine W.regQ mixedKp_ (by kernel_rfl) ?_
    refine Wx.rd (v := (.pointer (some ⟨g_11, 0, none⟩))) (rd_move rfl) rfl ?_
    refine Wx.rd (v := (.pointer (some ⟨g_11, 0, none⟩))) (rd_nilCheck rfl rfl) rfl ?_
    refine Wx.rd (v := .pointer (some ⟨g_11, 0, none⟩)) (rd_fieldAddr rfl foKp_93_0) rfl ?_
    refine Wx.ex (rd_mkS (hS.v 0 rfl) rfl Try.isAgg22) rfl (fun v_14 hv_15 => ?_)
    have ln_16 := hv_15.len63
    have hS := hS.add hv_15
    refine Wx.rd (v := .int .i64 a) (rd_move rfl) rfl ?_
    refine Wx.ex (rd_index ([], []) (hS.v 0 rfl) rfl rfl Try.underlying22 Try.sizeOf62 (by first | omega | (simp only [List.length_set, List.length_append, List.length_cons, List.length_nil, List.length_replicate]; omega)) (by first | omega | (simp only [List.length_set, List.length_append, List.length_cons, List.length_nil, List.length_replicate]; omega))) rfl (fun p_18 hp_19 => ?_)
    refine Wx.ex (rd_load hp_19 rfl Try.isAgg62 Try.sizeOf62) rfl (fun v_20 hv_21 => ?_)
    obtain ⟨v_22, v_23, rfl, hv_24, hv_25⟩ := hv_21.s2
    have hS := hS.add (hv_24)
    have ln_27 := (hS.v 0 rfl).len63
    have hS := hS.add (V.upF (hv_25))
    have ln_29 := (hS.v 0 rfl).len63
    refine Wx.rd (v := (.pointer (some ⟨g_11, 0, none⟩))) (rd_move rfl) rfl ?_
    refine Wx.rd (v := (.pointer (some ⟨g_11, 0, none⟩))) (rd_nilCheck rfl rfl) rfl ?_
    refine Wx.rd (v := .pointer (some ⟨g_11, 0, none⟩)) (rd_fieldAddr rfl foKp_93_0) rfl ?_
    refine Wx.ex (rd_mkS (hS.v 3 rfl) rfl Try.isAgg22) rfl (fun v_30 hv_31 => ?_)
    have ln_32 := hv_31.len63
    have hS := hS.add hv_31
    refine Wx.rd (v := .int .i64 b) (rd_move rfl) rfl ?_
    refine Wx.ex (rd_index ([], []) (hS.v 0 rfl) rfl rfl Try.underlying22 Try.sizeOf62 (by first | omega | (simp only [List.length_set, List.length_append, List.length_cons, List.length_nil, List.length_replicate]; omega)) (by first | omega | (simp only [List.length_set, List.length_append, List.length_cons, List.length_nil, List.length_replicate]; omega))) rfl (fun p_34 hp_35 => ?_)
    refine Wx.ex (rd_load hp_35 rfl Try.isAgg62 Try.sizeOf62) rfl (fun v_36 hv_37 => ?_)
    obtain ⟨v_38, v_39, rfl, hv_40, hv_41⟩ := hv_37.s2
    have hS := hS.add (hv_40)
    have ln_43 := (hS.v 0 rfl).len63
    have hS := hS.add (V.upF (hv_41))
    have ln_45 := (hS.v 0 rfl).len63
    refine Wx.callV (v := .int .i64 (costV ((ix ([], []) l a).1) ((ix ([], []) l b).2))) (run_callF Try.call63 rfl) (fun w_46 hw_47 => (F63 ((hS.v 4 rfl).ext hw_47) ((hS.v 3 rfl).ext hw_47) ((hS.v 1 rfl).ext hw_47) ((hS.v 0 rfl).ext hw_47) (hok a (by omega) (by omega)).b1 (hok b (by omega) (by omega)).b2 (by have := (hok a (by omega) (by omega)).l1; omega) (by have h1 := (hok a (by omega) (by omega)).l1; have h2 := (hok b (by omega) (by omega)).l2; omega))) rfl ?_
    refine Wx.rd (v := .int .i64 (costV ((ix ([], []) l a).1) ((ix ([], []) l b).2))) (rd_assign rfl) rfl ?_
    refine Wx.rd (v := .int .i64 0) (rd_assign rfl) rfl ?_
    refine Wx.nilQ (fun w_48 hx_49 => ?_)
    have hS := hS.ext hx_49
    have e1_0 : (costE g l a b) = (costV ((ix ([], []) l a).1) ((ix ([], []) l b).2) : Int) := by rw [costE, if_pos h0]; rfl
    have e1_1 : (twoE g l a b) = (0 : Int) := by exact h0
    exact W.ret ⟨.tuple #[.int .i64 (costV ((ix ([], []) l a).1) ((ix ([], []) l b).2)), .int .i64 0], ResIs.two, hS.bel, (by rw [e1_0, e1_1])⟩
end Go.Proofs.Ytjbcpggikaeleaa

namespace Go.Proofs.Ytjbcpggikaeleaa
open Go.RowKit Go.Shelf Go.Proofs Go

attribute [local go_sem] Oper.semAt_some

def uptoV {α : Type} (f : Nat → α) (k : Nat) : List α := (List.range k).map f
theorem uptoV_succ {α : Type} (f : Nat → α) (k : Nat) : uptoV f (k + 1) = uptoV f k ++ [f k] := by simp [uptoV, List.range_succ]
theorem uptoV_length {α : Type} (f : Nat → α) (k : Nat) : (uptoV f k).length = k := by simp [uptoV]
theorem uptoV_all (zs : List Int) : uptoV (fun j => zs[j]?.getD 0) zs.length = zs := by
  apply List.ext_getElem
  · simp [uptoV]
  · intro i h1 h2
    simp [uptoV, h2]
theorem uptoV_take (zs : List Int) {k : Nat} (hk : k ≤ zs.length) : uptoV (fun j => zs[j]?.getD 0) k = zs.take k := by
  apply List.ext_getElem
  · simp [uptoV, hk]
  · intro i h1 h2
    have : i < zs.length := by simp [uptoV] at h1; omega
    simp [uptoV, this]

set_option maxRecDepth 100000 in
set_option maxHeartbeats 2000000 in
theorem vals1 (F : Fence) (n : Nat) (h7 : F.fn 103) (hro : F.round = none) (hn : 1 ≤ n) (l Bs n₀ b off len cap : Nat) (zs : List Int) (hreach : len * 8 ≤ 140737488351232) (hb : b < n₀) (J Jx : List Int → World → Prop)
    (hY : ∀ pre x W, J pre W → pre.length < len → YieldAt F (n - 1) Try.prog l #[.int .i64 x] W fun e W' =>
      (e = .returned (.bool true) ∧ J (pre ++ [x]) W' ∧ Below n₀ W W') ∨ (e = .returned (.bool false) ∧ Jx (pre ++ [x]) W'))
    (W : World) (hBs : W.cell? ⟨Bs, 0, none⟩ = some (.slice (some ⟨b, off, none⟩) len cap)) (hc : ∀ j, j < len → W.cell? ⟨b, off + j, none⟩ = some (.int .i64 (zs[j]?.getD 0))) (h0 : J [] W) :
    CallsIn F n Try.prog 103 #[.func (.yield l) #[] #[], .pointer (some ⟨Bs, 0, none⟩)] W fun e W' => (∃ v, e = .returned v) ∧
      ((∃ ys, ys = uptoV (fun j => zs[j]?.getD 0) len ∧ J ys W') ∨ (∃ pre, (∃ k, k ≤ len ∧ pre = uptoV (fun j => zs[j]?.getD 0) k) ∧ Jx pre W')) := by
  refine callsIn_of_wp Try.func103 rfl h7 ?_ hro
  simp only [Try.ntmps103, List.size_toArray, List.length_cons, List.length_nil, Nat.reduceAdd, Nat.reduceSub, Array.replicate_succ, Array.replicate_zero, List.push_toArray, List.append_toArray, List.nil_append, List.cons_append]
  gi_wp2
  gi_loopw [7] (fun i wr => ∃ k : Nat, k ≤ len ∧ i = .int .i64 k ∧ J (uptoV (fun j => zs[j]?.getD 0) k) wr ∧ Below n₀ W wr)
    (fun i _ => len - (intOf i).toNat)
  case atStart => exact ⟨0, Nat.zero_le _, rfl, h0, Below.refl _ _⟩
  case round =>
    obtain ⟨k, hk, rfl, hJs, hnx⟩ := hrel
    have hcx : k < len → wr.cell? ⟨b, off + k, none⟩ = some (.int .i64 (zs[k]?.getD 0)) := fun h => (hnx.cell (p := ⟨b, off + k, none⟩) hb).trans (hc k h)
    by_cases hlt : k < len
    · obtain ⟨fn, tmps, assign, body, hy, hR⟩ := hY _ (zs[k]?.getD 0) wr hJs (by rw [uptoV_length]; exact hlt)
      have hcx' := hcx hlt
      gi_wp2
      refine hR.mono ?_
      rintro e W3 (⟨rfl, hJ3, hk3⟩ | ⟨rfl, hJx3⟩)
      · gi_wp2
        go_roundw
        case rel => exact ⟨k + 1, by omega, by simp, by rw [uptoV_succ]; exact hJ3, hnx.trans hk3⟩
        case measure => simp [intOf]; omega
      · gi_wp2
        refine bodyPost_ret (results_none rfl _ _ _) rfl ?_
        exact ⟨⟨_, rfl⟩, .inr ⟨_, ⟨k + 1, by omega, (uptoV_succ _ _).symm⟩, hJx3⟩⟩
    · obtain rfl : k = len := by omega
      gi_wp2
      go_end0
      exact ⟨⟨_, rfl⟩, .inl ⟨_, rfl, hJs⟩⟩

def IntsV (n₀ : Nat) (W : World) (sv : Value) (zs : List Int) : Prop :=
  ((∃ a cap, sv = .slice a 0 cap) ∧ zs = []) ∨ ∃ b off cap, sv = .slice (some ⟨b, off, none⟩) zs.length cap ∧ b < n₀ ∧ ∀ j, j < zs.length → W.cell? ⟨b, off + j, none⟩ = some (.int .i64 (zs[j]?.getD 0))
theorem IntsV.below {n₀ : Nat} {A B : World} (h : Below n₀ A B) {sv : Value} {zs : List Int} : IntsV n₀ A sv zs → IntsV n₀ B sv zs
  | .inl e => .inl e
  | .inr ⟨b, off, cap, e, hb, hc⟩ => .inr ⟨b, off, cap, e, hb, fun j hj => (h.cell (p := ⟨b, off + j, none⟩) hb).trans (hc j hj)⟩

set_option maxRecDepth 100000 in
set_option maxHeartbeats 1000000 in
theorem vals1_nil (F : Fence) (n : Nat) (h7 : F.fn 103) (hro : F.round = none) (l Bs : Nat) (a : Option Addr) (cap : Nat) (J : List Int → World → Prop) (W : World) (hBs : W.cell? ⟨Bs, 0, none⟩ = some (.slice a 0 cap)) (h0 : J [] W) :
    CallsIn F n Try.prog 103 #[.func (.yield l) #[] #[], .pointer (some ⟨Bs, 0, none⟩)] W fun e W' => (∃ v, e = .returned v) ∧ J [] W' := by
  refine callsIn_of_wp Try.func103 rfl h7 ?_ hro
  simp only [Try.ntmps103, List.size_toArray, List.length_cons, List.length_nil, Nat.reduceAdd, Nat.reduceSub, Array.replicate_succ, Array.replicate_zero, List.push_toArray, List.append_toArray, List.nil_append, List.cons_append]
  gi_wp2
  gi_loopw [7] (fun i wr => i = .int .i64 0 ∧ J [] wr) (fun _ _ => 0)
  case atStart => exact ⟨rfl, h0⟩
  case round =>
    obtain ⟨rfl, hJs⟩ := hrel
    gi_wp2
    go_end0
    exact ⟨⟨_, rfl⟩, hJs⟩

theorem vals_stops (F : Fence) (n : Nat) (h7 : F.fn 103) (hro : F.round = none) (hn : 1 ≤ n) (Bs n₀ : Nat) (sv : Value) (zs : List Int) (hreach : zs.length * 8 ≤ 140737488351232) (w : World) (hBs : Bs < w.heap.size) (hn₀ : n₀ ≤ w.heap.size)
    (hc : w.cell? ⟨Bs, 0, none⟩ = some sv) (hI : IntsV n₀ w sv zs) :
    SeqStopsK F n Try.prog 103 #[.pointer (some ⟨Bs, 0, none⟩)] (fun x : Int => #[Value.int .i64 x]) (Below n₀) (fun ys => ys = zs) (fun pre => pre <+: zs) zs.length w := fun l J Jx W hW _ _ hY h0 => by
  have hc' := (hW.cell (p := ⟨Bs, 0, none⟩) hBs).trans hc
  rcases hI.below (hW.mono hn₀) with ⟨⟨a, cap, rfl⟩, rfl⟩ | ⟨b, off, cap, rfl, hb, hcs⟩
  · exact (vals1_nil F n h7 hro l Bs a cap J W hc' h0).mono fun e W' ⟨he, hj⟩ => ⟨he, .inl ⟨_, rfl, hj⟩⟩
  · refine (vals1 F n h7 hro hn l Bs n₀ b off zs.length cap zs hreach hb J Jx hY W hc' hcs h0).mono ?_
    rintro e W' ⟨he, ⟨ys, rfl, hj⟩ | ⟨pre, ⟨k, hk, rfl⟩, hj⟩⟩
    · exact ⟨he, .inl ⟨_, uptoV_all zs, hj⟩⟩
    · exact ⟨he, .inr ⟨_, by rw [uptoV_take zs hk]; exact List.take_prefix _ _, hj⟩⟩

theorem info3V : (Try.prog.info? 3).map (fun i => (i.zero, i.size, i.bytes)) = some (some (.int .i64 0), 1, 8) := by kernel_rfl

set_option maxRecDepth 100000 in
set_option maxHeartbeats 2000000 in
theorem appendSeq_vals (F : Fence) (n : Nat) (h7 : F.fn 107) (h3 : F.fn 103) (hro : F.round = none) (hn : 3 ≤ n) (Bs : Nat) (sv : Value) (zs : List Int) (hlen : zs.length ≤ 1000) (w : World) (hBs : Bs < w.heap.size) (hc0 : w.cell? ⟨Bs, 0, none⟩ = some sv) (hI : IntsV w.heap.size w sv zs) :
    CallsIn F n Try.prog 107 #[.slice none 0 0, .func (.func 103) #[] #[.pointer (some ⟨Bs, 0, none⟩)]] w fun e W' => ∃ v, e = .returned v ∧ W'.ownsRow w.heap.size 3 1 v zs.length (zs.map (Value.int .i64)) ∧ Below w.heap.size w W' := by
  have h1 : 1 ≤ n := by omega
  have hml : zs.length ≤ maxLen := by simp only [maxLen]; omega
  obtain ⟨i0, hi, hz0, hz1, hz2⟩ := info_parts info3V
  refine callsIn_of_wp_marks Try.func107 rfl h7 ?_ hro
  simp only [Try.ntmps107, List.size_toArray, List.length_cons, List.length_nil, Nat.reduceAdd, Nat.reduceSub, Array.replicate_succ, Array.replicate_zero, List.push_toArray, List.append_toArray, List.nil_append, List.cons_append]
  gi_wp2
  have bO := Boxed.new w 39 (.slice none 0 0)
  have hB0 : Below w.heap.size w (w.alloc (.cells #[.slice none 0 0] 39)) := (Below.refl _ w).alloc (Nat.le_refl _) _
  refine wpIn_rangeFunc_ownG hro h1 (gf := 103) (lb := #[.pointer (some ⟨Bs, 0, none⟩)]) rfl h3 (enters_of Try.func103 (by kernel_rfl) rfl)
    (vals_stops F (n - 1) h3 hro (by omega) Bs w.heap.size sv zs (by omega) _ (by simp; omega) (by simp) ((hB0.cell (p := ⟨Bs, 0, none⟩) hBs).trans hc0) (hI.below hB0)) belowK_t (belowK_b (by simp)) (Below.refl _ _) (fun _ => rfl)
    (fun pre W => (∃ v, Boxed W w.heap.size 39 v ∧ W.ownsRow w.heap.size 3 1 v pre.length (pre.map (Value.int .i64)) ∧ (v = .slice none 0 0 ↔ pre = [])) ∧ Below w.heap.size w W)
    (fun _ _ _ => False)
    (OwnFrom.and (Own.from (holdsRow_own w.heap.size w.heap.size 39 3 1 (fun pre : List Int => pre.length) (fun pre => pre.map (Value.int .i64)) (fun pre v => v = .slice none 0 0 ↔ pre = [])) _) (ownFrom_below (Nat.le_refl _) (by simp)))
    (fun _ _ _ _ _ hs _ _ => hs)
    ⟨⟨_, bO, World.ownsRow_nil _ _ _ _, by simp⟩, hB0⟩
    (fun x => { tmps := #[.slice none 0 0, .func (.func 103) #[] #[.pointer (some ⟨Bs, 0, none⟩)], .pointer (some ⟨w.heap.size, 0, none⟩), undef, .slice none 0 0, .int .i64 x, .func (.func 103) #[] #[.pointer (some ⟨Bs, 0, none⟩)], .int .i64 x, undef, undef, undef, undef, undef], defers := [] }) ?assign ?body ?done ?stop
  case assign =>
    intro l x W K hK
    gi_wp2
    exact hK
  case body =>
    rintro l pre x W ⟨⟨v, hv, hrow, hnil⟩, hB⟩ hlt
    have hc := hv.cell
    gi_wp2_with (gi_at_builtin; refine wpListIn_append_own _ rfl _ _ 39 rfl w.heap.size 3 i0 (.int .i64 0) 1 8 Try.underlying39 hi hz0 hz1 hz2 rfl (by decide) _ _ _ rfl (hrow.alloc _) ⟨W.heap.size, 0, none⟩ 1 1 [.int .i64 x] rfl rfl (cell_one_new _ _ _) (by simp [Value.oneCell']) (by omega) (by omega) (by have := hB.size; simp; omega) ?_; intro v' w1 hown' hgrow _; obtain ⟨g', cap', rfl⟩ := ownsRow_succ hown'; obtain ⟨hv1, hv2, hr2, hk2, hb2⟩ := hv.appended (by decide) hrow hB.size (Nat.le_refl _) hown' hgrow; have hc1 := hv1.cell; have hf1 := hv1.frozen)
    exact ⟨hk2.from _, hb2, ⟨_, hv2, by simpa using hr2, by simp⟩, hB.trans hb2⟩
  case done =>
    rintro D ys W hD rfl ⟨⟨v, hv, hrow, hnil⟩, hB⟩ hK
    have hc := hv.cell
    gi_wp2
    refine ⟨by simp, .inl ⟨_, _, rfl, run_takeDeferred hK, ?_⟩⟩
    exact ⟨_, results_tmp rfl _ _ _, v, rfl, ownsRow_putObj hrow _ hK rfl, hB.trans (belowK_b (w := w) (Nat.le_refl _) W D _ _ (by simp at hD; omega) hK rfl rfl)⟩
  case stop =>
    rintro D c pre W _ _ h _
    exact h.elim

theorem F107 {sv : Value} {zs : List Int} {gs : Nat} {Fr_sv : List (Option Nat)} {w : World} (h_sv : Wk.V (Wk.tSl (Wk.tI .i64)) zs sv Fr_sv w) (x_gs : w.heap[gs]? = some (.cells #[sv] 39 (0, 0))) (p_n : zs.length ≤ 1000) :
    Calls Try.prog 107 #[.slice none 0 0, .func (.func 103) #[] #[.pointer (some ⟨gs, 0, none⟩)]] w (Wk.Ret w fun r w' => ∃ rv, r = rv ∧ Wk.Fresh (Wk.tI .i64) 3 zs rv w.heap.size w') := by
  have hI : IntsV w.heap.size w sv zs := by
    obtain ⟨a, cap, rfl, h1, h2, h3⟩ := h_sv.form
    cases zs with
    | nil => exact .inl ⟨⟨a, cap, rfl⟩, rfl⟩
    | cons z zs =>
      obtain ⟨b, o, rfl, _, h4, h5⟩ := h3 (by simp)
      refine .inr ⟨b, o, cap, rfl, h4, fun j hj => ?_⟩
      obtain ⟨es, ⟨rfl, _⟩, h6⟩ := h5 j _ (List.getElem?_eq_getElem hj)
      have := h6 0 _ rfl
      rw [List.getElem?_eq_getElem hj]
      rw [show o + j * (Wk.tI IntKind.i64).n + 0 = o + j by show o + j * 1 + 0 = o + j; omega] at this
      exact this
  refine ((appendSeq_vals Fence.wide 3 trivial trivial rfl (Nat.le_refl _) gs sv zs p_n w (Array.getElem?_eq_some_iff.1 x_gs).1 (Boxed.cell x_gs) hI).calls (fun k d h => by cases h)).mono ?_
  rintro e w' ⟨v, rfl, hrow, hB⟩
  exact ⟨v, rfl, hB, v, rfl, _, hrow, fun F => Wk.reps_ofInt (Wk.V.allIn h_sv)⟩
end Go.Proofs.Ytjbcpggikaeleaa

namespace Go.Proofs.Ytjbcpggikaeleaa
open Go.Wk Go.RowKit Go.Lib
set_option linter.unusedVariables false
set_option linter.unusedSimpArgs false
theorem elKq_39 : ElemI Try.prog 39 3 (.int .i64 0) 1 8 := ElemI.of Try.underlying39 (by kernel_rfl) (by first | rfl | kernel_rfl) (by decide)
theorem mixedKq_ : Try.prog.follows .mixedOrders = true := by kernel_rfl

theorem F105 {y : Int} {w : World} (i_y : InK .u64 y) (q1 : 1 ≤ y) (q7 : y ≤ 7) : Calls Try.prog 105 #[.int .u64 1, .int .u64 y] w (Ret w (fun r _ => r = .tuple #[.int .u64 0, .int .u64 y])) := by
  have b_y := bd_u64 i_y
  have hm := and_mask q1 q7
  have hS := St.start0 w
  refine enterR Try.func105 rfl Try.ntmps105 Try.results105 rfl ?_
  refine W.seq ?_
  refine W.reg ?_
  refine Wx.rd (v := .int .u64 0) (rd_assign rfl) rfl ?_
  refine Wx.rd (v := .int .u64 0) (rd_assign rfl) rfl ?_
  refine Wx.nil ?_
  refine W.seq ?_
  refine W.reg ?_
  refine Wx.rd (v := .int .u64 1) (rd_move rfl) rfl ?_
  refine Wx.rd (v := .int .u64 1) (Rd.to (v := .int .u64 (bits .and .u64 1 4294967295)) (rd_and rfl rfl) (congrArg (Value.int .u64) (show (1 : Int) = (bits .and .u64 1 4294967295 : Int) from (by decide +kernel)).symm)) rfl ?_
  have bd_1 := bd_u64 (bits_in .and .u64 1 4294967295)
  refine Wx.rd (v := .int .u64 1) (rd_assign rfl) rfl ?_
  refine Wx.nil ?_
  refine W.seq ?_
  refine W.reg ?_
  refine Wx.rd (v := .int .u64 1) (rd_move rfl) rfl ?_
  refine Wx.rd (v := .int .u64 0) (Rd.to (v := .int .u64 (1 / 2 ^ min (32 : Int).toNat (IntKind.u64).bits)) (rd_shr rfl rfl (by omega)) (congrArg (Value.int .u64) (show (0 : Int) = (1 / 2 ^ min (32 : Int).toNat (IntKind.u64).bits : Int) from (by decide +kernel)).symm)) rfl ?_
  refine Wx.rd (v := .int .u64 0) (rd_assign rfl) rfl ?_
  refine Wx.nil ?_
  refine W.seq ?_
  refine W.reg ?_
  refine Wx.rd (v := .int .u64 y) (rd_move rfl) rfl ?_
  refine Wx.rd (v := .int .u64 y) (Rd.to (v := .int .u64 (bits .and .u64 y 4294967295)) (rd_and rfl rfl) (congrArg (Value.int .u64) (show (y : Int) = (bits .and .u64 y 4294967295 : Int) from hm.1.symm).symm)) rfl ?_
  have bd_2 := bd_u64 (bits_in .and .u64 y 4294967295)
  refine Wx.rd (v := .int .u64 y) (rd_assign rfl) rfl ?_
  refine Wx.nil ?_
  refine W.seq ?_
  refine W.reg ?_
  refine Wx.rd (v := .int .u64 y) (rd_move rfl) rfl ?_
  refine Wx.rd (v := .int .u64 0) (Rd.to (v := .int .u64 (y / 2 ^ min (32 : Int).toNat (IntKind.u64).bits)) (rd_shr rfl rfl (by omega)) (congrArg (Value.int .u64) (show (0 : Int) = (y / 2 ^ min (32 : Int).toNat (IntKind.u64).bits : Int) from hm.2.symm).symm)) rfl ?_
  refine Wx.rd (v := .int .u64 0) (rd_assign rfl) rfl ?_
  refine Wx.nil ?_
  refine W.seq ?_
  refine W.reg ?_
  refine Wx.rd (v := .int .u64 1) (rd_move rfl) rfl ?_
  refine Wx.rd (v := .int .u64 y) (rd_move rfl) rfl ?_
  refine Wx.rd (v := .int .u64 y) (Rd.to (v := .int .u64 (1 * y)) (rd_mul rfl rfl (in_u64 (by omega) (by omega))) (congrArg (Value.int .u64) (show (y : Int) = (1 * y : Int) from (by omega)).symm)) rfl ?_
  refine Wx.rd (v := .int .u64 y) (rd_assign rfl) rfl ?_
  refine Wx.nil ?_
  refine W.seq ?_
  refine W.reg ?_
  refine Wx.rd (v := .int .u64 0) (rd_move rfl) rfl ?_
  refine Wx.rd (v := .int .u64 y) (rd_move rfl) rfl ?_
  refine Wx.rd (v := .int .u64 0) (Rd.to (v := .int .u64 (0 * y)) (rd_mul rfl rfl (in_u64 (by omega) (by omega))) (congrArg (Value.int .u64) (show (0 : Int) = (0 * y : Int) from (by omega)).symm)) rfl ?_
  refine Wx.rd (v := .int .u64 y) (rd_move rfl) rfl ?_
  refine Wx.rd (v := .int .u64 0) (Rd.to (v := .int .u64 (y / 2 ^ min (32 : Int).toNat (IntKind.u64).bits)) (rd_shr rfl rfl (by omega)) (congrArg (Value.int .u64) (show (0 : Int) = (y / 2 ^ min (32 : Int).toNat (IntKind.u64).bits : Int) from hm.2.symm).symm)) rfl ?_
  refine Wx.rd (v := .int .u64 0) (rd_add (a := 0) (b := 0) rfl rfl (in_u64 (by omega) (by omega))) rfl ?_
  refine Wx.rd (v := .int .u64 0) (rd_assign rfl) rfl ?_
  refine Wx.nil ?_
  refine W.seq ?_
  refine W.reg ?_
  refine Wx.rd (v := .int .u64 0) (rd_move rfl) rfl ?_
  refine Wx.rd (v := .int .u64 0) (Rd.to (v := .int .u64 (bits .and .u64 0 4294967295)) (rd_and rfl rfl) (congrArg (Value.int .u64) (show (0 : Int) = (bits .and .u64 0 4294967295 : Int) from (by decide +kernel)).symm)) rfl ?_
  have bd_3 := bd_u64 (bits_in .and .u64 0 4294967295)
  refine Wx.rd (v := .int .u64 0) (rd_assign rfl) rfl ?_
  refine Wx.nil ?_
  refine W.seq ?_
  refine W.reg ?_
  refine Wx.rd (v := .int .u64 0) (rd_move rfl) rfl ?_
  refine Wx.rd (v := .int .u64 0) (Rd.to (v := .int .u64 (0 / 2 ^ min (32 : Int).toNat (IntKind.u64).bits)) (rd_shr rfl rfl (by omega)) (congrArg (Value.int .u64) (show (0 : Int) = (0 / 2 ^ min (32 : Int).toNat (IntKind.u64).bits : Int) from (by decide +kernel)).symm)) rfl ?_
  refine Wx.rd (v := .int .u64 0) (rd_assign rfl) rfl ?_
  refine Wx.nil ?_
  refine W.seq ?_
  refine W.reg ?_
  refine Wx.rd (v := .int .u64 0) (rd_move rfl) rfl ?_
  refine Wx.rd (v := .int .u64 1) (rd_move rfl) rfl ?_
  refine Wx.rd (v := .int .u64 0) (rd_move rfl) rfl ?_
  refine Wx.rd (v := .int .u64 0) (rd_mul (a := 1) (b := 0) rfl rfl (in_u64 (by omega) (by omega))) rfl ?_
  refine Wx.rd (v := .int .u64 0) (rd_add (a := 0) (b := 0) rfl rfl (in_u64 (by omega) (by omega))) rfl ?_
  refine Wx.rd (v := .int .u64 0) (rd_assign rfl) rfl ?_
  refine Wx.nil ?_
  refine W.seq ?_
  refine W.reg ?_
  refine Wx.rd (v := .int .u64 0) (rd_move rfl) rfl ?_
  refine Wx.rd (v := .int .u64 0) (rd_move rfl) rfl ?_
  refine Wx.rd (v := .int .u64 0) (rd_mul (a := 0) (b := 0) rfl rfl (in_u64 (by omega) (by omega))) rfl ?_
  refine Wx.rd (v := .int .u64 0) (rd_move rfl) rfl ?_
  refine Wx.rd (v := .int .u64 0) (rd_add (a := 0) (b := 0) rfl rfl (in_u64 (by omega) (by omega))) rfl ?_
  refine Wx.rd (v := .int .u64 0) (rd_move rfl) rfl ?_
  refine Wx.rd (v := .int .u64 0) (Rd.to (v := .int .u64 (0 / 2 ^ min (32 : Int).toNat (IntKind.u64).bits)) (rd_shr rfl rfl (by omega)) (congrArg (Value.int .u64) (show (0 : Int) = (0 / 2 ^ min (32 : Int).toNat (IntKind.u64).bits : Int) from (by decide +kernel)).symm)) rfl ?_
  refine Wx.rd (v := .int .u64 0) (rd_add (a := 0) (b := 0) rfl rfl (in_u64 (by omega) (by omega))) rfl ?_
  refine Wx.rd (v := .int .u64 0) (rd_assign rfl) rfl ?_
  refine Wx.nil ?_
  refine W.seq ?_
  refine W.reg ?_
  refine Wx.rd (v := .int .u64 1) (rd_move rfl) rfl ?_
  refine Wx.rd (v := .int .u64 y) (rd_move rfl) rfl ?_
  refine Wx.rd (v := .int .u64 y) (Rd.to (v := .int .u64 (1 * y)) (rd_mul rfl rfl (in_u64 (by omega) (by omega))) (congrArg (Value.int .u64) (show (y : Int) = (1 * y : Int) from (by omega)).symm)) rfl ?_
  refine Wx.rd (v := .int .u64 y) (rd_assign rfl) rfl ?_
  refine Wx.nil ?_
  exact W.ret ⟨.tuple #[.int .u64 0, .int .u64 y], ResIs.two, hS.bel, rfl⟩

theorem F98 {y : Int} {w : World} (i_y : InK .u64 y) (q1 : 1 ≤ y) (q7 : y ≤ 7) : Calls Try.prog 98 #[.int .u64 1, .int .u64 y] w (Ret w (fun r _ => r = .tuple #[.int .u64 0, .int .u64 y])) := by
  have b_y := bd_u64 i_y
  have hS := St.start0 w
  refine enterR Try.func98 rfl Try.ntmps98 Try.results98 rfl ?_
  refine W.seq ?_
  refine W.reg ?_
  refine Wx.rd (v := .int .u64 0) (rd_assign rfl) rfl ?_
  refine Wx.rd (v := .int .u64 0) (rd_assign rfl) rfl ?_
  refine Wx.nil ?_
  refine W.seq ?_
  refine W.condF rfl rfl ?_
  refine W.skip ?_
  refine W.seq ?_
  refine W.reg ?_
  refine Wx.rd (v := .int .u64 1) (rd_move rfl) rfl ?_
  refine Wx.rd (v := .int .u64 y) (rd_move rfl) rfl ?_
  refine Wx.callF (run_callF Try.call105 rfl) (F105 i_y (by omega) (by omega)) rfl ?_
  rintro r_1 w_2 hx_3 rfl
  have hS := hS.ext hx_3
  refine Wx.rd (v := .tuple #[.int .u64 0, .int .u64 y]) (rd_move rfl) rfl ?_
  refine Wx.rd (v := .int .u64 0) (rd_extract rfl rfl) rfl ?_
  refine Wx.rd (v := .int .u64 y) (rd_extract rfl rfl) rfl ?_
  refine Wx.rd (v := .int .u64 0) (rd_assign rfl) rfl ?_
  refine Wx.rd (v := .int .u64 y) (rd_assign rfl) rfl ?_
  refine Wx.nil ?_
  refine W.seq ?_
  refine W.reg ?_
  refine Wx.rd (v := .int .u64 0) (rd_move rfl) rfl ?_
  refine Wx.rd (v := .int .u64 y) (rd_move rfl) rfl ?_
  refine Wx.rd (v := .int .u64 0) (rd_assign rfl) rfl ?_
  refine Wx.rd (v := .int .u64 y) (rd_assign rfl) rfl ?_
  refine Wx.nil ?_
  exact W.ret ⟨.tuple #[.int .u64 0, .int .u64 y], ResIs.two, hS.bel, rfl⟩

theorem F91 {xv : Value} {Fr_xv : List (Option Nat)} {n : Int} {a : Int} {w : World} (h_xv : V (tSl (tI .i64)) [a] xv Fr_xv w) (i_n : InK .i64 n) (q1 : 1 ≤ n) (q7 : n ≤ 7) : Calls Try.prog 91 #[xv, .int .i64 n] w (Ret w (fun r w' => ∃ rv, r = rv ∧ Fresh (tI .i64) 3 (List.replicate n.toNat a) rv w.heap.size w')) := by
  have b_n := bd_i64 i_n
  have a_xv := h_xv.any
  have l_xv := h_xv.len63
  have hS := St.start0 w
  refine enterR Try.func91 rfl Try.ntmps91 Try.results91 rfl ?_
  refine W.seq ?_
  refine W.reg ?_
  refine Wx.rd (v := (.slice none 0 0)) (rd_assign rfl) rfl ?_
  refine Wx.nil ?_
  refine W.seq ?_
  refine W.seq ?_
  refine W.reg ?_
  refine Wx.rd (v := .int .i64 n) (rd_move rfl) rfl ?_
  refine Wx.rd (v := .bool (decide (n < 0))) (rd_lss rfl rfl) rfl ?_
  refine Wx.nil ?_
  refine W.condF rfl (decide_eq_false (by omega)) ?_
  refine W.skip ?_
  refine W.seq ?_
  refine W.reg ?_
  refine Wx.rd (v := xv) (rd_move rfl) rfl ?_
  refine Wx.rd (v := .int .i64 1) (Rd.to (v := .int .i64 ([a].length : Int)) (rd_lenV rfl (hS.arg a_xv) Try.underlying39) (congrArg (Value.int .i64) (show (1 : Int) = (([a].length : Int) : Int) from rfl).symm)) rfl ?_
  refine Wx.rd (v := .int .u64 1) (rd_convIn rfl Try.underlying3 Try.underlying131 (in_u64 (by omega) (by omega))) rfl ?_
  refine Wx.rd (v := .int .i64 n) (rd_move rfl) rfl ?_
  refine Wx.rd (v := .int .u64 n) (rd_convIn rfl Try.underlying3 Try.underlying131 (in_u64 (by omega) (by omega))) rfl ?_
  refine Wx.callF (run_callF Try.call98 rfl) (F98 (in_u64 (by omega) (by omega)) (by omega) (by omega)) rfl ?_
  rintro r_1 w_2 hx_3 rfl
  have hS := hS.ext hx_3
  refine Wx.rd (v := .tuple #[.int .u64 0, .int .u64 n]) (rd_move rfl) rfl ?_
  refine Wx.rd (v := .int .u64 0) (rd_extract rfl rfl) rfl ?_
  refine Wx.rd (v := .int .u64 n) (rd_extract rfl rfl) rfl ?_
  refine Wx.rd (v := .int .u64 0) (rd_assign rfl) rfl ?_
  refine Wx.rd (v := .int .u64 n) (rd_assign rfl) rfl ?_
  refine Wx.nil ?_
  refine W.seq ?_
  refine W.seq ?_
  refine W.reg ?_
  refine Wx.rd (v := .int .u64 0) (rd_move rfl) rfl ?_
  refine Wx.rd (v := .bool false) (Rd.to (v := .bool (decide ((0 : Int) < 0))) (rd_gtr rfl rfl) rfl) rfl ?_
  refine Wx.rd (v := .bool false) (rd_move rfl) rfl ?_
  refine Wx.gyes rfl rfl rfl ?_
  refine Wx.rd (v := .int .u64 n) (rd_move rfl) rfl ?_
  refine Wx.gyes rfl rfl rfl ?_
  refine Wx.rd (v := .bool (decide (9223372036854775807 < n))) (rd_gtr rfl rfl) rfl ?_
  refine Wx.rd (v := .bool (decide (9223372036854775807 < n))) (rd_pickF rfl rfl) rfl ?_
  refine Wx.nil ?_
  refine W.condF rfl (by simp; omega) ?_
  refine W.skip ?_
  refine W.seq ?_
  refine W.reg ?_
  refine Wx.rd (v := .int .u64 n) (rd_move rfl) rfl ?_
  refine Wx.rd (v := .int .i64 n) (rd_convIn rfl Try.underlying131 Try.underlying3 (in_i64 (by omega) (by omega))) rfl ?_
  refine Wx.make (t := (tI .i64)) (zy := 0) (m := n.toNat) elKq_39 rfl rfl (fun _ _ => ⟨rfl, by decide, by decide⟩) hS (congrArg (Value.int .i64) (by omega)) (congrArg (Value.int .i64) (by omega)) (by omega) (by simp only [maxLen]; omega) rfl (fun v_4 w_5 hx_6 hS => ?_)
  refine Wx.rd (v := v_4) (rd_assign rfl) rfl ?_
  refine Wx.nil ?_
  refine W.seq ?_
  refine W.reg ?_
  refine Wx.rd (v := v_4) (rd_move rfl) rfl ?_
  refine Wx.rd (v := xv) (rd_move rfl) rfl ?_
  have hrl : (List.replicate n.toNat (0 : Int)).length = n.toNat := by simp
  refine Wx.copyW (c := 1) (yn := List.replicate 1 a ++ List.replicate (n.toNat - 1) 0) rfl Try.underlying39 Try.sizeOf3 hS 0 rfl rfl (by simp; omega) rfl (Src.ofV (hS.arg a_xv)) rfl (by simp; omega) (rep_first (by omega)) (fun w_9 hz_10 hS => ?_)
  refine Wx.rd (v := .int .i64 1) (rd_assign rfl) rfl ?_
  refine Wx.nil ?_
  refine W.seq ?_
  refine W.block ?_
  refine W.loop [8, 34, 35, 36, 37, 38, 39, 40, 41, 42, 43, 44, 45, 46] (fun x : Int × (List Int) => match x with | (b, out) => [(8, .int .i64 b)]) (fun (x : Int × (List Int)) w' => match x with | (b, out) => St w [] w' [.row (tI .i64) 3 v_4 out] ∧ 1 ≤ b ∧ b ≤ n ∧ out = List.replicate b.toNat a ++ List.replicate (n.toNat - b.toNat) 0 ∧ (out.length : Int) = n) (fun x : Int × (List Int) => match x with | (b, out) => (n - b).toNat) (1, List.replicate 1 a ++ List.replicate (n.toNat - 1) 0) ⟨rfl, trivial⟩ ⟨hS, (by first | omega | simp), (by first | omega | simp), (rfl), (by simp; omega)⟩ ?_
  rintro ⟨b, out⟩ u_12 w_11 ⟨hS, h0, h1, h2, h3⟩
  refine W.seq ?_
  refine W.seq ?_
  refine W.reg ?_
  refine Wx.rd (v := .int .i64 b) (rd_move rfl) rfl ?_
  refine Wx.rd (v := v_4) (rd_move rfl) rfl ?_
  refine Wx.rd (v := .int .i64 (out.length : Int)) (rd_lenR hS 0 rfl rfl Try.underlying39) rfl ?_
  refine Wx.rd (v := .bool (decide (b < (out.length : Int)))) (rd_lss rfl rfl) rfl ?_
  refine Wx.nil ?_
  refine W.condD rfl (fun c2 => ?_) (fun c2 => ?_)
  · -- yes
    refine W.skip ?_
    refine W.block ?_
    refine W.regP mixedKq_ (fun w_13 hx_14 => ?_)
    have hS := hS.ext hx_14
    refine Wp.rd (v := .int .i64 b) 0 rfl (by kernel_rfl) (fun _ => (rd_move rfl)) rfl ?_
    refine Wp.rd (v := v_4) 1 rfl (by kernel_rfl) (fun _ => (rd_move rfl)) rfl ?_
    refine Wp.rd (v := .int .i64 b) 2 rfl (by kernel_rfl) (fun _ => (rd_move rfl)) rfl ?_
    refine Wp.ex2 3 rfl (by kernel_rfl) (rd_tailR hS 0 rfl Try.underlying39 Try.sizeOf3 rfl rfl (by omega) (by omega)) rfl (fun g_15 c_16 hg_17 => ?_)
    refine Wp.rd (v := v_4) 4 rfl (by kernel_rfl) (fun _ => (rd_move rfl)) rfl ?_
    refine Wp.rd (v := .int .i64 b) 5 rfl (by kernel_rfl) (fun _ => (rd_move rfl)) rfl ?_
    refine Wp.ex2 6 rfl (by kernel_rfl) (rd_headR hS 0 rfl Try.underlying39 Try.sizeOf3 rfl rfl (by omega) (by omega)) rfl (fun g_18 c_19 hg_20 => ?_)
    refine Wp.br [7] (by kernel_rfl) (by decide) ⟨⟨_, rfl, ?_⟩, trivial⟩
    refine Wx.copyR (c := min (b + b) n - b) (yn := List.replicate (min (b + b) n).toNat a ++ List.replicate (n.toNat - (min (b + b) n).toNat) 0) rfl Try.underlying39 Try.sizeOf3 hS 0 rfl hg_17 rfl (by show b.toNat * 1 + (out.length - b.toNat) ≤ out.length; omega) rfl (Src.headR hS 0 rfl hg_20 (by omega)) rfl (by rw [List.length_take, Nat.min_eq_left (show b.toNat ≤ out.length by omega), Nat.min_def, Int.min_def]; split <;> split <;> omega) (by rw [h2]; exact rep_next (by omega) (by omega)) (fun w_21 hz_22 hS => ?_)
    refine Wx.nil ?_
    refine Wp.rd (v := .int .i64 (b + (min (b + b) n - b))) 8 rfl (by kernel_rfl) (fun _ => (rd_add rfl rfl (in_i64 (by omega) (by omega)))) rfl ?_
    refine Wp.rd (v := .int .i64 (b + (min (b + b) n - b))) 9 rfl (by kernel_rfl) (fun _ => (rd_assign rfl)) rfl ?_
    refine Wp.done (by kernel_rfl) ?_
    refine ⟨(b + (min (b + b) n - b), List.replicate (min (b + b) n).toNat a ++ List.replicate (n.toNat - (min (b + b) n).toNat) 0), (by show (n - (b + (min (b + b) n - b))).toNat < (n - b).toNat; omega), ?_, ?_, Out.look rfl Out.self⟩
    · exact ⟨hS, (by first | omega | assumption), (by first | omega | assumption), (by rw [show b + (min (b + b) n - b) = min (b + b) n by omega]), (by simp; omega)⟩
    · exact ⟨rfl, trivial⟩
  · -- no
    refine W.exit rfl ?_
    refine W.seq ?_
    refine W.reg ?_
    refine Wx.rd (v := v_4) (rd_move rfl) rfl ?_
    refine Wx.rd (v := v_4) (rd_assign rfl) rfl ?_
    refine Wx.nil ?_
    have e0_0 : List.replicate n.toNat a = out := by rw [h2, show n.toNat - b.toNat = 0 by omega, show b = n by omega]; simp
    exact W.ret ⟨v_4, ResIs.one, hS.bel, ⟨v_4, rfl, (by rw [e0_0]; exact (hS.fr 0 rfl flat_int))⟩⟩

theorem F97 {x : Int} {w : World} (i_x : InK .i64 x) : Calls Try.prog 97 #[.int .i64 x] w (Ret w (fun r _ => r = .bool false)) := by
  have b_x := bd_i64 i_x
  have hS := St.start0 w
  refine enterR Try.func97 rfl Try.ntmps97 Try.results97 rfl ?_
  refine W.seq ?_
  refine W.reg ?_
  refine Wx.rd (v := .bool false) (rd_assign rfl) rfl ?_
  refine Wx.nil ?_
  refine W.seq ?_
  refine W.reg ?_
  refine Wx.rd (v := .int .i64 x) (rd_move rfl) rfl ?_
  refine Wx.rd (v := .int .i64 x) (rd_move rfl) rfl ?_
  refine Wx.rd (v := .bool (decide (x ≠ x))) (rd_neq rfl rfl) rfl ?_
  refine Wx.rd (v := .bool (decide (x ≠ x))) (rd_assign rfl) rfl ?_
  refine Wx.nil ?_
  have e0_0 : (decide (x ≠ x)) = false := by simp
  exact W.ret ⟨.bool (decide (x ≠ x)), ResIs.one, hS.bel, (by rw [e0_0])⟩

theorem F116 {x : Int} {y : Int} {w : World} (i_x : InK .i64 x) (i_y : InK .i64 y) : Calls Try.prog 116 #[.int .i64 x, .int .i64 y] w (Ret w (fun r _ => r = .bool (decide (x < y)))) := by
  have b_y := bd_i64 i_y
  have b_x := bd_i64 i_x
  have hS := St.start0 w
  refine enterR Try.func116 rfl Try.ntmps116 Try.results116 rfl ?_
  refine W.seq ?_
  refine W.reg ?_
  refine Wx.rd (v := .bool false) (rd_assign rfl) rfl ?_
  refine Wx.nil ?_
  refine W.seq ?_
  refine W.reg ?_
  refine Wx.rd (v := .int .i64 x) (rd_move rfl) rfl ?_
  refine Wx.callF (run_callF Try.call97 rfl) (F97 i_x) rfl ?_
  rintro r_1 w_2 hx_3 rfl
  have hS := hS.ext hx_3
  refine Wx.rd (v := .bool false) (rd_move rfl) rfl ?_
  refine Wx.gnoB rfl rfl rfl rfl rfl ?_
  refine Wx.gnoB rfl rfl rfl rfl rfl ?_
  refine Wx.gnoB rfl rfl rfl rfl rfl ?_
  refine Wx.rd (v := .bool false) (rd_pickF rfl rfl) rfl ?_
  refine Wx.rd (v := .bool false) (rd_move rfl) rfl ?_
  refine Wx.gyes rfl rfl rfl ?_
  refine Wx.rd (v := .int .i64 x) (rd_move rfl) rfl ?_
  refine Wx.gyes rfl rfl rfl ?_
  refine Wx.rd (v := .int .i64 y) (rd_move rfl) rfl ?_
  refine Wx.gyes rfl rfl rfl ?_
  refine Wx.rd (v := .bool (decide (x < y))) (rd_lss rfl rfl) rfl ?_
  refine Wx.rd (v := .bool (decide (x < y))) (rd_pickF rfl rfl) rfl ?_
  refine Wx.rd (v := .bool (decide (x < y))) (rd_assign rfl) rfl ?_
  refine Wx.nil ?_
  exact W.ret ⟨.bool (decide (x < y)), ResIs.one, hS.bel, rfl⟩

theorem F89 {x : Int} {y : Int} {w : World} (i_x : InK .i64 x) (i_y : InK .i64 y) : Calls Try.prog 89 #[.int .i64 x, .int .i64 y] w (Ret w (fun r _ => r = .int .i64 (cmpI x y))) := by
  have b_y := bd_i64 i_y
  have b_x := bd_i64 i_x
  have hS := St.start0 w
  refine enterR Try.func89 rfl Try.ntmps89 Try.results89 rfl ?_
  refine W.seq ?_
  refine W.reg ?_
  refine Wx.rd (v := .int .i64 0) (rd_assign rfl) rfl ?_
  refine Wx.nil ?_
  refine W.seq ?_
  refine W.reg ?_
  refine Wx.rd (v := .int .i64 x) (rd_move rfl) rfl ?_
  refine Wx.callF (run_callF Try.call97 rfl) (F97 i_x) rfl ?_
  rintro r_1 w_2 hx_3 rfl
  have hS := hS.ext hx_3
  refine Wx.rd (v := .bool false) (rd_assign rfl) rfl ?_
  refine Wx.nil ?_
  refine W.seq ?_
  refine W.reg ?_
  refine Wx.rd (v := .int .i64 y) (rd_move rfl) rfl ?_
  refine Wx.callF (run_callF Try.call97 rfl) (F97 i_y) rfl ?_
  rintro r_4 w_5 hx_6 rfl
  have hS := hS.ext hx_6
  refine Wx.rd (v := .bool false) (rd_assign rfl) rfl ?_
  refine Wx.nil ?_
  refine W.seq ?_
  refine W.seq ?_
  refine W.reg ?_
  refine Wx.rd (v := .bool false) (rd_move rfl) rfl ?_
  refine Wx.nil ?_
  refine W.condF rfl rfl ?_
  refine W.skip ?_
  refine W.seq ?_
  refine W.seq ?_
  refine W.reg ?_
  refine Wx.rd (v := .bool false) (rd_move rfl) rfl ?_
  refine Wx.nil ?_
  refine W.condF rfl rfl ?_
  refine W.skip ?_
  refine W.seq ?_
  refine W.seq ?_
  refine W.reg ?_
  refine Wx.rd (v := .int .i64 x) (rd_move rfl) rfl ?_
  refine Wx.rd (v := .int .i64 y) (rd_move rfl) rfl ?_
  refine Wx.rd (v := .bool (decide (x < y))) (rd_lss rfl rfl) rfl ?_
  refine Wx.nil ?_
  refine W.condD rfl (fun c2 => ?_) (fun c2 => ?_)
  · -- yes
    refine W.seq ?_
    refine W.reg ?_
    refine Wx.rd (v := .int .i64 (-1)) (rd_assign rfl) rfl ?_
    refine Wx.nil ?_
    have e0_0 : (cmpI x y) = (-1 : Int) := by rw [cmpI, if_pos c2]
    exact W.ret ⟨.int .i64 (-1), ResIs.one, hS.bel, (by rw [e0_0])⟩
  · -- no
    refine W.skip ?_
    refine W.seq ?_
    refine W.seq ?_
    refine W.reg ?_
    refine Wx.rd (v := .int .i64 x) (rd_move rfl) rfl ?_
    refine Wx.rd (v := .int .i64 y) (rd_move rfl) rfl ?_
    refine Wx.rd (v := .bool (decide (y < x))) (rd_gtr rfl rfl) rfl ?_
    refine Wx.nil ?_
    refine W.condD rfl (fun c3 => ?_) (fun c3 => ?_)
    · -- yes
      refine W.seq ?_
      refine W.reg ?_
      refine Wx.rd (v := .int .i64 1) (rd_assign rfl) rfl ?_
      refine Wx.nil ?_
      have e1_0 : (cmpI x y) = (1 : Int) := by rw [cmpI, if_neg c2, if_pos c3]
      exact W.ret ⟨.int .i64 1, ResIs.one, hS.bel, (by rw [e1_0])⟩
    · -- no
      refine W.skip ?_
      refine W.seq ?_
      refine W.reg ?_
      refine Wx.rd (v := .int .i64 0) (rd_assign rfl) rfl ?_
      refine Wx.nil ?_
      have e2_0 : (cmpI x y) = (0 : Int) := by rw [cmpI, if_neg c2, if_neg c3]
      exact W.ret ⟨.int .i64 0, ResIs.one, hS.bel, (by rw [e2_0])⟩

theorem F52 {av : Value} {p : List Int} {Fr_av : List (Option Nat)} {bv : Value} {q : List Int} {Fr_bv : List (Option Nat)} {w : World} (h_av : V (tSl (tI .i64)) p av Fr_av w) (h_bv : V (tSl (tI .i64)) q bv Fr_bv w) : Calls Try.prog 52 #[av, bv] w (Ret w (fun r _ => r = .int .i64 (cmpL p q))) := by
  have a_av := h_av.any
  have l_av := h_av.len63
  have a_bv := h_bv.any
  have l_bv := h_bv.len63
  have hS := St.start0 w
  refine enterR Try.func52 rfl Try.ntmps52 Try.results52 rfl ?_
  refine W.seq ?_
  refine W.reg ?_
  refine Wx.rd (v := .int .i64 0) (rd_assign rfl) rfl ?_
  refine Wx.nil ?_
  refine W.seq ?_
  refine W.seq ?_
  refine W.reg ?_
  refine Wx.rd (v := av) (rd_move rfl) rfl ?_
  refine Wx.rd (v := .int .i64 (p.length : Int)) (rd_lenV rfl (hS.arg a_av) Try.underlying39) rfl ?_
  refine Wx.rd (v := .int .i64 0) (rd_move rfl) rfl ?_
  refine Wx.nil ?_
  refine W.block ?_
  refine W.loop [4, 5, 6, 7, 8, 11, 12, 13, 14, 15, 16, 17, 18, 19, 20, 21, 22, 23, 24, 25, 26, 27, 28, 29, 30] (fun (k : Int) => [(11, .int .i64 k)]) (fun (k : Int) w' => St w [] w' [] ∧ 0 ≤ k ∧ k ≤ p.length ∧ k ≤ q.length ∧ cmpL (p.drop k.toNat) (q.drop k.toNat) = cmpL p q) (fun (k : Int) => (p.length - k).toNat) 0 ⟨rfl, trivial⟩ ⟨hS, (by first | omega | simp), (by first | omega | simp), (by first | omega | simp), (rfl)⟩ ?_
  rintro k u_2 w_1 ⟨hS, h0, h1, h1b, h2⟩
  refine W.seq ?_
  refine W.reg ?_
  refine Wx.rd (v := .bool (decide (k < (p.length : Int)))) (rd_lss rfl rfl) rfl ?_
  refine Wx.nil ?_
  refine W.seq ?_
  refine W.condD rfl (fun c0 => ?_) (fun c0 => ?_)
  · -- yes
    refine W.skip ?_
    refine W.seq ?_
    refine W.block ?_
    refine W.seq ?_
    refine W.reg ?_
    refine Wx.rd (v := .int .i64 k) (rd_move rfl) rfl ?_
    refine Wx.ex (rd_index 0 (hS.arg a_av) rfl rfl Try.underlying39 Try.sizeOf3 (by first | omega | (simp only [List.length_set, List.length_append, List.length_cons, List.length_nil, List.length_replicate]; omega)) (by first | omega | (simp only [List.length_set, List.length_append, List.length_cons, List.length_nil, List.length_replicate]; omega))) rfl (fun p_3 hp_4 => ?_)
    refine Wx.rd (v := .int .i64 (ix 0 p k)) (rd_loadI hp_4 rfl Try.isAgg3 Try.sizeOf3) rfl ?_
    have bd_5 := bd_i64 hp_4.inK
    refine Wx.rd (v := .int .i64 k) (rd_assign rfl) rfl ?_
    refine Wx.rd (v := .int .i64 (ix 0 p k)) (rd_assign rfl) rfl ?_
    refine Wx.nil ?_
    refine W.seq ?_
    refine W.seq ?_
    refine W.reg ?_
    refine Wx.rd (v := .int .i64 k) (rd_move rfl) rfl ?_
    refine Wx.rd (v := bv) (rd_move rfl) rfl ?_
    refine Wx.rd (v := .int .i64 (q.length : Int)) (rd_lenV rfl (hS.arg a_bv) Try.underlying39) rfl ?_
    refine Wx.rd (v := .bool (decide ((q.length : Int) ≤ k))) (rd_geq rfl rfl) rfl ?_
    refine Wx.nil ?_
    refine W.condD rfl (fun c1 => ?_) (fun c1 => ?_)
    · -- yes
      refine W.seq ?_
      refine W.reg ?_
      refine Wx.rd (v := .int .i64 1) (rd_assign rfl) rfl ?_
      refine Wx.nil ?_
      have e0_0 : (cmpL p q) = (1 : Int) := by rw [← h2, drop_ix (d := 0) h0 c0, drop_end (xs := q) (by omega)]; rfl
      exact W.ret ⟨.int .i64 1, ResIs.one, hS.bel, (by rw [e0_0])⟩
    · -- no
      refine W.skip ?_
      refine W.seq ?_
      refine W.reg ?_
      refine Wx.rd (v := bv) (rd_move rfl) rfl ?_
      refine Wx.rd (v := .int .i64 k) (rd_move rfl) rfl ?_
      refine Wx.ex (rd_index 0 (hS.arg a_bv) rfl rfl Try.underlying39 Try.sizeOf3 (by first | omega | (simp only [List.length_set, List.length_append, List.length_cons, List.length_nil, List.length_replicate]; omega)) (by first | omega | (simp only [List.length_set, List.length_append, List.length_cons, List.length_nil, List.length_replicate]; omega))) rfl (fun p_6 hp_7 => ?_)
      refine Wx.rd (v := .int .i64 (ix 0 q k)) (rd_loadI hp_7 rfl Try.isAgg3 Try.sizeOf3) rfl ?_
      have bd_8 := bd_i64 hp_7.inK
      refine Wx.rd (v := .int .i64 (ix 0 q k)) (rd_assign rfl) rfl ?_
      refine Wx.nil ?_
      refine W.seq ?_
      refine W.reg ?_
      refine Wx.rd (v := .int .i64 (ix 0 p k)) (rd_move rfl) rfl ?_
      refine Wx.rd (v := .int .i64 (ix 0 q k)) (rd_move rfl) rfl ?_
      refine Wx.callF (run_callF Try.call89 rfl) (F89 (in_i64 (by omega) (by omega)) (in_i64 (by omega) (by omega))) rfl ?_
      rintro r_9 w_10 hx_11 rfl
      have hS := hS.ext hx_11
      refine Wx.rd (v := .int .i64 (cmpI (ix 0 p k) (ix 0 q k))) (rd_assign rfl) rfl ?_
      refine Wx.nil ?_
      refine W.seq ?_
      refine W.reg ?_
      refine Wx.rd (v := .int .i64 (cmpI (ix 0 p k) (ix 0 q k))) (rd_move rfl) rfl ?_
      refine Wx.rd (v := .bool (decide ((cmpI (ix 0 p k) (ix 0 q k)) ≠ 0))) (rd_neq rfl rfl) rfl ?_
      refine Wx.nil ?_
      refine W.condD rfl (fun c2 => ?_) (fun c2 => ?_)
      · -- yes
        refine W.seq ?_
        refine W.reg ?_
        refine Wx.rd (v := .int .i64 (cmpI (ix 0 p k) (ix 0 q k))) (rd_move rfl) rfl ?_
        refine Wx.rd (v := .int .i64 (cmpI (ix 0 p k) (ix 0 q k))) (rd_assign rfl) rfl ?_
        refine Wx.nil ?_
        have e1_0 : (cmpL p q) = (cmpI (ix 0 p k) (ix 0 q k) : Int) := by rw [← h2, drop_ix (d := 0) h0 c0, drop_ix (d := 0) (xs := q) h0 (by omega), cmpL, if_pos c2]
        exact W.ret ⟨.int .i64 (cmpI (ix 0 p k) (ix 0 q k)), ResIs.one, hS.bel, (by rw [e1_0])⟩
      · -- no
        refine W.skip ?_
        refine W.reg ?_
        refine Wx.rd (v := .int .i64 (k + 1)) (rd_add rfl rfl (in_i64 (by omega) (by omega))) rfl ?_
        refine Wx.rd (v := .int .i64 (k + 1)) (rd_move rfl) rfl ?_
        refine Wx.nil ?_
        refine ⟨k + 1, (by show (p.length - (k + 1)).toNat < (p.length - k).toNat; omega), ?_, ?_, Out.look rfl Out.self⟩
        · exact ⟨hS, (by first | omega | assumption), (by first | omega | assumption), (by first | omega | assumption), (by rw [← h2, drop_ix (d := 0) h0 c0, drop_ix (d := 0) (xs := q) h0 (by omega), cmpL, if_neg (not_not_intro (by omega))])⟩
        · exact ⟨rfl, trivial⟩
  · -- no
    refine W.exit rfl ?_
    refine W.seq ?_
    refine W.seq ?_
    refine W.reg ?_
    refine Wx.rd (v := av) (rd_move rfl) rfl ?_
    refine Wx.rd (v := .int .i64 (p.length : Int)) (rd_lenV rfl (hS.arg a_av) Try.underlying39) rfl ?_
    refine Wx.rd (v := bv) (rd_move rfl) rfl ?_
    refine Wx.rd (v := .int .i64 (q.length : Int)) (rd_lenV rfl (hS.arg a_bv) Try.underlying39) rfl ?_
    refine Wx.rd (v := .bool (decide ((p.length : Int) < (q.length : Int)))) (rd_lss rfl rfl) rfl ?_
    refine Wx.nil ?_
    refine W.condD rfl (fun c3 => ?_) (fun c3 => ?_)
    · -- yes
      refine W.seq ?_
      refine W.reg ?_
      refine Wx.rd (v := .int .i64 (-1)) (rd_assign rfl) rfl ?_
      refine Wx.nil ?_
      have e2_0 : (cmpL p q) = (-1 : Int) := by rw [← h2, drop_end (by omega), drop_ix (d := 0) (xs := q) h0 (by omega)]; rfl
      exact W.ret ⟨.int .i64 (-1), ResIs.one, hS.bel, (by rw [e2_0])⟩
    · -- no
      refine W.skip ?_
      refine W.seq ?_
      refine W.reg ?_
      refine Wx.rd (v := .int .i64 0) (rd_assign rfl) rfl ?_
      refine Wx.nil ?_
      have e3_0 : (cmpL p q) = (0 : Int) := by rw [← h2, drop_end (by omega), drop_end (xs := q) (by omega)]; rfl
      exact W.ret ⟨.int .i64 0, ResIs.one, hS.bel, (by rw [e3_0])⟩

theorem F57 {xv : Value} {xs : List Int} {Fr_xv : List (Option Nat)} {w : World} (h_xv : V (tSl (tI .i64)) xs xv Fr_xv w) (p_1000 : (xs.length : Int) ≤ 1000) : Calls Try.prog 57 #[xv] w (Ret w (fun r w' => ∃ rv, r = rv ∧ Fresh (tI .i64) 3 xs rv w.heap.size w')) := by
  have a_xv := h_xv.any
  have l_xv := h_xv.len63
  have hS := St.start0 w
  refine enterR Try.func57 rfl Try.ntmps57 Try.results57 rfl ?_
  refine W.seq ?_
  refine W.reg ?_
  refine Wx.rd (v := (.slice none 0 0)) (rd_assign rfl) rfl ?_
  refine Wx.nil ?_
  refine W.seq ?_
  refine W.seq ?_
  refine W.reg ?_
  refine Wx.rd (v := xv) (rd_move rfl) rfl ?_
  refine Wx.ex (rd_eqlNilV (hS.arg a_xv) rfl rfl Try.underlying39) rfl (fun u_1 hu_u_1 => ?_)
  obtain ⟨b_2, rfl, hb_3⟩ := hu_u_1
  refine Wx.nil ?_
  refine W.cond rfl (fun c0 => ?_) (fun c0 => ?_)
  · -- yes
    try simp only [Bool.and_eq_true, Bool.or_eq_true, Bool.not_eq_true', Bool.and_eq_false_iff, Bool.or_eq_false_iff, Bool.not_eq_false', decide_eq_true_eq, decide_eq_false_iff_not, not_or, Bool.false_eq_true, Bool.true_eq_false, false_or, or_false, not_false_eq_true] at c0
    refine W.seq ?_
    refine W.reg ?_
    refine Wx.rd (v := (.slice none 0 0)) (rd_assign rfl) rfl ?_
    refine Wx.nil ?_
    have e0_0 : xs = [] := by solve_by_elim
    exact W.ret ⟨(.slice none 0 0), ResIs.one, hS.bel, ⟨(.slice none 0 0), rfl, (by rw [e0_0]; exact ((hS.addNil (tI .i64) 3).fr 0 rfl flat_int))⟩⟩
  · -- no
    try simp only [Bool.and_eq_true, Bool.or_eq_true, Bool.not_eq_true', Bool.and_eq_false_iff, Bool.or_eq_false_iff, Bool.not_eq_false', decide_eq_true_eq, decide_eq_false_iff_not, not_or, Bool.false_eq_true, Bool.true_eq_false, false_or, or_false, not_false_eq_true] at c0
    refine W.skip ?_
    refine W.seq ?_
    refine W.reg ?_
    refine Wx.lit (t := (tI .i64)) (ys := []) (vs := []) elKq_39 hS rfl rfl trivial (by decide) rfl (fun v_4 w_5 hx_6 hS => ?_)
    refine Wx.rd (v := xv) (rd_move rfl) rfl ?_
    refine Wx.append elKq_39 hS 0 rfl rfl rfl (Src.ofV (hS.arg a_xv)) (by simp only [maxLen]; simp; omega) (by simp; omega) rfl (fun v_7 w_8 hz_9 hS => ?_)
    refine Wx.rd (v := v_7) (rd_assign rfl) rfl ?_
    refine Wx.nil ?_
    have e1_0 : xs = [] ++ xs := by first | rfl | omega
    exact W.ret ⟨v_7, ResIs.one, hS.bel, ⟨v_7, rfl, (by rw [e1_0]; exact (hS.fr 0 rfl flat_int))⟩⟩

theorem F120 {x : Int} {w : World} (i_x : InK .u64 x) (p_x : x ≤ 255) : Calls Try.prog 120 #[.int .u64 x] w (Ret w (fun r _ => r = .int .i64 (0 + tabAt len8tab x))) := by
  have b_x := bd_u64 i_x
  have hS := St.start0 w
  refine enterR Try.func120 rfl Try.ntmps120 Try.results120 rfl ?_
  refine W.seq ?_
  refine W.reg ?_
  refine Wx.rd (v := .int .i64 0) (rd_assign rfl) rfl ?_
  refine Wx.nil ?_
  refine W.seq ?_
  refine W.seq ?_
  refine W.reg ?_
  refine Wx.rd (v := .int .u64 x) (rd_move rfl) rfl ?_
  refine Wx.rd (v := .bool (decide (4294967296 ≤ x))) (rd_geq rfl rfl) rfl ?_
  refine Wx.nil ?_
  refine W.condF rfl (decide_eq_false (by omega)) ?_
  refine W.skip ?_
  refine W.seq ?_
  refine W.seq ?_
  refine W.reg ?_
  refine Wx.rd (v := .int .u64 x) (rd_move rfl) rfl ?_
  refine Wx.rd (v := .bool (decide (65536 ≤ x))) (rd_geq rfl rfl) rfl ?_
  refine Wx.nil ?_
  refine W.condF rfl (decide_eq_false (by omega)) ?_
  refine W.skip ?_
  refine W.seq ?_
  refine W.seq ?_
  refine W.reg ?_
  refine Wx.rd (v := .int .u64 x) (rd_move rfl) rfl ?_
  refine Wx.rd (v := .bool (decide (256 ≤ x))) (rd_geq rfl rfl) rfl ?_
  refine Wx.nil ?_
  refine W.condF rfl (decide_eq_false (by omega)) ?_
  refine W.skip ?_
  refine W.seq ?_
  refine W.reg ?_
  refine Wx.rd (v := .int .i64 0) (rd_move rfl) rfl ?_
  refine Wx.rd (v := .int .u64 x) (rd_move rfl) rfl ?_
  refine Wx.rd (v := .int .u8 x) (rd_convIn rfl Try.underlying138 Try.underlying5 (in_u8 (by omega) (by omega))) rfl ?_
  have hsz : (len8tab.size : Int) = 256 := by decide +kernel
  refine Wx.rd (v := .int .u8 (tabAt len8tab x)) (rd_indexS' (by kernel_rfl) rfl Try.underlying9 (by omega) (by omega)) rfl ?_
  have bd_1 := tabAt_bd len8tab x
  refine Wx.rd (v := .int .i64 (tabAt len8tab x)) (rd_convIn rfl Try.underlying5 Try.underlying3 (in_i64 (by omega) (by omega))) rfl ?_
  refine Wx.rd (v := .int .i64 (0 + (tabAt len8tab x))) (rd_add rfl rfl (in_i64 (by omega) (by omega))) rfl ?_
  refine Wx.rd (v := .int .i64 (0 + (tabAt len8tab x))) (rd_assign rfl) rfl ?_
  refine Wx.nil ?_
  have e0_0 : (0 + tabAt len8tab x) = (0 + (tabAt len8tab x) : Int) := by first | rfl | omega
  exact W.ret ⟨.int .i64 (0 + (tabAt len8tab x)), ResIs.one, hS.bel, (by rw [e0_0])⟩

theorem F109 {x : Int} {w : World} (i_x : InK .u64 x) (p_x : x ≤ 255) : Calls Try.prog 109 #[.int .u64 x] w (Ret w (fun r _ => r = .int .i64 (0 + tabAt len8tab x))) := by
  have b_x := bd_u64 i_x
  have hS := St.start0 w
  refine enterR Try.func109 rfl Try.ntmps109 Try.results109 rfl ?_
  refine W.seq ?_
  refine W.reg ?_
  refine Wx.rd (v := .int .i64 0) (rd_assign rfl) rfl ?_
  refine Wx.nil ?_
  refine W.seq ?_
  refine W.condF rfl rfl ?_
  refine W.skip ?_
  refine W.seq ?_
  refine W.reg ?_
  refine Wx.rd (v := .int .u64 x) (rd_move rfl) rfl ?_
  refine Wx.callF (run_callF Try.call120 rfl) (F120 i_x (by omega)) rfl ?_
  rintro r_1 w_2 hx_3 rfl
  have hS := hS.ext hx_3
  refine Wx.rd (v := .int .i64 (0 + tabAt len8tab x)) (rd_assign rfl) rfl ?_
  refine Wx.nil ?_
  exact W.ret ⟨.int .i64 (0 + tabAt len8tab x), ResIs.one, hS.bel, rfl⟩
end Go.Proofs.Ytjbcpggikaeleaa

namespace Go.Proofs.Ytjbcpggikaeleaa
open Go.Wk Go.RowKit Go.Lib
set_option linter.unusedVariables false
set_option linter.unusedSimpArgs false
theorem mixedKr_ : Try.prog.follows .mixedOrders = true := by kernel_rfl

theorem F110 {v : Value} {ys : List Int} {a : Int} {b : Int} {ob : List Ob} {w0 w : World} {O : List (Option Nat)} (i_a : InK .i64 a) (i_b : InK .i64 b) (p_a : a = 0) (p_b : b = ys.length) (hS : St w0 O w (.row (tI .i64) 3 v ys :: ob)) : Calls Try.prog 110 #[v, .int .i64 a, .int .i64 b] w (Bk fun r w' => r = .tuple #[] ∧ St w0 O w' (.row (tI .i64) 3 v (sortI ys) :: ob)) := by
  have b_a := bd_i64 i_a
  have b_b := bd_i64 i_b
  refine enterB Try.func110 rfl Try.ntmps110 Try.results110 rfl ?_
  refine W.seq ?_
  refine W.reg ?_
  refine Wx.rd (v := .int .i64 a) (rd_move rfl) rfl ?_
  refine Wx.rd (v := .int .i64 (a + 1)) (rd_add rfl rfl (in_i64 (by omega) (by omega))) rfl ?_
  refine Wx.rd (v := .int .i64 (a + 1)) (rd_assign rfl) rfl ?_
  refine Wx.nil ?_
  refine W.block ?_
  refine W.loop [6, 7, 10, 11, 12, 13, 14, 15, 16, 17, 18, 19, 20, 21, 22, 23, 24, 25, 26, 27, 28, 29, 30, 31, 32, 33, 34, 35, 36, 37, 38, 39, 40, 41, 42, 43, 44, 45, 46, 47, 48] (fun x : Int × (List Int) => match x with | (i, z) => [(6, .int .i64 i)]) (fun (x : Int × (List Int)) w' => match x with | (i, z) => St w0 O w' (.row (tI .i64) 3 v z :: ob) ∧ 1 ≤ i ∧ i ≤ ys.length + 1 ∧ sortGF 0 ltI z i.toNat ((ys.length : Int) - i).toNat = sortI ys ∧ z.length = ys.length) (fun x : Int × (List Int) => match x with | (i, z) => (b - i).toNat) (a + 1, ys) ⟨rfl, trivial⟩ ⟨hS, (by first | omega | simp), (by omega), (by rw [p_a, sortI, sortF]; congr 1; omega), (rfl)⟩ ?_
  rintro ⟨i, z⟩ u_2 w_1 ⟨hS, h0, h1, h2, h3⟩
  refine W.seq ?_
  refine W.seq ?_
  refine W.reg ?_
  refine Wx.rd (v := .int .i64 i) (rd_move rfl) rfl ?_
  refine Wx.rd (v := .int .i64 b) (rd_move rfl) rfl ?_
  refine Wx.rd (v := .bool (decide (i < b))) (rd_lss rfl rfl) rfl ?_
  refine Wx.nil ?_
  refine W.condD rfl (fun c0 => ?_) (fun c0 => ?_)
  · -- yes
    refine W.skip ?_
    refine W.seq ?_
    refine W.block ?_
    refine W.seq ?_
    refine W.reg ?_
    refine Wx.rd (v := .int .i64 i) (rd_move rfl) rfl ?_
    refine Wx.rd (v := .int .i64 i) (rd_assign rfl) rfl ?_
    refine Wx.nil ?_
    refine W.block ?_
    refine W.loop [7, 16, 17, 18, 19, 20, 21, 22, 23, 24, 25, 26, 27, 28, 29, 30, 31, 32, 33, 34, 35, 36, 37, 38, 39, 40, 41, 42, 43, 44, 45, 46, 47, 48] (fun x : Int × (List Int) => match x with | (j, z2) => [(7, .int .i64 j)]) (fun (x : Int × (List Int)) w' => match x with | (j, z2) => St w0 O w' (.row (tI .i64) 3 v z2 :: ob) ∧ 0 ≤ j ∧ j ≤ i ∧ sinkF 0 ltI z2 j.toNat = sinkF 0 ltI z i.toNat ∧ z2.length = ys.length) (fun x : Int × (List Int) => match x with | (j, z2) => j.toNat) (i, z) ⟨rfl, trivial⟩ ⟨hS, (by first | omega | simp), (by first | omega | simp), (rfl), (h3)⟩ ?_
    rintro ⟨j, z2⟩ u_4 w_3 ⟨hS, g0, g1, g2, g3⟩
    refine W.seq ?_
    refine W.seq ?_
    refine W.regQ mixedKr_ (by kernel_rfl) ?_
    refine Wx.rd (v := .int .i64 j) (rd_move rfl) rfl ?_
    refine Wx.rd (v := .int .i64 a) (rd_move rfl) rfl ?_
    refine Wx.rd (v := .bool (decide (a < j))) (rd_gtr rfl rfl) rfl ?_
    refine Wx.rd (v := .bool (decide (a < j))) (rd_move rfl) rfl ?_
    refine Wx.cutQ (X := Unit) 11 [20, 21, 22, 23, 24, 25, 26, 27, 28, 29, 30] (fun _ => [(30, .bool (decide (a < j) && decide ((ix 0 z2 j) < (ix 0 z2 (j - 1)))))]) (fun _ => True) ?_ ?_
    · rcases Bool.eq_false_or_eq_true (decide (a < j)) with g_5 | g_5
      · -- True
        have gp_6 := of_decide_eq_true g_5
        refine Wx.gyes rfl rfl (congrArg Value.bool g_5) ?_
        refine Wx.rd (v := v) (rd_move rfl) rfl ?_
        refine Wx.gyes rfl rfl (congrArg Value.bool g_5) ?_
        refine Wx.rd (v := .int .i64 j) (rd_move rfl) rfl ?_
        refine Wx.gyes rfl rfl (congrArg Value.bool g_5) ?_
        refine Wx.indexR hS 0 rfl rfl rfl Try.underlying39 Try.sizeOf3 (by first | omega | (simp only [List.length_set, List.length_append, List.length_cons, List.length_nil, List.length_replicate]; omega)) (by first | omega | (simp only [List.length_set, List.length_append, List.length_cons, List.length_nil, List.length_replicate]; omega)) rfl (fun g_7 hg_8 => ?_)
        refine Wx.gyes rfl rfl (congrArg Value.bool g_5) ?_
        refine Wx.rd (v := .int .i64 (ix 0 z2 j)) (rd_loadRI' hS 0 rfl hg_8 rfl (by first | omega | (simp only [List.length_set, List.length_append, List.length_cons, List.length_nil, List.length_replicate]; omega)) (by first | omega | (simp only [List.length_set, List.length_append, List.length_cons, List.length_nil, List.length_replicate]; omega)) Try.isAgg3 Try.sizeOf3) rfl ?_
        have bd_9 := bd_i64 (hS.rowInK' 0 rfl (by first | omega | (simp only [List.length_set, List.length_append, List.length_cons, List.length_nil, List.length_replicate]; omega)) (by first | omega | (simp only [List.length_set, List.length_append, List.length_cons, List.length_nil, List.length_replicate]; omega)) : InK .i64 (ix 0 z2 j))
        refine Wx.gyes rfl rfl (congrArg Value.bool g_5) ?_
        refine Wx.rd (v := v) (rd_move rfl) rfl ?_
        refine Wx.gyes rfl rfl (congrArg Value.bool g_5) ?_
        refine Wx.rd (v := .int .i64 j) (rd_move rfl) rfl ?_
        refine Wx.gyes rfl rfl (congrArg Value.bool g_5) ?_
        refine Wx.rd (v := .int .i64 (j - 1)) (rd_sub rfl rfl (in_i64 (by omega) (by omega))) rfl ?_
        refine Wx.gyes rfl rfl (congrArg Value.bool g_5) ?_
        refine Wx.indexR hS 0 rfl rfl rfl Try.underlying39 Try.sizeOf3 (by first | omega | (simp only [List.length_set, List.length_append, List.length_cons, List.length_nil, List.length_replicate]; omega)) (by first | omega | (simp only [List.length_set, List.length_append, List.length_cons, List.length_nil, List.length_replicate]; omega)) rfl (fun g_10 hg_11 => ?_)
        refine Wx.gyes rfl rfl (congrArg Value.bool g_5) ?_
        refine Wx.rd (v := .int .i64 (ix 0 z2 (j - 1))) (rd_loadRI' hS 0 rfl hg_11 rfl (by first | omega | (simp only [List.length_set, List.length_append, List.length_cons, List.length_nil, List.length_replicate]; omega)) (by first | omega | (simp only [List.length_set, List.length_append, List.length_cons, List.length_nil, List.length_replicate]; omega)) Try.isAgg3 Try.sizeOf3) rfl ?_
        have bd_12 := bd_i64 (hS.rowInK' 0 rfl (by first | omega | (simp only [List.length_set, List.length_append, List.length_cons, List.length_nil, List.length_replicate]; omega)) (by first | omega | (simp only [List.length_set, List.length_append, List.length_cons, List.length_nil, List.length_replicate]; omega)) : InK .i64 (ix 0 z2 (j - 1)))
        refine Wx.gyes rfl rfl (congrArg Value.bool g_5) ?_
        refine Wx.callV (v := .bool (decide ((ix 0 z2 j) < (ix 0 z2 (j - 1))))) (run_callF Try.call116 rfl) (fun w_13 hw_14 => (F116 (in_i64 (by omega) (by omega)) (in_i64 (by omega) (by omega)))) rfl ?_
        refine Wx.rd (v := .bool (decide ((ix 0 z2 j) < (ix 0 z2 (j - 1))))) (rd_pickT (congrArg Value.bool g_5) rfl) rfl ?_
        refine Wx.nilQ (fun _ _ => ⟨(), trivial, ⟨?_, trivial⟩, Out.look rfl Out.refl⟩)
        show Value.bool (decide ((ix 0 z2 j) < (ix 0 z2 (j - 1)))) = Value.bool (decide (a < j) && decide ((ix 0 z2 j) < (ix 0 z2 (j - 1))))
        first | rw [g_5, Bool.true_and] | (rw [g_5]; rfl)
      · -- False
        have gp_15 := of_decide_eq_false g_5
        refine Wx.gnoB rfl rfl (congrArg Value.bool g_5) rfl rfl ?_
        refine Wx.gnoB rfl rfl (congrArg Value.bool g_5) rfl rfl ?_
        refine Wx.gnoB rfl rfl (congrArg Value.bool g_5) rfl rfl ?_
        refine Wx.gnoB rfl rfl (congrArg Value.bool g_5) rfl rfl ?_
        refine Wx.gnoB rfl rfl (congrArg Value.bool g_5) rfl rfl ?_
        refine Wx.gnoB rfl rfl (congrArg Value.bool g_5) rfl rfl ?_
        refine Wx.gnoB rfl rfl (congrArg Value.bool g_5) rfl rfl ?_
        refine Wx.gnoB rfl rfl (congrArg Value.bool g_5) rfl rfl ?_
        refine Wx.gnoB rfl rfl (congrArg Value.bool g_5) rfl rfl ?_
        refine Wx.gnoB rfl rfl (congrArg Value.bool g_5) rfl rfl ?_
        refine Wx.rd (v := .bool false) (rd_pickF (congrArg Value.bool g_5) rfl) rfl ?_
        refine Wx.nilQ (fun _ _ => ⟨(), trivial, ⟨?_, trivial⟩, Out.look rfl Out.refl⟩)
        show Value.bool false = Value.bool (decide (a < j) && decide ((ix 0 z2 j) < (ix 0 z2 (j - 1))))
        first | rw [g_5, Bool.false_and] | (rw [g_5]; rfl)
    rintro ⟨⟩ u_17 -
    refine Wx.nilQ (fun w_18 hx_19 => ?_)
    have hS := hS.ext hx_19
    refine W.cond rfl (fun c1 => ?_) (fun c1 => ?_)
    · -- yes
      try simp only [Bool.and_eq_true, Bool.or_eq_true, Bool.not_eq_true', Bool.and_eq_false_iff, Bool.or_eq_false_iff, Bool.not_eq_false', decide_eq_true_eq, decide_eq_false_iff_not, not_or, Bool.false_eq_true, Bool.true_eq_false, false_or, or_false, not_false_eq_true] at c1
      refine W.skip ?_
      refine W.seq ?_
      refine W.block ?_
      refine W.regP mixedKr_ (fun w_20 hx_21 => ?_)
      have hS := hS.ext hx_21
      obtain ⟨g_22, c_23, rfl, hc_24⟩ := hS.rowForm 0 rfl (by omega)
      refine Wp.rd (v := (.slice (some ⟨g_22, 0, none⟩) z2.length c_23)) 0 rfl (by kernel_rfl) (fun _ => (rd_move rfl)) rfl ?_
      refine Wp.rd (v := .int .i64 j) 1 rfl (by kernel_rfl) (fun _ => (rd_move rfl)) rfl ?_
      refine Wp.rd (v := (.slice (some ⟨g_22, 0, none⟩) z2.length c_23)) 2 rfl (by kernel_rfl) (fun _ => (rd_move rfl)) rfl ?_
      refine Wp.rd (v := .int .i64 j) 3 rfl (by kernel_rfl) (fun _ => (rd_move rfl)) rfl ?_
      refine Wp.rd (v := .int .i64 (j - 1)) 4 rfl (by kernel_rfl) (fun _ => (rd_sub rfl rfl (in_i64 (by omega) (by omega)))) rfl ?_
      refine Wp.rd (v := (.slice (some ⟨g_22, 0, none⟩) z2.length c_23)) 5 rfl (by kernel_rfl) (fun _ => (rd_move rfl)) rfl ?_
      refine Wp.rd (v := .int .i64 j) 6 rfl (by kernel_rfl) (fun _ => (rd_move rfl)) rfl ?_
      refine Wp.rd (v := .int .i64 (j - 1)) 7 rfl (by kernel_rfl) (fun _ => (rd_sub rfl rfl (in_i64 (by omega) (by omega)))) rfl ?_
      refine Wp.rd (v := .pointer (some ⟨g_22, (j - 1).toNat * 1, none⟩)) 8 rfl (by kernel_rfl) (fun _ => (rd_indexO Try.underlying39 Try.sizeOf3 rfl rfl (by first | omega | (simp only [List.length_set, List.length_append, List.length_cons, List.length_nil, List.length_replicate]; omega)) (by first | omega | (simp only [List.length_set, List.length_append, List.length_cons, List.length_nil, List.length_replicate]; omega)))) rfl ?_
      refine Wp.rd (v := (.slice (some ⟨g_22, 0, none⟩) z2.length c_23)) 10 rfl (by kernel_rfl) (fun _ => (rd_move rfl)) rfl ?_
      refine Wp.rd (v := .int .i64 j) 11 rfl (by kernel_rfl) (fun _ => (rd_move rfl)) rfl ?_
      refine Wp.rd (v := .pointer (some ⟨g_22, j.toNat * 1, none⟩)) 12 rfl (by kernel_rfl) (fun _ => (rd_indexO Try.underlying39 Try.sizeOf3 rfl rfl (by first | omega | (simp only [List.length_set, List.length_append, List.length_cons, List.length_nil, List.length_replicate]; omega)) (by first | omega | (simp only [List.length_set, List.length_append, List.length_cons, List.length_nil, List.length_replicate]; omega)))) rfl ?_
      refine Wp.br [9, 13] (by kernel_rfl) (by decide) ⟨⟨_, rfl, ?_⟩, ⟨_, rfl, ?_⟩, trivial⟩
      · -- operation 9
        refine Wx.rd (v := .int .i64 (ix 0 z2 (j - 1))) (rd_loadRI' hS 0 rfl rfl rfl (by first | omega | (simp only [List.length_set, List.length_append, List.length_cons, List.length_nil, List.length_replicate]; omega)) (by first | omega | (simp only [List.length_set, List.length_append, List.length_cons, List.length_nil, List.length_replicate]; omega)) Try.isAgg3 Try.sizeOf3) rfl ?_
        have bd_25 := bd_i64 (hS.rowInK' 0 rfl (by first | omega | (simp only [List.length_set, List.length_append, List.length_cons, List.length_nil, List.length_replicate]; omega)) (by first | omega | (simp only [List.length_set, List.length_append, List.length_cons, List.length_nil, List.length_replicate]; omega)) : InK .i64 (ix 0 z2 (j - 1)))
        refine Wx.nil ?_
        refine Wp.br [13] (by kernel_rfl) (by decide) ⟨⟨_, rfl, ?_⟩, trivial⟩
        refine Wx.rd (v := .int .i64 (ix 0 z2 j)) (rd_loadRI' hS 0 rfl rfl rfl (by first | omega | (simp only [List.length_set, List.length_append, List.length_cons, List.length_nil, List.length_replicate]; omega)) (by first | omega | (simp only [List.length_set, List.length_append, List.length_cons, List.length_nil, List.length_replicate]; omega)) Try.isAgg3 Try.sizeOf3) rfl ?_
        have bd_26 := bd_i64 (hS.rowInK' 0 rfl (by first | omega | (simp only [List.length_set, List.length_append, List.length_cons, List.length_nil, List.length_replicate]; omega)) (by first | omega | (simp only [List.length_set, List.length_append, List.length_cons, List.length_nil, List.length_replicate]; omega)) : InK .i64 (ix 0 z2 j))
        refine Wx.nil ?_
        refine Wp.rd (v := .pointer (some ⟨g_22, j.toNat * 1, none⟩)) 14 rfl (by kernel_rfl) (fun _ => (rd_indexO Try.underlying39 Try.sizeOf3 rfl rfl (by first | omega | (simp only [List.length_set, List.length_append, List.length_cons, List.length_nil, List.length_replicate]; omega)) (by first | omega | (simp only [List.length_set, List.length_append, List.length_cons, List.length_nil, List.length_replicate]; omega)))) rfl ?_
        refine Wp.br [15] (by kernel_rfl) (by decide) ⟨⟨_, rfl, ?_⟩, trivial⟩
        refine Wx.storeR (j := j.toNat) (z := ix 0 z2 (j - 1)) hS 0 rfl rfl rfl (by first | omega | (simp only [List.length_set, List.length_append, List.length_cons, List.length_nil, List.length_replicate]; omega)) rfl (V.mkInt (in_i64 (by omega) (by omega))) Try.sizeOf3 (fun w_27 hz_28 hS => ?_)
        refine Wx.nil ?_
        refine Wp.rd (v := .pointer (some ⟨g_22, (j - 1).toNat * 1, none⟩)) 16 rfl (by kernel_rfl) (fun _ => (rd_indexO Try.underlying39 Try.sizeOf3 rfl rfl (by first | omega | (simp only [List.length_set, List.length_append, List.length_cons, List.length_nil, List.length_replicate]; omega)) (by first | omega | (simp only [List.length_set, List.length_append, List.length_cons, List.length_nil, List.length_replicate]; omega)))) rfl ?_
        refine Wp.br [17] (by kernel_rfl) (by decide) ⟨⟨_, rfl, ?_⟩, trivial⟩
        refine Wx.storeR (j := (j - 1).toNat) (z := ix 0 z2 j) hS 0 rfl rfl rfl (by first | omega | (simp only [List.length_set, List.length_append, List.length_cons, List.length_nil, List.length_replicate]; omega)) rfl (V.mkInt (in_i64 (by omega) (by omega))) Try.sizeOf3 (fun w_29 hz_30 hS => ?_)
        refine Wx.nil ?_
        refine Wp.done (by kernel_rfl) ?_
        refine W.reg ?_
        refine Wx.rd (v := .int .i64 j) (rd_move rfl) rfl ?_
        refine Wx.rd (v := .int .i64 (j - 1)) (rd_sub rfl rfl (in_i64 (by omega) (by omega))) rfl ?_
        refine Wx.rd (v := .int .i64 (j - 1)) (rd_assign rfl) rfl ?_
        refine Wx.nil ?_
        refine ⟨(j - 1, List.set (List.set z2 j.toNat (ix 0 z2 (j - 1))) (j - 1).toNat (ix 0 z2 j)), (by show (j - 1).toNat < j.toNat; omega), ?_, ?_, Out.look rfl (Out.hav rfl (Out.look rfl Out.self))⟩
        · exact ⟨hS, (by first | omega | assumption), (by first | omega | assumption), (by rw [← g2]; exact sinkF_step (by omega) (decide_eq_true c1.2)), (by simp; omega)⟩
        · exact ⟨rfl, trivial⟩
      · -- operation 13
        refine Wx.rd (v := .int .i64 (ix 0 z2 j)) (rd_loadRI' hS 0 rfl rfl rfl (by first | omega | (simp only [List.length_set, List.length_append, List.length_cons, List.length_nil, List.length_replicate]; omega)) (by first | omega | (simp only [List.length_set, List.length_append, List.length_cons, List.length_nil, List.length_replicate]; omega)) Try.isAgg3 Try.sizeOf3) rfl ?_
        have bd_31 := bd_i64 (hS.rowInK' 0 rfl (by first | omega | (simp only [List.length_set, List.length_append, List.length_cons, List.length_nil, List.length_replicate]; omega)) (by first | omega | (simp only [List.length_set, List.length_append, List.length_cons, List.length_nil, List.length_replicate]; omega)) : InK .i64 (ix 0 z2 j))
        refine Wx.nil ?_
        refine Wp.br [9] (by kernel_rfl) (by decide) ⟨⟨_, rfl, ?_⟩, trivial⟩
        refine Wx.rd (v := .int .i64 (ix 0 z2 (j - 1))) (rd_loadRI' hS 0 rfl rfl rfl (by first | omega | (simp only [List.length_set, List.length_append, List.length_cons, List.length_nil, List.length_replicate]; omega)) (by first | omega | (simp only [List.length_set, List.length_append, List.length_cons, List.length_nil, List.length_replicate]; omega)) Try.isAgg3 Try.sizeOf3) rfl ?_
        have bd_32 := bd_i64 (hS.rowInK' 0 rfl (by first | omega | (simp only [List.length_set, List.length_append, List.length_cons, List.length_nil, List.length_replicate]; omega)) (by first | omega | (simp only [List.length_set, List.length_append, List.length_cons, List.length_nil, List.length_replicate]; omega)) : InK .i64 (ix 0 z2 (j - 1)))
        refine Wx.nil ?_
        refine Wp.rd (v := .pointer (some ⟨g_22, j.toNat * 1, none⟩)) 14 rfl (by kernel_rfl) (fun _ => (rd_indexO Try.underlying39 Try.sizeOf3 rfl rfl (by first | omega | (simp only [List.length_set, List.length_append, List.length_cons, List.length_nil, List.length_replicate]; omega)) (by first | omega | (simp only [List.length_set, List.length_append, List.length_cons, List.length_nil, List.length_replicate]; omega)))) rfl ?_
        refine Wp.br [15] (by kernel_rfl) (by decide) ⟨⟨_, rfl, ?_⟩, trivial⟩
        refine Wx.storeR (j := j.toNat) (z := ix 0 z2 (j - 1)) hS 0 rfl rfl rfl (by first | omega | (simp only [List.length_set, List.length_append, List.length_cons, List.length_nil, List.length_replicate]; omega)) rfl (V.mkInt (in_i64 (by omega) (by omega))) Try.sizeOf3 (fun w_33 hz_34 hS => ?_)
        refine Wx.nil ?_
        refine Wp.rd (v := .pointer (some ⟨g_22, (j - 1).toNat * 1, none⟩)) 16 rfl (by kernel_rfl) (fun _ => (rd_indexO Try.underlying39 Try.sizeOf3 rfl rfl (by first | omega | (simp only [List.length_set, List.length_append, List.length_cons, List.length_nil, List.length_replicate]; omega)) (by first | omega | (simp only [List.length_set, List.length_append, List.length_cons, List.length_nil, List.length_replicate]; omega)))) rfl ?_
        refine Wp.br [17] (by kernel_rfl) (by decide) ⟨⟨_, rfl, ?_⟩, trivial⟩
        refine Wx.storeR (j := (j - 1).toNat) (z := ix 0 z2 j) hS 0 rfl rfl rfl (by first | omega | (simp only [List.length_set, List.length_append, List.length_cons, List.length_nil, List.length_replicate]; omega)) rfl (V.mkInt (in_i64 (by omega) (by omega))) Try.sizeOf3 (fun w_35 hz_36 hS => ?_)
        refine Wx.nil ?_
        refine Wp.done (by kernel_rfl) ?_
        refine W.reg ?_
        refine Wx.rd (v := .int .i64 j) (rd_move rfl) rfl ?_
        refine Wx.rd (v := .int .i64 (j - 1)) (rd_sub rfl rfl (in_i64 (by omega) (by omega))) rfl ?_
        refine Wx.rd (v := .int .i64 (j - 1)) (rd_assign rfl) rfl ?_
        refine Wx.nil ?_
        refine ⟨(j - 1, List.set (List.set z2 j.toNat (ix 0 z2 (j - 1))) (j - 1).toNat (ix 0 z2 j)), (by show (j - 1).toNat < j.toNat; omega), ?_, ?_, Out.look rfl (Out.hav rfl (Out.look rfl Out.self))⟩
        · exact ⟨hS, (by first | omega | assumption), (by first | omega | assumption), (by rw [← g2]; exact sinkF_step (by omega) (decide_eq_true c1.2)), (by simp; omega)⟩
        · exact ⟨rfl, trivial⟩
    · -- no
      try simp only [Bool.and_eq_true, Bool.or_eq_true, Bool.not_eq_true', Bool.and_eq_false_iff, Bool.or_eq_false_iff, Bool.not_eq_false', decide_eq_true_eq, decide_eq_false_iff_not, not_or, Bool.false_eq_true, Bool.true_eq_false, false_or, or_false, not_false_eq_true] at c1
      refine W.exit rfl ?_
      refine W.reg ?_
      refine Wx.rd (v := .int .i64 i) (rd_move rfl) rfl ?_
      refine Wx.rd (v := .int .i64 (i + 1)) (rd_add rfl rfl (in_i64 (by omega) (by omega))) rfl ?_
      refine Wx.rd (v := .int .i64 (i + 1)) (rd_assign rfl) rfl ?_
      refine Wx.nil ?_
      refine ⟨(i + 1, z2), (by show (b - (i + 1)).toNat < (b - i).toNat; omega), ?_, ?_, Out.look rfl (Out.hav rfl (Out.look rfl (Out.hav rfl (Out.look rfl Out.self))))⟩
      · exact ⟨hS, (by first | omega | assumption), (by first | omega | assumption), (by rw [← h2]; exact sortF_next (by omega) (by rw [← g2]; exact (sinkF_stop g0 (fun hh => by rcases c1 with c | c; omega; exact c (of_decide_eq_true hh.2))).symm) (by omega)), (g3)⟩
      · exact ⟨rfl, trivial⟩
  · -- no
    refine W.exit rfl ?_
    exact ⟨.tuple #[], ResIs.zero, rfl, hS.spell (ys' := sortI ys) 0 rfl (by rw [← h2, show ((ys.length : Int) - i).toNat = 0 by omega]; rfl)⟩

theorem F108 {v : Value} {ys : List Int} {a : Int} {b : Int} {limit : Int} {ob : List Ob} {w0 w : World} {O : List (Option Nat)} (i_a : InK .i64 a) (i_b : InK .i64 b) (i_limit : InK .i64 limit) (p_a : a = 0) (p_b : b = ys.length) (p_12 : ys.length ≤ 12) (hS : St w0 O w (.row (tI .i64) 3 v ys :: ob)) : Calls Try.prog 108 #[v, .int .i64 a, .int .i64 b, .int .i64 limit] w (Bk fun r w' => r = .tuple #[] ∧ St w0 O w' (.row (tI .i64) 3 v (sortI ys) :: ob)) := by
  have b_a := bd_i64 i_a
  have b_b := bd_i64 i_b
  have b_limit := bd_i64 i_limit
  refine enterB Try.func108 rfl Try.ntmps108 Try.results108 rfl ?_
  refine W.seq ?_
  refine W.reg ?_
  refine Wx.rd (v := .bool true) (rd_assign rfl) rfl ?_
  refine Wx.nil ?_
  refine W.seq ?_
  refine W.reg ?_
  refine Wx.rd (v := .bool true) (rd_assign rfl) rfl ?_
  refine Wx.nil ?_
  refine W.block ?_
  refine W.loop [1, 2, 3, 8, 9, 10, 11, 12, 13, 14, 15, 16, 17, 18, 19, 20, 21, 22, 23, 24, 25, 26, 27, 28, 29, 30, 31, 32, 33, 34, 35, 36, 37, 38, 39, 40, 41, 42, 43, 44, 45, 46, 47, 48, 49, 50, 51, 52, 53, 54, 55, 56, 57, 58, 59, 60, 61, 62, 63, 64, 65, 66, 67, 68, 69, 70, 71, 72, 73, 74, 75, 76, 77, 78, 79, 80, 81, 82, 83, 84, 85, 86, 87, 88, 89, 90, 91, 92, 93, 94, 95, 96, 97, 98, 99, 100, 101, 102, 103, 104, 105, 106, 107, 108, 109, 110, 111, 112, 113, 114, 115, 116, 117, 118, 119, 120, 121, 122, 123, 124, 125, 126, 127, 128, 129, 130, 131, 132, 133] (fun x : Int × Int × Int => match x with | (a2, b2, l2) => [(1, .int .i64 a2), (2, .int .i64 b2), (3, .int .i64 l2)]) (fun (x : Int × Int × Int) w' => match x with | (a2, b2, l2) => St w0 O w' (.row (tI .i64) 3 v ys :: ob) ∧ a2 = 0 ∧ b2 = ys.length) (fun x : Int × Int × Int => match x with | (a2, b2, l2) => 0) (a, b, limit) ⟨rfl, rfl, rfl, trivial⟩ ⟨hS, (by first | omega | simp), (by first | omega | simp)⟩ ?_
  rintro ⟨a2, b2, l2⟩ u_2 w_1 ⟨hS, h0, h1⟩
  refine W.block ?_
  refine W.seq ?_
  refine W.reg ?_
  refine Wx.rd (v := .int .i64 b2) (rd_move rfl) rfl ?_
  refine Wx.rd (v := .int .i64 a2) (rd_move rfl) rfl ?_
  refine Wx.rd (v := .int .i64 (b2 - a2)) (rd_sub rfl rfl (in_i64 (by omega) (by omega))) rfl ?_
  refine Wx.rd (v := .int .i64 (b2 - a2)) (rd_assign rfl) rfl ?_
  refine Wx.nil ?_
  refine W.seq ?_
  refine W.seq ?_
  refine W.reg ?_
  refine Wx.rd (v := .int .i64 (b2 - a2)) (rd_move rfl) rfl ?_
  refine Wx.rd (v := .bool (decide ((b2 - a2) ≤ 12))) (rd_leq rfl rfl) rfl ?_
  refine Wx.nil ?_
  refine W.condT rfl (decide_eq_true (by omega)) ?_
  refine W.seq ?_
  refine W.reg ?_
  refine Wx.rd (v := v) (rd_move rfl) rfl ?_
  refine Wx.rd (v := .int .i64 a2) (rd_move rfl) rfl ?_
  refine Wx.rd (v := .int .i64 b2) (rd_move rfl) rfl ?_
  refine Wx.callB (run_callF Try.call110 rfl) (F110 (ob := (ob)) (in_i64 (by omega) (by omega)) (in_i64 (by omega) (by omega)) (by omega) (by omega) (hS.front 0 rfl)) rfl ?_
  rintro r_3 w_4 ⟨rfl, hS⟩
  have hS : St _ _ w_4 (.row (tI .i64) 3 v (sortI ys) :: ob) := St.putBack (obs := (.row (tI .i64) 3 v ys :: ob)) 0 hS (by simp)
  refine Wx.nil ?_
  exact W.ret ⟨.tuple #[], ResIs.zero, rfl, hS⟩

theorem F102 {v : Value} {ys : List Int}  {ob : List Ob} {w0 w : World} {O : List (Option Nat)}  (p_12 : ys.length ≤ 12) (hS : St w0 O w (.row (tI .i64) 3 v ys :: ob)) : Calls Try.prog 102 #[v] w (Bk fun r w' => r = .tuple #[] ∧ St w0 O w' (.row (tI .i64) 3 v (sortI ys) :: ob)) := by
  refine enterB Try.func102 rfl Try.ntmps102 Try.results102 rfl ?_
  refine W.seq ?_
  refine W.reg ?_
  refine Wx.rd (v := v) (rd_move rfl) rfl ?_
  refine Wx.rd (v := .int .i64 (ys.length : Int)) (rd_lenR hS 0 rfl rfl Try.underlying39) rfl ?_
  refine Wx.rd (v := .int .i64 (ys.length : Int)) (rd_assign rfl) rfl ?_
  refine Wx.nil ?_
  refine W.reg ?_
  refine Wx.rd (v := v) (rd_move rfl) rfl ?_
  refine Wx.rd (v := .int .i64 (ys.length : Int)) (rd_move rfl) rfl ?_
  refine Wx.rd (v := .int .i64 (ys.length : Int)) (rd_move rfl) rfl ?_
  refine Wx.rd (v := .int .u64 (ys.length : Int)) (rd_convIn rfl Try.underlying3 Try.underlying131 (in_u64 (by omega) (by omega))) rfl ?_
  refine Wx.callF (run_callF Try.call109 rfl) (F109 (in_u64 (by omega) (by omega)) (by omega)) rfl ?_
  rintro r_1 w_2 hx_3 rfl
  have hS := hS.ext hx_3
  have htb := tabAt_bd len8tab (ys.length : Int)
  refine Wx.callB (run_callF Try.call108 rfl) (F108 (ob := (ob)) (in_i64 (by omega) (by omega)) (in_i64 (by omega) (by omega)) (in_i64 (by omega) (by omega)) (by omega) (by omega) (by omega) (hS.front 0 rfl)) rfl ?_
  rintro r_4 w_5 ⟨rfl, hS⟩
  have hS : St _ _ w_5 (.row (tI .i64) 3 v (sortI ys) :: ob) := St.putBack (obs := (.row (tI .i64) 3 v ys :: ob)) 0 hS (by simp)
  refine Wx.nil ?_
  exact ⟨.tuple #[], ResIs.zero, rfl, hS⟩
end Go.Proofs.Ytjbcpggikaeleaa

namespace Go.Proofs.Ytjbcpggikaeleaa
open Go.Wk Go.RowKit Go.Lib
set_option linter.unusedVariables false
set_option linter.unusedSimpArgs false


theorem F101 {gs : Nat} {sv : Value} {zs : List Int} {Fr_sv : List (Option Nat)} {w : World} (h_sv : V (tSl (tI .i64)) zs sv Fr_sv w) (x_gs : w.heap[gs]? = some (.cells #[sv] 39 (0, 0))) (p_n : zs.length ≤ 1000) : Calls Try.prog 101 #[.func (.func 103) #[] #[.pointer (some ⟨gs, 0, none⟩)]] w (Ret w (fun r w' => ∃ rv, r = rv ∧ Fresh (tI .i64) 3 zs rv w.heap.size w')) := by
  have a_sv := h_sv.any
  have l_sv := h_sv.len63
  have hS := St.start0 w
  refine enterR Try.func101 rfl Try.ntmps101 Try.results101 rfl ?_
  refine W.seq ?_
  refine W.reg ?_
  refine Wx.rd (v := (.slice none 0 0)) (rd_assign rfl) rfl ?_
  refine Wx.nil ?_
  refine W.seq ?_
  refine W.reg ?_
  refine Wx.rd (v := .func (.func 103) #[] #[.pointer (some ⟨gs, 0, none⟩)]) (rd_move rfl) rfl ?_
  refine Wx.callF (run_callF Try.call107 rfl) (F107 (hS.arg a_sv) (extAt x_gs hS.bel) (by omega)) rfl ?_
  rintro r_1 w_2 hx_3 ⟨_, rfl, hv_4⟩
  have hS := hS.pushFr hx_3 hv_4
  refine Wx.rd (v := r_1) (rd_assign rfl) rfl ?_
  refine Wx.nil ?_
  exact W.ret ⟨r_1, ResIs.one, hS.bel, ⟨r_1, rfl, (hS.fr 0 rfl flat_int)⟩⟩

theorem F94 {gs : Nat} {sv : Value} {zs : List Int} {Fr_sv : List (Option Nat)} {w : World} (h_sv : V (tSl (tI .i64)) zs sv Fr_sv w) (x_gs : w.heap[gs]? = some (.cells #[sv] 39 (0, 0))) (p_12 : zs.length ≤ 12) : Calls Try.prog 94 #[.func (.func 103) #[] #[.pointer (some ⟨gs, 0, none⟩)]] w (Ret w (fun r w' => ∃ rv, r = rv ∧ Fresh (tI .i64) 3 (sortI zs) rv w.heap.size w')) := by
  have a_sv := h_sv.any
  have l_sv := h_sv.len63
  have hS := St.start0 w
  refine enterR Try.func94 rfl Try.ntmps94 Try.results94 rfl ?_
  refine W.seq ?_
  refine W.reg ?_
  refine Wx.rd (v := (.slice none 0 0)) (rd_assign rfl) rfl ?_
  refine Wx.nil ?_
  refine W.seq ?_
  refine W.reg ?_
  refine Wx.rd (v := .func (.func 103) #[] #[.pointer (some ⟨gs, 0, none⟩)]) (rd_move rfl) rfl ?_
  refine Wx.callF (run_callF Try.call101 rfl) (F101 (hS.arg a_sv) (extAt x_gs hS.bel) (by omega)) rfl ?_
  rintro r_1 w_2 hx_3 ⟨_, rfl, hv_4⟩
  have hS := hS.pushFr hx_3 hv_4
  refine Wx.rd (v := r_1) (rd_assign rfl) rfl ?_
  refine Wx.nil ?_
  refine W.seq ?_
  refine W.reg ?_
  refine Wx.rd (v := r_1) (rd_move rfl) rfl ?_
  refine Wx.callB (run_callF Try.call102 rfl) (F102 (ob := []) (by omega) (hS.front 0 rfl)) rfl ?_
  rintro r_6 w_7 ⟨rfl, hS⟩
  have hS : St _ _ w_7 [.row (tI .i64) 3 r_1 (sortI zs)] := St.putBack (obs := [.row (tI .i64) 3 r_1 zs]) 0 hS (by simp)
  refine Wx.nil ?_
  refine W.seq ?_
  refine W.reg ?_
  refine Wx.rd (v := r_1) (rd_move rfl) rfl ?_
  refine Wx.rd (v := r_1) (rd_assign rfl) rfl ?_
  refine Wx.nil ?_
  exact W.ret ⟨r_1, ResIs.one, hS.bel, ⟨r_1, rfl, (hS.fr 0 rfl flat_int)⟩⟩

theorem F95 {v : Value} {zs : List Int} {ob : List Ob} {w0 w : World} {O : List (Option Nat)} (hS : St w0 O w ob) (hv : V (tSl tInt) zs v (fb ob O) w) : Calls Try.prog 95 #[v] w (Bk fun r w' => ∃ g, r = .func (.func 103) #[] #[.pointer (some ⟨g, 0, none⟩)] ∧ St w0 O w' (.box g 39 [v] :: ob)) := by
  have hS := hS.add (hv)
  have ln_2 := (hS.v 0 rfl).len63
  refine enterB Try.func95 rfl Try.ntmps95 Try.results95 rfl ?_
  refine W.seq ?_
  refine W.reg ?_
  refine Wx.box (cs := [v]) hS rfl (Go.Wk.cells_one (V.oneC (hS.v 0 rfl))) rfl (fun g_3 w_4 hx_6 hb_5 hS => ?_)
  refine Wx.rd (v := .nilFunc) (rd_assign rfl) rfl ?_
  refine Wx.nil ?_
  refine W.seq ?_
  refine W.reg ?_
  refine Wx.rd (v := .func (.func 103) #[] #[.pointer (some ⟨g_3, 0, none⟩)]) (rd_makeFunc (vs := []) (us := [.pointer (some ⟨g_3, 0, none⟩)]) rfl rfl) rfl ?_
  refine Wx.rd (v := .func (.func 103) #[] #[.pointer (some ⟨g_3, 0, none⟩)]) (rd_assign rfl) rfl ?_
  refine Wx.nil ?_
  exact W.ret ⟨.func (.func 103) #[] #[.pointer (some ⟨g_3, 0, none⟩)], ResIs.one, _, rfl, hS.drop 1⟩
end Go.Proofs.Ytjbcpggikaeleaa

namespace Go.Proofs.Ytjbcpggikaeleaa
open Go.Wk Go.RowKit Go.Lib
theorem F95r {v : Value} {zs : List Int} {F : List (Option Nat)} {w : World} (hv : V (tSl (tI .i64)) zs v F w) :
    Calls Try.prog 95 #[v] w (Ret w fun r w' => ∃ g, r = .func (.func 103) #[] #[.pointer (some ⟨g, 0, none⟩)] ∧ w.heap.size ≤ g ∧ w'.heap[g]? = some (.cells #[v] 39 (0, 0))) :=
  ret_of_bk (F95 (St.start0 w) hv.any) fun r w' ⟨g, h1, h2⟩ => ⟨h2.bel, g, h1, (h2.get 0 rfl).1, (h2.get 0 rfl).2⟩
end Go.Proofs.Ytjbcpggikaeleaa

namespace Go.Proofs.Ytjbcpggikaeleaa
open Go.Wk Go.RowKit Go.Lib
set_option linter.unusedVariables false
set_option linter.unusedSimpArgs false


theorem F90 {xv : Value} {xs : List Int} {Fr_xv : List (Option Nat)} {x : Int} {w : World} (h_xv : V (tSl (tI .i64)) xs xv Fr_xv w) (i_x : InK .i64 x) : Calls Try.prog 90 #[xv, .int .i64 x] w (Ret w (fun r _ => r = .int .i64 (idxI x 0 xs))) := by
  have b_x := bd_i64 i_x
  have a_xv := h_xv.any
  have l_xv := h_xv.len63
  have hS := St.start0 w
  refine enterR Try.func90 rfl Try.ntmps90 Try.results90 rfl ?_
  refine W.seq ?_
  refine W.reg ?_
  refine Wx.rd (v := .int .i64 0) (rd_assign rfl) rfl ?_
  refine Wx.nil ?_
  refine W.seq ?_
  refine W.seq ?_
  refine W.reg ?_
  refine Wx.rd (v := xv) (rd_move rfl) rfl ?_
  refine Wx.rd (v := .int .i64 (xs.length : Int)) (rd_lenV rfl (hS.arg a_xv) Try.underlying39) rfl ?_
  refine Wx.rd (v := .int .i64 0) (rd_move rfl) rfl ?_
  refine Wx.nil ?_
  refine W.block ?_
  refine W.loop [4, 5, 8, 9, 10, 11, 12, 13, 14, 15, 16, 17, 18] (fun (k : Int) => [(8, .int .i64 k)]) (fun (k : Int) w' => St w [] w' [] ∧ 0 ≤ k ∧ k ≤ xs.length ∧ idxI x k (xs.drop k.toNat) = idxI x 0 xs) (fun (k : Int) => (xs.length - k).toNat) 0 ⟨rfl, trivial⟩ ⟨hS, (by first | omega | simp), (by first | omega | simp), (by simp)⟩ ?_
  rintro k u_2 w_1 ⟨hS, h0, h1, h2⟩
  refine W.seq ?_
  refine W.reg ?_
  refine Wx.rd (v := .bool (decide (k < (xs.length : Int)))) (rd_lss rfl rfl) rfl ?_
  refine Wx.nil ?_
  refine W.seq ?_
  refine W.condD rfl (fun c0 => ?_) (fun c0 => ?_)
  · -- yes
    refine W.skip ?_
    refine W.seq ?_
    refine W.block ?_
    refine W.seq ?_
    refine W.reg ?_
    refine Wx.rd (v := .int .i64 k) (rd_move rfl) rfl ?_
    refine Wx.rd (v := .int .i64 k) (rd_assign rfl) rfl ?_
    refine Wx.nil ?_
    refine W.seq ?_
    refine W.reg ?_
    refine Wx.rd (v := .int .i64 x) (rd_move rfl) rfl ?_
    refine Wx.rd (v := xv) (rd_move rfl) rfl ?_
    refine Wx.rd (v := .int .i64 k) (rd_move rfl) rfl ?_
    refine Wx.ex (rd_index 0 (hS.arg a_xv) rfl rfl Try.underlying39 Try.sizeOf3 (by first | omega | (simp only [List.length_set, List.length_append, List.length_cons, List.length_nil, List.length_replicate]; omega)) (by first | omega | (simp only [List.length_set, List.length_append, List.length_cons, List.length_nil, List.length_replicate]; omega))) rfl (fun p_3 hp_4 => ?_)
    refine Wx.rd (v := .int .i64 (ix 0 xs k)) (rd_loadI hp_4 rfl Try.isAgg3 Try.sizeOf3) rfl ?_
    have bd_5 := bd_i64 hp_4.inK
    refine Wx.rd (v := .bool (decide (x = (ix 0 xs k)))) (rd_eql rfl rfl) rfl ?_
    refine Wx.nil ?_
    refine W.condD rfl (fun c1 => ?_) (fun c1 => ?_)
    · -- yes
      refine W.seq ?_
      refine W.reg ?_
      refine Wx.rd (v := .int .i64 k) (rd_move rfl) rfl ?_
      refine Wx.rd (v := .int .i64 k) (rd_assign rfl) rfl ?_
      refine Wx.nil ?_
      have e0_0 : (idxI x 0 xs) = (k : Int) := by rw [← h2, drop_ix (d := 0) h0 c0, idxI, if_pos (by omega)]
      exact W.ret ⟨.int .i64 k, ResIs.one, hS.bel, (by rw [e0_0])⟩
    · -- no
      refine W.skip ?_
      refine W.reg ?_
      refine Wx.rd (v := .int .i64 (k + 1)) (rd_add rfl rfl (in_i64 (by omega) (by omega))) rfl ?_
      refine Wx.rd (v := .int .i64 (k + 1)) (rd_move rfl) rfl ?_
      refine Wx.nil ?_
      refine ⟨k + 1, (by show (xs.length - (k + 1)).toNat < (xs.length - k).toNat; omega), ?_, ?_, Out.look rfl Out.self⟩
      · exact ⟨hS, (by first | omega | assumption), (by first | omega | assumption), (by rw [← h2, drop_ix (d := 0) h0 c0, idxI, if_neg (by omega)])⟩
      · exact ⟨rfl, trivial⟩
  · -- no
    refine W.exit rfl ?_
    refine W.seq ?_
    refine W.reg ?_
    refine Wx.rd (v := .int .i64 (-1)) (rd_assign rfl) rfl ?_
    refine Wx.nil ?_
    have e1_0 : (idxI x 0 xs) = (-1 : Int) := by rw [← h2, drop_end (by omega)]; rfl
    exact W.ret ⟨.int .i64 (-1), ResIs.one, hS.bel, (by rw [e1_0])⟩

theorem F55 {xv : Value} {xs : List Int} {Fr_xv : List (Option Nat)} {x : Int} {w : World} (h_xv : V (tSl (tI .i64)) xs xv Fr_xv w) (i_x : InK .i64 x) : Calls Try.prog 55 #[xv, .int .i64 x] w (Ret w (fun r _ => r = .bool (hasL xs x))) := by
  have b_x := bd_i64 i_x
  have a_xv := h_xv.any
  have l_xv := h_xv.len63
  have hS := St.start0 w
  refine enterR Try.func55 rfl Try.ntmps55 Try.results55 rfl ?_
  refine W.seq ?_
  refine W.reg ?_
  refine Wx.rd (v := .bool false) (rd_assign rfl) rfl ?_
  refine Wx.nil ?_
  refine W.seq ?_
  refine W.reg ?_
  refine Wx.rd (v := xv) (rd_move rfl) rfl ?_
  refine Wx.rd (v := .int .i64 x) (rd_move rfl) rfl ?_
  refine Wx.callF (run_callF Try.call90 rfl) (F90 (hS.arg a_xv) i_x) rfl ?_
  rintro r_1 w_2 hx_3 rfl
  have hS := hS.ext hx_3
  have hid := idxI_bd x xs 0 (by omega)
  refine Wx.rd (v := .bool (decide (0 ≤ (idxI x 0 xs)))) (rd_geq rfl rfl) rfl ?_
  refine Wx.rd (v := .bool (decide (0 ≤ (idxI x 0 xs)))) (rd_assign rfl) rfl ?_
  refine Wx.nil ?_
  have e0_0 : (hasL xs x) = (decide (0 ≤ (idxI x 0 xs))) := by exact (idxI_has x xs 0 (by omega)).symm
  exact W.ret ⟨.bool (decide (0 ≤ (idxI x 0 xs))), ResIs.one, hS.bel, (by rw [e0_0])⟩
end Go.Proofs.Ytjbcpggikaeleaa

namespace Go.Proofs.Ytjbcpggikaeleaa
open Go.Wk Go.RowKit Go.Lib
set_option linter.unusedVariables false
set_option linter.unusedSimpArgs false
theorem elKt_39 : ElemI Try.prog 39 3 (.int .i64 0) 1 8 := ElemI.of Try.underlying39 (by kernel_rfl) (by first | rfl | kernel_rfl) (by decide)

theorem F88 {xv : Value} {xs : List Int} {O : List (Option Nat)} {w : World} (h_xv : V (tSl (tI .i64)) xs xv O w) (hO : ∀ b, some b ∈ O → b < w.heap.size) : Calls Try.prog 88 #[xv] w (Ret w (fun r w' => ∃ rv, r = rv ∧ ((∃ ad, rv = .slice ad xs.length xs.length) ∧ V (tSl (tI .i64)) xs rv O w'))) := by
  have a_xv := h_xv
  have l_xv := h_xv.len63
  have hS := St.start w O hO
  refine enterR Try.func88 rfl Try.ntmps88 Try.results88 rfl ?_
  refine W.seq ?_
  refine W.reg ?_
  refine Wx.rd (v := (.slice none 0 0)) (rd_assign rfl) rfl ?_
  refine Wx.nil ?_
  refine W.seq ?_
  refine W.reg ?_
  refine Wx.rd (v := xv) (rd_move rfl) rfl ?_
  refine Wx.rd (v := xv) (rd_move rfl) rfl ?_
  refine Wx.rd (v := .int .i64 (xs.length : Int)) (rd_lenV rfl (hS.arg a_xv) Try.underlying39) rfl ?_
  refine Wx.rd (v := xv) (rd_move rfl) rfl ?_
  refine Wx.rd (v := .int .i64 (xs.length : Int)) (rd_lenV rfl (hS.arg a_xv) Try.underlying39) rfl ?_
  refine Wx.ex (rd_clip (hS.arg a_xv) Try.underlying39 Try.sizeOf3 rfl rfl rfl rfl rfl) rfl (fun u_1 hu_u_1 => ?_)
  obtain ⟨ad_3, rfl, hv_4⟩ := hu_u_1
  have hS := hS.add hv_4
  refine Wx.rd (v := (.slice ad_3 xs.length xs.length)) (rd_assign rfl) rfl ?_
  refine Wx.nil ?_
  exact W.ret ⟨(.slice ad_3 xs.length xs.length), ResIs.one, hS.bel, ⟨(.slice ad_3 xs.length xs.length), rfl, ⟨⟨_, rfl⟩, (V.mv (hS.v 0 rfl) (.less (fun _ h => List.mem_append.2 (.inr h))))⟩⟩⟩

theorem F106 {n : Int} {O : List (Option Nat)} {w : World} (i_n : InK .i64 n) (p_0 : 0 ≤ n) (p_n : n ≤ 1000) (hO : ∀ b, some b ∈ O → b < w.heap.size) : Calls Try.prog 106 #[(.slice none 0 0), .int .i64 n] w (Ret w (fun r w' => ∃ rv, r = rv ∧ Fresh (tI .i64) 3 ([] : List Int) rv w.heap.size w')) := by
  have b_n := bd_i64 i_n
  have hS := St.start w O hO
  refine enterR Try.func106 rfl Try.ntmps106 Try.results106 rfl ?_
  refine W.seq ?_
  refine W.reg ?_
  refine Wx.rd (v := (.slice none 0 0)) (rd_assign rfl) rfl ?_
  refine Wx.nil ?_
  refine W.seq ?_
  refine W.seq ?_
  refine W.reg ?_
  refine Wx.rd (v := .int .i64 n) (rd_move rfl) rfl ?_
  refine Wx.rd (v := .bool (decide (n < 0))) (rd_lss rfl rfl) rfl ?_
  refine Wx.nil ?_
  refine W.condF rfl (decide_eq_false (by omega)) ?_
  refine W.skip ?_
  refine W.seq ?_
  refine W.seq ?_
  refine W.reg ?_
  refine Wx.rd (v := .int .i64 n) (rd_move rfl) rfl ?_
  refine Wx.rd (v := (.slice none 0 0)) (rd_move rfl) rfl ?_
  refine Wx.rd (v := .int .i64 0) (rd_cap rfl Try.underlying39) rfl ?_
  refine Wx.rd (v := (.slice none 0 0)) (rd_move rfl) rfl ?_
  refine Wx.rd (v := .int .i64 0) (rd_len rfl Try.underlying39) rfl ?_
  refine Wx.rd (v := .int .i64 0) (rd_sub (a := 0) (b := 0) rfl rfl (in_i64 (by omega) (by omega))) rfl ?_
  refine Wx.rd (v := .int .i64 (n - 0)) (rd_sub rfl rfl (in_i64 (by omega) (by omega))) rfl ?_
  refine Wx.rd (v := .int .i64 (n - 0)) (rd_assign rfl) rfl ?_
  refine Wx.nil ?_
  refine W.seq ?_
  refine W.reg ?_
  refine Wx.rd (v := .int .i64 (n - 0)) (rd_move rfl) rfl ?_
  refine Wx.rd (v := .bool (decide (0 < (n - 0)))) (rd_gtr rfl rfl) rfl ?_
  refine Wx.nil ?_
  refine W.condD rfl (fun c1 => ?_) (fun c1 => ?_)
  · -- yes
    refine W.reg ?_
    refine Wx.rd (v := (.slice none 0 0)) (rd_move rfl) rfl ?_
    refine Wx.rd (v := (.slice none 0 0)) (rd_move rfl) rfl ?_
    refine Wx.rd (v := .int .i64 0) (rd_cap rfl Try.underlying39) rfl ?_
    refine Wx.rd (v := (.slice none 0 0)) (rd_sliceNil Try.underlying39 Try.sizeOf3 rfl rfl) rfl ?_
    refine Wx.rd (v := .int .i64 (n - 0)) (rd_move rfl) rfl ?_
    refine Wx.zeros (t := (tI .i64)) (zy := 0) (m := n.toNat) elKt_39 rfl rfl (fun _ _ => ⟨rfl, by decide, by decide⟩) hS Try.underlying3 rfl (congrArg (Value.int .i64) (by omega)) (by omega) (by omega) (by simp only [maxLen]; omega) rfl (fun v_1 w_2 hx_3 hS => ?_)
    obtain ⟨g_4, c_5, rfl, hc_6⟩ := hS.rowForm 0 rfl (by simp; omega)
    refine Wx.rd (v := (.slice none 0 0)) (rd_move rfl) rfl ?_
    refine Wx.rd (v := .int .i64 0) (rd_len rfl Try.underlying39) rfl ?_
    refine Wx.rd (v := (.slice (some ⟨g_4, 0, none⟩) (0 : Int).toNat c_5)) (rd_headO Try.underlying39 Try.sizeOf3 rfl rfl (by omega) (by omega)) rfl ?_
    have hS : St _ _ _ [.row (tI .i64) 3 (.slice (some ⟨g_4, 0, none⟩) (0 : Int).toNat c_5) (List.take (0 : Int).toNat (List.replicate n.toNat 0))] := hS.shrink (m := (0 : Int).toNat) 0 rfl (by omega)
    refine Wx.rd (v := (.slice (some ⟨g_4, 0, none⟩) (0 : Int).toNat c_5)) (rd_assign rfl) rfl ?_
    refine Wx.nil ?_
    refine W.seq ?_
    refine W.reg ?_
    refine Wx.rd (v := (.slice (some ⟨g_4, 0, none⟩) (0 : Int).toNat c_5)) (rd_move rfl) rfl ?_
    refine Wx.rd (v := (.slice (some ⟨g_4, 0, none⟩) (0 : Int).toNat c_5)) (rd_assign rfl) rfl ?_
    refine Wx.nil ?_
    have e0_0 : ([] : List Int) = List.take (0 : Int).toNat (List.replicate n.toNat 0) := by simp
    exact W.ret ⟨(.slice (some ⟨g_4, 0, none⟩) (0 : Int).toNat c_5), ResIs.one, hS.bel, ⟨(.slice (some ⟨g_4, 0, none⟩) (0 : Int).toNat c_5), rfl, (by rw [e0_0]; exact (hS.fr 0 rfl flat_int))⟩⟩
  · -- no
    refine W.skip ?_
    refine W.seq ?_
    refine W.reg ?_
    refine Wx.rd (v := (.slice none 0 0)) (rd_move rfl) rfl ?_
    refine Wx.rd (v := (.slice none 0 0)) (rd_assign rfl) rfl ?_
    refine Wx.nil ?_
    have e1_0 : ([] : List Int) = [] := by simp
    exact W.ret ⟨(.slice none 0 0), ResIs.one, hS.bel, ⟨(.slice none 0 0), rfl, (by rw [e1_0]; exact ((hS.addNil (tI .i64) 3).fr 0 rfl flat_int))⟩⟩

theorem F100 {sv : Value} {ss : List (List Int)} {O : List (Option Nat)} {w : World} (h_sv : V (tSl (tSl (tI .i64))) ss sv O w) (p_n : (ss.flatten.length : Int) ≤ 1000) (hO : ∀ b, some b ∈ O → b < w.heap.size) : Calls Try.prog 100 #[sv] w (Ret w (fun r w' => ∃ rv, r = rv ∧ Fresh (tI .i64) 3 ss.flatten rv w.heap.size w')) := by
  have a_sv := h_sv
  have l_sv := h_sv.len63
  have hS := St.start w O hO
  refine enterR Try.func100 rfl Try.ntmps100 Try.results100 rfl ?_
  refine W.seq ?_
  refine W.reg ?_
  refine Wx.rd (v := (.slice none 0 0)) (rd_assign rfl) rfl ?_
  refine Wx.nil ?_
  refine W.seq ?_
  refine W.reg ?_
  refine Wx.rd (v := .int .i64 0) (rd_assign rfl) rfl ?_
  refine Wx.nil ?_
  refine W.seq ?_
  refine W.seq ?_
  refine W.reg ?_
  refine Wx.rd (v := sv) (rd_move rfl) rfl ?_
  refine Wx.rd (v := .int .i64 (ss.length : Int)) (rd_lenV rfl (hS.arg a_sv) Try.underlying104) rfl ?_
  refine Wx.rd (v := .int .i64 0) (rd_move rfl) rfl ?_
  refine Wx.nil ?_
  refine W.block ?_
  refine W.loop [3, 5, 11, 12, 13, 14, 15, 16, 17, 18, 19, 20, 21, 22] (fun x : Int × Int => match x with | (s, k) => [(3, .int .i64 s), (11, .int .i64 k)]) (fun (x : Int × Int) w' => match x with | (s, k) => St w O w' [] ∧ 0 ≤ k ∧ k ≤ ss.length ∧ s = ((ss.take k.toNat).flatten.length : Int)) (fun x : Int × Int => match x with | (s, k) => (ss.length - k).toNat) (0, 0) ⟨rfl, rfl, trivial⟩ ⟨hS, (by first | omega | simp), (by first | omega | simp), (rfl)⟩ ?_
  rintro ⟨s, k⟩ u_2 w_1 ⟨hS, h0, h1, h2⟩
  refine W.seq ?_
  refine W.reg ?_
  refine Wx.rd (v := .bool (decide (k < (ss.length : Int)))) (rd_lss rfl rfl) rfl ?_
  refine Wx.nil ?_
  refine W.seq ?_
  refine W.condD rfl (fun c0 => ?_) (fun c0 => ?_)
  · -- yes
    obtain ⟨hf1, hf2⟩ := flat_next (ss := ss) h0 c0
    refine W.skip ?_
    refine W.seq ?_
    refine W.block ?_
    refine W.seq ?_
    refine W.reg ?_
    refine Wx.ex (rd_index [] (hS.arg a_sv) rfl rfl Try.underlying104 Try.sizeOf39 (by first | omega | (simp only [List.length_set, List.length_append, List.length_cons, List.length_nil, List.length_replicate]; omega)) (by first | omega | (simp only [List.length_set, List.length_append, List.length_cons, List.length_nil, List.length_replicate]; omega))) rfl (fun p_3 hp_4 => ?_)
    refine Wx.ex (rd_load hp_4 rfl Try.isAgg39 Try.sizeOf39) rfl (fun v_5 hv_6 => ?_)
    have ln_7 := hv_6.len63
    have hS := hS.add hv_6
    refine Wx.rd (v := v_5) (rd_assign rfl) rfl ?_
    refine Wx.nil ?_
    refine W.seq ?_
    refine W.reg ?_
    refine Wx.rd (v := .int .i64 s) (rd_move rfl) rfl ?_
    refine Wx.rd (v := v_5) (rd_move rfl) rfl ?_
    refine Wx.rd (v := .int .i64 ((ix [] ss k).length : Int)) (rd_lenV rfl (hS.v 0 rfl) Try.underlying39) rfl ?_
    refine Wx.rd (v := .int .i64 (s + ((ix [] ss k).length : Int))) (rd_add rfl rfl (in_i64 (by omega) (by omega))) rfl ?_
    refine Wx.rd (v := .int .i64 (s + ((ix [] ss k).length : Int))) (rd_assign rfl) rfl ?_
    refine Wx.nil ?_
    refine W.seq ?_
    refine W.reg ?_
    refine Wx.rd (v := .int .i64 (s + ((ix [] ss k).length : Int))) (rd_move rfl) rfl ?_
    refine Wx.rd (v := .bool (decide ((s + ((ix [] ss k).length : Int)) < 0))) (rd_lss rfl rfl) rfl ?_
    refine Wx.nil ?_
    refine W.condF rfl (decide_eq_false (by omega)) ?_
    refine W.skip ?_
    refine W.reg ?_
    refine Wx.rd (v := .int .i64 (k + 1)) (rd_add rfl rfl (in_i64 (by omega) (by omega))) rfl ?_
    refine Wx.rd (v := .int .i64 (k + 1)) (rd_move rfl) rfl ?_
    refine Wx.nil ?_
    refine ⟨(s + ((ix [] ss k).length : Int), k + 1), (by show (ss.length - (k + 1)).toNat < (ss.length - k).toNat; omega), ?_, ?_, Out.look rfl Out.self⟩
    · exact ⟨hS.tl, (by first | omega | assumption), (by first | omega | assumption), (by rw [hf1, List.length_append, h2]; omega)⟩
    · exact ⟨rfl, rfl, trivial⟩
  · -- no
    have hsl : s ≤ 1000 := by rw [h2, take_end (xs := ss) (by omega)]; exact p_n
    refine W.exit rfl ?_
    refine W.seq ?_
    refine W.reg ?_
    refine Wx.rd (v := .int .i64 s) (rd_move rfl) rfl ?_
    refine Wx.callF (run_callF Try.call106 rfl) (F106 (in_i64 (by omega) (by omega)) (by omega) (by omega) hS.fb_lt) rfl ?_
    rintro r_9 w_10 hx_11 ⟨_, rfl, hv_12⟩
    have hS := hS.pushFr hx_11 hv_12
    refine Wx.rd (v := r_9) (rd_assign rfl) rfl ?_
    refine Wx.nil ?_
    refine W.seq ?_
    refine W.seq ?_
    refine W.reg ?_
    refine Wx.rd (v := sv) (rd_move rfl) rfl ?_
    refine Wx.rd (v := .int .i64 (ss.length : Int)) (rd_lenV rfl (hS.arg a_sv) Try.underlying104) rfl ?_
    refine Wx.rd (v := .int .i64 0) (rd_move rfl) rfl ?_
    refine Wx.nil ?_
    refine W.block ?_
    refine W.loop [6, 8, 27, 28, 29, 30, 31, 32, 33, 34] (fun x : Int × Value × (List Int) => match x with | (j, ov, out) => [(27, .int .i64 j), (6, ov)]) (fun (x : Int × Value × (List Int)) w' => match x with | (j, ov, out) => St w O w' [.row (tI .i64) 3 ov out] ∧ 0 ≤ j ∧ j ≤ ss.length ∧ out = (ss.take j.toNat).flatten ∧ (out.length : Int) ≤ 1000) (fun x : Int × Value × (List Int) => match x with | (j, ov, out) => (ss.length - j).toNat) (0, r_9, ([] : List Int)) ⟨rfl, rfl, trivial⟩ ⟨hS, (by first | omega | simp), (by first | omega | simp), (rfl), (by simp)⟩ ?_
    rintro ⟨j, ov, out⟩ u_15 w_14 ⟨hS, g0, g1, g2, g3⟩
    refine W.seq ?_
    refine W.reg ?_
    refine Wx.rd (v := .bool (decide (j < (ss.length : Int)))) (rd_lss rfl rfl) rfl ?_
    refine Wx.nil ?_
    refine W.seq ?_
    refine W.condD rfl (fun c2 => ?_) (fun c2 => ?_)
    · -- yes
      obtain ⟨hf1, hf2⟩ := flat_next (ss := ss) g0 c2
      have hol : (out.length : Int) + (ix [] ss j).length ≤ 1000 := by rw [g2]; omega
      refine W.skip ?_
      refine W.seq ?_
      refine W.block ?_
      refine W.seq ?_
      refine W.reg ?_
      refine Wx.ex (rd_index [] (hS.arg a_sv) rfl rfl Try.underlying104 Try.sizeOf39 (by first | omega | (simp only [List.length_set, List.length_append, List.length_cons, List.length_nil, List.length_replicate]; omega)) (by first | omega | (simp only [List.length_set, List.length_append, List.length_cons, List.length_nil, List.length_replicate]; omega))) rfl (fun p_16 hp_17 => ?_)
      refine Wx.ex (rd_load hp_17 rfl Try.isAgg39 Try.sizeOf39) rfl (fun v_18 hv_19 => ?_)
      have ln_20 := hv_19.len63
      have hS := hS.add hv_19
      refine Wx.rd (v := v_18) (rd_assign rfl) rfl ?_
      refine Wx.nil ?_
      refine W.reg ?_
      refine Wx.rd (v := ov) (rd_move rfl) rfl ?_
      refine Wx.rd (v := v_18) (rd_move rfl) rfl ?_
      refine Wx.append elKt_39 hS 1 rfl rfl rfl (Src.ofV (hS.v 0 rfl)) (by simp only [maxLen]; omega) (by omega) rfl (fun v_22 w_23 hz_24 hS => ?_)
      refine Wx.rd (v := v_22) (rd_assign rfl) rfl ?_
      refine Wx.nil ?_
      refine W.reg ?_
      refine Wx.rd (v := .int .i64 (j + 1)) (rd_add rfl rfl (in_i64 (by omega) (by omega))) rfl ?_
      refine Wx.rd (v := .int .i64 (j + 1)) (rd_move rfl) rfl ?_
      refine Wx.nil ?_
      refine ⟨(j + 1, v_22, out ++ (ix [] ss j)), (by show (ss.length - (j + 1)).toNat < (ss.length - j).toNat; omega), ?_, ?_, Out.look rfl Out.self⟩
      · exact ⟨hS.tl, (by first | omega | assumption), (by first | omega | assumption), (by rw [hf1, g2]), (by rw [List.length_append]; omega)⟩
      · exact ⟨rfl, rfl, trivial⟩
    · -- no
      refine W.exit rfl ?_
      refine W.seq ?_
      refine W.reg ?_
      refine Wx.rd (v := ov) (rd_move rfl) rfl ?_
      refine Wx.rd (v := ov) (rd_assign rfl) rfl ?_
      refine Wx.nil ?_
      have e0_0 : ss.flatten = out := by rw [g2, take_end (by omega)]
      exact W.ret ⟨ov, ResIs.one, hS.bel, ⟨ov, rfl, (by rw [e0_0]; exact (hS.fr 0 rfl flat_int))⟩⟩
end Go.Proofs.Ytjbcpggikaeleaa
