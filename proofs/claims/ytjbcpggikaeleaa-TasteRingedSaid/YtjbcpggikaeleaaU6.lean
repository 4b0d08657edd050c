/-
  WHAT IS PROVED HERE, TEXT BY TEXT (several texts of one prover, joined to one file; the conditions stand in each statement):
  * WHAT IS PROVED HERE: what functions of layer 10 hand back, each out of its own code; the conditions stand in each statement.
  * WHAT IS PROVED HERE: what functions of layer 10 hand back, each out of its own code; the conditions stand in each statement.
  * WHAT IS PROVED HERE: what TasteRinged's function that is given each list keeps: the best ring so far. Conditions stand in each statement.
  * WHAT IS PROVED HERE: what functions of layer 10 hand back, each out of its own code; the conditions stand in each statement.
  * WHAT IS PROVED HERE: what functions of layer 10 hand back, each out of its own code; the conditions stand in each statement.
  * WHAT IS PROVED HERE: arrays of arrays of numbers as they are read at the start. Conditions: the types' closed facts, as hypotheses.
  * WHAT IS PROVED HERE: structs of five parts, integers of one kind all, as they are read at the start. Conditions: the types' closed facts, as hypotheses.
  * WHAT IS PROVED HERE: the given statement of TasteRinged: for every input it returns true, and each argument reads as it did. Conditions: none.
-/
import Derived.Test.YtjbcpggikaeleaaProg
import Derived.Test.YtjbcpggikaeleaaU2
import Derived.Test.YtjbcpggikaeleaaU5
import Derived.Test.YtjbcpggikaeleaaU3
import Derived.Test.YtjbcpggikaeleaaU4
import Derived.Test.YtjbcpggikaeleaaRows
import Derived.WalkKit
import Derived.ProofKit
import Derived.OpenShut
import Derived.Carry
import Derived.Lib.SmallJoins

set_option linter.unusedVariables false
set_option linter.unusedSimpArgs false

namespace Go.Proofs.Ytjbcpggikaeleaa
open Go.Wk Go.RowKit Go.Lib
set_option linter.unusedVariables false
set_option linter.unusedSimpArgs false
theorem mixedLo_ : Try.prog.follows .mixedOrders = true := by kernel_rfl

set_option maxHeartbeats 2000000 in
theorem F49 {v : Value} {l : List ((List Int) × (List Int))} {Fr_v : List (Option Nat)} {rv : Value} {rg : List Int} {Fr_rv : List (Option Nat)} {w : World} (h_v : V (tSl (tP (tSl (tI .i64)) (tSl (tI .i64)))) l v Fr_v w) (h_rv : V (tSl (tI .i64)) rg rv Fr_rv w) (p_ok : SalesOK l) (p_r : ∀ x ∈ rg, 0 ≤ x ∧ x < (l.length : Int)) : Calls Try.prog 49 #[v, rv] w (Ret w (fun r _ => r = .bool (clsB l rg))) := by
  obtain ⟨gd, hgd, hok⟩ := p_ok.at
  have hl6 := p_ok.1
  have a_v := h_v.any
  have l_v := h_v.len63
  have a_rv := h_rv.any
  have l_rv := h_rv.len63
  have hS := St.start0 w
  refine enterR Try.func49 rfl Try.ntmps49 Try.results49 rfl ?_
  refine W.seq ?_
  refine W.reg ?_
  refine Wx.rd (v := .bool false) (rd_assign rfl) rfl ?_
  refine Wx.nil ?_
  refine W.seq ?_
  refine W.reg ?_
  refine Wx.rd (v := .bool false) (rd_assign rfl) rfl ?_
  refine Wx.nil ?_
  refine W.seq ?_
  refine W.seq ?_
  refine W.reg ?_
  refine Wx.rd (v := rv) (rd_move rfl) rfl ?_
  refine Wx.rd (v := .int .i64 (rg.length : Int)) (rd_lenV rfl (hS.arg a_rv) Try.underlying39) rfl ?_
  refine Wx.rd (v := .int .i64 0) (rd_move rfl) rfl ?_
  refine Wx.nil ?_
  refine W.block ?_
  refine W.loop [4, 5, 6, 7, 8, 11, 12, 13, 14, 15, 16, 17, 18, 19, 20, 21, 22, 23, 24, 25, 26, 27, 28, 29, 30, 31, 32, 33, 34, 35, 36, 37, 38, 39, 40, 41, 42, 43, 44, 45, 46, 47, 48, 49, 50, 51, 52, 53] (fun x : Bool × Int => match x with | (bt, k) => [(5, .bool bt), (11, .int .i64 k)]) (fun (x : Bool × Int) w' => match x with | (bt, k) => St w [] w' [] ∧ 0 ≤ k ∧ k ≤ rg.length ∧ (∀ i : Int, 0 ≤ i → i < k → cycB (gS l) rg i = true ∧ ix 0 rg 0 ≤ ix 0 rg i ∧ hasL (rg.take i.toNat) (ix 0 rg i) = false) ∧ (rng 0 k).any (cycB (bS l) rg) = bt) (fun x : Bool × Int => match x with | (bt, k) => (rg.length - k).toNat) (false, 0) ⟨rfl, rfl, trivial⟩ ⟨hS, (by first | omega | simp), (by first | omega | simp), (fun q q0 q1 => by omega), (rfl)⟩ ?_
  rintro ⟨bt, k⟩ u_2 w_1 ⟨hS, h0, h1, h2, h3⟩
  refine W.seq ?_
  refine W.reg ?_
  refine Wx.rd (v := .bool (decide (k < (rg.length : Int)))) (rd_lss rfl rfl) rfl ?_
  refine Wx.nil ?_
  refine W.seq ?_
  refine W.condD rfl (fun c0 => ?_) (fun c0 => ?_)
  · -- yes
    obtain ⟨hr0, hr1, hr2, hr3⟩ := ring_in p_r h0 c0
    have hem0 := Int.emod_nonneg (k + 1) (show (rg.length : Int) ≠ 0 by omega)
    have hem1 := Int.emod_lt_of_pos (k + 1) (show 0 < (rg.length : Int) by omega)
    refine W.skip ?_
    refine W.seq ?_
    refine W.block ?_
    refine W.seq ?_
    refine W.reg ?_
    refine Wx.rd (v := .int .i64 k) (rd_move rfl) rfl ?_
    refine Wx.ex (rd_index 0 (hS.arg a_rv) rfl rfl Try.underlying39 Try.sizeOf3 (by first | omega | (simp only [List.length_set, List.length_append, List.length_cons, List.length_nil, List.length_replicate]; omega)) (by first | omega | (simp only [List.length_set, List.length_append, List.length_cons, List.length_nil, List.length_replicate]; omega))) rfl (fun p_3 hp_4 => ?_)
    refine Wx.rd (v := .int .i64 (ix 0 rg k)) (rd_loadI hp_4 rfl Try.isAgg3 Try.sizeOf3) rfl ?_
    have bd_5 := bd_i64 hp_4.inK
    refine Wx.rd (v := .int .i64 k) (rd_assign rfl) rfl ?_
    refine Wx.rd (v := .int .i64 (ix 0 rg k)) (rd_assign rfl) rfl ?_
    refine Wx.nil ?_
    refine W.seq ?_
    refine W.regQ mixedLo_ (by kernel_rfl) ?_
    refine Wx.rd (v := v) (rd_move rfl) rfl ?_
    refine Wx.rd (v := .int .i64 (ix 0 rg k)) (rd_move rfl) rfl ?_
    refine Wx.ex (rd_index ([], []) (hS.arg a_v) rfl rfl Try.underlying22 Try.sizeOf62 (by first | omega | (simp only [List.length_set, List.length_append, List.length_cons, List.length_nil, List.length_replicate]; omega)) (by first | omega | (simp only [List.length_set, List.length_append, List.length_cons, List.length_nil, List.length_replicate]; omega))) rfl (fun p_6 hp_7 => ?_)
    refine Wx.ex (rd_load hp_7 rfl Try.isAgg62 Try.sizeOf62) rfl (fun v_8 hv_9 => ?_)
    obtain ⟨v_10, v_11, rfl, hv_12, hv_13⟩ := hv_9.s2
    have hS := hS.add (hv_12)
    have ln_15 := (hS.v 0 rfl).len63
    have hS := hS.add (V.upF (hv_13))
    have ln_17 := (hS.v 0 rfl).len63
    refine Wx.rd (v := v) (rd_move rfl) rfl ?_
    refine Wx.rd (v := rv) (rd_move rfl) rfl ?_
    refine Wx.rd (v := .int .i64 k) (rd_move rfl) rfl ?_
    refine Wx.rd (v := .int .i64 (k + 1)) (rd_add rfl rfl (in_i64 (by omega) (by omega))) rfl ?_
    refine Wx.rd (v := rv) (rd_move rfl) rfl ?_
    refine Wx.rd (v := .int .i64 (rg.length : Int)) (rd_lenV rfl (hS.arg a_rv) Try.underlying39) rfl ?_
    refine Wx.rd (v := .int .i64 ((k + 1) % (rg.length : Int))) (rd_rem rfl rfl (by omega) (by omega)) rfl ?_
    refine Wx.ex (rd_index 0 (hS.arg a_rv) rfl rfl Try.underlying39 Try.sizeOf3 (by first | omega | (simp only [List.length_set, List.length_append, List.length_cons, List.length_nil, List.length_replicate]; omega)) (by first | omega | (simp only [List.length_set, List.length_append, List.length_cons, List.length_nil, List.length_replicate]; omega))) rfl (fun p_18 hp_19 => ?_)
    refine Wx.rd (v := .int .i64 (ix 0 rg ((k + 1) % (rg.length : Int)))) (rd_loadI hp_19 rfl Try.isAgg3 Try.sizeOf3) rfl ?_
    have bd_20 := bd_i64 hp_19.inK
    refine Wx.ex (rd_index ([], []) (hS.arg a_v) rfl rfl Try.underlying22 Try.sizeOf62 (by first | omega | (simp only [List.length_set, List.length_append, List.length_cons, List.length_nil, List.length_replicate]; omega)) (by first | omega | (simp only [List.length_set, List.length_append, List.length_cons, List.length_nil, List.length_replicate]; omega))) rfl (fun p_21 hp_22 => ?_)
    refine Wx.ex (rd_load hp_22 rfl Try.isAgg62 Try.sizeOf62) rfl (fun v_23 hv_24 => ?_)
    obtain ⟨v_25, v_26, rfl, hv_27, hv_28⟩ := hv_24.s2
    have hS := hS.add (hv_27)
    have ln_30 := (hS.v 0 rfl).len63
    have hS := hS.add (V.upF (hv_28))
    have ln_32 := (hS.v 0 rfl).len63
    refine Wx.callV (v := .int .i64 (leadS (((ix ([], []) l (ix 0 rg k)).1), ((ix ([], []) l (ix 0 rg k)).2)) (((ix ([], []) l (ix 0 rg ((k + 1) % (rg.length : Int)))).1), ((ix ([], []) l (ix 0 rg ((k + 1) % (rg.length : Int)))).2)))) (run_callF Try.call53 rfl) (fun w_33 hw_34 => (F53 ((hS.v 3 rfl).ext hw_34) ((hS.v 2 rfl).ext hw_34) ((hS.v 1 rfl).ext hw_34) ((hS.v 0 rfl).ext hw_34) (hok (ix 0 rg k) (by omega) (by omega)).b1 (hok (ix 0 rg k) (by omega) (by omega)).b2 (hok (ix 0 rg ((k + 1) % (rg.length : Int))) (by omega) (by omega)).b2 (by have := (hok (ix 0 rg k) (by omega) (by omega)).l1; omega) (by have h1 := (hok (ix 0 rg k) (by omega) (by omega)).l1; have h2 := (hok (ix 0 rg k) (by omega) (by omega)).l2; omega) (by have h1 := (hok (ix 0 rg k) (by omega) (by omega)).l1; have h2 := (hok (ix 0 rg ((k + 1) % (rg.length : Int))) (by omega) (by omega)).l2; omega))) rfl ?_
    rw [show (leadS (((ix ([], []) l (ix 0 rg k)).1), ((ix ([], []) l (ix 0 rg k)).2)) (((ix ([], []) l (ix 0 rg ((k + 1) % (rg.length : Int)))).1), ((ix ([], []) l (ix 0 rg ((k + 1) % (rg.length : Int)))).2)) : Int) = leadS (ix ([], []) l (ix 0 rg k)) (ix ([], []) l (ix 0 rg ((k + 1) % (rg.length : Int)))) from rfl]
    have hld := lead_bd9 (hok (ix 0 rg k) (by omega) (by omega)) hgd.2 (hok (ix 0 rg ((k + 1) % (rg.length : Int))) (by omega) (by omega))
    refine Wx.rd (v := .int .i64 (leadS (ix ([], []) l (ix 0 rg k)) (ix ([], []) l (ix 0 rg ((k + 1) % (rg.length : Int)))))) (rd_assign rfl) rfl ?_
    refine Wx.nilQ (fun w_35 hx_36 => ?_)
    have hS := hS.ext hx_36
    refine W.seq ?_
    refine W.seq ?_
    refine W.reg ?_
    refine Wx.rd (v := .int .i64 (leadS (ix ([], []) l (ix 0 rg k)) (ix ([], []) l (ix 0 rg ((k + 1) % (rg.length : Int)))))) (rd_move rfl) rfl ?_
    refine Wx.rd (v := .bool (decide ((leadS (ix ([], []) l (ix 0 rg k)) (ix ([], []) l (ix 0 rg ((k + 1) % (rg.length : Int))))) < 0))) (rd_lss rfl rfl) rfl ?_
    refine Wx.rd (v := .bool (decide ((leadS (ix ([], []) l (ix 0 rg k)) (ix ([], []) l (ix 0 rg ((k + 1) % (rg.length : Int))))) < 0))) (rd_move rfl) rfl ?_
    refine Wx.cut (X := Unit) 6 [35, 36, 37, 38, 39, 40] (fun _ => [(40, .bool (decide ((leadS (ix ([], []) l (ix 0 rg k)) (ix ([], []) l (ix 0 rg ((k + 1) % (rg.length : Int))))) < 0) || decide ((ix 0 rg k) < (ix 0 rg 0))))]) (fun _ w' => St w [] w' [Ob.v (tSl (tI .i64)) ((ix ([], []) l (ix 0 rg ((k + 1) % (rg.length : Int)))).2) v_26, Ob.v (tSl (tI .i64)) ((ix ([], []) l (ix 0 rg ((k + 1) % (rg.length : Int)))).1) v_25, Ob.v (tSl (tI .i64)) ((ix ([], []) l (ix 0 rg k)).2) v_11, Ob.v (tSl (tI .i64)) ((ix ([], []) l (ix 0 rg k)).1) v_10]) ?_ ?_
    · rcases Bool.eq_false_or_eq_true (decide ((leadS (ix ([], []) l (ix 0 rg k)) (ix ([], []) l (ix 0 rg ((k + 1) % (rg.length : Int))))) < 0)) with g_37 | g_37
      · -- True
        have gp_38 := of_decide_eq_true g_37
        refine Wx.gnoB rfl rfl (congrArg Value.bool g_37) rfl rfl ?_
        refine Wx.gnoB rfl rfl (congrArg Value.bool g_37) rfl rfl ?_
        refine Wx.gnoB rfl rfl (congrArg Value.bool g_37) rfl rfl ?_
        refine Wx.gnoB rfl rfl (congrArg Value.bool g_37) rfl rfl ?_
        refine Wx.gnoB rfl rfl (congrArg Value.bool g_37) rfl rfl ?_
        refine Wx.rd (v := .bool true) (rd_pickT (congrArg Value.bool g_37) rfl) rfl ?_
        refine Wx.nil ⟨(), hS, ⟨?_, trivial⟩, Out.look rfl Out.refl⟩
        show Value.bool true = Value.bool (decide ((leadS (ix ([], []) l (ix 0 rg k)) (ix ([], []) l (ix 0 rg ((k + 1) % (rg.length : Int))))) < 0) || decide ((ix 0 rg k) < (ix 0 rg 0)))
        first | rw [g_37, Bool.true_or] | (rw [g_37]; rfl)
      · -- False
        have gp_39 := of_decide_eq_false g_37
        refine Wx.gyes rfl rfl (congrArg Value.bool g_37) ?_
        refine Wx.rd (v := .int .i64 (ix 0 rg k)) (rd_move rfl) rfl ?_
        refine Wx.gyes rfl rfl (congrArg Value.bool g_37) ?_
        refine Wx.rd (v := rv) (rd_move rfl) rfl ?_
        refine Wx.gyes rfl rfl (congrArg Value.bool g_37) ?_
        refine Wx.ex (rd_index 0 (hS.arg a_rv) rfl rfl Try.underlying39 Try.sizeOf3 (by first | omega | (simp only [List.length_set, List.length_append, List.length_cons, List.length_nil, List.length_replicate]; omega)) (by first | omega | (simp only [List.length_set, List.length_append, List.length_cons, List.length_nil, List.length_replicate]; omega))) rfl (fun p_40 hp_41 => ?_)
        refine Wx.gyes rfl rfl (congrArg Value.bool g_37) ?_
        refine Wx.rd (v := .int .i64 (ix 0 rg 0)) (rd_loadI hp_41 rfl Try.isAgg3 Try.sizeOf3) rfl ?_
        have bd_42 := bd_i64 hp_41.inK
        refine Wx.gyes rfl rfl (congrArg Value.bool g_37) ?_
        refine Wx.rd (v := .bool (decide ((ix 0 rg k) < (ix 0 rg 0)))) (rd_lss rfl rfl) rfl ?_
        refine Wx.rd (v := .bool (decide ((ix 0 rg k) < (ix 0 rg 0)))) (rd_pickF (congrArg Value.bool g_37) rfl) rfl ?_
        refine Wx.nil ⟨(), hS, ⟨?_, trivial⟩, Out.look rfl Out.refl⟩
        show Value.bool (decide ((ix 0 rg k) < (ix 0 rg 0))) = Value.bool (decide ((leadS (ix ([], []) l (ix 0 rg k)) (ix ([], []) l (ix 0 rg ((k + 1) % (rg.length : Int))))) < 0) || decide ((ix 0 rg k) < (ix 0 rg 0)))
        first | rw [g_37, Bool.false_or] | (rw [g_37]; rfl)
    rintro ⟨⟩ u_44 w_43 hS
    refine Wx.rd (v := .bool (decide ((leadS (ix ([], []) l (ix 0 rg k)) (ix ([], []) l (ix 0 rg ((k + 1) % (rg.length : Int))))) < 0) || decide ((ix 0 rg k) < (ix 0 rg 0)))) (rd_move rfl) rfl ?_
    refine Wx.cut (X := Unit) 6 [42, 43, 44, 45, 46, 47] (fun _ => [(47, .bool ((decide ((leadS (ix ([], []) l (ix 0 rg k)) (ix ([], []) l (ix 0 rg ((k + 1) % (rg.length : Int))))) < 0) || decide ((ix 0 rg k) < (ix 0 rg 0))) || hasL (rg.take k.toNat) (ix 0 rg k)))]) (fun _ w' => St w [] w' [Ob.v (tSl (tI .i64)) ((ix ([], []) l (ix 0 rg ((k + 1) % (rg.length : Int)))).2) v_26, Ob.v (tSl (tI .i64)) ((ix ([], []) l (ix 0 rg ((k + 1) % (rg.length : Int)))).1) v_25, Ob.v (tSl (tI .i64)) ((ix ([], []) l (ix 0 rg k)).2) v_11, Ob.v (tSl (tI .i64)) ((ix ([], []) l (ix 0 rg k)).1) v_10]) ?_ ?_
    · rcases Bool.eq_false_or_eq_true (decide ((leadS (ix ([], []) l (ix 0 rg k)) (ix ([], []) l (ix 0 rg ((k + 1) % (rg.length : Int))))) < 0) || decide ((ix 0 rg k) < (ix 0 rg 0))) with g_45 | g_45
      · -- True
        have gp_46 := g_45
        try simp only [Bool.and_eq_true, Bool.or_eq_true, Bool.not_eq_true', Bool.and_eq_false_iff, Bool.or_eq_false_iff, Bool.not_eq_false', decide_eq_true_eq, decide_eq_false_iff_not, not_or, Bool.false_eq_true, Bool.true_eq_false, false_or, or_false, not_false_eq_true] at gp_46
        refine Wx.gnoB rfl rfl (congrArg Value.bool g_45) rfl rfl ?_
        refine Wx.gnoB rfl rfl (congrArg Value.bool g_45) rfl rfl ?_
        refine Wx.gnoB rfl rfl (congrArg Value.bool g_45) rfl rfl ?_
        refine Wx.gnoB rfl rfl (congrArg Value.bool g_45) rfl rfl ?_
        refine Wx.gnoB rfl rfl (congrArg Value.bool g_45) rfl rfl ?_
        refine Wx.rd (v := .bool true) (rd_pickT (congrArg Value.bool g_45) rfl) rfl ?_
        refine Wx.nil ⟨(), hS, ⟨?_, trivial⟩, Out.look rfl Out.refl⟩
        show Value.bool true = Value.bool ((decide ((leadS (ix ([], []) l (ix 0 rg k)) (ix ([], []) l (ix 0 rg ((k + 1) % (rg.length : Int))))) < 0) || decide ((ix 0 rg k) < (ix 0 rg 0))) || hasL (rg.take k.toNat) (ix 0 rg k))
        first | rw [g_45, Bool.true_or] | (rw [g_45]; rfl)
      · -- False
        have gp_47 := g_45
        try simp only [Bool.and_eq_true, Bool.or_eq_true, Bool.not_eq_true', Bool.and_eq_false_iff, Bool.or_eq_false_iff, Bool.not_eq_false', decide_eq_true_eq, decide_eq_false_iff_not, not_or, Bool.false_eq_true, Bool.true_eq_false, false_or, or_false, not_false_eq_true] at gp_47
        refine Wx.gyes rfl rfl (congrArg Value.bool g_45) ?_
        refine Wx.rd (v := rv) (rd_move rfl) rfl ?_
        refine Wx.gyes rfl rfl (congrArg Value.bool g_45) ?_
        refine Wx.rd (v := .int .i64 k) (rd_move rfl) rfl ?_
        refine Wx.gyes rfl rfl (congrArg Value.bool g_45) ?_
        refine Wx.ex (rd_sliceH (hS.arg a_rv) Try.underlying39 Try.sizeOf3 rfl rfl (by omega) (by omega)) rfl (fun u_48 hu_49 => ?_)
        have ln_50 := hu_49.len63
        have hS := hS.add hu_49
        refine Wx.gyes rfl rfl (congrArg Value.bool g_45) ?_
        refine Wx.rd (v := .int .i64 (ix 0 rg k)) (rd_move rfl) rfl ?_
        refine Wx.gyes rfl rfl (congrArg Value.bool g_45) ?_
        refine Wx.callF (run_callF Try.call55 rfl) (F55 (hS.v 0 rfl) (in_i64 (by omega) (by omega))) rfl ?_
        rintro r_52 w_53 hx_54 rfl
        have hS := hS.ext hx_54
        refine Wx.rd (v := .bool (hasL (rg.take k.toNat) (ix 0 rg k))) (rd_pickF (congrArg Value.bool g_45) rfl) rfl ?_
        refine Wx.nil ⟨(), hS.tl, ⟨?_, trivial⟩, Out.look rfl Out.refl⟩
        show Value.bool (hasL (rg.take k.toNat) (ix 0 rg k)) = Value.bool ((decide ((leadS (ix ([], []) l (ix 0 rg k)) (ix ([], []) l (ix 0 rg ((k + 1) % (rg.length : Int))))) < 0) || decide ((ix 0 rg k) < (ix 0 rg 0))) || hasL (rg.take k.toNat) (ix 0 rg k))
        first | rw [g_45, Bool.false_or] | (rw [g_45]; rfl)
    rintro ⟨⟩ u_56 w_55 hS
    refine Wx.nil ?_
    refine W.cond rfl (fun c1 => ?_) (fun c1 => ?_)
    · -- yes
      try simp only [Bool.and_eq_true, Bool.or_eq_true, Bool.not_eq_true', Bool.and_eq_false_iff, Bool.or_eq_false_iff, Bool.not_eq_false', decide_eq_true_eq, decide_eq_false_iff_not, not_or, Bool.false_eq_true, Bool.true_eq_false, false_or, or_false, not_false_eq_true] at c1
      refine W.seq ?_
      refine W.reg ?_
      refine Wx.rd (v := .bool false) (rd_assign rfl) rfl ?_
      refine Wx.nil ?_
      have e0_0 : (clsB l rg) = false := by exact cls_no h0 c0 (by rcases c1 with (c1 | c1) | c1; exact .inl (.inl (decide_eq_false (by omega))); exact .inl (.inr c1); exact .inr c1)
      exact W.ret ⟨.bool false, ResIs.one, hS.bel, (by rw [e0_0])⟩
    · -- no
      try simp only [Bool.and_eq_true, Bool.or_eq_true, Bool.not_eq_true', Bool.and_eq_false_iff, Bool.or_eq_false_iff, Bool.not_eq_false', decide_eq_true_eq, decide_eq_false_iff_not, not_or, Bool.false_eq_true, Bool.true_eq_false, false_or, or_false, not_false_eq_true] at c1
      refine W.skip ?_
      refine W.reg ?_
      refine Wx.rd (v := .bool bt) (rd_move rfl) rfl ?_
      refine Wx.rd (v := .bool bt) (rd_move rfl) rfl ?_
      refine Wx.cut (X := Unit) 3 [50, 51, 52] (fun _ => [(52, .bool (bt || decide (0 < (leadS (ix ([], []) l (ix 0 rg k)) (ix ([], []) l (ix 0 rg ((k + 1) % (rg.length : Int))))))))]) (fun _ w' => St w [] w' [Ob.v (tSl (tI .i64)) ((ix ([], []) l (ix 0 rg ((k + 1) % (rg.length : Int)))).2) v_26, Ob.v (tSl (tI .i64)) ((ix ([], []) l (ix 0 rg ((k + 1) % (rg.length : Int)))).1) v_25, Ob.v (tSl (tI .i64)) ((ix ([], []) l (ix 0 rg k)).2) v_11, Ob.v (tSl (tI .i64)) ((ix ([], []) l (ix 0 rg k)).1) v_10]) ?_ ?_
      · rcases Bool.eq_false_or_eq_true bt with g_57 | g_57
        · -- True
          have gp_58 := g_57
          try simp only [Bool.and_eq_true, Bool.or_eq_true, Bool.not_eq_true', Bool.and_eq_false_iff, Bool.or_eq_false_iff, Bool.not_eq_false', decide_eq_true_eq, decide_eq_false_iff_not, not_or, Bool.false_eq_true, Bool.true_eq_false, false_or, or_false, not_false_eq_true] at gp_58
          refine Wx.gnoB rfl rfl (congrArg Value.bool g_57) rfl rfl ?_
          refine Wx.gnoB rfl rfl (congrArg Value.bool g_57) rfl rfl ?_
          refine Wx.rd (v := .bool true) (rd_pickT (congrArg Value.bool g_57) rfl) rfl ?_
          refine Wx.nil ⟨(), hS, ⟨?_, trivial⟩, Out.look rfl Out.refl⟩
          show Value.bool true = Value.bool (bt || decide (0 < (leadS (ix ([], []) l (ix 0 rg k)) (ix ([], []) l (ix 0 rg ((k + 1) % (rg.length : Int)))))))
          first | rw [g_57, Bool.true_or] | (rw [g_57]; rfl)
        · -- False
          have gp_59 := g_57
          try simp only [Bool.and_eq_true, Bool.or_eq_true, Bool.not_eq_true', Bool.and_eq_false_iff, Bool.or_eq_false_iff, Bool.not_eq_false', decide_eq_true_eq, decide_eq_false_iff_not, not_or, Bool.false_eq_true, Bool.true_eq_false, false_or, or_false, not_false_eq_true] at gp_59
          refine Wx.gyes rfl rfl (congrArg Value.bool g_57) ?_
          refine Wx.rd (v := .int .i64 (leadS (ix ([], []) l (ix 0 rg k)) (ix ([], []) l (ix 0 rg ((k + 1) % (rg.length : Int)))))) (rd_move rfl) rfl ?_
          refine Wx.gyes rfl rfl (congrArg Value.bool g_57) ?_
          refine Wx.rd (v := .bool (decide (0 < (leadS (ix ([], []) l (ix 0 rg k)) (ix ([], []) l (ix 0 rg ((k + 1) % (rg.length : Int)))))))) (rd_gtr rfl rfl) rfl ?_
          refine Wx.rd (v := .bool (decide (0 < (leadS (ix ([], []) l (ix 0 rg k)) (ix ([], []) l (ix 0 rg ((k + 1) % (rg.length : Int)))))))) (rd_pickF (congrArg Value.bool g_57) rfl) rfl ?_
          refine Wx.nil ⟨(), hS, ⟨?_, trivial⟩, Out.look rfl Out.refl⟩
          show Value.bool (decide (0 < (leadS (ix ([], []) l (ix 0 rg k)) (ix ([], []) l (ix 0 rg ((k + 1) % (rg.length : Int))))))) = Value.bool (bt || decide (0 < (leadS (ix ([], []) l (ix 0 rg k)) (ix ([], []) l (ix 0 rg ((k + 1) % (rg.length : Int)))))))
          first | rw [g_57, Bool.false_or] | (rw [g_57]; rfl)
      rintro ⟨⟩ u_61 w_60 hS
      refine Wx.rd (v := .bool (bt || decide (0 < (leadS (ix ([], []) l (ix 0 rg k)) (ix ([], []) l (ix 0 rg ((k + 1) % (rg.length : Int)))))))) (rd_assign rfl) rfl ?_
      refine Wx.nil ?_
      refine W.reg ?_
      refine Wx.rd (v := .int .i64 (k + 1)) (rd_add rfl rfl (in_i64 (by omega) (by omega))) rfl ?_
      refine Wx.rd (v := .int .i64 (k + 1)) (rd_move rfl) rfl ?_
      refine Wx.nil ?_
      refine ⟨((bt || decide (0 < (leadS (ix ([], []) l (ix 0 rg k)) (ix ([], []) l (ix 0 rg ((k + 1) % (rg.length : Int))))))), k + 1), (by show (rg.length - (k + 1)).toNat < (rg.length - k).toNat; omega), ?_, ?_, Out.look rfl (Out.hav rfl (Out.look rfl (Out.hav rfl (Out.look rfl (Out.hav rfl (Out.look rfl Out.self))))))⟩
      · exact ⟨St.tl (St.tl (St.tl (hS.tl))), (by first | omega | assumption), (by first | omega | assumption), (fun i i0 i1 => by by_cases e : i = k; (rw [e]; exact ⟨decide_eq_true (by omega), by omega, c1.2⟩); exact h2 i i0 (by omega)), (by rw [any_snoc' h0, h3]; rfl)⟩
      · exact ⟨rfl, rfl, trivial⟩
  · -- no
    refine W.exit rfl ?_
    refine W.seq ?_
    refine W.reg ?_
    refine Wx.rd (v := .bool bt) (rd_move rfl) rfl ?_
    refine Wx.rd (v := .bool bt) (rd_assign rfl) rfl ?_
    refine Wx.nil ?_
    have e1_0 : (clsB l rg) = bt := by exact (cls_end (by omega) h2).trans h3
    exact W.ret ⟨.bool bt, ResIs.one, hS.bel, (by rw [e1_0])⟩
end Go.Proofs.Ytjbcpggikaeleaa

namespace Go.Proofs.Ytjbcpggikaeleaa
open Go.Wk Go.RowKit Go.Lib
set_option linter.unusedVariables false
set_option linter.unusedSimpArgs false
theorem foLx_66_2 : fldOff Try.prog 66 2 = some 2 := by kernel_rfl

set_option maxHeartbeats 4000000 in
set_option maxRecDepth 10000 in
theorem F51 {l : List Sale} {zs rg best : List Int} {lv bv sv : Value} {k : Int} {gs gb gk gz gg gn : Nat} {ob : List Ob} {w0 w : World} {O : List (Option Nat)} (hck : checkE (shG zs) l = 0) (p_ok : SalesOK l) (n_zs : zs.length = 39) (i_zs : ∀ z ∈ zs, InK .u8 z) (i_k : InK .i64 k) (p_l : (rg.length : Int) ≤ 6) (p_1 : 1 ≤ (rg.length : Int)) (p_b : ∀ x ∈ rg, 0 ≤ x ∧ x < (l.length : Int)) (p_d : rg.Nodup) (p_nz : best = [] → bv = .slice none 0 0) (hS : St w0 O w (Ob.v (tSl (tI .i64)) best bv :: Ob.v (tSl (tP (tSl (tI .i64)) (tSl (tI .i64)))) l sv :: .box gs 22 [sv] :: .box gb 39 [bv] :: .box gk 3 [.int .i64 k] :: .box gz 66 (List.map (Value.int .u8) zs) :: .box gg 4 [.bool true] :: .box gn 3 [.int .i64 (shG zs)] :: ob)) (hv : V (tSl tInt) rg lv (fb (Ob.v (tSl (tI .i64)) best bv :: Ob.v (tSl (tP (tSl (tI .i64)) (tSl (tI .i64)))) l sv :: .box gs 22 [sv] :: .box gb 39 [bv] :: .box gk 3 [.int .i64 k] :: .box gz 66 (List.map (Value.int .u8) zs) :: .box gg 4 [.bool true] :: .box gn 3 [.int .i64 (shG zs)] :: ob) O) w) : Calls Try.prog 51 #[lv, (.pointer (some ⟨gs, 0, none⟩)), (.pointer (some ⟨gb, 0, none⟩)), (.pointer (some ⟨gk, 0, none⟩)), (.pointer (some ⟨gz, 0, none⟩)), (.pointer (some ⟨gg, 0, none⟩)), (.pointer (some ⟨gn, 0, none⟩))] w (Bk fun r w' => r = .tuple #[] ∧ ∃ bv' best' k', best' = keepR l best rg ∧ InK .i64 k' ∧ (best' = [] → bv' = .slice none 0 0) ∧ St w0 O w' (Ob.v (tSl (tI .i64)) best' bv' :: Ob.v (tSl (tP (tSl (tI .i64)) (tSl (tI .i64)))) l sv :: .box gs 22 [sv] :: .box gb 39 [bv'] :: .box gk 3 [.int .i64 k'] :: .box gz 66 (List.map (Value.int .u8) zs) :: .box gg 4 [.bool true] :: .box gn 3 [.int .i64 (shG zs)] :: ob)) := by
  have b_k := bd_i64 i_k
  have hgz := shG_bd zs
  have hz2 := ix_u8 i_zs 2
  have hne : rg ≠ [] := by rintro rfl; simp at p_1
  have hS := hS.add (hv)
  have ln_2 := (hS.v 0 rfl).len63
  refine enterB Try.func51 rfl Try.ntmps51 Try.results51 rfl ?_
  refine W.seq ?_
  refine W.reg ?_
  refine Wx.rd (v := sv) (rd_loadX hS 3 rfl rfl rfl Try.isAgg22) rfl ?_
  refine Wx.rd (v := lv) (rd_move rfl) rfl ?_
  refine Wx.callF (run_callF Try.call49 rfl) (F49 (hS.v 2 rfl) (hS.v 0 rfl) p_ok p_b) rfl ?_
  rintro r_3 w_4 hx_5 rfl
  have hS := hS.ext hx_5
  refine Wx.rd (v := .bool (clsB l rg)) (rd_assign rfl) rfl ?_
  refine Wx.nil ?_
  refine W.seq ?_
  refine W.seq ?_
  refine W.reg ?_
  refine Wx.rd (v := .bool (clsB l rg)) (rd_move rfl) rfl ?_
  refine Wx.rd (v := .bool (clsB l rg)) (rd_move rfl) rfl ?_
  refine Wx.cut (X := Unit) 23 [15, 16, 17, 18, 19, 20, 21, 22, 23, 24, 25, 26, 27, 28, 29, 30, 31, 32, 33, 34, 35, 36, 37] (fun _ => [(37, .bool (clsB l rg && ((decide (best = []) || decide ((rg.length : Int) < (best.length : Int))) || (decide ((rg.length : Int) = (best.length : Int)) && decide ((cmpL rg best) < 0)))))]) (fun _ w' => St w0 O w' (Ob.v (tSl (tI .i64)) rg lv :: Ob.v (tSl (tI .i64)) best bv :: Ob.v (tSl (tP (tSl (tI .i64)) (tSl (tI .i64)))) l sv :: .box gs 22 [sv] :: .box gb 39 [bv] :: .box gk 3 [.int .i64 k] :: .box gz 66 (List.map (Value.int .u8) zs) :: .box gg 4 [.bool true] :: .box gn 3 [.int .i64 (shG zs)] :: ob)) ?_ ?_
  · rcases Bool.eq_false_or_eq_true (clsB l rg) with g_6 | g_6
    · -- True
      have gp_7 := g_6
      try simp only [Bool.and_eq_true, Bool.or_eq_true, Bool.not_eq_true', Bool.and_eq_false_iff, Bool.or_eq_false_iff, Bool.not_eq_false', decide_eq_true_eq, decide_eq_false_iff_not, not_or, Bool.false_eq_true, Bool.true_eq_false, false_or, or_false, not_false_eq_true] at gp_7
      refine Wx.gyes rfl rfl (congrArg Value.bool g_6) ?_
      refine Wx.rd (v := bv) (rd_loadX hS 4 rfl rfl rfl Try.isAgg39) rfl ?_
      refine Wx.gyes rfl rfl (congrArg Value.bool g_6) ?_
      refine Wx.rd (v := .bool (decide (best = []))) (rd_eqlNilI (hS.v 1 rfl) rfl rfl Try.underlying39 p_nz) rfl ?_
      refine Wx.gyes rfl rfl (congrArg Value.bool g_6) ?_
      refine Wx.rd (v := .bool (decide (best = []))) (rd_move rfl) rfl ?_
      refine Wx.cut (X := Unit) 6 [18, 19, 20, 21, 22, 23] (fun _ => [(23, .bool (decide (best = []) || decide ((rg.length : Int) < (best.length : Int))))]) (fun _ w' => St w0 O w' (Ob.v (tSl (tI .i64)) rg lv :: Ob.v (tSl (tI .i64)) best bv :: Ob.v (tSl (tP (tSl (tI .i64)) (tSl (tI .i64)))) l sv :: .box gs 22 [sv] :: .box gb 39 [bv] :: .box gk 3 [.int .i64 k] :: .box gz 66 (List.map (Value.int .u8) zs) :: .box gg 4 [.bool true] :: .box gn 3 [.int .i64 (shG zs)] :: ob)) ?_ ?_
      · rcases Bool.eq_false_or_eq_true (decide (best = [])) with g_8 | g_8
        · -- True
          have gp_9 := of_decide_eq_true g_8
          refine Wx.gnoB rfl rfl (congrArg Value.bool g_8) rfl rfl ?_
          refine Wx.gnoB rfl rfl (congrArg Value.bool g_8) rfl rfl ?_
          refine Wx.gnoB rfl rfl (congrArg Value.bool g_8) rfl rfl ?_
          refine Wx.gnoB rfl rfl (congrArg Value.bool g_8) rfl rfl ?_
          refine Wx.gnoB rfl rfl (congrArg Value.bool g_8) rfl rfl ?_
          refine Wx.gyes rfl rfl (congrArg Value.bool g_6) ?_
          refine Wx.rd (v := .bool true) (rd_pickT (congrArg Value.bool g_8) rfl) rfl ?_
          refine Wx.nil ⟨(), hS, ⟨?_, trivial⟩, Out.look rfl Out.refl⟩
          show Value.bool true = Value.bool (decide (best = []) || decide ((rg.length : Int) < (best.length : Int)))
          first | rw [g_8, Bool.true_or] | (rw [g_8]; rfl)
        · -- False
          have gp_10 := of_decide_eq_false g_8
          refine Wx.gyes rfl rfl (congrArg Value.bool g_8) ?_
          refine Wx.rd (v := lv) (rd_move rfl) rfl ?_
          refine Wx.gyes rfl rfl (congrArg Value.bool g_8) ?_
          refine Wx.rd (v := .int .i64 (rg.length : Int)) (rd_lenV rfl (hS.v 0 rfl) Try.underlying39) rfl ?_
          refine Wx.gyes rfl rfl (congrArg Value.bool g_8) ?_
          refine Wx.rd (v := bv) (rd_loadX hS 4 rfl rfl rfl Try.isAgg39) rfl ?_
          refine Wx.gyes rfl rfl (congrArg Value.bool g_8) ?_
          refine Wx.rd (v := .int .i64 (best.length : Int)) (rd_lenV rfl (hS.v 1 rfl) Try.underlying39) rfl ?_
          refine Wx.gyes rfl rfl (congrArg Value.bool g_8) ?_
          refine Wx.rd (v := .bool (decide ((rg.length : Int) < (best.length : Int)))) (rd_lss rfl rfl) rfl ?_
          refine Wx.gyes rfl rfl (congrArg Value.bool g_6) ?_
          refine Wx.rd (v := .bool (decide ((rg.length : Int) < (best.length : Int)))) (rd_pickF (congrArg Value.bool g_8) rfl) rfl ?_
          refine Wx.nil ⟨(), hS, ⟨?_, trivial⟩, Out.look rfl Out.refl⟩
          show Value.bool (decide ((rg.length : Int) < (best.length : Int))) = Value.bool (decide (best = []) || decide ((rg.length : Int) < (best.length : Int)))
          first | rw [g_8, Bool.false_or] | (rw [g_8]; rfl)
      rintro ⟨⟩ u_12 w_11 hS
      refine Wx.gyes rfl rfl (congrArg Value.bool g_6) ?_
      refine Wx.rd (v := .bool (decide (best = []) || decide ((rg.length : Int) < (best.length : Int)))) (rd_move rfl) rfl ?_
      refine Wx.cut (X := Unit) 12 [25, 26, 27, 28, 29, 30, 31, 32, 33, 34, 35, 36] (fun _ => [(36, .bool ((decide (best = []) || decide ((rg.length : Int) < (best.length : Int))) || (decide ((rg.length : Int) = (best.length : Int)) && decide ((cmpL rg best) < 0))))]) (fun _ w' => St w0 O w' (Ob.v (tSl (tI .i64)) rg lv :: Ob.v (tSl (tI .i64)) best bv :: Ob.v (tSl (tP (tSl (tI .i64)) (tSl (tI .i64)))) l sv :: .box gs 22 [sv] :: .box gb 39 [bv] :: .box gk 3 [.int .i64 k] :: .box gz 66 (List.map (Value.int .u8) zs) :: .box gg 4 [.bool true] :: .box gn 3 [.int .i64 (shG zs)] :: ob)) ?_ ?_
      · rcases Bool.eq_false_or_eq_true (decide (best = []) || decide ((rg.length : Int) < (best.length : Int))) with g_13 | g_13
        · -- True
          have gp_14 := g_13
          try simp only [Bool.and_eq_true, Bool.or_eq_true, Bool.not_eq_true', Bool.and_eq_false_iff, Bool.or_eq_false_iff, Bool.not_eq_false', decide_eq_true_eq, decide_eq_false_iff_not, not_or, Bool.false_eq_true, Bool.true_eq_false, false_or, or_false, not_false_eq_true] at gp_14
          refine Wx.gnoB rfl rfl (congrArg Value.bool g_13) rfl rfl ?_
          refine Wx.gnoB rfl rfl (congrArg Value.bool g_13) rfl rfl ?_
          refine Wx.gnoB rfl rfl (congrArg Value.bool g_13) rfl rfl ?_
          refine Wx.gnoB rfl rfl (congrArg Value.bool g_13) rfl rfl ?_
          refine Wx.gnoB rfl rfl (congrArg Value.bool g_13) rfl rfl ?_
          refine Wx.gnoB rfl rfl (congrArg Value.bool g_13) rfl rfl ?_
          refine Wx.gno rfl rfl rfl rfl ?_
          refine Wx.gno rfl rfl rfl rfl ?_
          refine Wx.gno rfl rfl rfl rfl ?_
          refine Wx.gno rfl rfl rfl rfl ?_
          refine Wx.gnoB rfl rfl (congrArg Value.bool g_13) rfl rfl ?_
          refine Wx.gyes rfl rfl (congrArg Value.bool g_6) ?_
          refine Wx.rd (v := .bool true) (rd_pickT (congrArg Value.bool g_13) rfl) rfl ?_
          refine Wx.nil ⟨(), hS, ⟨?_, trivial⟩, Out.look rfl Out.refl⟩
          show Value.bool true = Value.bool ((decide (best = []) || decide ((rg.length : Int) < (best.length : Int))) || (decide ((rg.length : Int) = (best.length : Int)) && decide ((cmpL rg best) < 0)))
          first | rw [g_13, Bool.true_or] | (rw [g_13]; rfl)
        · -- False
          have gp_15 := g_13
          try simp only [Bool.and_eq_true, Bool.or_eq_true, Bool.not_eq_true', Bool.and_eq_false_iff, Bool.or_eq_false_iff, Bool.not_eq_false', decide_eq_true_eq, decide_eq_false_iff_not, not_or, Bool.false_eq_true, Bool.true_eq_false, false_or, or_false, not_false_eq_true] at gp_15
          refine Wx.gyes rfl rfl (congrArg Value.bool g_13) ?_
          refine Wx.rd (v := lv) (rd_move rfl) rfl ?_
          refine Wx.gyes rfl rfl (congrArg Value.bool g_13) ?_
          refine Wx.rd (v := .int .i64 (rg.length : Int)) (rd_lenV rfl (hS.v 0 rfl) Try.underlying39) rfl ?_
          refine Wx.gyes rfl rfl (congrArg Value.bool g_13) ?_
          refine Wx.rd (v := bv) (rd_loadX hS 4 rfl rfl rfl Try.isAgg39) rfl ?_
          refine Wx.gyes rfl rfl (congrArg Value.bool g_13) ?_
          refine Wx.rd (v := .int .i64 (best.length : Int)) (rd_lenV rfl (hS.v 1 rfl) Try.underlying39) rfl ?_
          refine Wx.gyes rfl rfl (congrArg Value.bool g_13) ?_
          refine Wx.rd (v := .bool (decide ((rg.length : Int) = (best.length : Int)))) (rd_eql rfl rfl) rfl ?_
          refine Wx.gyes rfl rfl (congrArg Value.bool g_13) ?_
          refine Wx.rd (v := .bool (decide ((rg.length : Int) = (best.length : Int)))) (rd_move rfl) rfl ?_
          refine Wx.cut (X := Unit) 5 [31, 32, 33, 34, 35] (fun _ => [(35, .bool (decide ((rg.length : Int) = (best.length : Int)) && decide ((cmpL rg best) < 0)))]) (fun _ w' => St w0 O w' (Ob.v (tSl (tI .i64)) rg lv :: Ob.v (tSl (tI .i64)) best bv :: Ob.v (tSl (tP (tSl (tI .i64)) (tSl (tI .i64)))) l sv :: .box gs 22 [sv] :: .box gb 39 [bv] :: .box gk 3 [.int .i64 k] :: .box gz 66 (List.map (Value.int .u8) zs) :: .box gg 4 [.bool true] :: .box gn 3 [.int .i64 (shG zs)] :: ob)) ?_ ?_
          · rcases Bool.eq_false_or_eq_true (decide ((rg.length : Int) = (best.length : Int))) with g_16 | g_16
            · -- True
              have gp_17 := of_decide_eq_true g_16
              refine Wx.gyes rfl rfl (congrArg Value.bool g_16) ?_
              refine Wx.rd (v := lv) (rd_move rfl) rfl ?_
              refine Wx.gyes rfl rfl (congrArg Value.bool g_16) ?_
              refine Wx.rd (v := bv) (rd_loadX hS 4 rfl rfl rfl Try.isAgg39) rfl ?_
              refine Wx.gyes rfl rfl (congrArg Value.bool g_16) ?_
              refine Wx.callF (run_callF Try.call52 rfl) (F52 (hS.v 0 rfl) (hS.v 1 rfl)) rfl ?_
              rintro r_18 w_19 hx_20 rfl
              have hS := hS.ext hx_20
              refine Wx.gyes rfl rfl (congrArg Value.bool g_16) ?_
              refine Wx.rd (v := .bool (decide ((cmpL rg best) < 0))) (rd_lss rfl rfl) rfl ?_
              refine Wx.gyes rfl rfl (congrArg Value.bool g_13) ?_
              refine Wx.rd (v := .bool (decide ((cmpL rg best) < 0))) (rd_pickT (congrArg Value.bool g_16) rfl) rfl ?_
              refine Wx.nil ⟨(), hS, ⟨?_, trivial⟩, Out.look rfl Out.refl⟩
              show Value.bool (decide ((cmpL rg best) < 0)) = Value.bool (decide ((rg.length : Int) = (best.length : Int)) && decide ((cmpL rg best) < 0))
              first | rw [g_16, Bool.true_and] | (rw [g_16]; rfl)
            · -- False
              have gp_21 := of_decide_eq_false g_16
              refine Wx.gnoB rfl rfl (congrArg Value.bool g_16) rfl rfl ?_
              refine Wx.gnoB rfl rfl (congrArg Value.bool g_16) rfl rfl ?_
              refine Wx.gnoB rfl rfl (congrArg Value.bool g_16) rfl rfl ?_
              refine Wx.gnoB rfl rfl (congrArg Value.bool g_16) rfl rfl ?_
              refine Wx.gyes rfl rfl (congrArg Value.bool g_13) ?_
              refine Wx.rd (v := .bool false) (rd_pickF (congrArg Value.bool g_16) rfl) rfl ?_
              refine Wx.nil ⟨(), hS, ⟨?_, trivial⟩, Out.look rfl Out.refl⟩
              show Value.bool false = Value.bool (decide ((rg.length : Int) = (best.length : Int)) && decide ((cmpL rg best) < 0))
              first | rw [g_16, Bool.false_and] | (rw [g_16]; rfl)
          rintro ⟨⟩ u_23 w_22 hS
          refine Wx.gyes rfl rfl (congrArg Value.bool g_6) ?_
          refine Wx.rd (v := .bool (decide ((rg.length : Int) = (best.length : Int)) && decide ((cmpL rg best) < 0))) (rd_pickF (congrArg Value.bool g_13) rfl) rfl ?_
          refine Wx.nil ⟨(), hS, ⟨?_, trivial⟩, Out.look rfl (Out.hav rfl (Out.look rfl Out.refl))⟩
          show Value.bool (decide ((rg.length : Int) = (best.length : Int)) && decide ((cmpL rg best) < 0)) = Value.bool ((decide (best = []) || decide ((rg.length : Int) < (best.length : Int))) || (decide ((rg.length : Int) = (best.length : Int)) && decide ((cmpL rg best) < 0)))
          first | rw [g_13, Bool.false_or] | (rw [g_13]; rfl)
      rintro ⟨⟩ u_25 w_24 hS
      refine Wx.rd (v := .bool ((decide (best = []) || decide ((rg.length : Int) < (best.length : Int))) || (decide ((rg.length : Int) = (best.length : Int)) && decide ((cmpL rg best) < 0)))) (rd_pickT (congrArg Value.bool g_6) rfl) rfl ?_
      refine Wx.nil ⟨(), hS, ⟨?_, trivial⟩, Out.look rfl (Out.hav rfl (Out.look rfl (Out.hav rfl (Out.look rfl Out.refl))))⟩
      show Value.bool ((decide (best = []) || decide ((rg.length : Int) < (best.length : Int))) || (decide ((rg.length : Int) = (best.length : Int)) && decide ((cmpL rg best) < 0))) = Value.bool (clsB l rg && ((decide (best = []) || decide ((rg.length : Int) < (best.length : Int))) || (decide ((rg.length : Int) = (best.length : Int)) && decide ((cmpL rg best) < 0))))
      first | rw [g_6, Bool.true_and] | (rw [g_6]; rfl)
    · -- False
      have gp_26 := g_6
      try simp only [Bool.and_eq_true, Bool.or_eq_true, Bool.not_eq_true', Bool.and_eq_false_iff, Bool.or_eq_false_iff, Bool.not_eq_false', decide_eq_true_eq, decide_eq_false_iff_not, not_or, Bool.false_eq_true, Bool.true_eq_false, false_or, or_false, not_false_eq_true] at gp_26
      refine Wx.gnoB rfl rfl (congrArg Value.bool g_6) rfl rfl ?_
      refine Wx.gnoB rfl rfl (congrArg Value.bool g_6) rfl rfl ?_
      refine Wx.gnoB rfl rfl (congrArg Value.bool g_6) rfl rfl ?_
      refine Wx.gno rfl rfl rfl rfl ?_
      refine Wx.gno rfl rfl rfl rfl ?_
      refine Wx.gno rfl rfl rfl rfl ?_
      refine Wx.gno rfl rfl rfl rfl ?_
      refine Wx.gno rfl rfl rfl rfl ?_
      refine Wx.gnoB rfl rfl (congrArg Value.bool g_6) rfl rfl ?_
      refine Wx.gnoB rfl rfl (congrArg Value.bool g_6) rfl rfl ?_
      refine Wx.gno rfl rfl rfl rfl ?_
      refine Wx.gno rfl rfl rfl rfl ?_
      refine Wx.gno rfl rfl rfl rfl ?_
      refine Wx.gno rfl rfl rfl rfl ?_
      refine Wx.gno rfl rfl rfl rfl ?_
      refine Wx.gno rfl rfl rfl rfl ?_
      refine Wx.gno rfl rfl rfl rfl ?_
      refine Wx.gno rfl rfl rfl rfl ?_
      refine Wx.gno rfl rfl rfl rfl ?_
      refine Wx.gno rfl rfl rfl rfl ?_
      refine Wx.gno rfl rfl rfl rfl ?_
      refine Wx.gnoB rfl rfl (congrArg Value.bool g_6) rfl rfl ?_
      refine Wx.rd (v := .bool false) (rd_pickF (congrArg Value.bool g_6) rfl) rfl ?_
      refine Wx.nil ⟨(), hS, ⟨?_, trivial⟩, Out.look rfl Out.refl⟩
      show Value.bool false = Value.bool (clsB l rg && ((decide (best = []) || decide ((rg.length : Int) < (best.length : Int))) || (decide ((rg.length : Int) = (best.length : Int)) && decide ((cmpL rg best) < 0))))
      first | rw [g_6, Bool.false_and] | (rw [g_6]; rfl)
  rintro ⟨⟩ u_28 w_27 hS
  refine Wx.nil ?_
  refine W.cutK [38] (fun x : Value × (List Int) => match x with | (bv2, best2) => []) (fun (x : Value × (List Int)) w' => match x with | (bv2, best2) => St w0 O w' (Ob.v (tSl (tI .i64)) rg lv :: Ob.v (tSl (tI .i64)) best2 bv2 :: Ob.v (tSl (tP (tSl (tI .i64)) (tSl (tI .i64)))) l sv :: .box gs 22 [sv] :: .box gb 39 [bv2] :: .box gk 3 [.int .i64 k] :: .box gz 66 (List.map (Value.int .u8) zs) :: .box gg 4 [.bool true] :: .box gn 3 [.int .i64 (shG zs)] :: ob) ∧ best2 = keepR l best rg ∧ (best2 = [] → bv2 = .slice none 0 0)) ?_ ?_
  · -- up to the cut
    refine W.cond rfl (fun c0 => ?_) (fun c0 => ?_)
    · -- yes
      try simp only [Bool.and_eq_true, Bool.or_eq_true, Bool.not_eq_true', Bool.and_eq_false_iff, Bool.or_eq_false_iff, Bool.not_eq_false', decide_eq_true_eq, decide_eq_false_iff_not, not_or, Bool.false_eq_true, Bool.true_eq_false, false_or, or_false, not_false_eq_true] at c0
      refine W.reg ?_
      refine Wx.rd (v := lv) (rd_move rfl) rfl ?_
      refine Wx.storeX (cs' := [lv]) (ds := [lv]) hS 4 rfl rfl rfl (Go.Wk.cells_one (V.oneC (hS.v 0 rfl))) Try.sizeOf39 (Nat.le_of_ble_eq_true rfl) (one_cons (V.oneC (hS.v 0 rfl)) one_nil) rfl (fun w_29 hz_30 hS => ?_)
      refine Wx.nil ?_
      have hS := hS.add (hS.v 0 rfl)
      have hS := hS.drop 2
      have hS := hS.front 8 rfl
      have hS := hS.front 8 rfl
      have hS := hS.front 8 rfl
      have hS := hS.front 8 rfl
      have hS := hS.front 8 rfl
      have hS := hS.front 8 rfl
      have hS := hS.front 8 rfl
      have hS := hS.front 7 rfl
      have hS := hS.front 8 rfl
      have hS : St _ _ w_29 (Ob.v (tSl (tI .i64)) rg lv :: Ob.v (tSl (tI .i64)) rg lv :: Ob.v (tSl (tP (tSl (tI .i64)) (tSl (tI .i64)))) l sv :: .box gs 22 [sv] :: .box gb 39 [lv] :: .box gk 3 [.int .i64 k] :: .box gz 66 (List.map (Value.int .u8) zs) :: .box gg 4 [.bool true] :: .box gn 3 [.int .i64 (shG zs)] :: ob) := hS
      refine ⟨(lv, rg), ?_, ?_, Out.look rfl Out.refl⟩
      · exact ⟨hS, (kr_yes c0), (fun h => absurd h hne)⟩
      · exact trivial
    · -- no
      try simp only [Bool.and_eq_true, Bool.or_eq_true, Bool.not_eq_true', Bool.and_eq_false_iff, Bool.or_eq_false_iff, Bool.not_eq_false', decide_eq_true_eq, decide_eq_false_iff_not, not_or, Bool.false_eq_true, Bool.true_eq_false, false_or, or_false, not_false_eq_true] at c0
      refine W.skip ?_
      refine ⟨(bv, best), ?_, ?_, Out.look rfl Out.refl⟩
      · exact ⟨hS, (kr_no c0), (p_nz)⟩
      · exact trivial
  rintro ⟨bv2, best2⟩ u_32 w_31 ⟨hS, hb, hz⟩
  refine W.seq ?_
  refine W.reg ?_
  refine Wx.rd (v := .int .i64 14) (rd_assign rfl) rfl ?_
  refine Wx.nil ?_
  refine W.seq ?_
  refine W.seq ?_
  refine W.reg ?_
  refine Wx.rd (v := .bool (clsB l rg)) (rd_move rfl) rfl ?_
  refine Wx.nil ?_
  refine W.cutK [9] (fun (want : Int) => [(9, .int .i64 want)]) (fun (want : Int) w' => St w0 O w' (Ob.v (tSl (tI .i64)) rg lv :: Ob.v (tSl (tI .i64)) best2 bv2 :: Ob.v (tSl (tP (tSl (tI .i64)) (tSl (tI .i64)))) l sv :: .box gs 22 [sv] :: .box gb 39 [bv2] :: .box gk 3 [.int .i64 k] :: .box gz 66 (List.map (Value.int .u8) zs) :: .box gg 4 [.bool true] :: .box gn 3 [.int .i64 (shG zs)] :: ob) ∧ want = if clsB l rg = true then 0 else 14) ?_ ?_
  · -- up to the cut
    refine W.cond rfl (fun c1 => ?_) (fun c1 => ?_)
    · -- yes
      try simp only [Bool.and_eq_true, Bool.or_eq_true, Bool.not_eq_true', Bool.and_eq_false_iff, Bool.or_eq_false_iff, Bool.not_eq_false', decide_eq_true_eq, decide_eq_false_iff_not, not_or, Bool.false_eq_true, Bool.true_eq_false, false_or, or_false, not_false_eq_true] at c1
      refine W.reg ?_
      refine Wx.rd (v := .int .i64 0) (rd_assign rfl) rfl ?_
      refine Wx.nil ?_
      refine ⟨0, ?_, ?_, Out.look rfl Out.refl⟩
      · exact ⟨hS, (by rw [if_pos c1])⟩
      · exact ⟨rfl, trivial⟩
    · -- no
      try simp only [Bool.and_eq_true, Bool.or_eq_true, Bool.not_eq_true', Bool.and_eq_false_iff, Bool.or_eq_false_iff, Bool.not_eq_false', decide_eq_true_eq, decide_eq_false_iff_not, not_or, Bool.false_eq_true, Bool.true_eq_false, false_or, or_false, not_false_eq_true] at c1
      refine W.skip ?_
      refine ⟨14, ?_, ?_, Out.look rfl Out.refl⟩
      · exact ⟨hS, (by rw [if_neg (by rw [c1]; decide)])⟩
      · exact ⟨rfl, trivial⟩
  rintro want u_34 w_33 ⟨hS, hw⟩
  refine W.seq ?_
  refine W.reg ?_
  refine Wx.rd (v := .int .i64 k) (rd_loadX hS 5 rfl rfl rfl Try.isAgg3) rfl ?_
  refine Wx.rd (v := .int .i64 (IntKind.i64.wrap (k + 1))) (rd_addw rfl rfl) rfl ?_
  refine Wx.storeX (cs' := [.int .i64 (IntKind.i64.wrap (k + 1))]) (ds := [.int .i64 (IntKind.i64.wrap (k + 1))]) hS 5 rfl rfl rfl rfl Try.sizeOf3 (Nat.le_of_ble_eq_true rfl) (one_cons rfl one_nil) rfl (fun w_35 hz_36 hS => ?_)
  refine Wx.nil ?_
  refine W.seq ?_
  refine W.reg ?_
  refine Wx.rd (v := .bool (clsB l rg)) (rd_move rfl) rfl ?_
  refine Wx.rd (v := .bool (clsB l rg)) (rd_move rfl) rfl ?_
  refine Wx.cut (X := Unit) 8 [44, 45, 46, 47, 48, 49, 50, 51] (fun _ => [(51, .bool (clsB l rg || decide ((Int.tmod (IntKind.i64.wrap (k + 1)) 4) = ((ix 0 zs 2) % 4))))]) (fun _ w' => St w0 O w' (Ob.v (tSl (tI .i64)) rg lv :: Ob.v (tSl (tI .i64)) best2 bv2 :: Ob.v (tSl (tP (tSl (tI .i64)) (tSl (tI .i64)))) l sv :: .box gs 22 [sv] :: .box gb 39 [bv2] :: .box gk 3 [.int .i64 (IntKind.i64.wrap (k + 1))] :: .box gz 66 (List.map (Value.int .u8) zs) :: .box gg 4 [.bool true] :: .box gn 3 [.int .i64 (shG zs)] :: ob)) ?_ ?_
  · rcases Bool.eq_false_or_eq_true (clsB l rg) with g_37 | g_37
    · -- True
      have gp_38 := g_37
      try simp only [Bool.and_eq_true, Bool.or_eq_true, Bool.not_eq_true', Bool.and_eq_false_iff, Bool.or_eq_false_iff, Bool.not_eq_false', decide_eq_true_eq, decide_eq_false_iff_not, not_or, Bool.false_eq_true, Bool.true_eq_false, false_or, or_false, not_false_eq_true] at gp_38
      refine Wx.gnoB rfl rfl (congrArg Value.bool g_37) rfl rfl ?_
      refine Wx.gnoB rfl rfl (congrArg Value.bool g_37) rfl rfl ?_
      refine Wx.gnoB rfl rfl (congrArg Value.bool g_37) rfl rfl ?_
      refine Wx.gnoB rfl rfl (congrArg Value.bool g_37) rfl rfl ?_
      refine Wx.gnoB rfl rfl (congrArg Value.bool g_37) rfl rfl ?_
      refine Wx.gnoB rfl rfl (congrArg Value.bool g_37) rfl rfl ?_
      refine Wx.gnoB rfl rfl (congrArg Value.bool g_37) rfl rfl ?_
      refine Wx.rd (v := .bool true) (rd_pickT (congrArg Value.bool g_37) rfl) rfl ?_
      refine Wx.nil ⟨(), hS, ⟨?_, trivial⟩, Out.look rfl Out.refl⟩
      show Value.bool true = Value.bool (clsB l rg || decide ((Int.tmod (IntKind.i64.wrap (k + 1)) 4) = ((ix 0 zs 2) % 4)))
      first | rw [g_37, Bool.true_or] | (rw [g_37]; rfl)
    · -- False
      have gp_39 := g_37
      try simp only [Bool.and_eq_true, Bool.or_eq_true, Bool.not_eq_true', Bool.and_eq_false_iff, Bool.or_eq_false_iff, Bool.not_eq_false', decide_eq_true_eq, decide_eq_false_iff_not, not_or, Bool.false_eq_true, Bool.true_eq_false, false_or, or_false, not_false_eq_true] at gp_39
      refine Wx.gyes rfl rfl (congrArg Value.bool g_37) ?_
      refine Wx.rd (v := .int .i64 (IntKind.i64.wrap (k + 1))) (rd_loadX hS 5 rfl rfl rfl Try.isAgg3) rfl ?_
      refine Wx.gyes rfl rfl (congrArg Value.bool g_37) ?_
      refine Wx.rd (v := .int .i64 (Int.tmod (IntKind.i64.wrap (k + 1)) 4)) (rd_remT rfl rfl (by decide)) rfl ?_
      refine Wx.gyes rfl rfl (congrArg Value.bool g_37) ?_
      refine Wx.rd (v := .pointer (some ⟨gz, 0 + 2, none⟩)) (rd_fieldAddr (o := 0) rfl foLx_66_2) rfl ?_
      refine Wx.gyes rfl rfl (congrArg Value.bool g_37) ?_
      have bz_40 := ix_u8 i_zs 2
      refine Wx.rd (v := .int .u8 (ix 0 zs 2)) (rd_loadXa (d := 0) (f := (Value.int .u8)) (j := 2) hS 6 rfl rfl (by omega) (by omega) (by omega) Try.isAgg5) rfl ?_
      refine Wx.gyes rfl rfl (congrArg Value.bool g_37) ?_
      refine Wx.rd (v := .int .i64 (ix 0 zs 2)) (rd_convIn rfl Try.underlying5 Try.underlying3 (in_i64 (by omega) (by omega))) rfl ?_
      refine Wx.gyes rfl rfl (congrArg Value.bool g_37) ?_
      refine Wx.rd (v := .int .i64 ((ix 0 zs 2) % 4)) (rd_rem rfl rfl (by omega) (by omega)) rfl ?_
      refine Wx.gyes rfl rfl (congrArg Value.bool g_37) ?_
      refine Wx.rd (v := .bool (decide ((Int.tmod (IntKind.i64.wrap (k + 1)) 4) = ((ix 0 zs 2) % 4)))) (rd_eql rfl rfl) rfl ?_
      refine Wx.rd (v := .bool (decide ((Int.tmod (IntKind.i64.wrap (k + 1)) 4) = ((ix 0 zs 2) % 4)))) (rd_pickF (congrArg Value.bool g_37) rfl) rfl ?_
      refine Wx.nil ⟨(), hS, ⟨?_, trivial⟩, Out.look rfl Out.refl⟩
      show Value.bool (decide ((Int.tmod (IntKind.i64.wrap (k + 1)) 4) = ((ix 0 zs 2) % 4))) = Value.bool (clsB l rg || decide ((Int.tmod (IntKind.i64.wrap (k + 1)) 4) = ((ix 0 zs 2) % 4)))
      first | rw [g_37, Bool.false_or] | (rw [g_37]; rfl)
  rintro ⟨⟩ u_42 w_41 hS
  refine Wx.nil ?_
  refine W.cond rfl (fun c2 => ?_) (fun c2 => ?_)
  · -- yes
    try simp only [Bool.and_eq_true, Bool.or_eq_true, Bool.not_eq_true', Bool.and_eq_false_iff, Bool.or_eq_false_iff, Bool.not_eq_false', decide_eq_true_eq, decide_eq_false_iff_not, not_or, Bool.false_eq_true, Bool.true_eq_false, false_or, or_false, not_false_eq_true] at c2
    refine W.reg ?_
    refine Wx.rd (v := .bool true) (rd_loadX hS 7 rfl rfl rfl Try.isAgg4) rfl ?_
    refine Wx.rd (v := .bool true) (rd_move rfl) rfl ?_
    refine Wx.gyes rfl rfl rfl ?_
    refine Wx.rd (v := .int .i64 (shG zs)) (rd_loadX hS 8 rfl rfl rfl Try.isAgg3) rfl ?_
    refine Wx.gyes rfl rfl rfl ?_
    refine Wx.rd (v := sv) (rd_loadX hS 3 rfl rfl rfl Try.isAgg22) rfl ?_
    refine Wx.gyes rfl rfl rfl ?_
    refine Wx.rd (v := lv) (rd_move rfl) rfl ?_
    refine Wx.gyes rfl rfl rfl ?_
    refine Wx.callF (run_callF Try.call34 rfl) (F34 (in_i64 (by omega) (by omega)) (hS.v 2 rfl) (hS.v 0 rfl) (by omega) hS.fb_lt) rfl ?_
    rintro r_43 w_44 hx_45 rfl
    have hS := hS.ext hx_45
    refine Wx.gyes rfl rfl rfl ?_
    refine Wx.rd (v := .int .i64 want) (rd_move rfl) rfl ?_
    refine Wx.gyes rfl rfl rfl ?_
    refine Wx.rd (v := .bool true) (Rd.to (v := .bool (decide ((provesE (shG zs) l rg) = want))) (rd_eql rfl rfl) (congrArg (Value.bool) (show (true : Bool) = (decide ((provesE (shG zs) l rg) = want) : Bool) from (decide_eq_true (by rw [hw]; exact prv_cls hck p_b p_d)).symm).symm)) rfl ?_
    refine Wx.rd (v := .bool true) (rd_pickT rfl rfl) rfl ?_
    refine Wx.storeX (cs' := [.bool true]) (ds := [.bool true]) hS 7 rfl rfl rfl rfl Try.sizeOf4 (Nat.le_of_ble_eq_true rfl) (one_cons rfl one_nil) rfl (fun w_46 hz_47 hS => ?_)
    refine Wx.nil ?_
    exact ⟨.tuple #[], ResIs.zero, rfl, _, _, _, hb, wrap_inK .i64 _, hz, (St.tl hS)⟩
  · -- no
    try simp only [Bool.and_eq_true, Bool.or_eq_true, Bool.not_eq_true', Bool.and_eq_false_iff, Bool.or_eq_false_iff, Bool.not_eq_false', decide_eq_true_eq, decide_eq_false_iff_not, not_or, Bool.false_eq_true, Bool.true_eq_false, false_or, or_false, not_false_eq_true] at c2
    refine W.skip ?_
    exact ⟨.tuple #[], ResIs.zero, rfl, _, _, _, hb, wrap_inK .i64 _, hz, (St.tl hS)⟩
end Go.Proofs.Ytjbcpggikaeleaa

namespace Go.Proofs.Ytjbcpggikaeleaa
open Go.Wk Go.RowKit
set_option linter.unusedVariables false

theorem each51 {l : List Sale} {zs : List Int} {sv : Value} {gs gb gk gz gg gn : Nat} {R : List Ob} (hck : checkE (shG zs) l = 0) (p_ok : SalesOK l) (n_zs : zs.length = 39) (i_zs : ∀ z ∈ zs, InK .u8 z) : EachN Try.prog 51 [] [(.pointer (some ⟨gs, 0, none⟩)), (.pointer (some ⟨gb, 0, none⟩)), (.pointer (some ⟨gk, 0, none⟩)), (.pointer (some ⟨gz, 0, none⟩)), (.pointer (some ⟨gg, 0, none⟩)), (.pointer (some ⟨gn, 0, none⟩))] l.length
    (fun ls ob => ∃ bv best k, (best = ls.foldl (keepR l) [] ∧ InK .i64 k ∧ (best = [] → bv = .slice none 0 0)) ∧ ob = Ob.v (tSl (tI .i64)) best bv :: Ob.v (tSl (tP (tSl (tI .i64)) (tSl (tI .i64)))) l sv :: .box gs 22 [sv] :: .box gb 39 [bv] :: .box gk 3 [.int .i64 k] :: .box gz 66 (List.map (Value.int .u8) zs) :: .box gg 4 [.bool true] :: .box gn 3 [.int .i64 (shG zs)] :: R) := by
  rintro ls q lv pre ob w0 w O h1 hl hb hd ⟨bv, best, k, ⟨hbe, ik, nz⟩, rfl⟩ hS hv
  have h6 := p_ok.1
  have hP := St.pull (pre := pre) (A := [Ob.v (tSl (tI .i64)) best bv, Ob.v (tSl (tP (tSl (tI .i64)) (tSl (tI .i64)))) l sv, .box gs 22 [sv], .box gb 39 [bv], .box gk 3 [.int .i64 k], .box gz 66 (List.map (Value.int .u8) zs), .box gg 4 [.bool true], .box gn 3 [.int .i64 (shG zs)]]) (R := R) hS
  have hV := V.pull (pre := pre) (A := [Ob.v (tSl (tI .i64)) best bv, Ob.v (tSl (tP (tSl (tI .i64)) (tSl (tI .i64)))) l sv, .box gs 22 [sv], .box gb 39 [bv], .box gk 3 [.int .i64 k], .box gz 66 (List.map (Value.int .u8) zs), .box gg 4 [.bool true], .box gn 3 [.int .i64 (shG zs)]]) (R := R) hv
  refine (F51 (ob := pre ++ R) hck p_ok n_zs i_zs ik (by omega) h1 hb hd nz hP hV).mono ?_
  rintro e w' ⟨r, he, hr, bv', best', k', hb', ik', nz', hS2⟩
  refine ⟨r, he, hr, _, ⟨bv', best', k', ⟨?_, ik', nz'⟩, rfl⟩, St.pull (pre := [Ob.v (tSl (tI .i64)) best' bv', Ob.v (tSl (tP (tSl (tI .i64)) (tSl (tI .i64)))) l sv, .box gs 22 [sv], .box gb 39 [bv'], .box gk 3 [.int .i64 k'], .box gz 66 (List.map (Value.int .u8) zs), .box gg 4 [.bool true], .box gn 3 [.int .i64 (shG zs)]]) (A := pre) (R := R) hS2⟩
  rw [hb', hbe, List.foldl_append]; rfl
end Go.Proofs.Ytjbcpggikaeleaa

namespace Go.Proofs.Ytjbcpggikaeleaa
open Go.Wk Go.RowKit Go.Lib
set_option linter.unusedVariables false
set_option linter.unusedSimpArgs false
theorem mixedLw_ : Try.prog.follows .mixedOrders = true := by kernel_rfl
theorem elLw_39 : ElemI Try.prog 39 3 (.int .i64 0) 1 8 := ElemI.of Try.underlying39 (by kernel_rfl) (by first | rfl | kernel_rfl) (by decide)

set_option maxHeartbeats 2000000 in
theorem F87  : ∀ (fuel : Nat) {n : Int} {l : List Int} {lv : Value} {fe : FuncId} {fs cs : List Value} {Tl : List (List Int) → List Ob → Prop} {ls : List (List Int)} {gn ge gp : Nat} {ob : List Ob} {w0 w : World} {O : List (Option Nat)} (hcall : ∀ args w, (callFunc fe args).run Try.prog w = .ok (.enter fe args) w) (hE : EachN Try.prog fe fs cs n Tl) (p_0 : 0 ≤ n) (p_7 : n ≤ 7) (p_l : (l.length : Int) ≤ n) (p_b : ∀ x ∈ l, 0 ≤ x ∧ x < n) (p_d : l.Nodup) (hT : Tl ls ob) (hS : St w0 O w (.box ge 76 [.func (.func fe) fs.toArray cs.toArray] :: .box gn 3 [.int .i64 n] :: .box gp 76 [.func (.func 87) #[] #[(.pointer (some ⟨ge, 0, none⟩)), (.pointer (some ⟨gn, 0, none⟩)), (.pointer (some ⟨gp, 0, none⟩))]] :: ob)) (hv : V (tSl (tI .i64)) l lv (fb (.box ge 76 [.func (.func fe) fs.toArray cs.toArray] :: .box gn 3 [.int .i64 n] :: .box gp 76 [.func (.func 87) #[] #[(.pointer (some ⟨ge, 0, none⟩)), (.pointer (some ⟨gn, 0, none⟩)), (.pointer (some ⟨gp, 0, none⟩))]] :: ob) O) w) (hfuel : (n + 1 - l.length).toNat < fuel), Calls Try.prog 87 #[lv, (.pointer (some ⟨ge, 0, none⟩)), (.pointer (some ⟨gn, 0, none⟩)), (.pointer (some ⟨gp, 0, none⟩))] w (Bk fun r w' => r = .tuple #[] ∧ ∃ ob', Tl (ls ++ allP n (n + 1 - l.length).toNat l) ob' ∧ St w0 O w' (.box ge 76 [.func (.func fe) fs.toArray cs.toArray] :: .box gn 3 [.int .i64 n] :: .box gp 76 [.func (.func 87) #[] #[(.pointer (some ⟨ge, 0, none⟩)), (.pointer (some ⟨gn, 0, none⟩)), (.pointer (some ⟨gp, 0, none⟩))]] :: ob')) := by
  intro fuel
  induction fuel with
  | zero => intros; omega
  | succ fuel IH =>
  intro n l lv fe fs cs Tl ls gn ge gp ob w0 w O hcall hE p_0 p_7 p_l p_b p_d hT hS hv hfuel
  obtain ⟨m, hm⟩ : ∃ m : Nat, (n + 1 - l.length).toNat = m + 1 := ⟨(n + 1 - l.length).toNat - 1, by omega⟩
  have hS := hS.add (hv)
  have ln_2 := (hS.v 0 rfl).len63
  refine enterB Try.func87 rfl Try.ntmps87 Try.results87 rfl ?_
  refine W.seq ?_
  refine W.seq ?_
  refine W.reg ?_
  refine Wx.rd (v := lv) (rd_move rfl) rfl ?_
  refine Wx.rd (v := .int .i64 (l.length : Int)) (rd_lenV rfl (hS.v 0 rfl) Try.underlying39) rfl ?_
  refine Wx.rd (v := .bool (decide (0 < (l.length : Int)))) (rd_gtr rfl rfl) rfl ?_
  refine Wx.nil ?_
  refine W.cutK [9, 10, 11] (fun x : (List Ob) × (List (List Int)) => match x with | (o1, ms0) => []) (fun (x : (List Ob) × (List (List Int))) w' => match x with | (o1, ms0) => St w0 O w' (Ob.v (tSl (tI .i64)) l lv :: .box ge 76 [(.func (.func fe) fs.toArray cs.toArray)] :: .box gn 3 [.int .i64 n] :: .box gp 76 [.func (.func 87) #[] #[(.pointer (some ⟨ge, 0, none⟩)), (.pointer (some ⟨gn, 0, none⟩)), (.pointer (some ⟨gp, 0, none⟩))]] :: o1) ∧ Tl ms0 o1 ∧ ms0 = ls ++ hdL l) ?_ ?_
  · -- up to the cut
    refine W.condD rfl (fun c0 => ?_) (fun c0 => ?_)
    · -- yes
      refine W.reg ?_
      refine Wx.rd (v := (.func (.func fe) fs.toArray cs.toArray)) (rd_loadX hS 1 rfl rfl rfl Try.isAgg76) rfl ?_
      refine Wx.rd (v := lv) (rd_move rfl) rfl ?_
      refine Wx.callB (run_callC (fs := fs) (cs := cs) (vs := fs ++ [lv] ++ cs) hcall rfl rfl) (hE ls l lv [Ob.v (tSl (tI .i64)) l lv, .box ge 76 [(.func (.func fe) fs.toArray cs.toArray)], .box gn 3 [.int .i64 n], .box gp 76 [.func (.func 87) #[] #[(.pointer (some ⟨ge, 0, none⟩)), (.pointer (some ⟨gn, 0, none⟩)), (.pointer (some ⟨gp, 0, none⟩))]]] ob w0 _ O (by omega) p_l p_b p_d hT hS (hS.v 0 rfl)) rfl ?_
      rintro r_3 w_4 ⟨rfl, ob_6, hT_5, hS⟩
      have hS : St w0 O w_4 (Ob.v (tSl (tI .i64)) l lv :: .box ge 76 [(.func (.func fe) fs.toArray cs.toArray)] :: .box gn 3 [.int .i64 n] :: .box gp 76 [.func (.func 87) #[] #[(.pointer (some ⟨ge, 0, none⟩)), (.pointer (some ⟨gn, 0, none⟩)), (.pointer (some ⟨gp, 0, none⟩))]] :: ob_6) := hS
      have hT := hT_5
      refine Wx.nil ?_
      refine ⟨(ob_6, ls ++ [l]), ?_, ?_, Out.look rfl Out.refl⟩
      · exact ⟨hS, (hT), (by rw [hd_yes c0])⟩
      · exact trivial
    · -- no
      refine W.skip ?_
      refine ⟨(ob, ls), ?_, ?_, Out.look rfl Out.refl⟩
      · exact ⟨hS, (hT), (by rw [hd_no c0, List.append_nil])⟩
      · exact trivial
  rintro ⟨o1, ms0⟩ u_8 w_7 ⟨hS, hT0, hms⟩
  refine W.seq ?_
  refine W.reg ?_
  refine Wx.rd (v := .int .i64 n) (rd_loadX hS 2 rfl rfl rfl Try.isAgg3) rfl ?_
  refine Wx.rd (v := .int .i64 0) (rd_move rfl) rfl ?_
  refine Wx.nil ?_
  refine W.block ?_
  refine W.loop [5, 13, 14, 15, 16, 17, 18, 19, 20, 21, 22, 23, 24, 25, 26, 27] (fun x : Int × (List Ob) × (List (List Int)) => match x with | (x, ot, ms) => [(13, .int .i64 x)]) (fun (x : Int × (List Ob) × (List (List Int))) w' => match x with | (x, ot, ms) => St w0 O w' (Ob.v (tSl (tI .i64)) l lv :: .box ge 76 [(.func (.func fe) fs.toArray cs.toArray)] :: .box gn 3 [.int .i64 n] :: .box gp 76 [.func (.func 87) #[] #[(.pointer (some ⟨ge, 0, none⟩)), (.pointer (some ⟨gn, 0, none⟩)), (.pointer (some ⟨gp, 0, none⟩))]] :: ot) ∧ 0 ≤ x ∧ x ≤ n ∧ ms ++ allX n (allP n m) l (n - x).toNat = ls ++ (hdL l ++ allX n (allP n m) l n.toNat) ∧ Tl ms ot) (fun x : Int × (List Ob) × (List (List Int)) => match x with | (x, ot, ms) => (n - x).toNat) (0, o1, ms0) ⟨rfl, trivial⟩ ⟨hS, (by first | omega | simp), (by first | omega | simp), (by rw [Int.sub_zero, hms, List.append_assoc]), (hT0)⟩ ?_
  rintro ⟨x, ot, ms⟩ u_10 w_9 ⟨hS, h0, h1, h2, h3⟩
  refine W.seq ?_
  refine W.reg ?_
  refine Wx.rd (v := .bool (decide (x < n))) (rd_lss rfl rfl) rfl ?_
  refine Wx.nil ?_
  refine W.seq ?_
  refine W.condD rfl (fun c1 => ?_) (fun c1 => ?_)
  · -- yes
    refine W.skip ?_
    refine W.seq ?_
    refine W.block ?_
    refine W.seq ?_
    refine W.reg ?_
    refine Wx.rd (v := .int .i64 x) (rd_move rfl) rfl ?_
    refine Wx.rd (v := .int .i64 x) (rd_assign rfl) rfl ?_
    refine Wx.nil ?_
    refine W.seq ?_
    refine W.reg ?_
    refine Wx.rd (v := lv) (rd_move rfl) rfl ?_
    refine Wx.rd (v := .int .i64 x) (rd_move rfl) rfl ?_
    refine Wx.callF (run_callF Try.call55 rfl) (F55 (hS.v 0 rfl) (in_i64 (by omega) (by omega))) rfl ?_
    rintro r_11 w_12 hx_13 rfl
    have hS := hS.ext hx_13
    refine Wx.rd (v := .bool (!(hasL l x))) (rd_not rfl) rfl ?_
    refine Wx.nil ?_
    refine W.cond rfl (fun c2 => ?_) (fun c2 => ?_)
    · -- yes
      try simp only [Bool.and_eq_true, Bool.or_eq_true, Bool.not_eq_true', Bool.and_eq_false_iff, Bool.or_eq_false_iff, Bool.not_eq_false', decide_eq_true_eq, decide_eq_false_iff_not, not_or, Bool.false_eq_true, Bool.true_eq_false, false_or, or_false, not_false_eq_true] at c2
      obtain ⟨hnd, hnl⟩ := snoc_nodup p_0 p_d p_b h0 c1 c2
      refine W.regP mixedLw_ (fun w_14 hx_15 => ?_)
      have hS := hS.ext hx_15
      refine Wp.rd (v := lv) 1 rfl (by kernel_rfl) (fun _ => (rd_move rfl)) rfl ?_
      refine Wp.rd (v := .int .i64 x) 3 rfl (by kernel_rfl) (fun _ => (rd_move rfl)) rfl ?_
      refine Wp.br [0, 2, 4] (by kernel_rfl) (by decide) ⟨⟨_, rfl, ?_⟩, ⟨_, rfl, ?_⟩, ⟨_, rfl, ?_⟩, trivial⟩
      · -- operation 0
        refine Wx.rd (v := .func (.func 87) #[] #[(.pointer (some ⟨ge, 0, none⟩)), (.pointer (some ⟨gn, 0, none⟩)), (.pointer (some ⟨gp, 0, none⟩))]) (rd_loadX hS 3 rfl rfl rfl Try.isAgg76) rfl ?_
        refine Wx.nil ?_
        refine Wp.br [2, 4] (by kernel_rfl) (by decide) ⟨⟨_, rfl, ?_⟩, ⟨_, rfl, ?_⟩, trivial⟩
        · -- operation 2
          refine Wx.callF (run_callF Try.call88 rfl) (F88 (hS.v 0 rfl) hS.fb_lt) rfl ?_
          rintro r_16 w_17 hx_18 ⟨_, rfl, ⟨⟨ad_20, rfl⟩, hv_19⟩⟩
          have ln_22 := hv_19.len63
          have hS := hS.ext hx_18
          have hS := hS.add hv_19
          refine Wx.nil ?_
          refine Wp.br [4] (by kernel_rfl) (by decide) ⟨⟨_, rfl, ?_⟩, trivial⟩
          refine Wx.lit (t := (tI .i64)) (ys := [x]) (vs := [.int .i64 x]) elLw_39 hS rfl rfl ⟨(V.mkInt (in_i64 (by omega) (by omega))), trivial⟩ (by decide) rfl (fun v_23 w_24 hx_25 hS => ?_)
          refine Wx.nil ?_
          refine Wp.br [5] (by kernel_rfl) (by decide) ⟨⟨_, rfl, ?_⟩, trivial⟩
          refine Wx.appendNew elLw_39 hS rfl (hS.v 1 rfl) rfl (Src.ofR hS 0 rfl) (by simp) (by simp only [maxLen]; simp; omega) (by simp; omega) rfl (fun v_26 w_27 hz_28 hS => ?_)
          refine Wx.nil ?_
          refine Wp.br [6] (by kernel_rfl) (by decide) ⟨⟨_, rfl, ?_⟩, trivial⟩
          have hS := hS.freeze 0 rfl
          have hL := V.pull (pre := [Ob.v (tSl (tI .i64)) (l ++ [x]) v_26, .row (tI .i64) 3 v_23 [x], Ob.v (tSl (tI .i64)) l (.slice ad_20 l.length l.length), Ob.v (tSl (tI .i64)) l lv]) (A := [.box ge 76 [(.func (.func fe) fs.toArray cs.toArray)], .box gn 3 [.int .i64 n], .box gp 76 [.func (.func 87) #[] #[(.pointer (some ⟨ge, 0, none⟩)), (.pointer (some ⟨gn, 0, none⟩)), (.pointer (some ⟨gp, 0, none⟩))]]]) (R := ot) (hS.v 0 rfl)
          have hP := St.pull (pre := [Ob.v (tSl (tI .i64)) (l ++ [x]) v_26, .row (tI .i64) 3 v_23 [x], Ob.v (tSl (tI .i64)) l (.slice ad_20 l.length l.length), Ob.v (tSl (tI .i64)) l lv]) (A := [.box ge 76 [(.func (.func fe) fs.toArray cs.toArray)], .box gn 3 [.int .i64 n], .box gp 76 [.func (.func 87) #[] #[(.pointer (some ⟨ge, 0, none⟩)), (.pointer (some ⟨gn, 0, none⟩)), (.pointer (some ⟨gp, 0, none⟩))]]]) (R := ot) hS
          refine Wx.callB (run_callC (fs := []) (cs := [(.pointer (some ⟨ge, 0, none⟩)), (.pointer (some ⟨gn, 0, none⟩)), (.pointer (some ⟨gp, 0, none⟩))]) (vs := [v_26, (.pointer (some ⟨ge, 0, none⟩)), (.pointer (some ⟨gn, 0, none⟩)), (.pointer (some ⟨gp, 0, none⟩))]) Try.call87 rfl rfl) (IH (l := (l ++ [x])) (lv := v_26) (ls := ms) (Tl := fun ls ob => ∃ ob', ob = [Ob.v (tSl (tI .i64)) (l ++ [x]) v_26, .row (tI .i64) 3 v_23 [x], Ob.v (tSl (tI .i64)) l (.slice ad_20 l.length l.length), Ob.v (tSl (tI .i64)) l lv] ++ ob' ∧ Tl ls ob') (ob := [Ob.v (tSl (tI .i64)) (l ++ [x]) v_26, .row (tI .i64) 3 v_23 [x], Ob.v (tSl (tI .i64)) l (.slice ad_20 l.length l.length), Ob.v (tSl (tI .i64)) l lv] ++ ot) hcall (eachN_pre hE [Ob.v (tSl (tI .i64)) (l ++ [x]) v_26, .row (tI .i64) 3 v_23 [x], Ob.v (tSl (tI .i64)) l (.slice ad_20 l.length l.length), Ob.v (tSl (tI .i64)) l lv]) p_0 p_7 (by simp; omega) (snoc_in p_b h0 (by omega)) hnd ⟨_, rfl, h3⟩ hP hL (by simp; omega)) rfl ?_
          rintro r_30 w_31 ⟨rfl, _, ⟨ob_33, rfl, hT_32⟩, hS⟩
          have hS : St w0 O w_31 (Ob.v (tSl (tI .i64)) (l ++ [x]) v_26 :: .row (tI .i64) 3 v_23 [x] :: Ob.v (tSl (tI .i64)) l (.slice ad_20 l.length l.length) :: Ob.v (tSl (tI .i64)) l lv :: .box ge 76 [(.func (.func fe) fs.toArray cs.toArray)] :: .box gn 3 [.int .i64 n] :: .box gp 76 [.func (.func 87) #[] #[(.pointer (some ⟨ge, 0, none⟩)), (.pointer (some ⟨gn, 0, none⟩)), (.pointer (some ⟨gp, 0, none⟩))]] :: ob_33) := St.pull (pre := [.box ge 76 [(.func (.func fe) fs.toArray cs.toArray)], .box gn 3 [.int .i64 n], .box gp 76 [.func (.func 87) #[] #[(.pointer (some ⟨ge, 0, none⟩)), (.pointer (some ⟨gn, 0, none⟩)), (.pointer (some ⟨gp, 0, none⟩))]]]) (A := [Ob.v (tSl (tI .i64)) (l ++ [x]) v_26, .row (tI .i64) 3 v_23 [x], Ob.v (tSl (tI .i64)) l (.slice ad_20 l.length l.length), Ob.v (tSl (tI .i64)) l lv]) (R := ob_33) hS
          have hT := hT_32
          refine Wx.nil ?_
          refine Wp.done (by kernel_rfl) ?_
          refine W.reg ?_
          refine Wx.rd (v := .int .i64 (x + 1)) (rd_add rfl rfl (in_i64 (by omega) (by omega))) rfl ?_
          refine Wx.rd (v := .int .i64 (x + 1)) (rd_move rfl) rfl ?_
          refine Wx.nil ?_
          refine ⟨(x + 1, ob_33, ms ++ allP n (n + 1 - ((l ++ [x]).length : Int)).toNat (l ++ [x])), (by show (n - (x + 1)).toNat < (n - x).toNat; omega), ?_, ?_, Out.look rfl Out.self⟩
          · exact ⟨St.tl (St.tl (hS.tl)), (by first | omega | assumption), (by first | omega | assumption), (by rw [← h2, allX_cons n _ l c1]; first | (rw [if_neg (by rw [c2]; decide), show (n + 1 - (((l ++ [x]).length : Nat) : Int)).toNat = m by simp; omega, List.append_assoc]) | rw [if_pos c2, List.nil_append]), (by first | exact hT | exact h3)⟩
          · exact ⟨rfl, trivial⟩
        · -- operation 4
          refine Wx.lit (t := (tI .i64)) (ys := [x]) (vs := [.int .i64 x]) elLw_39 hS rfl rfl ⟨(V.mkInt (in_i64 (by omega) (by omega))), trivial⟩ (by decide) rfl (fun v_34 w_35 hx_36 hS => ?_)
          refine Wx.nil ?_
          refine Wp.br [2] (by kernel_rfl) (by decide) ⟨⟨_, rfl, ?_⟩, trivial⟩
          refine Wx.callF (run_callF Try.call88 rfl) (F88 (hS.v 1 rfl) hS.fb_lt) rfl ?_
          rintro r_37 w_38 hx_39 ⟨_, rfl, ⟨⟨ad_41, rfl⟩, hv_40⟩⟩
          have ln_43 := hv_40.len63
          have hS := hS.ext hx_39
          have hS := hS.add hv_40
          refine Wx.nil ?_
          refine Wp.br [5] (by kernel_rfl) (by decide) ⟨⟨_, rfl, ?_⟩, trivial⟩
          refine Wx.appendNew elLw_39 hS rfl (hS.v 0 rfl) rfl (Src.ofR hS 1 rfl) (by simp) (by simp only [maxLen]; simp; omega) (by simp; omega) rfl (fun v_44 w_45 hz_46 hS => ?_)
          refine Wx.nil ?_
          refine Wp.br [6] (by kernel_rfl) (by decide) ⟨⟨_, rfl, ?_⟩, trivial⟩
          have hS := hS.freeze 0 rfl
          have hL := V.pull (pre := [Ob.v (tSl (tI .i64)) (l ++ [x]) v_44, Ob.v (tSl (tI .i64)) l (.slice ad_41 l.length l.length), .row (tI .i64) 3 v_34 [x], Ob.v (tSl (tI .i64)) l lv]) (A := [.box ge 76 [(.func (.func fe) fs.toArray cs.toArray)], .box gn 3 [.int .i64 n], .box gp 76 [.func (.func 87) #[] #[(.pointer (some ⟨ge, 0, none⟩)), (.pointer (some ⟨gn, 0, none⟩)), (.pointer (some ⟨gp, 0, none⟩))]]]) (R := ot) (hS.v 0 rfl)
          have hP := St.pull (pre := [Ob.v (tSl (tI .i64)) (l ++ [x]) v_44, Ob.v (tSl (tI .i64)) l (.slice ad_41 l.length l.length), .row (tI .i64) 3 v_34 [x], Ob.v (tSl (tI .i64)) l lv]) (A := [.box ge 76 [(.func (.func fe) fs.toArray cs.toArray)], .box gn 3 [.int .i64 n], .box gp 76 [.func (.func 87) #[] #[(.pointer (some ⟨ge, 0, none⟩)), (.pointer (some ⟨gn, 0, none⟩)), (.pointer (some ⟨gp, 0, none⟩))]]]) (R := ot) hS
          refine Wx.callB (run_callC (fs := []) (cs := [(.pointer (some ⟨ge, 0, none⟩)), (.pointer (some ⟨gn, 0, none⟩)), (.pointer (some ⟨gp, 0, none⟩))]) (vs := [v_44, (.pointer (some ⟨ge, 0, none⟩)), (.pointer (some ⟨gn, 0, none⟩)), (.pointer (some ⟨gp, 0, none⟩))]) Try.call87 rfl rfl) (IH (l := (l ++ [x])) (lv := v_44) (ls := ms) (Tl := fun ls ob => ∃ ob', ob = [Ob.v (tSl (tI .i64)) (l ++ [x]) v_44, Ob.v (tSl (tI .i64)) l (.slice ad_41 l.length l.length), .row (tI .i64) 3 v_34 [x], Ob.v (tSl (tI .i64)) l lv] ++ ob' ∧ Tl ls ob') (ob := [Ob.v (tSl (tI .i64)) (l ++ [x]) v_44, Ob.v (tSl (tI .i64)) l (.slice ad_41 l.length l.length), .row (tI .i64) 3 v_34 [x], Ob.v (tSl (tI .i64)) l lv] ++ ot) hcall (eachN_pre hE [Ob.v (tSl (tI .i64)) (l ++ [x]) v_44, Ob.v (tSl (tI .i64)) l (.slice ad_41 l.length l.length), .row (tI .i64) 3 v_34 [x], Ob.v (tSl (tI .i64)) l lv]) p_0 p_7 (by simp; omega) (snoc_in p_b h0 (by omega)) hnd ⟨_, rfl, h3⟩ hP hL (by simp; omega)) rfl ?_
          rintro r_48 w_49 ⟨rfl, _, ⟨ob_51, rfl, hT_50⟩, hS⟩
          have hS : St w0 O w_49 (Ob.v (tSl (tI .i64)) (l ++ [x]) v_44 :: Ob.v (tSl (tI .i64)) l (.slice ad_41 l.length l.length) :: .row (tI .i64) 3 v_34 [x] :: Ob.v (tSl (tI .i64)) l lv :: .box ge 76 [(.func (.func fe) fs.toArray cs.toArray)] :: .box gn 3 [.int .i64 n] :: .box gp 76 [.func (.func 87) #[] #[(.pointer (some ⟨ge, 0, none⟩)), (.pointer (some ⟨gn, 0, none⟩)), (.pointer (some ⟨gp, 0, none⟩))]] :: ob_51) := St.pull (pre := [.box ge 76 [(.func (.func fe) fs.toArray cs.toArray)], .box gn 3 [.int .i64 n], .box gp 76 [.func (.func 87) #[] #[(.pointer (some ⟨ge, 0, none⟩)), (.pointer (some ⟨gn, 0, none⟩)), (.pointer (some ⟨gp, 0, none⟩))]]]) (A := [Ob.v (tSl (tI .i64)) (l ++ [x]) v_44, Ob.v (tSl (tI .i64)) l (.slice ad_41 l.length l.length), .row (tI .i64) 3 v_34 [x], Ob.v (tSl (tI .i64)) l lv]) (R := ob_51) hS
          have hT := hT_50
          refine Wx.nil ?_
          refine Wp.done (by kernel_rfl) ?_
          refine W.reg ?_
          refine Wx.rd (v := .int .i64 (x + 1)) (rd_add rfl rfl (in_i64 (by omega) (by omega))) rfl ?_
          refine Wx.rd (v := .int .i64 (x + 1)) (rd_move rfl) rfl ?_
          refine Wx.nil ?_
          refine ⟨(x + 1, ob_51, ms ++ allP n (n + 1 - ((l ++ [x]).length : Int)).toNat (l ++ [x])), (by show (n - (x + 1)).toNat < (n - x).toNat; omega), ?_, ?_, Out.look rfl Out.self⟩
          · exact ⟨St.tl (St.tl (hS.tl)), (by first | omega | assumption), (by first | omega | assumption), (by rw [← h2, allX_cons n _ l c1]; first | (rw [if_neg (by rw [c2]; decide), show (n + 1 - (((l ++ [x]).length : Nat) : Int)).toNat = m by simp; omega, List.append_assoc]) | rw [if_pos c2, List.nil_append]), (by first | exact hT | exact h3)⟩
          · exact ⟨rfl, trivial⟩
      · -- operation 2
        refine Wx.callF (run_callF Try.call88 rfl) (F88 (hS.v 0 rfl) hS.fb_lt) rfl ?_
        rintro r_52 w_53 hx_54 ⟨_, rfl, ⟨⟨ad_56, rfl⟩, hv_55⟩⟩
        have ln_58 := hv_55.len63
        have hS := hS.ext hx_54
        have hS := hS.add hv_55
        refine Wx.nil ?_
        refine Wp.br [0, 4] (by kernel_rfl) (by decide) ⟨⟨_, rfl, ?_⟩, ⟨_, rfl, ?_⟩, trivial⟩
        · -- operation 0
          refine Wx.rd (v := .func (.func 87) #[] #[(.pointer (some ⟨ge, 0, none⟩)), (.pointer (some ⟨gn, 0, none⟩)), (.pointer (some ⟨gp, 0, none⟩))]) (rd_loadX hS 4 rfl rfl rfl Try.isAgg76) rfl ?_
          refine Wx.nil ?_
          refine Wp.br [4] (by kernel_rfl) (by decide) ⟨⟨_, rfl, ?_⟩, trivial⟩
          refine Wx.lit (t := (tI .i64)) (ys := [x]) (vs := [.int .i64 x]) elLw_39 hS rfl rfl ⟨(V.mkInt (in_i64 (by omega) (by omega))), trivial⟩ (by decide) rfl (fun v_59 w_60 hx_61 hS => ?_)
          refine Wx.nil ?_
          refine Wp.br [5] (by kernel_rfl) (by decide) ⟨⟨_, rfl, ?_⟩, trivial⟩
          refine Wx.appendNew elLw_39 hS rfl (hS.v 1 rfl) rfl (Src.ofR hS 0 rfl) (by simp) (by simp only [maxLen]; simp; omega) (by simp; omega) rfl (fun v_62 w_63 hz_64 hS => ?_)
          refine Wx.nil ?_
          refine Wp.br [6] (by kernel_rfl) (by decide) ⟨⟨_, rfl, ?_⟩, trivial⟩
          have hS := hS.freeze 0 rfl
          have hL := V.pull (pre := [Ob.v (tSl (tI .i64)) (l ++ [x]) v_62, .row (tI .i64) 3 v_59 [x], Ob.v (tSl (tI .i64)) l (.slice ad_56 l.length l.length), Ob.v (tSl (tI .i64)) l lv]) (A := [.box ge 76 [(.func (.func fe) fs.toArray cs.toArray)], .box gn 3 [.int .i64 n], .box gp 76 [.func (.func 87) #[] #[(.pointer (some ⟨ge, 0, none⟩)), (.pointer (some ⟨gn, 0, none⟩)), (.pointer (some ⟨gp, 0, none⟩))]]]) (R := ot) (hS.v 0 rfl)
          have hP := St.pull (pre := [Ob.v (tSl (tI .i64)) (l ++ [x]) v_62, .row (tI .i64) 3 v_59 [x], Ob.v (tSl (tI .i64)) l (.slice ad_56 l.length l.length), Ob.v (tSl (tI .i64)) l lv]) (A := [.box ge 76 [(.func (.func fe) fs.toArray cs.toArray)], .box gn 3 [.int .i64 n], .box gp 76 [.func (.func 87) #[] #[(.pointer (some ⟨ge, 0, none⟩)), (.pointer (some ⟨gn, 0, none⟩)), (.pointer (some ⟨gp, 0, none⟩))]]]) (R := ot) hS
          refine Wx.callB (run_callC (fs := []) (cs := [(.pointer (some ⟨ge, 0, none⟩)), (.pointer (some ⟨gn, 0, none⟩)), (.pointer (some ⟨gp, 0, none⟩))]) (vs := [v_62, (.pointer (some ⟨ge, 0, none⟩)), (.pointer (some ⟨gn, 0, none⟩)), (.pointer (some ⟨gp, 0, none⟩))]) Try.call87 rfl rfl) (IH (l := (l ++ [x])) (lv := v_62) (ls := ms) (Tl := fun ls ob => ∃ ob', ob = [Ob.v (tSl (tI .i64)) (l ++ [x]) v_62, .row (tI .i64) 3 v_59 [x], Ob.v (tSl (tI .i64)) l (.slice ad_56 l.length l.length), Ob.v (tSl (tI .i64)) l lv] ++ ob' ∧ Tl ls ob') (ob := [Ob.v (tSl (tI .i64)) (l ++ [x]) v_62, .row (tI .i64) 3 v_59 [x], Ob.v (tSl (tI .i64)) l (.slice ad_56 l.length l.length), Ob.v (tSl (tI .i64)) l lv] ++ ot) hcall (eachN_pre hE [Ob.v (tSl (tI .i64)) (l ++ [x]) v_62, .row (tI .i64) 3 v_59 [x], Ob.v (tSl (tI .i64)) l (.slice ad_56 l.length l.length), Ob.v (tSl (tI .i64)) l lv]) p_0 p_7 (by simp; omega) (snoc_in p_b h0 (by omega)) hnd ⟨_, rfl, h3⟩ hP hL (by simp; omega)) rfl ?_
          rintro r_66 w_67 ⟨rfl, _, ⟨ob_69, rfl, hT_68⟩, hS⟩
          have hS : St w0 O w_67 (Ob.v (tSl (tI .i64)) (l ++ [x]) v_62 :: .row (tI .i64) 3 v_59 [x] :: Ob.v (tSl (tI .i64)) l (.slice ad_56 l.length l.length) :: Ob.v (tSl (tI .i64)) l lv :: .box ge 76 [(.func (.func fe) fs.toArray cs.toArray)] :: .box gn 3 [.int .i64 n] :: .box gp 76 [.func (.func 87) #[] #[(.pointer (some ⟨ge, 0, none⟩)), (.pointer (some ⟨gn, 0, none⟩)), (.pointer (some ⟨gp, 0, none⟩))]] :: ob_69) := St.pull (pre := [.box ge 76 [(.func (.func fe) fs.toArray cs.toArray)], .box gn 3 [.int .i64 n], .box gp 76 [.func (.func 87) #[] #[(.pointer (some ⟨ge, 0, none⟩)), (.pointer (some ⟨gn, 0, none⟩)), (.pointer (some ⟨gp, 0, none⟩))]]]) (A := [Ob.v (tSl (tI .i64)) (l ++ [x]) v_62, .row (tI .i64) 3 v_59 [x], Ob.v (tSl (tI .i64)) l (.slice ad_56 l.length l.length), Ob.v (tSl (tI .i64)) l lv]) (R := ob_69) hS
          have hT := hT_68
          refine Wx.nil ?_
          refine Wp.done (by kernel_rfl) ?_
          refine W.reg ?_
          refine Wx.rd (v := .int .i64 (x + 1)) (rd_add rfl rfl (in_i64 (by omega) (by omega))) rfl ?_
          refine Wx.rd (v := .int .i64 (x + 1)) (rd_move rfl) rfl ?_
          refine Wx.nil ?_
          refine ⟨(x + 1, ob_69, ms ++ allP n (n + 1 - ((l ++ [x]).length : Int)).toNat (l ++ [x])), (by show (n - (x + 1)).toNat < (n - x).toNat; omega), ?_, ?_, Out.look rfl Out.self⟩
          · exact ⟨St.tl (St.tl (hS.tl)), (by first | omega | assumption), (by first | omega | assumption), (by rw [← h2, allX_cons n _ l c1]; first | (rw [if_neg (by rw [c2]; decide), show (n + 1 - (((l ++ [x]).length : Nat) : Int)).toNat = m by simp; omega, List.append_assoc]) | rw [if_pos c2, List.nil_append]), (by first | exact hT | exact h3)⟩
          · exact ⟨rfl, trivial⟩
        · -- operation 4
          refine Wx.lit (t := (tI .i64)) (ys := [x]) (vs := [.int .i64 x]) elLw_39 hS rfl rfl ⟨(V.mkInt (in_i64 (by omega) (by omega))), trivial⟩ (by decide) rfl (fun v_70 w_71 hx_72 hS => ?_)
          refine Wx.nil ?_
          refine Wp.br [0, 5] (by kernel_rfl) (by decide) ⟨⟨_, rfl, ?_⟩, ⟨_, rfl, ?_⟩, trivial⟩
          · -- operation 0
            refine Wx.rd (v := .func (.func 87) #[] #[(.pointer (some ⟨ge, 0, none⟩)), (.pointer (some ⟨gn, 0, none⟩)), (.pointer (some ⟨gp, 0, none⟩))]) (rd_loadX hS 5 rfl rfl rfl Try.isAgg76) rfl ?_
            refine Wx.nil ?_
            refine Wp.br [5] (by kernel_rfl) (by decide) ⟨⟨_, rfl, ?_⟩, trivial⟩
            refine Wx.appendNew elLw_39 hS rfl (hS.v 1 rfl) rfl (Src.ofR hS 0 rfl) (by simp) (by simp only [maxLen]; simp; omega) (by simp; omega) rfl (fun v_73 w_74 hz_75 hS => ?_)
            refine Wx.nil ?_
            refine Wp.br [6] (by kernel_rfl) (by decide) ⟨⟨_, rfl, ?_⟩, trivial⟩
            have hS := hS.freeze 0 rfl
            have hL := V.pull (pre := [Ob.v (tSl (tI .i64)) (l ++ [x]) v_73, .row (tI .i64) 3 v_70 [x], Ob.v (tSl (tI .i64)) l (.slice ad_56 l.length l.length), Ob.v (tSl (tI .i64)) l lv]) (A := [.box ge 76 [(.func (.func fe) fs.toArray cs.toArray)], .box gn 3 [.int .i64 n], .box gp 76 [.func (.func 87) #[] #[(.pointer (some ⟨ge, 0, none⟩)), (.pointer (some ⟨gn, 0, none⟩)), (.pointer (some ⟨gp, 0, none⟩))]]]) (R := ot) (hS.v 0 rfl)
            have hP := St.pull (pre := [Ob.v (tSl (tI .i64)) (l ++ [x]) v_73, .row (tI .i64) 3 v_70 [x], Ob.v (tSl (tI .i64)) l (.slice ad_56 l.length l.length), Ob.v (tSl (tI .i64)) l lv]) (A := [.box ge 76 [(.func (.func fe) fs.toArray cs.toArray)], .box gn 3 [.int .i64 n], .box gp 76 [.func (.func 87) #[] #[(.pointer (some ⟨ge, 0, none⟩)), (.pointer (some ⟨gn, 0, none⟩)), (.pointer (some ⟨gp, 0, none⟩))]]]) (R := ot) hS
            refine Wx.callB (run_callC (fs := []) (cs := [(.pointer (some ⟨ge, 0, none⟩)), (.pointer (some ⟨gn, 0, none⟩)), (.pointer (some ⟨gp, 0, none⟩))]) (vs := [v_73, (.pointer (some ⟨ge, 0, none⟩)), (.pointer (some ⟨gn, 0, none⟩)), (.pointer (some ⟨gp, 0, none⟩))]) Try.call87 rfl rfl) (IH (l := (l ++ [x])) (lv := v_73) (ls := ms) (Tl := fun ls ob => ∃ ob', ob = [Ob.v (tSl (tI .i64)) (l ++ [x]) v_73, .row (tI .i64) 3 v_70 [x], Ob.v (tSl (tI .i64)) l (.slice ad_56 l.length l.length), Ob.v (tSl (tI .i64)) l lv] ++ ob' ∧ Tl ls ob') (ob := [Ob.v (tSl (tI .i64)) (l ++ [x]) v_73, .row (tI .i64) 3 v_70 [x], Ob.v (tSl (tI .i64)) l (.slice ad_56 l.length l.length), Ob.v (tSl (tI .i64)) l lv] ++ ot) hcall (eachN_pre hE [Ob.v (tSl (tI .i64)) (l ++ [x]) v_73, .row (tI .i64) 3 v_70 [x], Ob.v (tSl (tI .i64)) l (.slice ad_56 l.length l.length), Ob.v (tSl (tI .i64)) l lv]) p_0 p_7 (by simp; omega) (snoc_in p_b h0 (by omega)) hnd ⟨_, rfl, h3⟩ hP hL (by simp; omega)) rfl ?_
            rintro r_77 w_78 ⟨rfl, _, ⟨ob_80, rfl, hT_79⟩, hS⟩
            have hS : St w0 O w_78 (Ob.v (tSl (tI .i64)) (l ++ [x]) v_73 :: .row (tI .i64) 3 v_70 [x] :: Ob.v (tSl (tI .i64)) l (.slice ad_56 l.length l.length) :: Ob.v (tSl (tI .i64)) l lv :: .box ge 76 [(.func (.func fe) fs.toArray cs.toArray)] :: .box gn 3 [.int .i64 n] :: .box gp 76 [.func (.func 87) #[] #[(.pointer (some ⟨ge, 0, none⟩)), (.pointer (some ⟨gn, 0, none⟩)), (.pointer (some ⟨gp, 0, none⟩))]] :: ob_80) := St.pull (pre := [.box ge 76 [(.func (.func fe) fs.toArray cs.toArray)], .box gn 3 [.int .i64 n], .box gp 76 [.func (.func 87) #[] #[(.pointer (some ⟨ge, 0, none⟩)), (.pointer (some ⟨gn, 0, none⟩)), (.pointer (some ⟨gp, 0, none⟩))]]]) (A := [Ob.v (tSl (tI .i64)) (l ++ [x]) v_73, .row (tI .i64) 3 v_70 [x], Ob.v (tSl (tI .i64)) l (.slice ad_56 l.length l.length), Ob.v (tSl (tI .i64)) l lv]) (R := ob_80) hS
            have hT := hT_79
            refine Wx.nil ?_
            refine Wp.done (by kernel_rfl) ?_
            refine W.reg ?_
            refine Wx.rd (v := .int .i64 (x + 1)) (rd_add rfl rfl (in_i64 (by omega) (by omega))) rfl ?_
            refine Wx.rd (v := .int .i64 (x + 1)) (rd_move rfl) rfl ?_
            refine Wx.nil ?_
            refine ⟨(x + 1, ob_80, ms ++ allP n (n + 1 - ((l ++ [x]).length : Int)).toNat (l ++ [x])), (by show (n - (x + 1)).toNat < (n - x).toNat; omega), ?_, ?_, Out.look rfl Out.self⟩
            · exact ⟨St.tl (St.tl (hS.tl)), (by first | omega | assumption), (by first | omega | assumption), (by rw [← h2, allX_cons n _ l c1]; first | (rw [if_neg (by rw [c2]; decide), show (n + 1 - (((l ++ [x]).length : Nat) : Int)).toNat = m by simp; omega, List.append_assoc]) | rw [if_pos c2, List.nil_append]), (by first | exact hT | exact h3)⟩
            · exact ⟨rfl, trivial⟩
          · -- operation 5
            refine Wx.appendNew elLw_39 hS rfl (hS.v 1 rfl) rfl (Src.ofR hS 0 rfl) (by simp) (by simp only [maxLen]; simp; omega) (by simp; omega) rfl (fun v_81 w_82 hz_83 hS => ?_)
            refine Wx.nil ?_
            refine Wp.br [0] (by kernel_rfl) (by decide) ⟨⟨_, rfl, ?_⟩, trivial⟩
            refine Wx.rd (v := .func (.func 87) #[] #[(.pointer (some ⟨ge, 0, none⟩)), (.pointer (some ⟨gn, 0, none⟩)), (.pointer (some ⟨gp, 0, none⟩))]) (rd_loadX hS 6 rfl rfl rfl Try.isAgg76) rfl ?_
            refine Wx.nil ?_
            refine Wp.br [6] (by kernel_rfl) (by decide) ⟨⟨_, rfl, ?_⟩, trivial⟩
            have hS := hS.freeze 0 rfl
            have hL := V.pull (pre := [Ob.v (tSl (tI .i64)) (l ++ [x]) v_81, .row (tI .i64) 3 v_70 [x], Ob.v (tSl (tI .i64)) l (.slice ad_56 l.length l.length), Ob.v (tSl (tI .i64)) l lv]) (A := [.box ge 76 [(.func (.func fe) fs.toArray cs.toArray)], .box gn 3 [.int .i64 n], .box gp 76 [.func (.func 87) #[] #[(.pointer (some ⟨ge, 0, none⟩)), (.pointer (some ⟨gn, 0, none⟩)), (.pointer (some ⟨gp, 0, none⟩))]]]) (R := ot) (hS.v 0 rfl)
            have hP := St.pull (pre := [Ob.v (tSl (tI .i64)) (l ++ [x]) v_81, .row (tI .i64) 3 v_70 [x], Ob.v (tSl (tI .i64)) l (.slice ad_56 l.length l.length), Ob.v (tSl (tI .i64)) l lv]) (A := [.box ge 76 [(.func (.func fe) fs.toArray cs.toArray)], .box gn 3 [.int .i64 n], .box gp 76 [.func (.func 87) #[] #[(.pointer (some ⟨ge, 0, none⟩)), (.pointer (some ⟨gn, 0, none⟩)), (.pointer (some ⟨gp, 0, none⟩))]]]) (R := ot) hS
            refine Wx.callB (run_callC (fs := []) (cs := [(.pointer (some ⟨ge, 0, none⟩)), (.pointer (some ⟨gn, 0, none⟩)), (.pointer (some ⟨gp, 0, none⟩))]) (vs := [v_81, (.pointer (some ⟨ge, 0, none⟩)), (.pointer (some ⟨gn, 0, none⟩)), (.pointer (some ⟨gp, 0, none⟩))]) Try.call87 rfl rfl) (IH (l := (l ++ [x])) (lv := v_81) (ls := ms) (Tl := fun ls ob => ∃ ob', ob = [Ob.v (tSl (tI .i64)) (l ++ [x]) v_81, .row (tI .i64) 3 v_70 [x], Ob.v (tSl (tI .i64)) l (.slice ad_56 l.length l.length), Ob.v (tSl (tI .i64)) l lv] ++ ob' ∧ Tl ls ob') (ob := [Ob.v (tSl (tI .i64)) (l ++ [x]) v_81, .row (tI .i64) 3 v_70 [x], Ob.v (tSl (tI .i64)) l (.slice ad_56 l.length l.length), Ob.v (tSl (tI .i64)) l lv] ++ ot) hcall (eachN_pre hE [Ob.v (tSl (tI .i64)) (l ++ [x]) v_81, .row (tI .i64) 3 v_70 [x], Ob.v (tSl (tI .i64)) l (.slice ad_56 l.length l.length), Ob.v (tSl (tI .i64)) l lv]) p_0 p_7 (by simp; omega) (snoc_in p_b h0 (by omega)) hnd ⟨_, rfl, h3⟩ hP hL (by simp; omega)) rfl ?_
            rintro r_85 w_86 ⟨rfl, _, ⟨ob_88, rfl, hT_87⟩, hS⟩
            have hS : St w0 O w_86 (Ob.v (tSl (tI .i64)) (l ++ [x]) v_81 :: .row (tI .i64) 3 v_70 [x] :: Ob.v (tSl (tI .i64)) l (.slice ad_56 l.length l.length) :: Ob.v (tSl (tI .i64)) l lv :: .box ge 76 [(.func (.func fe) fs.toArray cs.toArray)] :: .box gn 3 [.int .i64 n] :: .box gp 76 [.func (.func 87) #[] #[(.pointer (some ⟨ge, 0, none⟩)), (.pointer (some ⟨gn, 0, none⟩)), (.pointer (some ⟨gp, 0, none⟩))]] :: ob_88) := St.pull (pre := [.box ge 76 [(.func (.func fe) fs.toArray cs.toArray)], .box gn 3 [.int .i64 n], .box gp 76 [.func (.func 87) #[] #[(.pointer (some ⟨ge, 0, none⟩)), (.pointer (some ⟨gn, 0, none⟩)), (.pointer (some ⟨gp, 0, none⟩))]]]) (A := [Ob.v (tSl (tI .i64)) (l ++ [x]) v_81, .row (tI .i64) 3 v_70 [x], Ob.v (tSl (tI .i64)) l (.slice ad_56 l.length l.length), Ob.v (tSl (tI .i64)) l lv]) (R := ob_88) hS
            have hT := hT_87
            refine Wx.nil ?_
            refine Wp.done (by kernel_rfl) ?_
            refine W.reg ?_
            refine Wx.rd (v := .int .i64 (x + 1)) (rd_add rfl rfl (in_i64 (by omega) (by omega))) rfl ?_
            refine Wx.rd (v := .int .i64 (x + 1)) (rd_move rfl) rfl ?_
            refine Wx.nil ?_
            refine ⟨(x + 1, ob_88, ms ++ allP n (n + 1 - ((l ++ [x]).length : Int)).toNat (l ++ [x])), (by show (n - (x + 1)).toNat < (n - x).toNat; omega), ?_, ?_, Out.look rfl Out.self⟩
            · exact ⟨St.tl (St.tl (hS.tl)), (by first | omega | assumption), (by first | omega | assumption), (by rw [← h2, allX_cons n _ l c1]; first | (rw [if_neg (by rw [c2]; decide), show (n + 1 - (((l ++ [x]).length : Nat) : Int)).toNat = m by simp; omega, List.append_assoc]) | rw [if_pos c2, List.nil_append]), (by first | exact hT | exact h3)⟩
            · exact ⟨rfl, trivial⟩
      · -- operation 4
        refine Wx.lit (t := (tI .i64)) (ys := [x]) (vs := [.int .i64 x]) elLw_39 hS rfl rfl ⟨(V.mkInt (in_i64 (by omega) (by omega))), trivial⟩ (by decide) rfl (fun v_89 w_90 hx_91 hS => ?_)
        refine Wx.nil ?_
        refine Wp.br [0, 2] (by kernel_rfl) (by decide) ⟨⟨_, rfl, ?_⟩, ⟨_, rfl, ?_⟩, trivial⟩
        · -- operation 0
          refine Wx.rd (v := .func (.func 87) #[] #[(.pointer (some ⟨ge, 0, none⟩)), (.pointer (some ⟨gn, 0, none⟩)), (.pointer (some ⟨gp, 0, none⟩))]) (rd_loadX hS 4 rfl rfl rfl Try.isAgg76) rfl ?_
          refine Wx.nil ?_
          refine Wp.br [2] (by kernel_rfl) (by decide) ⟨⟨_, rfl, ?_⟩, trivial⟩
          refine Wx.callF (run_callF Try.call88 rfl) (F88 (hS.v 1 rfl) hS.fb_lt) rfl ?_
          rintro r_92 w_93 hx_94 ⟨_, rfl, ⟨⟨ad_96, rfl⟩, hv_95⟩⟩
          have ln_98 := hv_95.len63
          have hS := hS.ext hx_94
          have hS := hS.add hv_95
          refine Wx.nil ?_
          refine Wp.br [5] (by kernel_rfl) (by decide) ⟨⟨_, rfl, ?_⟩, trivial⟩
          refine Wx.appendNew elLw_39 hS rfl (hS.v 0 rfl) rfl (Src.ofR hS 1 rfl) (by simp) (by simp only [maxLen]; simp; omega) (by simp; omega) rfl (fun v_99 w_100 hz_101 hS => ?_)
          refine Wx.nil ?_
          refine Wp.br [6] (by kernel_rfl) (by decide) ⟨⟨_, rfl, ?_⟩, trivial⟩
          have hS := hS.freeze 0 rfl
          have hL := V.pull (pre := [Ob.v (tSl (tI .i64)) (l ++ [x]) v_99, Ob.v (tSl (tI .i64)) l (.slice ad_96 l.length l.length), .row (tI .i64) 3 v_89 [x], Ob.v (tSl (tI .i64)) l lv]) (A := [.box ge 76 [(.func (.func fe) fs.toArray cs.toArray)], .box gn 3 [.int .i64 n], .box gp 76 [.func (.func 87) #[] #[(.pointer (some ⟨ge, 0, none⟩)), (.pointer (some ⟨gn, 0, none⟩)), (.pointer (some ⟨gp, 0, none⟩))]]]) (R := ot) (hS.v 0 rfl)
          have hP := St.pull (pre := [Ob.v (tSl (tI .i64)) (l ++ [x]) v_99, Ob.v (tSl (tI .i64)) l (.slice ad_96 l.length l.length), .row (tI .i64) 3 v_89 [x], Ob.v (tSl (tI .i64)) l lv]) (A := [.box ge 76 [(.func (.func fe) fs.toArray cs.toArray)], .box gn 3 [.int .i64 n], .box gp 76 [.func (.func 87) #[] #[(.pointer (some ⟨ge, 0, none⟩)), (.pointer (some ⟨gn, 0, none⟩)), (.pointer (some ⟨gp, 0, none⟩))]]]) (R := ot) hS
          refine Wx.callB (run_callC (fs := []) (cs := [(.pointer (some ⟨ge, 0, none⟩)), (.pointer (some ⟨gn, 0, none⟩)), (.pointer (some ⟨gp, 0, none⟩))]) (vs := [v_99, (.pointer (some ⟨ge, 0, none⟩)), (.pointer (some ⟨gn, 0, none⟩)), (.pointer (some ⟨gp, 0, none⟩))]) Try.call87 rfl rfl) (IH (l := (l ++ [x])) (lv := v_99) (ls := ms) (Tl := fun ls ob => ∃ ob', ob = [Ob.v (tSl (tI .i64)) (l ++ [x]) v_99, Ob.v (tSl (tI .i64)) l (.slice ad_96 l.length l.length), .row (tI .i64) 3 v_89 [x], Ob.v (tSl (tI .i64)) l lv] ++ ob' ∧ Tl ls ob') (ob := [Ob.v (tSl (tI .i64)) (l ++ [x]) v_99, Ob.v (tSl (tI .i64)) l (.slice ad_96 l.length l.length), .row (tI .i64) 3 v_89 [x], Ob.v (tSl (tI .i64)) l lv] ++ ot) hcall (eachN_pre hE [Ob.v (tSl (tI .i64)) (l ++ [x]) v_99, Ob.v (tSl (tI .i64)) l (.slice ad_96 l.length l.length), .row (tI .i64) 3 v_89 [x], Ob.v (tSl (tI .i64)) l lv]) p_0 p_7 (by simp; omega) (snoc_in p_b h0 (by omega)) hnd ⟨_, rfl, h3⟩ hP hL (by simp; omega)) rfl ?_
          rintro r_103 w_104 ⟨rfl, _, ⟨ob_106, rfl, hT_105⟩, hS⟩
          have hS : St w0 O w_104 (Ob.v (tSl (tI .i64)) (l ++ [x]) v_99 :: Ob.v (tSl (tI .i64)) l (.slice ad_96 l.length l.length) :: .row (tI .i64) 3 v_89 [x] :: Ob.v (tSl (tI .i64)) l lv :: .box ge 76 [(.func (.func fe) fs.toArray cs.toArray)] :: .box gn 3 [.int .i64 n] :: .box gp 76 [.func (.func 87) #[] #[(.pointer (some ⟨ge, 0, none⟩)), (.pointer (some ⟨gn, 0, none⟩)), (.pointer (some ⟨gp, 0, none⟩))]] :: ob_106) := St.pull (pre := [.box ge 76 [(.func (.func fe) fs.toArray cs.toArray)], .box gn 3 [.int .i64 n], .box gp 76 [.func (.func 87) #[] #[(.pointer (some ⟨ge, 0, none⟩)), (.pointer (some ⟨gn, 0, none⟩)), (.pointer (some ⟨gp, 0, none⟩))]]]) (A := [Ob.v (tSl (tI .i64)) (l ++ [x]) v_99, Ob.v (tSl (tI .i64)) l (.slice ad_96 l.length l.length), .row (tI .i64) 3 v_89 [x], Ob.v (tSl (tI .i64)) l lv]) (R := ob_106) hS
          have hT := hT_105
          refine Wx.nil ?_
          refine Wp.done (by kernel_rfl) ?_
          refine W.reg ?_
          refine Wx.rd (v := .int .i64 (x + 1)) (rd_add rfl rfl (in_i64 (by omega) (by omega))) rfl ?_
          refine Wx.rd (v := .int .i64 (x + 1)) (rd_move rfl) rfl ?_
          refine Wx.nil ?_
          refine ⟨(x + 1, ob_106, ms ++ allP n (n + 1 - ((l ++ [x]).length : Int)).toNat (l ++ [x])), (by show (n - (x + 1)).toNat < (n - x).toNat; omega), ?_, ?_, Out.look rfl Out.self⟩
          · exact ⟨St.tl (St.tl (hS.tl)), (by first | omega | assumption), (by first | omega | assumption), (by rw [← h2, allX_cons n _ l c1]; first | (rw [if_neg (by rw [c2]; decide), show (n + 1 - (((l ++ [x]).length : Nat) : Int)).toNat = m by simp; omega, List.append_assoc]) | rw [if_pos c2, List.nil_append]), (by first | exact hT | exact h3)⟩
          · exact ⟨rfl, trivial⟩
        · -- operation 2
          refine Wx.callF (run_callF Try.call88 rfl) (F88 (hS.v 1 rfl) hS.fb_lt) rfl ?_
          rintro r_107 w_108 hx_109 ⟨_, rfl, ⟨⟨ad_111, rfl⟩, hv_110⟩⟩
          have ln_113 := hv_110.len63
          have hS := hS.ext hx_109
          have hS := hS.add hv_110
          refine Wx.nil ?_
          refine Wp.br [0, 5] (by kernel_rfl) (by decide) ⟨⟨_, rfl, ?_⟩, ⟨_, rfl, ?_⟩, trivial⟩
          · -- operation 0
            refine Wx.rd (v := .func (.func 87) #[] #[(.pointer (some ⟨ge, 0, none⟩)), (.pointer (some ⟨gn, 0, none⟩)), (.pointer (some ⟨gp, 0, none⟩))]) (rd_loadX hS 5 rfl rfl rfl Try.isAgg76) rfl ?_
            refine Wx.nil ?_
            refine Wp.br [5] (by kernel_rfl) (by decide) ⟨⟨_, rfl, ?_⟩, trivial⟩
            refine Wx.appendNew elLw_39 hS rfl (hS.v 0 rfl) rfl (Src.ofR hS 1 rfl) (by simp) (by simp only [maxLen]; simp; omega) (by simp; omega) rfl (fun v_114 w_115 hz_116 hS => ?_)
            refine Wx.nil ?_
            refine Wp.br [6] (by kernel_rfl) (by decide) ⟨⟨_, rfl, ?_⟩, trivial⟩
            have hS := hS.freeze 0 rfl
            have hL := V.pull (pre := [Ob.v (tSl (tI .i64)) (l ++ [x]) v_114, Ob.v (tSl (tI .i64)) l (.slice ad_111 l.length l.length), .row (tI .i64) 3 v_89 [x], Ob.v (tSl (tI .i64)) l lv]) (A := [.box ge 76 [(.func (.func fe) fs.toArray cs.toArray)], .box gn 3 [.int .i64 n], .box gp 76 [.func (.func 87) #[] #[(.pointer (some ⟨ge, 0, none⟩)), (.pointer (some ⟨gn, 0, none⟩)), (.pointer (some ⟨gp, 0, none⟩))]]]) (R := ot) (hS.v 0 rfl)
            have hP := St.pull (pre := [Ob.v (tSl (tI .i64)) (l ++ [x]) v_114, Ob.v (tSl (tI .i64)) l (.slice ad_111 l.length l.length), .row (tI .i64) 3 v_89 [x], Ob.v (tSl (tI .i64)) l lv]) (A := [.box ge 76 [(.func (.func fe) fs.toArray cs.toArray)], .box gn 3 [.int .i64 n], .box gp 76 [.func (.func 87) #[] #[(.pointer (some ⟨ge, 0, none⟩)), (.pointer (some ⟨gn, 0, none⟩)), (.pointer (some ⟨gp, 0, none⟩))]]]) (R := ot) hS
            refine Wx.callB (run_callC (fs := []) (cs := [(.pointer (some ⟨ge, 0, none⟩)), (.pointer (some ⟨gn, 0, none⟩)), (.pointer (some ⟨gp, 0, none⟩))]) (vs := [v_114, (.pointer (some ⟨ge, 0, none⟩)), (.pointer (some ⟨gn, 0, none⟩)), (.pointer (some ⟨gp, 0, none⟩))]) Try.call87 rfl rfl) (IH (l := (l ++ [x])) (lv := v_114) (ls := ms) (Tl := fun ls ob => ∃ ob', ob = [Ob.v (tSl (tI .i64)) (l ++ [x]) v_114, Ob.v (tSl (tI .i64)) l (.slice ad_111 l.length l.length), .row (tI .i64) 3 v_89 [x], Ob.v (tSl (tI .i64)) l lv] ++ ob' ∧ Tl ls ob') (ob := [Ob.v (tSl (tI .i64)) (l ++ [x]) v_114, Ob.v (tSl (tI .i64)) l (.slice ad_111 l.length l.length), .row (tI .i64) 3 v_89 [x], Ob.v (tSl (tI .i64)) l lv] ++ ot) hcall (eachN_pre hE [Ob.v (tSl (tI .i64)) (l ++ [x]) v_114, Ob.v (tSl (tI .i64)) l (.slice ad_111 l.length l.length), .row (tI .i64) 3 v_89 [x], Ob.v (tSl (tI .i64)) l lv]) p_0 p_7 (by simp; omega) (snoc_in p_b h0 (by omega)) hnd ⟨_, rfl, h3⟩ hP hL (by simp; omega)) rfl ?_
            rintro r_118 w_119 ⟨rfl, _, ⟨ob_121, rfl, hT_120⟩, hS⟩
            have hS : St w0 O w_119 (Ob.v (tSl (tI .i64)) (l ++ [x]) v_114 :: Ob.v (tSl (tI .i64)) l (.slice ad_111 l.length l.length) :: .row (tI .i64) 3 v_89 [x] :: Ob.v (tSl (tI .i64)) l lv :: .box ge 76 [(.func (.func fe) fs.toArray cs.toArray)] :: .box gn 3 [.int .i64 n] :: .box gp 76 [.func (.func 87) #[] #[(.pointer (some ⟨ge, 0, none⟩)), (.pointer (some ⟨gn, 0, none⟩)), (.pointer (some ⟨gp, 0, none⟩))]] :: ob_121) := St.pull (pre := [.box ge 76 [(.func (.func fe) fs.toArray cs.toArray)], .box gn 3 [.int .i64 n], .box gp 76 [.func (.func 87) #[] #[(.pointer (some ⟨ge, 0, none⟩)), (.pointer (some ⟨gn, 0, none⟩)), (.pointer (some ⟨gp, 0, none⟩))]]]) (A := [Ob.v (tSl (tI .i64)) (l ++ [x]) v_114, Ob.v (tSl (tI .i64)) l (.slice ad_111 l.length l.length), .row (tI .i64) 3 v_89 [x], Ob.v (tSl (tI .i64)) l lv]) (R := ob_121) hS
            have hT := hT_120
            refine Wx.nil ?_
            refine Wp.done (by kernel_rfl) ?_
            refine W.reg ?_
            refine Wx.rd (v := .int .i64 (x + 1)) (rd_add rfl rfl (in_i64 (by omega) (by omega))) rfl ?_
            refine Wx.rd (v := .int .i64 (x + 1)) (rd_move rfl) rfl ?_
            refine Wx.nil ?_
            refine ⟨(x + 1, ob_121, ms ++ allP n (n + 1 - ((l ++ [x]).length : Int)).toNat (l ++ [x])), (by show (n - (x + 1)).toNat < (n - x).toNat; omega), ?_, ?_, Out.look rfl Out.self⟩
            · exact ⟨St.tl (St.tl (hS.tl)), (by first | omega | assumption), (by first | omega | assumption), (by rw [← h2, allX_cons n _ l c1]; first | (rw [if_neg (by rw [c2]; decide), show (n + 1 - (((l ++ [x]).length : Nat) : Int)).toNat = m by simp; omega, List.append_assoc]) | rw [if_pos c2, List.nil_append]), (by first | exact hT | exact h3)⟩
            · exact ⟨rfl, trivial⟩
          · -- operation 5
            refine Wx.appendNew elLw_39 hS rfl (hS.v 0 rfl) rfl (Src.ofR hS 1 rfl) (by simp) (by simp only [maxLen]; simp; omega) (by simp; omega) rfl (fun v_122 w_123 hz_124 hS => ?_)
            refine Wx.nil ?_
            refine Wp.br [0] (by kernel_rfl) (by decide) ⟨⟨_, rfl, ?_⟩, trivial⟩
            refine Wx.rd (v := .func (.func 87) #[] #[(.pointer (some ⟨ge, 0, none⟩)), (.pointer (some ⟨gn, 0, none⟩)), (.pointer (some ⟨gp, 0, none⟩))]) (rd_loadX hS 6 rfl rfl rfl Try.isAgg76) rfl ?_
            refine Wx.nil ?_
            refine Wp.br [6] (by kernel_rfl) (by decide) ⟨⟨_, rfl, ?_⟩, trivial⟩
            have hS := hS.freeze 0 rfl
            have hL := V.pull (pre := [Ob.v (tSl (tI .i64)) (l ++ [x]) v_122, Ob.v (tSl (tI .i64)) l (.slice ad_111 l.length l.length), .row (tI .i64) 3 v_89 [x], Ob.v (tSl (tI .i64)) l lv]) (A := [.box ge 76 [(.func (.func fe) fs.toArray cs.toArray)], .box gn 3 [.int .i64 n], .box gp 76 [.func (.func 87) #[] #[(.pointer (some ⟨ge, 0, none⟩)), (.pointer (some ⟨gn, 0, none⟩)), (.pointer (some ⟨gp, 0, none⟩))]]]) (R := ot) (hS.v 0 rfl)
            have hP := St.pull (pre := [Ob.v (tSl (tI .i64)) (l ++ [x]) v_122, Ob.v (tSl (tI .i64)) l (.slice ad_111 l.length l.length), .row (tI .i64) 3 v_89 [x], Ob.v (tSl (tI .i64)) l lv]) (A := [.box ge 76 [(.func (.func fe) fs.toArray cs.toArray)], .box gn 3 [.int .i64 n], .box gp 76 [.func (.func 87) #[] #[(.pointer (some ⟨ge, 0, none⟩)), (.pointer (some ⟨gn, 0, none⟩)), (.pointer (some ⟨gp, 0, none⟩))]]]) (R := ot) hS
            refine Wx.callB (run_callC (fs := []) (cs := [(.pointer (some ⟨ge, 0, none⟩)), (.pointer (some ⟨gn, 0, none⟩)), (.pointer (some ⟨gp, 0, none⟩))]) (vs := [v_122, (.pointer (some ⟨ge, 0, none⟩)), (.pointer (some ⟨gn, 0, none⟩)), (.pointer (some ⟨gp, 0, none⟩))]) Try.call87 rfl rfl) (IH (l := (l ++ [x])) (lv := v_122) (ls := ms) (Tl := fun ls ob => ∃ ob', ob = [Ob.v (tSl (tI .i64)) (l ++ [x]) v_122, Ob.v (tSl (tI .i64)) l (.slice ad_111 l.length l.length), .row (tI .i64) 3 v_89 [x], Ob.v (tSl (tI .i64)) l lv] ++ ob' ∧ Tl ls ob') (ob := [Ob.v (tSl (tI .i64)) (l ++ [x]) v_122, Ob.v (tSl (tI .i64)) l (.slice ad_111 l.length l.length), .row (tI .i64) 3 v_89 [x], Ob.v (tSl (tI .i64)) l lv] ++ ot) hcall (eachN_pre hE [Ob.v (tSl (tI .i64)) (l ++ [x]) v_122, Ob.v (tSl (tI .i64)) l (.slice ad_111 l.length l.length), .row (tI .i64) 3 v_89 [x], Ob.v (tSl (tI .i64)) l lv]) p_0 p_7 (by simp; omega) (snoc_in p_b h0 (by omega)) hnd ⟨_, rfl, h3⟩ hP hL (by simp; omega)) rfl ?_
            rintro r_126 w_127 ⟨rfl, _, ⟨ob_129, rfl, hT_128⟩, hS⟩
            have hS : St w0 O w_127 (Ob.v (tSl (tI .i64)) (l ++ [x]) v_122 :: Ob.v (tSl (tI .i64)) l (.slice ad_111 l.length l.length) :: .row (tI .i64) 3 v_89 [x] :: Ob.v (tSl (tI .i64)) l lv :: .box ge 76 [(.func (.func fe) fs.toArray cs.toArray)] :: .box gn 3 [.int .i64 n] :: .box gp 76 [.func (.func 87) #[] #[(.pointer (some ⟨ge, 0, none⟩)), (.pointer (some ⟨gn, 0, none⟩)), (.pointer (some ⟨gp, 0, none⟩))]] :: ob_129) := St.pull (pre := [.box ge 76 [(.func (.func fe) fs.toArray cs.toArray)], .box gn 3 [.int .i64 n], .box gp 76 [.func (.func 87) #[] #[(.pointer (some ⟨ge, 0, none⟩)), (.pointer (some ⟨gn, 0, none⟩)), (.pointer (some ⟨gp, 0, none⟩))]]]) (A := [Ob.v (tSl (tI .i64)) (l ++ [x]) v_122, Ob.v (tSl (tI .i64)) l (.slice ad_111 l.length l.length), .row (tI .i64) 3 v_89 [x], Ob.v (tSl (tI .i64)) l lv]) (R := ob_129) hS
            have hT := hT_128
            refine Wx.nil ?_
            refine Wp.done (by kernel_rfl) ?_
            refine W.reg ?_
            refine Wx.rd (v := .int .i64 (x + 1)) (rd_add rfl rfl (in_i64 (by omega) (by omega))) rfl ?_
            refine Wx.rd (v := .int .i64 (x + 1)) (rd_move rfl) rfl ?_
            refine Wx.nil ?_
            refine ⟨(x + 1, ob_129, ms ++ allP n (n + 1 - ((l ++ [x]).length : Int)).toNat (l ++ [x])), (by show (n - (x + 1)).toNat < (n - x).toNat; omega), ?_, ?_, Out.look rfl Out.self⟩
            · exact ⟨St.tl (St.tl (hS.tl)), (by first | omega | assumption), (by first | omega | assumption), (by rw [← h2, allX_cons n _ l c1]; first | (rw [if_neg (by rw [c2]; decide), show (n + 1 - (((l ++ [x]).length : Nat) : Int)).toNat = m by simp; omega, List.append_assoc]) | rw [if_pos c2, List.nil_append]), (by first | exact hT | exact h3)⟩
            · exact ⟨rfl, trivial⟩
    · -- no
      try simp only [Bool.and_eq_true, Bool.or_eq_true, Bool.not_eq_true', Bool.and_eq_false_iff, Bool.or_eq_false_iff, Bool.not_eq_false', decide_eq_true_eq, decide_eq_false_iff_not, not_or, Bool.false_eq_true, Bool.true_eq_false, false_or, or_false, not_false_eq_true] at c2
      refine W.skip ?_
      refine W.reg ?_
      refine Wx.rd (v := .int .i64 (x + 1)) (rd_add rfl rfl (in_i64 (by omega) (by omega))) rfl ?_
      refine Wx.rd (v := .int .i64 (x + 1)) (rd_move rfl) rfl ?_
      refine Wx.nil ?_
      refine ⟨(x + 1, ot, ms), (by show (n - (x + 1)).toNat < (n - x).toNat; omega), ?_, ?_, Out.look rfl Out.self⟩
      · exact ⟨hS, (by first | omega | assumption), (by first | omega | assumption), (by rw [← h2, allX_cons n _ l c1]; first | (rw [if_neg (by rw [c2]; decide), show (n + 1 - (((l ++ [x]).length : Nat) : Int)).toNat = m by simp; omega, List.append_assoc]) | rw [if_pos c2, List.nil_append]), (by first | exact hT | exact h3)⟩
      · exact ⟨rfl, trivial⟩
  · -- no
    refine W.exit rfl ?_
    exact ⟨.tuple #[], ResIs.zero, rfl, ot, by rw [hm, allP]; rw [show (n - x).toNat = 0 by omega, allX, List.append_nil] at h2; rw [← h2]; exact h3, (St.tl hS)⟩

theorem F50 {n : Int} {fe : FuncId} {fs cs : List Value} {Tl : List (List Int) → List Ob → Prop} {ls : List (List Int)} {ob : List Ob} {w0 w : World} {O : List (Option Nat)} (hcall : ∀ args w, (callFunc fe args).run Try.prog w = .ok (.enter fe args) w) (hE : EachN Try.prog fe fs cs n Tl) (p_0 : 0 ≤ n) (p_7 : n ≤ 7) (hT : Tl ls ob) (hS : St w0 O w ob) : Calls Try.prog 50 #[.int .i64 n, .func (.func fe) fs.toArray cs.toArray] w (Bk fun r w' => r = .tuple #[] ∧ ∃ ob', Tl (ls ++ allQ n) ob' ∧ St w0 O w' ob') := by
  refine enterB Try.func50 rfl Try.ntmps50 Try.results50 rfl ?_
  refine W.seq ?_
  refine W.reg ?_
  refine Wx.box (cs := [.int .i64 n]) hS rfl rfl rfl (fun g_1 w_2 hx_4 hb_3 hS => ?_)
  refine Wx.box (cs := [(.func (.func fe) fs.toArray cs.toArray)]) hS rfl rfl rfl (fun g_5 w_6 hx_8 hb_7 hS => ?_)
  refine Wx.nil ?_
  refine W.seq ?_
  refine W.reg ?_
  refine Wx.alloc (cs := [.nilFunc]) hS Try.zeroValue76 rfl rfl (fun g_9 w_10 hx_12 hb_11 hS => ?_)
  refine Wx.nil ?_
  refine W.seq ?_
  refine W.reg ?_
  refine Wx.rd (v := .func (.func 87) #[] #[.pointer (some ⟨g_5, 0, none⟩), .pointer (some ⟨g_1, 0, none⟩), .pointer (some ⟨g_9, 0, none⟩)]) (rd_makeFunc (vs := []) (us := [.pointer (some ⟨g_5, 0, none⟩), .pointer (some ⟨g_1, 0, none⟩), .pointer (some ⟨g_9, 0, none⟩)]) rfl rfl) rfl ?_
  refine Wx.storeX (cs' := [.func (.func 87) #[] #[.pointer (some ⟨g_5, 0, none⟩), .pointer (some ⟨g_1, 0, none⟩), .pointer (some ⟨g_9, 0, none⟩)]]) (ds := [.func (.func 87) #[] #[.pointer (some ⟨g_5, 0, none⟩), .pointer (some ⟨g_1, 0, none⟩), .pointer (some ⟨g_9, 0, none⟩)]]) hS 0 rfl rfl rfl rfl Try.sizeOf76 (Nat.le_of_ble_eq_true rfl) (one_cons rfl one_nil) rfl (fun w_13 hz_14 hS => ?_)
  refine Wx.nil ?_
  refine W.reg ?_
  refine Wx.rd (v := .func (.func 87) #[] #[.pointer (some ⟨g_5, 0, none⟩), .pointer (some ⟨g_1, 0, none⟩), .pointer (some ⟨g_9, 0, none⟩)]) (rd_loadX hS 0 rfl rfl rfl Try.isAgg76) rfl ?_
  have hP := (hS.front 2 rfl).front 2 rfl
  refine Wx.callB (run_callC (fs := []) (cs := [.pointer (some ⟨g_5, 0, none⟩), .pointer (some ⟨g_1, 0, none⟩), .pointer (some ⟨g_9, 0, none⟩)]) (vs := [(.slice none 0 0), .pointer (some ⟨g_5, 0, none⟩), .pointer (some ⟨g_1, 0, none⟩), .pointer (some ⟨g_9, 0, none⟩)]) Try.call87 rfl rfl) (F87 _ (l := []) (ls := ls) (Tl := Tl) (n := n) hcall hE p_0 p_7 (by simp; omega) (by simp) List.nodup_nil hT hP (V.nil (t := tI .i64)) (Nat.lt_succ_self _)) rfl ?_
  rintro r_15 w_16 ⟨rfl, ob_18, hT_17, hS⟩
  have hT := hT_17
  refine Wx.nil ?_
  exact ⟨.tuple #[], ResIs.zero, rfl, ob_18, by simpa [allQ] using hT, (St.tl (St.tl (St.tl hS)))⟩
end Go.Proofs.Ytjbcpggikaeleaa

namespace Go.Proofs.Ytjbcpggikaeleaa
open Go.Wk Go.RowKit Go.Lib
set_option linter.unusedVariables false
set_option linter.unusedSimpArgs false


set_option maxHeartbeats 4000000 in
set_option maxRecDepth 10000 in
theorem F9 {zs : List Int} {O : List (Option Nat)} {w : World} (n_zs : zs.length = 39) (i_zs : ∀ z ∈ zs, InK .u8 z) (hO : ∀ b, some b ∈ O → b < w.heap.size) : Calls Try.prog 9 #[.agg (List.map (Value.int .u8) zs).toArray] w (Ret w (fun r _ => r = .bool true)) := by
  have hS := St.start w O hO
  refine enterR Try.func9 rfl Try.ntmps9 Try.results9 rfl ?_
  refine W.seq ?_
  refine W.reg ?_
  refine Wx.box (cs := List.map (Value.int .u8) zs) hS rfl rfl rfl (fun g_1 w_2 hx_4 hb_3 hS => ?_)
  refine Wx.rd (v := .bool false) (rd_assign rfl) rfl ?_
  refine Wx.nil ?_
  refine W.seq ?_
  refine W.reg ?_
  refine Wx.rd (v := .agg (List.map (Value.int .u8) zs).toArray) (rd_loadXs (ds := List.map (Value.int .u8) zs) hS 0 rfl rfl (by rw [List.drop_zero, List.take_of_length_le (by simp; omega)]) (by simp; omega) Try.isAgg66 Try.sizeOf66) rfl ?_
  refine Wx.callF (run_callF Try.call46 rfl) (F46 n_zs i_zs (in_i64 (by omega) (by omega)) (by omega) (by omega) hS.fb_lt) rfl ?_
  rintro r_5 w_6 hx_7 ⟨l, x_hc, v_8, rfl, hv_9⟩
  have hS := hS.pushFrO hx_7 hv_9
  obtain ⟨hc, ok_hc, h6_hc⟩ := shop_ok (by decide) (by decide) x_hc
  have hgz := shG_bd zs
  refine Wx.rd (v := .tuple #[.int .i64 (shG zs), v_8]) (rd_move rfl) rfl ?_
  refine Wx.rd (v := .int .i64 (shG zs)) (rd_extract rfl rfl) rfl ?_
  refine Wx.rd (v := v_8) (rd_extract rfl rfl) rfl ?_
  refine Wx.alloc (cs := [.int .i64 0]) hS Try.zeroValue3 rfl rfl (fun g_11 w_12 hx_14 hb_13 hS => ?_)
  refine Wx.alloc (cs := [(.slice none 0 0)]) hS Try.zeroValue22 rfl rfl (fun g_15 w_16 hx_18 hb_17 hS => ?_)
  refine Wx.storeX (cs' := [.int .i64 (shG zs)]) (ds := [.int .i64 (shG zs)]) hS 1 rfl rfl rfl rfl Try.sizeOf3 (Nat.le_of_ble_eq_true rfl) (one_cons rfl one_nil) rfl (fun w_19 hz_20 hS => ?_)
  have hS := hS.freeze 2 rfl
  refine Wx.storeX (cs' := [v_8]) (ds := [v_8]) hS 1 rfl rfl rfl (Go.Wk.cells_one (V.oneC (hS.v 0 rfl))) Try.sizeOf22 (Nat.le_of_ble_eq_true rfl) (one_cons (V.oneC (hS.v 0 rfl)) one_nil) rfl (fun w_22 hz_23 hS => ?_)
  refine Wx.nil ?_
  refine W.seq ?_
  refine W.reg ?_
  refine Wx.alloc (cs := [(.slice none 0 0)]) hS Try.zeroValue39 rfl rfl (fun g_24 w_25 hx_27 hb_26 hS => ?_)
  refine Wx.nil ?_
  refine W.seq ?_
  refine W.reg ?_
  refine Wx.alloc (cs := [.bool false]) hS Try.zeroValue4 rfl rfl (fun g_28 w_29 hx_31 hb_30 hS => ?_)
  refine Wx.storeX (cs' := [.bool true]) (ds := [.bool true]) hS 0 rfl rfl rfl rfl Try.sizeOf4 (Nat.le_of_ble_eq_true rfl) (one_cons rfl one_nil) rfl (fun w_32 hz_33 hS => ?_)
  refine Wx.nil ?_
  refine W.seq ?_
  refine W.reg ?_
  refine Wx.alloc (cs := [.int .i64 0]) hS Try.zeroValue3 rfl rfl (fun g_34 w_35 hx_37 hb_36 hS => ?_)
  refine Wx.storeX (cs' := [.int .i64 0]) (ds := [.int .i64 0]) hS 0 rfl rfl rfl rfl Try.sizeOf3 (Nat.le_of_ble_eq_true rfl) (one_cons rfl one_nil) rfl (fun w_38 hz_39 hS => ?_)
  refine Wx.nil ?_
  refine W.seq ?_
  refine W.reg ?_
  refine Wx.rd (v := v_8) (rd_loadX hS 4 rfl rfl rfl Try.isAgg22) rfl ?_
  refine Wx.rd (v := .int .i64 (l.length : Int)) (rd_lenV rfl (hS.v 3 rfl) Try.underlying22) rfl ?_
  refine Wx.rd (v := .func (.func 51) #[] #[.pointer (some ⟨g_15, 0, none⟩), .pointer (some ⟨g_24, 0, none⟩), .pointer (some ⟨g_34, 0, none⟩), .pointer (some ⟨g_1, 0, none⟩), .pointer (some ⟨g_28, 0, none⟩), .pointer (some ⟨g_11, 0, none⟩)]) (rd_makeFunc (vs := []) (us := [.pointer (some ⟨g_15, 0, none⟩), .pointer (some ⟨g_24, 0, none⟩), .pointer (some ⟨g_34, 0, none⟩), .pointer (some ⟨g_1, 0, none⟩), .pointer (some ⟨g_28, 0, none⟩), .pointer (some ⟨g_11, 0, none⟩)]) rfl rfl) rfl ?_
  have hS := hS.add (V.nil (t := tI .i64))
  refine Wx.callB (run_callF Try.call50 rfl) (F50 (fe := 51) (fs := []) (cs := [.pointer (some ⟨g_15, 0, none⟩), .pointer (some ⟨g_24, 0, none⟩), .pointer (some ⟨g_34, 0, none⟩), .pointer (some ⟨g_1, 0, none⟩), .pointer (some ⟨g_28, 0, none⟩), .pointer (some ⟨g_11, 0, none⟩)]) (ls := []) (n := (l.length : Int)) (Tl := fun ls ob => ∃ bv best k, (best = ls.foldl (keepR l) [] ∧ InK .i64 k ∧ (best = [] → bv = .slice none 0 0)) ∧ ob = Ob.v (tSl (tI .i64)) best bv :: Ob.v (tSl (tP (tSl (tI .i64)) (tSl (tI .i64)))) l v_8 :: .box g_15 22 [v_8] :: .box g_24 39 [bv] :: .box g_34 3 [.int .i64 k] :: .box g_1 66 (List.map (Value.int .u8) zs) :: .box g_28 4 [.bool true] :: .box g_11 3 [.int .i64 (shG zs)] :: []) Try.call51 (each51 hc ok_hc n_zs i_zs) (by omega) (by omega) ⟨_, [], 0, ⟨rfl, in_i64 (by decide) (by decide), fun _ => rfl⟩, rfl⟩ ((((((((hS.front 6 rfl).front 3 rfl).front 7 rfl).front 4 rfl).front 5 rfl).front 7 rfl).front 7 rfl).front 7 rfl)) rfl ?_
  rintro r_40 w_41 ⟨rfl, _, ⟨bv, best, k, ⟨hbe, ik, p_nz⟩, rfl⟩, hS⟩
  have hS : St w O w_41 [Ob.v (tSl (tI .i64)) best bv, Ob.v (tSl (tP (tSl (tI .i64)) (tSl (tI .i64)))) l v_8, .box g_15 22 [v_8], .box g_24 39 [bv], .box g_34 3 [.int .i64 k], .box g_1 66 (List.map (Value.int .u8) zs), .box g_28 4 [.bool true], .box g_11 3 [.int .i64 (shG zs)]] := hS
  obtain ⟨br1, br2⟩ := best_ring hc
  rw [List.nil_append] at hbe
  rw [← hbe] at br1 br2
  refine Wx.nil ?_
  refine W.seq ?_
  refine W.reg ?_
  refine Wx.rd (v := .int .i64 (shG zs)) (rd_loadX hS 7 rfl rfl rfl Try.isAgg3) rfl ?_
  refine Wx.rd (v := v_8) (rd_loadX hS 2 rfl rfl rfl Try.isAgg22) rfl ?_
  refine Wx.callF (run_callF Try.call31 rfl) (F31 (in_i64 (by omega) (by omega)) (hS.v 1 rfl) hS.fb_lt) rfl ?_
  rintro r_42 w_43 hx_44 ⟨v_45, rfl, hv_46⟩
  have ln_48 := hv_46.len63
  have hS := hS.ext hx_44
  have hS := hS.add hv_46
  refine Wx.rd (v := .tuple #[v_45, .int .i64 (ringX (shG zs) l)]) (rd_move rfl) rfl ?_
  refine Wx.rd (v := v_45) (rd_extract rfl rfl) rfl ?_
  refine Wx.rd (v := .int .i64 (ringX (shG zs) l)) (rd_extract rfl rfl) rfl ?_
  refine Wx.rd (v := v_45) (rd_assign rfl) rfl ?_
  refine Wx.rd (v := .int .i64 (ringX (shG zs) l)) (rd_assign rfl) rfl ?_
  refine Wx.nil ?_
  refine W.seq ?_
  refine W.seq ?_
  refine W.reg ?_
  refine Wx.rd (v := bv) (rd_loadX hS 4 rfl rfl rfl Try.isAgg39) rfl ?_
  refine Wx.rd (v := .bool (decide (best = []))) (rd_eqlNilI (hS.v 1 rfl) rfl rfl Try.underlying39 p_nz) rfl ?_
  refine Wx.nil ?_
  refine W.condD rfl (fun c0 => ?_) (fun c0 => ?_)
  · -- yes
    have hn : noR l = true := by { cases h : noR l with | true => rfl | false => obtain ⟨q1, q2⟩ := br2 h; rw [q1] at c0; exact absurd c0 q2 }
    obtain ⟨ay1, ay2, ay3, ay4, ay5⟩ := af_yes hc hn
    refine W.seq ?_
    refine W.reg ?_
    refine Wx.rd (v := .bool true) (rd_loadX hS 7 rfl rfl rfl Try.isAgg4) rfl ?_
    refine Wx.rd (v := .bool true) (rd_move rfl) rfl ?_
    refine Wx.gyes rfl rfl rfl ?_
    refine Wx.rd (v := .int .i64 (ringX (shG zs) l)) (rd_move rfl) rfl ?_
    refine Wx.gyes rfl rfl rfl ?_
    refine Wx.rd (v := .bool true) (Rd.to (v := .bool (decide ((ringX (shG zs) l) = 13))) (rd_eql rfl rfl) (congrArg (Value.bool) (show (true : Bool) = (decide ((ringX (shG zs) l) = 13) : Bool) from (decide_eq_true ay4).symm).symm)) rfl ?_
    refine Wx.rd (v := .bool true) (rd_pickT rfl rfl) rfl ?_
    refine Wx.rd (v := .bool true) (rd_move rfl) rfl ?_
    refine Wx.gyes rfl rfl rfl ?_
    refine Wx.rd (v := v_45) (rd_move rfl) rfl ?_
    refine Wx.gyes rfl rfl rfl ?_
    refine Wx.rd (v := .int .i64 ((ringE (shG zs) l).length : Int)) (rd_lenV rfl (hS.v 0 rfl) Try.underlying39) rfl ?_
    refine Wx.gyes rfl rfl rfl ?_
    refine Wx.rd (v := .bool true) (Rd.to (v := .bool (decide (((ringE (shG zs) l).length : Int) = 0))) (rd_eql rfl rfl) (congrArg (Value.bool) (show (true : Bool) = (decide (((ringE (shG zs) l).length : Int) = 0) : Bool) from (decide_eq_true (by rw [ay5]; rfl)).symm).symm)) rfl ?_
    refine Wx.rd (v := .bool true) (rd_pickT rfl rfl) rfl ?_
    refine Wx.rd (v := .bool true) (rd_move rfl) rfl ?_
    refine Wx.gyes rfl rfl rfl ?_
    refine Wx.callF (run_callF Try.call16 rfl) (F16 hS.fb_lt) rfl ?_
    rintro r_49 w_50 hx_51 rfl
    have hS := hS.ext hx_51
    refine Wx.rd (v := .bool true) (rd_pickT rfl rfl) rfl ?_
    refine Wx.rd (v := .bool true) (rd_assign rfl) rfl ?_
    refine Wx.nil ?_
    exact W.ret ⟨.bool true, ResIs.one, hS.bel, rfl⟩
  · -- no
    have hn : noR l = false := by { cases h : noR l with | false => rfl | true => exact absurd (br1 h) c0 }
    obtain ⟨an1, an2, an3, an4, an5⟩ := af_no hc hn
    refine W.skip ?_
    refine W.seq ?_
    refine W.reg ?_
    refine Wx.rd (v := .bool true) (rd_loadX hS 7 rfl rfl rfl Try.isAgg4) rfl ?_
    refine Wx.rd (v := .bool true) (rd_move rfl) rfl ?_
    refine Wx.gyes rfl rfl rfl ?_
    refine Wx.rd (v := .int .i64 (ringX (shG zs) l)) (rd_move rfl) rfl ?_
    refine Wx.gyes rfl rfl rfl ?_
    refine Wx.rd (v := .bool true) (Rd.to (v := .bool (decide ((ringX (shG zs) l) = 0))) (rd_eql rfl rfl) (congrArg (Value.bool) (show (true : Bool) = (decide ((ringX (shG zs) l) = 0) : Bool) from (decide_eq_true an4).symm).symm)) rfl ?_
    refine Wx.rd (v := .bool true) (rd_pickT rfl rfl) rfl ?_
    refine Wx.rd (v := .bool true) (rd_move rfl) rfl ?_
    refine Wx.gyes rfl rfl rfl ?_
    refine Wx.rd (v := v_45) (rd_move rfl) rfl ?_
    refine Wx.gyes rfl rfl rfl ?_
    refine Wx.rd (v := bv) (rd_loadX hS 4 rfl rfl rfl Try.isAgg39) rfl ?_
    refine Wx.gyes rfl rfl rfl ?_
    refine Wx.callF (run_callF Try.call33 rfl) (F33 (hS.v 0 rfl) (hS.v 1 rfl)) rfl ?_
    rintro r_52 w_53 hx_54 rfl
    have hS := hS.ext hx_54
    rw [show (decide ((ringE (shG zs) l) = best) : Bool) = true from (decide_eq_true (br2 hn).1.symm)]
    refine Wx.rd (v := .bool true) (rd_pickT rfl rfl) rfl ?_
    refine Wx.rd (v := .bool true) (rd_move rfl) rfl ?_
    refine Wx.gyes rfl rfl rfl ?_
    refine Wx.callF (run_callF Try.call16 rfl) (F16 hS.fb_lt) rfl ?_
    rintro r_55 w_56 hx_57 rfl
    have hS := hS.ext hx_57
    refine Wx.rd (v := .bool true) (rd_pickT rfl rfl) rfl ?_
    refine Wx.rd (v := .bool true) (rd_assign rfl) rfl ?_
    refine Wx.nil ?_
    exact W.ret ⟨.bool true, ResIs.one, hS.bel, rfl⟩
end Go.Proofs.Ytjbcpggikaeleaa

namespace Go.Wk
open Go.RowKit Go.ChangeShapes
section
variable {H : Type} {enc : TypeId × Value → H} {P : Program} {W : World}
theorem RdI.arrayN {k : IntKind} {n m : Nat} {e t : TypeId} (hu : P.underlying t = some (.array n e)) (he : RdI enc P W k m e) (hc : P.cellsOf e = m) (hn : P.cellsOf t = n * m) : RdI enc P W k (n * m) t := by
  intro fuel cs x h
  obtain ⟨xs, f', _, _, hl, hx, hel⟩ := DataW.trod_array hu h
  rw [hc] at hel
  rw [hn] at hl
  have h1 : ∀ j, j ≤ n → ∃ zs : List Int, zs.length = j * m ∧ cs.take (j * m) = zs.map (Value.int k) ∧ ∀ z ∈ zs, InK k z := by
    intro j
    induction j with
    | zero => exact fun _ => ⟨[], by simp, by simp, fun z hz => by cases hz⟩
    | succ j ih =>
      intro hj
      obtain ⟨zs, l1, l2, l3⟩ := ih (by omega)
      have := hel j (by omega)
      cases hxi : xs[j]? with
      | none => rw [List.getElem?_eq_none_iff] at hxi; omega
      | some y =>
        rw [hxi] at this
        obtain ⟨zt, m1, m2, m3⟩ := he _ _ _ this
        refine ⟨zs ++ zt, by rw [List.length_append, l1, m1, Nat.succ_mul], ?_, fun z hz => (List.mem_append.1 hz).elim (l3 z) (m3 z)⟩
        rw [Nat.succ_mul, List.take_add, l2, List.map_append, ← m2]
  obtain ⟨zs, l1, l2, l3⟩ := h1 n (Nat.le_refl n)
  exact ⟨zs, l1, by rw [← l2, List.take_of_length_le (by omega)], l3⟩
end
end Go.Wk

namespace Go.Wk
open Go.RowKit Go.ChangeShapes
section
variable {H : Type} {enc : TypeId × Value → H} {P : Program} {W : World}
theorem drop_split (l : List Value) (a b : Nat) : l.drop a = (l.drop a).take b ++ l.drop (a + b) := by
  have := (List.take_append_drop b (l.drop a)).symm
  rw [List.drop_drop] at this
  exact this
theorem RdI.struct5 {k : IntKind} {t : TypeId} {f0 f1 f2 f3 f4 : Field} {m0 m1 m2 m3 m4 : Nat} (hu : P.underlying t = some (.struct #[f0, f1, f2, f3, f4])) (h0 : RdI enc P W k m0 f0.type) (h1 : RdI enc P W k m1 f1.type) (h2 : RdI enc P W k m2 f2.type) (h3 : RdI enc P W k m3 f3.type) (h4 : RdI enc P W k m4 f4.type)
    (c0 : P.cellsOf f0.type = m0) (c1 : P.cellsOf f1.type = m1) (c2 : P.cellsOf f2.type = m2) (c3 : P.cellsOf f3.type = m3) (c4 : P.cellsOf f4.type = m4) (o0 : f0.offset = 0) (o1 : f1.offset = m0) (o2 : f2.offset = m0 + m1) (o3 : f3.offset = m0 + m1 + m2) (o4 : f4.offset = m0 + m1 + m2 + m3)
    (hC : P.cellsOf t = m0 + m1 + m2 + m3 + m4) : RdI enc P W k (m0 + m1 + m2 + m3 + m4) t := by
  intro fuel cs x h
  obtain ⟨xs, n, _, rfl, hl, hlen, hf⟩ := DataW.trod_struct hu h
  match xs, hlen with
  | [y0, y1, y2, y3, y4], _ =>
    have r0 := hf 0 f0 rfl
    have r1 := hf 1 f1 rfl
    have r2 := hf 2 f2 rfl
    have r3 := hf 3 f3 rfl
    have r4 := hf 4 f4 rfl
    rw [c0, o0] at r0
    rw [c1, o1] at r1
    rw [c2, o2] at r2
    rw [c3, o3] at r3
    rw [c4, o4] at r4
    rw [hC] at hl
    obtain ⟨z0, l0, e0, i0⟩ := h0 _ _ _ (by simpa using r0)
    obtain ⟨z1, l1, e1, i1⟩ := h1 _ _ _ (by simpa using r1)
    obtain ⟨z2, l2, e2, i2⟩ := h2 _ _ _ (by simpa using r2)
    obtain ⟨z3, l3, e3, i3⟩ := h3 _ _ _ (by simpa using r3)
    obtain ⟨z4, l4, e4, i4⟩ := h4 _ _ _ (by simpa using r4)
    refine ⟨z0 ++ (z1 ++ (z2 ++ (z3 ++ z4))), by simp only [List.length_append, l0, l1, l2, l3, l4]; omega, ?_, fun z hz => ?_⟩
    · have e5 : (cs.drop (m0 + m1 + m2 + m3)).take m4 = cs.drop (m0 + m1 + m2 + m3) := List.take_of_length_le (by rw [List.length_drop]; omega)
      rw [List.map_append, List.map_append, List.map_append, List.map_append, ← e0, ← e1, ← e2, ← e3, ← e4, e5, ← drop_split, ← drop_split, ← drop_split, List.take_append_drop]
    · rw [List.mem_append, List.mem_append, List.mem_append, List.mem_append] at hz
      rcases hz with hz | hz | hz | hz | hz
      · exact i0 z hz
      · exact i1 z hz
      · exact i2 z hz
      · exact i3 z hz
      · exact i4 z hz
end
end Go.Wk

namespace Go.Proofs.Ytjbcpggikaeleaa.tasteRinged
open Go.ChangeShapes Go.WideShapes Go.ChangeAt Go.RowKit Go.Joins Go.Wk
set_option linter.unusedVariables false

theorem own : ownKnob Try.prog.godebug = none := by kernel_rfl
theorem laidOut : laidOutB Try.prog = true := by kernel_rfl
theorem cells5 : Try.prog.cellsOf 5 = 1 := by kernel_rfl
theorem cells63 : Try.prog.cellsOf 63 = 3 := by kernel_rfl
theorem cells64 : Try.prog.cellsOf 64 = 18 := by kernel_rfl
theorem cells66 : Try.prog.cellsOf 66 = 39 := by kernel_rfl

set_option maxRecDepth 100000 in
theorem lifted (os : Os) (started : os.Started) (H : Type) (enc : TypeId × Value → H) :
    ReturnsInHanded {} Try.checked os 9 .any (Rows.tasteRingedSpec.pre6 enc Try.prog Try.f9 Rows.tasteRingedRow.domain false) (Rows.tasteRingedSpec.post enc Try.prog Try.f9 false true false false) := by
  refine returnsInHanded_of_change (C := Try.checked) own started (by kernel_rfl) Try.func9
    (ChangeSpec.witness6 (enc := enc) (C := Try.checked) false ⟨#[], #[.agg #[.int .u8 0, .int .u8 0, .int .u8 0, .int .u8 0, .int .u8 0, .int .u8 0, .int .u8 0, .int .u8 0, .int .u8 0, .int .u8 0, .int .u8 0, .int .u8 0, .int .u8 0, .int .u8 0, .int .u8 0, .int .u8 0, .int .u8 0, .int .u8 0, .int .u8 0, .int .u8 0, .int .u8 0, .int .u8 0, .int .u8 0, .int .u8 0, .int .u8 0, .int .u8 0, .int .u8 0, .int .u8 0, .int .u8 0, .int .u8 0, .int .u8 0, .int .u8 0, .int .u8 0, .int .u8 0, .int .u8 0, .int .u8 0, .int .u8 0, .int .u8 0, .int .u8 0]], []⟩ 8 (by kernel_rfl) (by kernel_rfl) (by kernel_rfl) (by kernel_rfl)) ?_
  intro W base args ds gs before hval0 hW hcnd _
  have hval : ∀ (j : Nat) t v, Try.f9.params[j]? = some t → args[j]? = some v → Value.okWide Try.prog W .any base t v := hval0
  have hW' := hW
  obtain ⟨p, q, hA0, hV, rfl, hfz, hnd⟩ := hW
  have hA : DataW.TrodAll enc Try.prog W 0 (fun _ => true) true Try.f9.params.toList args.toList ds p := hA0
  rw [Try.params9] at hA hval
  obtain ⟨v0, vs0, d0, ds0, p0, q0, hargs, rfl, rfl, h0, r0⟩ := trodAll_cons hA
  obtain ⟨rfl, rfl, rfl⟩ := trodAll_nil r0
  obtain rfl : args = #[v0] := by cases args; simp_all
  obtain ⟨rfl, rfl⟩ := trodVars_none hV
  have k0 := h0
  have lt0 : ∀ x ∈ p0, x.block < W.heap.size := by obtain ⟨m, hm⟩ := k0; exact DataW.trod_lt m _ _ _ hm
  obtain ⟨cs0, rfl, hsz0⟩ := okWide_struct Try.underlying66 (hval 0 66 v0 rfl rfl)
  obtain ⟨zs0, hz0, rfl, hin0⟩ := RdI.v (RdI.struct5 Try.underlying66 (RdI.int Try.underlying5) (RdI.int Try.underlying5) (RdI.int Try.underlying5) (RdI.arrayN (n := 6) Try.underlying64 (RdI.array Try.underlying63 Try.underlying5 cells5 cells63) cells63 cells64) (RdI.arrayN (n := 6) Try.underlying64 (RdI.array Try.underlying63 Try.underlying5 cells5 cells63) cells63 cells64) cells5 cells5 cells5 cells64 cells64 rfl rfl rfl rfl rfl cells66) h0
  clear hA0 hval0
  refine (F9 hz0 hin0 (fun b (h : some b ∈ ([] : List (Option Nat))) => nomatch h)).mono fun e W' hE => ?_
  obtain ⟨r, he, bel, hr⟩ := hE
  subst he
  subst hr
  exact ⟨_, rfl, _, _, _, [], _, [], hW', trodAll_mk1 (shut_bool Try.underlying4 _), (trodAll_cons_mk (Below.trod laidOut (by kernel_rfl) (of_decide_eq_true (by kernel_rfl)) k0 bel lt0) trodAll_mk0), rfl, bel.frame _, fun h => by cases h⟩

theorem over : Rows.tasteRingedRow.holds Try.pinned (OpenSpec.ofChange Rows.tasteRingedSpec) :=
  OpenClaim.holds_of_wide 9 Try.f9 rfl rfl rfl rfl rfl rfl rfl ⟨rfl, rfl, rfl, rfl, rfl⟩ rfl rfl rfl rfl rfl (by kernel_rfl) Try.func9 (by kernel_rfl)
    (of_decide_eq_true (by kernel_rfl)) (by unfold Func.isWrapper; first | (rw [if_pos (by decide +kernel)]; kernel_rfl) | (rw [if_neg (by decide +kernel)]; exact ⟨rfl, rfl⟩))
    (fun os started H enc _ => lifted os started H enc)

end Go.Proofs.Ytjbcpggikaeleaa.tasteRinged
namespace Go.Proofs.Ytjbcpggikaeleaa
/-- The statement. -/
theorem tasteRinged_proved : Rows.TasteRingedSaid := tasteRinged.over
#print axioms tasteRinged_proved
end Go.Proofs.Ytjbcpggikaeleaa
