/-
  WHAT IS PROVED HERE, TEXT BY TEXT (several texts of one prover, joined to one file; the conditions stand in each statement):
  * WHAT IS PROVED HERE: what functions of layer 10 hand back, each out of its own code; the conditions stand in each statement.
  * WHAT IS PROVED HERE: what TasteShown's function that is given each list keeps: the best list so far. Conditions stand in each statement.
  * WHAT IS PROVED HERE: what functions of layer 10 hand back, each out of its own code; the conditions stand in each statement.
  * WHAT IS PROVED HERE: what functions of layer 10 hand back, each out of its own code; the conditions stand in each statement.
  * WHAT IS PROVED HERE: arrays of arrays of numbers as they are read at the start. Conditions: the types' closed facts, as hypotheses.
  * WHAT IS PROVED HERE: structs of five parts, integers of one kind all, as they are read at the start. Conditions: the types' closed facts, as hypotheses.
  * WHAT IS PROVED HERE: the given statement of TasteShown: for every input it returns true, and each argument reads as it did. Conditions: none.
-/
import Derived.Test.YtjbcpggikaeleaaProg
import Derived.Test.YtjbcpggikaeleaaU2
import Derived.Test.YtjbcpggikaeleaaU5
import Derived.Test.YtjbcpggikaeleaaU3
import Derived.Test.YtjbcpggikaeleaaRows
import Derived.WalkKit
import Derived.ProofKit
import Derived.OpenShut
import Derived.Carry
import Derived.Lib.SmallJoins

set_option linter.unusedVariables false
set_option linter.unusedSimpArgs false

namespace Go.Proofs.Ytjbcpggikaeleaa
open Go.Wk Go.RowKit Go.Lib
set_option linter.unusedVariables false
set_option linter.unusedSimpArgs false
theorem mixedMa_ : Try.prog.follows .mixedOrders = true := by kernel_rfl

set_option maxHeartbeats 4000000 in
set_option maxRecDepth 10000 in
theorem F54 {l : List Sale} {rg best : List Int} {lv bv sv : Value} {a b : Int} {ga gc gs gb : Nat} {ob : List Ob} {w0 w : World} {O : List (Option Nat)} (p_ok : SalesOK l) (i_a : InK .i64 a) (i_b : InK .i64 b) (p_1 : 1 ≤ (rg.length : Int)) (p_b : ∀ x ∈ rg, 0 ≤ x ∧ x < (l.length : Int)) (p_d : rg.Nodup) (p_nz : best = [] → bv = .slice none 0 0) (hS : St w0 O w (Ob.v (tSl (tI .i64)) best bv :: Ob.v (tSl (tP (tSl (tI .i64)) (tSl (tI .i64)))) l sv :: .box ga 3 [.int .i64 a] :: .box gc 3 [.int .i64 b] :: .box gs 22 [sv] :: .box gb 39 [bv] :: ob)) (hv : V (tSl tInt) rg lv (fb (Ob.v (tSl (tI .i64)) best bv :: Ob.v (tSl (tP (tSl (tI .i64)) (tSl (tI .i64)))) l sv :: .box ga 3 [.int .i64 a] :: .box gc 3 [.int .i64 b] :: .box gs 22 [sv] :: .box gb 39 [bv] :: ob) O) w) : Calls Try.prog 54 #[lv, (.pointer (some ⟨ga, 0, none⟩)), (.pointer (some ⟨gc, 0, none⟩)), (.pointer (some ⟨gs, 0, none⟩)), (.pointer (some ⟨gb, 0, none⟩))] w (Bk fun r w' => r = .tuple #[] ∧ ∃ bv' best', best' = keepT l a b best rg ∧ (best' = [] → bv' = .slice none 0 0) ∧ St w0 O w' (Ob.v (tSl (tI .i64)) best' bv' :: Ob.v (tSl (tP (tSl (tI .i64)) (tSl (tI .i64)))) l sv :: .box ga 3 [.int .i64 a] :: .box gc 3 [.int .i64 b] :: .box gs 22 [sv] :: .box gb 39 [bv'] :: ob)) := by
  obtain ⟨gd, hgd, hok⟩ := p_ok.at
  have hl6 := p_ok.1
  have b_a := bd_i64 i_a
  have b_b := bd_i64 i_b
  have hne : rg ≠ [] := by rintro rfl; simp at p_1
  have hS := hS.add (hv)
  have ln_2 := (hS.v 0 rfl).len63
  refine enterB Try.func54 rfl Try.ntmps54 Try.results54 rfl ?_
  refine W.seq ?_
  refine W.seq ?_
  refine W.regQ mixedMa_ (by kernel_rfl) ?_
  refine Wx.rd (v := lv) (rd_move rfl) rfl ?_
  refine Wx.ex (rd_index 0 (hS.v 0 rfl) rfl rfl Try.underlying39 Try.sizeOf3 (by first | omega | (simp only [List.length_set, List.length_append, List.length_cons, List.length_nil, List.length_replicate]; omega)) (by first | omega | (simp only [List.length_set, List.length_append, List.length_cons, List.length_nil, List.length_replicate]; omega))) rfl (fun p_3 hp_4 => ?_)
  refine Wx.rd (v := .int .i64 (ix 0 rg 0)) (rd_loadI hp_4 rfl Try.isAgg3 Try.sizeOf3) rfl ?_
  have bd_5 := bd_i64 hp_4.inK
  refine Wx.rd (v := .int .i64 a) (rd_loadX hS 3 rfl rfl rfl Try.isAgg3) rfl ?_
  refine Wx.rd (v := .bool (decide ((ix 0 rg 0) ≠ a))) (rd_neq rfl rfl) rfl ?_
  refine Wx.rd (v := .bool (decide ((ix 0 rg 0) ≠ a))) (rd_move rfl) rfl ?_
  refine Wx.cutQ (X := Unit) 9 [13, 14, 15, 16, 17, 18, 19, 20, 21] (fun _ => [(21, .bool (decide ((ix 0 rg 0) ≠ a) || decide ((ix 0 rg ((rg.length : Int) - 1)) ≠ b)))]) (fun _ => True) ?_ ?_
  · rcases Bool.eq_false_or_eq_true (decide ((ix 0 rg 0) ≠ a)) with g_6 | g_6
    · -- True
      have gp_7 := of_decide_eq_true g_6
      refine Wx.gnoB rfl rfl (congrArg Value.bool g_6) rfl rfl ?_
      refine Wx.gnoB rfl rfl (congrArg Value.bool g_6) rfl rfl ?_
      refine Wx.gnoB rfl rfl (congrArg Value.bool g_6) rfl rfl ?_
      refine Wx.gnoB rfl rfl (congrArg Value.bool g_6) rfl rfl ?_
      refine Wx.gnoB rfl rfl (congrArg Value.bool g_6) rfl rfl ?_
      refine Wx.gnoB rfl rfl (congrArg Value.bool g_6) rfl rfl ?_
      refine Wx.gnoB rfl rfl (congrArg Value.bool g_6) rfl rfl ?_
      refine Wx.gnoB rfl rfl (congrArg Value.bool g_6) rfl rfl ?_
      refine Wx.rd (v := .bool true) (rd_pickT (congrArg Value.bool g_6) rfl) rfl ?_
      refine Wx.nilQ (fun _ _ => ⟨(), trivial, ⟨?_, trivial⟩, Out.look rfl Out.refl⟩)
      show Value.bool true = Value.bool (decide ((ix 0 rg 0) ≠ a) || decide ((ix 0 rg ((rg.length : Int) - 1)) ≠ b))
      first | rw [g_6, Bool.true_or] | (rw [g_6]; rfl)
    · -- False
      have gp_8 := of_decide_eq_false g_6
      refine Wx.gyes rfl rfl (congrArg Value.bool g_6) ?_
      refine Wx.rd (v := lv) (rd_move rfl) rfl ?_
      refine Wx.gyes rfl rfl (congrArg Value.bool g_6) ?_
      refine Wx.rd (v := lv) (rd_move rfl) rfl ?_
      refine Wx.gyes rfl rfl (congrArg Value.bool g_6) ?_
      refine Wx.rd (v := .int .i64 (rg.length : Int)) (rd_lenV rfl (hS.v 0 rfl) Try.underlying39) rfl ?_
      refine Wx.gyes rfl rfl (congrArg Value.bool g_6) ?_
      refine Wx.rd (v := .int .i64 ((rg.length : Int) - 1)) (rd_sub rfl rfl (in_i64 (by omega) (by omega))) rfl ?_
      refine Wx.gyes rfl rfl (congrArg Value.bool g_6) ?_
      refine Wx.ex (rd_index 0 (hS.v 0 rfl) rfl rfl Try.underlying39 Try.sizeOf3 (by first | omega | (simp only [List.length_set, List.length_append, List.length_cons, List.length_nil, List.length_replicate]; omega)) (by first | omega | (simp only [List.length_set, List.length_append, List.length_cons, List.length_nil, List.length_replicate]; omega))) rfl (fun p_9 hp_10 => ?_)
      refine Wx.gyes rfl rfl (congrArg Value.bool g_6) ?_
      refine Wx.rd (v := .int .i64 (ix 0 rg ((rg.length : Int) - 1))) (rd_loadI hp_10 rfl Try.isAgg3 Try.sizeOf3) rfl ?_
      have bd_11 := bd_i64 hp_10.inK
      refine Wx.gyes rfl rfl (congrArg Value.bool g_6) ?_
      refine Wx.rd (v := .int .i64 b) (rd_loadX hS 4 rfl rfl rfl Try.isAgg3) rfl ?_
      refine Wx.gyes rfl rfl (congrArg Value.bool g_6) ?_
      refine Wx.rd (v := .bool (decide ((ix 0 rg ((rg.length : Int) - 1)) ≠ b))) (rd_neq rfl rfl) rfl ?_
      refine Wx.rd (v := .bool (decide ((ix 0 rg ((rg.length : Int) - 1)) ≠ b))) (rd_pickF (congrArg Value.bool g_6) rfl) rfl ?_
      refine Wx.nilQ (fun _ _ => ⟨(), trivial, ⟨?_, trivial⟩, Out.look rfl Out.refl⟩)
      show Value.bool (decide ((ix 0 rg ((rg.length : Int) - 1)) ≠ b)) = Value.bool (decide ((ix 0 rg 0) ≠ a) || decide ((ix 0 rg ((rg.length : Int) - 1)) ≠ b))
      first | rw [g_6, Bool.false_or] | (rw [g_6]; rfl)
  rintro ⟨⟩ u_13 -
  refine Wx.nilQ (fun w_14 hx_15 => ?_)
  have hS := hS.ext hx_15
  refine W.cond rfl (fun c0 => ?_) (fun c0 => ?_)
  · -- yes
    try simp only [Bool.and_eq_true, Bool.or_eq_true, Bool.not_eq_true', Bool.and_eq_false_iff, Bool.or_eq_false_iff, Bool.not_eq_false', decide_eq_true_eq, decide_eq_false_iff_not, not_or, Bool.false_eq_true, Bool.true_eq_false, false_or, or_false, not_false_eq_true] at c0
    exact W.ret ⟨.tuple #[], ResIs.zero, rfl, _, _, kt_end c0, p_nz, (St.tl hS)⟩
  · -- no
    try simp only [Bool.and_eq_true, Bool.or_eq_true, Bool.not_eq_true', Bool.and_eq_false_iff, Bool.or_eq_false_iff, Bool.not_eq_false', decide_eq_true_eq, decide_eq_false_iff_not, not_or, Bool.false_eq_true, Bool.true_eq_false, false_or, or_false, not_false_eq_true] at c0
    refine W.skip ?_
    refine W.seq ?_
    refine W.seq ?_
    refine W.reg ?_
    refine Wx.rd (v := .int .i64 1) (rd_assign rfl) rfl ?_
    refine Wx.nil ?_
    refine W.block ?_
    refine W.loop [6, 22, 23, 24, 25, 26, 27, 28, 29, 30, 31, 32, 33, 34, 35, 36, 37, 38, 39, 40, 41, 42, 43, 44] (fun (k : Int) => [(6, .int .i64 k)]) (fun (k : Int) w' => St w0 O w' (Ob.v (tSl (tI .i64)) rg lv :: Ob.v (tSl (tI .i64)) best bv :: Ob.v (tSl (tP (tSl (tI .i64)) (tSl (tI .i64)))) l sv :: .box ga 3 [.int .i64 a] :: .box gc 3 [.int .i64 b] :: .box gs 22 [sv] :: .box gb 39 [bv] :: ob) ∧ 1 ≤ k ∧ k ≤ rg.length ∧ (∀ i : Int, 1 ≤ i → i < k → chB (gS l) rg i = true)) (fun (k : Int) => (rg.length - k).toNat) 1 ⟨rfl, trivial⟩ ⟨hS, (by first | omega | simp), (by omega), (fun i i0 i1 => by omega)⟩ ?_
    rintro k u_17 w_16 ⟨hS, h0, h1, h2⟩
    refine W.seq ?_
    refine W.seq ?_
    refine W.reg ?_
    refine Wx.rd (v := .int .i64 k) (rd_move rfl) rfl ?_
    refine Wx.rd (v := lv) (rd_move rfl) rfl ?_
    refine Wx.rd (v := .int .i64 (rg.length : Int)) (rd_lenV rfl (hS.v 0 rfl) Try.underlying39) rfl ?_
    refine Wx.rd (v := .bool (decide (k < (rg.length : Int)))) (rd_lss rfl rfl) rfl ?_
    refine Wx.nil ?_
    refine W.condD rfl (fun c1 => ?_) (fun c1 => ?_)
    · -- yes
      have hka := ring_in p_b (show 0 ≤ k - 1 by omega) (show k - 1 < (rg.length : Int) by omega)
      have hkb := ring_in p_b (show 0 ≤ k by omega) c1
      refine W.skip ?_
      refine W.seq ?_
      refine W.block ?_
      refine W.seq ?_
      refine W.regQ mixedMa_ (by kernel_rfl) ?_
      refine Wx.rd (v := sv) (rd_loadX hS 5 rfl rfl rfl Try.isAgg22) rfl ?_
      refine Wx.rd (v := lv) (rd_move rfl) rfl ?_
      refine Wx.rd (v := .int .i64 k) (rd_move rfl) rfl ?_
      refine Wx.rd (v := .int .i64 (k - 1)) (rd_sub rfl rfl (in_i64 (by omega) (by omega))) rfl ?_
      refine Wx.ex (rd_index 0 (hS.v 0 rfl) rfl rfl Try.underlying39 Try.sizeOf3 (by first | omega | (simp only [List.length_set, List.length_append, List.length_cons, List.length_nil, List.length_replicate]; omega)) (by first | omega | (simp only [List.length_set, List.length_append, List.length_cons, List.length_nil, List.length_replicate]; omega))) rfl (fun p_18 hp_19 => ?_)
      refine Wx.rd (v := .int .i64 (ix 0 rg (k - 1))) (rd_loadI hp_19 rfl Try.isAgg3 Try.sizeOf3) rfl ?_
      have bd_20 := bd_i64 hp_19.inK
      refine Wx.ex (rd_index ([], []) (hS.v 2 rfl) rfl rfl Try.underlying22 Try.sizeOf62 (by first | omega | (simp only [List.length_set, List.length_append, List.length_cons, List.length_nil, List.length_replicate]; omega)) (by first | omega | (simp only [List.length_set, List.length_append, List.length_cons, List.length_nil, List.length_replicate]; omega))) rfl (fun p_21 hp_22 => ?_)
      refine Wx.ex (rd_load hp_22 rfl Try.isAgg62 Try.sizeOf62) rfl (fun v_23 hv_24 => ?_)
      obtain ⟨v_25, v_26, rfl, hv_27, hv_28⟩ := hv_24.s2
      have hS := hS.add (hv_27)
      have ln_30 := (hS.v 0 rfl).len63
      have hS := hS.add (V.upF (hv_28))
      have ln_32 := (hS.v 0 rfl).len63
      refine Wx.rd (v := sv) (rd_loadX hS 7 rfl rfl rfl Try.isAgg22) rfl ?_
      refine Wx.rd (v := lv) (rd_move rfl) rfl ?_
      refine Wx.rd (v := .int .i64 k) (rd_move rfl) rfl ?_
      refine Wx.ex (rd_index 0 (hS.v 2 rfl) rfl rfl Try.underlying39 Try.sizeOf3 (by first | omega | (simp only [List.length_set, List.length_append, List.length_cons, List.length_nil, List.length_replicate]; omega)) (by first | omega | (simp only [List.length_set, List.length_append, List.length_cons, List.length_nil, List.length_replicate]; omega))) rfl (fun p_33 hp_34 => ?_)
      refine Wx.rd (v := .int .i64 (ix 0 rg k)) (rd_loadI hp_34 rfl Try.isAgg3 Try.sizeOf3) rfl ?_
      have bd_35 := bd_i64 hp_34.inK
      refine Wx.ex (rd_index ([], []) (hS.v 4 rfl) rfl rfl Try.underlying22 Try.sizeOf62 (by first | omega | (simp only [List.length_set, List.length_append, List.length_cons, List.length_nil, List.length_replicate]; omega)) (by first | omega | (simp only [List.length_set, List.length_append, List.length_cons, List.length_nil, List.length_replicate]; omega))) rfl (fun p_36 hp_37 => ?_)
      refine Wx.ex (rd_load hp_37 rfl Try.isAgg62 Try.sizeOf62) rfl (fun v_38 hv_39 => ?_)
      obtain ⟨v_40, v_41, rfl, hv_42, hv_43⟩ := hv_39.s2
      have hS := hS.add (hv_42)
      have ln_45 := (hS.v 0 rfl).len63
      have hS := hS.add (V.upF (hv_43))
      have ln_47 := (hS.v 0 rfl).len63
      refine Wx.callV (v := .int .i64 (leadS (((ix ([], []) l (ix 0 rg (k - 1))).1), ((ix ([], []) l (ix 0 rg (k - 1))).2)) (((ix ([], []) l (ix 0 rg k)).1), ((ix ([], []) l (ix 0 rg k)).2)))) (run_callF Try.call53 rfl) (fun w_48 hw_49 => (F53 ((hS.v 3 rfl).ext hw_49) ((hS.v 2 rfl).ext hw_49) ((hS.v 1 rfl).ext hw_49) ((hS.v 0 rfl).ext hw_49) (hok (ix 0 rg (k - 1)) (by omega) (by omega)).b1 (hok (ix 0 rg (k - 1)) (by omega) (by omega)).b2 (hok (ix 0 rg k) (by omega) (by omega)).b2 (by have := (hok (ix 0 rg (k - 1)) (by omega) (by omega)).l1; omega) (by have h1 := (hok (ix 0 rg (k - 1)) (by omega) (by omega)).l1; have h2 := (hok (ix 0 rg (k - 1)) (by omega) (by omega)).l2; omega) (by have h1 := (hok (ix 0 rg (k - 1)) (by omega) (by omega)).l1; have h2 := (hok (ix 0 rg k) (by omega) (by omega)).l2; omega))) rfl ?_
      rw [show (leadS (((ix ([], []) l (ix 0 rg (k - 1))).1), ((ix ([], []) l (ix 0 rg (k - 1))).2)) (((ix ([], []) l (ix 0 rg k)).1), ((ix ([], []) l (ix 0 rg k)).2)) : Int) = leadS (ix ([], []) l (ix 0 rg (k - 1))) (ix ([], []) l (ix 0 rg k)) from rfl]
      have hld := lead_bd9 (hok (ix 0 rg (k - 1)) (by omega) (by omega)) hgd.2 (hok (ix 0 rg k) (by omega) (by omega))
      refine Wx.rd (v := .bool (decide ((leadS (ix ([], []) l (ix 0 rg (k - 1))) (ix ([], []) l (ix 0 rg k))) < 0))) (rd_lss rfl rfl) rfl ?_
      refine Wx.nilQ (fun w_50 hx_51 => ?_)
      have hS := hS.ext hx_51
      refine W.condD rfl (fun c2 => ?_) (fun c2 => ?_)
      · -- yes
        exact W.ret ⟨.tuple #[], ResIs.zero, rfl, _, _, kt_bad h0 c1 (decide_eq_false (by omega)), p_nz, (St.tl (St.tl (St.tl (St.tl (St.tl hS)))))⟩
      · -- no
        refine W.skip ?_
        refine W.reg ?_
        refine Wx.rd (v := .int .i64 k) (rd_move rfl) rfl ?_
        refine Wx.rd (v := .int .i64 (k + 1)) (rd_add rfl rfl (in_i64 (by omega) (by omega))) rfl ?_
        refine Wx.rd (v := .int .i64 (k + 1)) (rd_assign rfl) rfl ?_
        refine Wx.nil ?_
        refine ⟨k + 1, (by show (rg.length - (k + 1)).toNat < (rg.length - k).toNat; omega), ?_, ?_, Out.look rfl Out.self⟩
        · exact ⟨St.tl (St.tl (St.tl (hS.tl))), (by first | omega | assumption), (by first | omega | assumption), (fun i i0 i1 => by by_cases e : i = k; (rw [e]; exact decide_eq_true (by omega)); exact h2 i i0 (by omega))⟩
        · exact ⟨rfl, trivial⟩
    · -- no
      refine W.exit rfl ?_
      refine W.seq ?_
      refine W.reg ?_
      refine Wx.rd (v := bv) (rd_loadX hS 6 rfl rfl rfl Try.isAgg39) rfl ?_
      refine Wx.rd (v := .bool (decide (best = []))) (rd_eqlNilI (hS.v 1 rfl) rfl rfl Try.underlying39 p_nz) rfl ?_
      refine Wx.rd (v := .bool (decide (best = []))) (rd_move rfl) rfl ?_
      refine Wx.cut (X := Unit) 6 [48, 49, 50, 51, 52, 53] (fun _ => [(53, .bool (decide (best = []) || decide ((rg.length : Int) < (best.length : Int))))]) (fun _ w' => St w0 O w' (Ob.v (tSl (tI .i64)) rg lv :: Ob.v (tSl (tI .i64)) best bv :: Ob.v (tSl (tP (tSl (tI .i64)) (tSl (tI .i64)))) l sv :: .box ga 3 [.int .i64 a] :: .box gc 3 [.int .i64 b] :: .box gs 22 [sv] :: .box gb 39 [bv] :: ob)) ?_ ?_
      · rcases Bool.eq_false_or_eq_true (decide (best = [])) with g_52 | g_52
        · -- True
          have gp_53 := of_decide_eq_true g_52
          refine Wx.gnoB rfl rfl (congrArg Value.bool g_52) rfl rfl ?_
          refine Wx.gnoB rfl rfl (congrArg Value.bool g_52) rfl rfl ?_
          refine Wx.gnoB rfl rfl (congrArg Value.bool g_52) rfl rfl ?_
          refine Wx.gnoB rfl rfl (congrArg Value.bool g_52) rfl rfl ?_
          refine Wx.gnoB rfl rfl (congrArg Value.bool g_52) rfl rfl ?_
          refine Wx.rd (v := .bool true) (rd_pickT (congrArg Value.bool g_52) rfl) rfl ?_
          refine Wx.nil ⟨(), hS, ⟨?_, trivial⟩, Out.look rfl Out.refl⟩
          show Value.bool true = Value.bool (decide (best = []) || decide ((rg.length : Int) < (best.length : Int)))
          first | rw [g_52, Bool.true_or] | (rw [g_52]; rfl)
        · -- False
          have gp_54 := of_decide_eq_false g_52
          refine Wx.gyes rfl rfl (congrArg Value.bool g_52) ?_
          refine Wx.rd (v := lv) (rd_move rfl) rfl ?_
          refine Wx.gyes rfl rfl (congrArg Value.bool g_52) ?_
          refine Wx.rd (v := .int .i64 (rg.length : Int)) (rd_lenV rfl (hS.v 0 rfl) Try.underlying39) rfl ?_
          refine Wx.gyes rfl rfl (congrArg Value.bool g_52) ?_
          refine Wx.rd (v := bv) (rd_loadX hS 6 rfl rfl rfl Try.isAgg39) rfl ?_
          refine Wx.gyes rfl rfl (congrArg Value.bool g_52) ?_
          refine Wx.rd (v := .int .i64 (best.length : Int)) (rd_lenV rfl (hS.v 1 rfl) Try.underlying39) rfl ?_
          refine Wx.gyes rfl rfl (congrArg Value.bool g_52) ?_
          refine Wx.rd (v := .bool (decide ((rg.length : Int) < (best.length : Int)))) (rd_lss rfl rfl) rfl ?_
          refine Wx.rd (v := .bool (decide ((rg.length : Int) < (best.length : Int)))) (rd_pickF (congrArg Value.bool g_52) rfl) rfl ?_
          refine Wx.nil ⟨(), hS, ⟨?_, trivial⟩, Out.look rfl Out.refl⟩
          show Value.bool (decide ((rg.length : Int) < (best.length : Int))) = Value.bool (decide (best = []) || decide ((rg.length : Int) < (best.length : Int)))
          first | rw [g_52, Bool.false_or] | (rw [g_52]; rfl)
      rintro ⟨⟩ u_56 w_55 hS
      refine Wx.rd (v := .bool (decide (best = []) || decide ((rg.length : Int) < (best.length : Int)))) (rd_move rfl) rfl ?_
      refine Wx.cut (X := Unit) 12 [55, 56, 57, 58, 59, 60, 61, 62, 63, 64, 65, 66] (fun _ => [(66, .bool ((decide (best = []) || decide ((rg.length : Int) < (best.length : Int))) || (decide ((rg.length : Int) = (best.length : Int)) && decide ((cmpL rg best) < 0))))]) (fun _ w' => St w0 O w' (Ob.v (tSl (tI .i64)) rg lv :: Ob.v (tSl (tI .i64)) best bv :: Ob.v (tSl (tP (tSl (tI .i64)) (tSl (tI .i64)))) l sv :: .box ga 3 [.int .i64 a] :: .box gc 3 [.int .i64 b] :: .box gs 22 [sv] :: .box gb 39 [bv] :: ob)) ?_ ?_
      · rcases Bool.eq_false_or_eq_true (decide (best = []) || decide ((rg.length : Int) < (best.length : Int))) with g_57 | g_57
        · -- True
          have gp_58 := g_57
          try simp only [Bool.and_eq_true, Bool.or_eq_true, Bool.not_eq_true', Bool.and_eq_false_iff, Bool.or_eq_false_iff, Bool.not_eq_false', decide_eq_true_eq, decide_eq_false_iff_not, not_or, Bool.false_eq_true, Bool.true_eq_false, false_or, or_false, not_false_eq_true] at gp_58
          refine Wx.gnoB rfl rfl (congrArg Value.bool g_57) rfl rfl ?_
          refine Wx.gnoB rfl rfl (congrArg Value.bool g_57) rfl rfl ?_
          refine Wx.gnoB rfl rfl (congrArg Value.bool g_57) rfl rfl ?_
          refine Wx.gnoB rfl rfl (congrArg Value.bool g_57) rfl rfl ?_
          refine Wx.gnoB rfl rfl (congrArg Value.bool g_57) rfl rfl ?_
          refine Wx.gnoB rfl rfl (congrArg Value.bool g_57) rfl rfl ?_
          refine Wx.gno rfl rfl rfl rfl ?_
          refine Wx.gno rfl rfl rfl rfl ?_
          refine Wx.gno rfl rfl rfl rfl ?_
          refine Wx.gno rfl rfl rfl rfl ?_
          refine Wx.gnoB rfl rfl (congrArg Value.bool g_57) rfl rfl ?_
          refine Wx.rd (v := .bool true) (rd_pickT (congrArg Value.bool g_57) rfl) rfl ?_
          refine Wx.nil ⟨(), hS, ⟨?_, trivial⟩, Out.look rfl Out.refl⟩
          show Value.bool true = Value.bool ((decide (best = []) || decide ((rg.length : Int) < (best.length : Int))) || (decide ((rg.length : Int) = (best.length : Int)) && decide ((cmpL rg best) < 0)))
          first | rw [g_57, Bool.true_or] | (rw [g_57]; rfl)
        · -- False
          have gp_59 := g_57
          try simp only [Bool.and_eq_true, Bool.or_eq_true, Bool.not_eq_true', Bool.and_eq_false_iff, Bool.or_eq_false_iff, Bool.not_eq_false', decide_eq_true_eq, decide_eq_false_iff_not, not_or, Bool.false_eq_true, Bool.true_eq_false, false_or, or_false, not_false_eq_true] at gp_59
          refine Wx.gyes rfl rfl (congrArg Value.bool g_57) ?_
          refine Wx.rd (v := lv) (rd_move rfl) rfl ?_
          refine Wx.gyes rfl rfl (congrArg Value.bool g_57) ?_
          refine Wx.rd (v := .int .i64 (rg.length : Int)) (rd_lenV rfl (hS.v 0 rfl) Try.underlying39) rfl ?_
          refine Wx.gyes rfl rfl (congrArg Value.bool g_57) ?_
          refine Wx.rd (v := bv) (rd_loadX hS 6 rfl rfl rfl Try.isAgg39) rfl ?_
          refine Wx.gyes rfl rfl (congrArg Value.bool g_57) ?_
          refine Wx.rd (v := .int .i64 (best.length : Int)) (rd_lenV rfl (hS.v 1 rfl) Try.underlying39) rfl ?_
          refine Wx.gyes rfl rfl (congrArg Value.bool g_57) ?_
          refine Wx.rd (v := .bool (decide ((rg.length : Int) = (best.length : Int)))) (rd_eql rfl rfl) rfl ?_
          refine Wx.gyes rfl rfl (congrArg Value.bool g_57) ?_
          refine Wx.rd (v := .bool (decide ((rg.length : Int) = (best.length : Int)))) (rd_move rfl) rfl ?_
          refine Wx.cut (X := Unit) 5 [61, 62, 63, 64, 65] (fun _ => [(65, .bool (decide ((rg.length : Int) = (best.length : Int)) && decide ((cmpL rg best) < 0)))]) (fun _ w' => St w0 O w' (Ob.v (tSl (tI .i64)) rg lv :: Ob.v (tSl (tI .i64)) best bv :: Ob.v (tSl (tP (tSl (tI .i64)) (tSl (tI .i64)))) l sv :: .box ga 3 [.int .i64 a] :: .box gc 3 [.int .i64 b] :: .box gs 22 [sv] :: .box gb 39 [bv] :: ob)) ?_ ?_
          · rcases Bool.eq_false_or_eq_true (decide ((rg.length : Int) = (best.length : Int))) with g_60 | g_60
            · -- True
              have gp_61 := of_decide_eq_true g_60
              refine Wx.gyes rfl rfl (congrArg Value.bool g_60) ?_
              refine Wx.rd (v := lv) (rd_move rfl) rfl ?_
              refine Wx.gyes rfl rfl (congrArg Value.bool g_60) ?_
              refine Wx.rd (v := bv) (rd_loadX hS 6 rfl rfl rfl Try.isAgg39) rfl ?_
              refine Wx.gyes rfl rfl (congrArg Value.bool g_60) ?_
              refine Wx.callF (run_callF Try.call52 rfl) (F52 (hS.v 0 rfl) (hS.v 1 rfl)) rfl ?_
              rintro r_62 w_63 hx_64 rfl
              have hS := hS.ext hx_64
              refine Wx.gyes rfl rfl (congrArg Value.bool g_60) ?_
              refine Wx.rd (v := .bool (decide ((cmpL rg best) < 0))) (rd_lss rfl rfl) rfl ?_
              refine Wx.gyes rfl rfl (congrArg Value.bool g_57) ?_
              refine Wx.rd (v := .bool (decide ((cmpL rg best) < 0))) (rd_pickT (congrArg Value.bool g_60) rfl) rfl ?_
              refine Wx.nil ⟨(), hS, ⟨?_, trivial⟩, Out.look rfl Out.refl⟩
              show Value.bool (decide ((cmpL rg best) < 0)) = Value.bool (decide ((rg.length : Int) = (best.length : Int)) && decide ((cmpL rg best) < 0))
              first | rw [g_60, Bool.true_and] | (rw [g_60]; rfl)
            · -- False
              have gp_65 := of_decide_eq_false g_60
              refine Wx.gnoB rfl rfl (congrArg Value.bool g_60) rfl rfl ?_
              refine Wx.gnoB rfl rfl (congrArg Value.bool g_60) rfl rfl ?_
              refine Wx.gnoB rfl rfl (congrArg Value.bool g_60) rfl rfl ?_
              refine Wx.gnoB rfl rfl (congrArg Value.bool g_60) rfl rfl ?_
              refine Wx.gyes rfl rfl (congrArg Value.bool g_57) ?_
              refine Wx.rd (v := .bool false) (rd_pickF (congrArg Value.bool g_60) rfl) rfl ?_
              refine Wx.nil ⟨(), hS, ⟨?_, trivial⟩, Out.look rfl Out.refl⟩
              show Value.bool false = Value.bool (decide ((rg.length : Int) = (best.length : Int)) && decide ((cmpL rg best) < 0))
              first | rw [g_60, Bool.false_and] | (rw [g_60]; rfl)
          rintro ⟨⟩ u_67 w_66 hS
          refine Wx.rd (v := .bool (decide ((rg.length : Int) = (best.length : Int)) && decide ((cmpL rg best) < 0))) (rd_pickF (congrArg Value.bool g_57) rfl) rfl ?_
          refine Wx.nil ⟨(), hS, ⟨?_, trivial⟩, Out.look rfl (Out.hav rfl (Out.look rfl Out.refl))⟩
          show Value.bool (decide ((rg.length : Int) = (best.length : Int)) && decide ((cmpL rg best) < 0)) = Value.bool ((decide (best = []) || decide ((rg.length : Int) < (best.length : Int))) || (decide ((rg.length : Int) = (best.length : Int)) && decide ((cmpL rg best) < 0)))
          first | rw [g_57, Bool.false_or] | (rw [g_57]; rfl)
      rintro ⟨⟩ u_69 w_68 hS
      refine Wx.nil ?_
      refine W.cond rfl (fun c3 => ?_) (fun c3 => ?_)
      · -- yes
        try simp only [Bool.and_eq_true, Bool.or_eq_true, Bool.not_eq_true', Bool.and_eq_false_iff, Bool.or_eq_false_iff, Bool.not_eq_false', decide_eq_true_eq, decide_eq_false_iff_not, not_or, Bool.false_eq_true, Bool.true_eq_false, false_or, or_false, not_false_eq_true] at c3
        refine W.reg ?_
        refine Wx.rd (v := lv) (rd_move rfl) rfl ?_
        refine Wx.storeX (cs' := [lv]) (ds := [lv]) hS 6 rfl rfl rfl (Go.Wk.cells_one (V.oneC (hS.v 0 rfl))) Try.sizeOf39 (Nat.le_of_ble_eq_true rfl) (one_cons (V.oneC (hS.v 0 rfl)) one_nil) rfl (fun w_70 hz_71 hS => ?_)
        refine Wx.nil ?_
        have hS := hS.add (hS.v 0 rfl)
        have hS := hS.drop 2
        have hS := hS.front 6 rfl
        have hS := hS.front 6 rfl
        have hS := hS.front 6 rfl
        have hS := hS.front 6 rfl
        have hS := hS.front 6 rfl
        have hS := hS.front 5 rfl
        have hS := hS.front 6 rfl
        have hS : St _ _ w_70 (Ob.v (tSl (tI .i64)) rg lv :: Ob.v (tSl (tI .i64)) rg lv :: Ob.v (tSl (tP (tSl (tI .i64)) (tSl (tI .i64)))) l sv :: .box ga 3 [.int .i64 a] :: .box gc 3 [.int .i64 b] :: .box gs 22 [sv] :: .box gb 39 [lv] :: ob) := hS
        exact ⟨.tuple #[], ResIs.zero, rfl, _, _, kt_yes ⟨by omega, by omega⟩ (by omega) h2 c3, (fun h => absurd h hne), (St.tl hS)⟩
      · -- no
        try simp only [Bool.and_eq_true, Bool.or_eq_true, Bool.not_eq_true', Bool.and_eq_false_iff, Bool.or_eq_false_iff, Bool.not_eq_false', decide_eq_true_eq, decide_eq_false_iff_not, not_or, Bool.false_eq_true, Bool.true_eq_false, false_or, or_false, not_false_eq_true] at c3
        refine W.skip ?_
        exact ⟨.tuple #[], ResIs.zero, rfl, _, _, kt_no ⟨by omega, by omega⟩ (by omega) h2 c3, p_nz, (St.tl hS)⟩
end Go.Proofs.Ytjbcpggikaeleaa

namespace Go.Proofs.Ytjbcpggikaeleaa
open Go.Wk Go.RowKit
set_option linter.unusedVariables false

theorem each54 {l : List Sale} {a b : Int} {sv : Value} {ga gc gs gb : Nat} {R : List Ob} (p_ok : SalesOK l) (i_a : InK .i64 a) (i_b : InK .i64 b) : EachN Try.prog 54 [] [(.pointer (some ⟨ga, 0, none⟩)), (.pointer (some ⟨gc, 0, none⟩)), (.pointer (some ⟨gs, 0, none⟩)), (.pointer (some ⟨gb, 0, none⟩))] l.length
    (fun ls ob => ∃ bv best, (best = ls.foldl (keepT l a b) [] ∧ (best = [] → bv = .slice none 0 0)) ∧ ob = Ob.v (tSl (tI .i64)) best bv :: Ob.v (tSl (tP (tSl (tI .i64)) (tSl (tI .i64)))) l sv :: .box ga 3 [.int .i64 a] :: .box gc 3 [.int .i64 b] :: .box gs 22 [sv] :: .box gb 39 [bv] :: R) := by
  rintro ls q lv pre ob w0 w O h1 hl hb hd ⟨bv, best, ⟨hbe, nz⟩, rfl⟩ hS hv
  have hP := St.pull (pre := pre) (A := [Ob.v (tSl (tI .i64)) best bv, Ob.v (tSl (tP (tSl (tI .i64)) (tSl (tI .i64)))) l sv, .box ga 3 [.int .i64 a], .box gc 3 [.int .i64 b], .box gs 22 [sv], .box gb 39 [bv]]) (R := R) hS
  have hV := V.pull (pre := pre) (A := [Ob.v (tSl (tI .i64)) best bv, Ob.v (tSl (tP (tSl (tI .i64)) (tSl (tI .i64)))) l sv, .box ga 3 [.int .i64 a], .box gc 3 [.int .i64 b], .box gs 22 [sv], .box gb 39 [bv]]) (R := R) hv
  refine (F54 (ob := pre ++ R) p_ok i_a i_b h1 hb hd nz hP hV).mono ?_
  rintro e w' ⟨r, he, hr, bv', best', hb', nz', hS2⟩
  refine ⟨r, he, hr, _, ⟨bv', best', ⟨?_, nz'⟩, rfl⟩, St.pull (pre := [Ob.v (tSl (tI .i64)) best' bv', Ob.v (tSl (tP (tSl (tI .i64)) (tSl (tI .i64)))) l sv, .box ga 3 [.int .i64 a], .box gc 3 [.int .i64 b], .box gs 22 [sv], .box gb 39 [bv']]) (A := pre) (R := R) hS2⟩
  rw [hb', hbe, List.foldl_append]; rfl
end Go.Proofs.Ytjbcpggikaeleaa

namespace Go.Proofs.Ytjbcpggikaeleaa
open Go.Wk Go.RowKit Go.Lib
set_option linter.unusedVariables false
set_option linter.unusedSimpArgs false
theorem mixedLw_ : Try.prog.follows .mixedOrders = true := by kernel_rfl
theorem elLw_39 : ElemI Try.prog 39 3 (.int .i64 0) 1 8 := ElemI.of Try.underlying39 (by kernel_rfl) (by first | rfl | kernel_rfl) (by decide)

set_option maxHeartbeats 2000000 in
theorem F87  : ∀ (fuel : Nat) {n : Int} {l : List Int} {lv : Value} {fe : FuncId} {fs cs : List Value} {Tl : List (List Int) → List Ob → Prop} {ls : List (List Int)} {gn ge gp : Nat} {ob : List Ob} {w0 w : World} {O : List (Option Nat)} (hcall : ∀ args w, (callFunc fe args).run Try.prog w = .ok (.enter fe args) w) (hE : EachN Try.prog fe fs cs n Tl) (p_0 : 0 ≤ n) (p_7 : n ≤ 7) (p_l : (l.length : Int) ≤ n) (p_b : ∀ x ∈ l, 0 ≤ x ∧ x < n) (p_d : l.Nodup) (hT : Tl ls ob) (hS : St w0 O w (.box ge 76 [.func (.func fe) fs.toArray cs.toArray] :: .box gn 3 [.int .i64 n] :: .box gp 76 [.func (.func 87) #[] #[(.pointer (some ⟨ge, 0, none⟩)), (.pointer (some ⟨gn, 0, none⟩)), (.pointer (some ⟨gp, 0, none⟩))]] :: ob)) (hv : V (tSl (tI .i64)) l lv (fb (.box ge 76 [.func (.func fe) fs.toArray cs.toArray] :: .box gn 3 [.int .i64 n] :: .box gp 76 [.func (.func 87) #[] #[(.pointer (some ⟨ge, 0, none⟩)), (.pointer (some ⟨gn, 0, none⟩)), (.pointer (some ⟨gp, 0, none⟩))]] :: ob) O) w) (hfuel : (n + 1 - l.length).toNat < fuel), Calls Try.prog 87 #[lv, (.pointer (some ⟨ge, 0, none⟩)), (.pointer (some ⟨gn, 0, none⟩)), (.pointer (some ⟨gp, 0, none⟩))] w (Bk fun r w' => r = .tuple #[] ∧ ∃ ob', Tl (ls ++ allP n (n + 1 - l.length).toNat l) ob' ∧ St w0 O w' (.box ge 76 [.func (.func fe) fs.toArray cs.toArray] :: .box gn 3 [.int .i64 n] :: .box gp 76 [.func (.func 87) #[] #[(.pointer (some ⟨ge, 0, none⟩)), (.pointer (some ⟨gn, 0, none⟩)), (.pointer (some ⟨gp, 0, none⟩))]] :: ob')) := by
  intro fuel
  induction fuel with
  | zero => intros; omega
  | succ fuel IH =>
  intro n l lv fe fs cs Tl ls gn ge gp ob w0 w O hcall hE p_0 p_7 p_l p_b p_d hT hS hv hfuel
  obtain ⟨m, hm⟩ : ∃ m : Nat, (n + 1 - l.length).toNat = m + 1 := ⟨(n + 1 - l.length).toNat - 1, by omega⟩
  have hS := hS.add (hv)
  have ln_2 := (hS.v 0 rfl).len63
  refine enterB Try.func87 rfl Try.ntmps87 Try.results87 rfl ?_
  refine W.seq ?_
  refine W.seq ?_
  refine W.reg ?_
  refine Wx.rd (v := lv) (rd_move rfl) rfl ?_
  refine Wx.rd (v := .int .i64 (l.length : Int)) (rd_lenV rfl (hS.v 0 rfl) Try.underlying39) rfl ?_
  refine Wx.rd (v := .bool (decide (0 < (l.length : Int)))) (rd_gtr rfl rfl) rfl ?_
  refine Wx.nil ?_
  refine W.cutK [9, 10, 11] (fun x : (List Ob) × (List (List Int)) => match x with | (o1, ms0) => []) (fun (x : (List Ob) × (List (List Int))) w' => match x with | (o1, ms0) => St w0 O w' (Ob.v (tSl (tI .i64)) l lv :: .box ge 76 [(.func (.func fe) fs.toArray cs.toArray)] :: .box gn 3 [.int .i64 n] :: .box gp 76 [.func (.func 87) #[] #[(.pointer (some ⟨ge, 0, none⟩)), (.pointer (some ⟨gn, 0, none⟩)), (.pointer (some ⟨gp, 0, none⟩))]] :: o1) ∧ Tl ms0 o1 ∧ ms0 = ls ++ hdL l) ?_ ?_
  · -- up to the cut
    refine W.condD rfl (fun c0 => ?_) (fun c0 => ?_)
    · -- yes
      refine W.reg ?_
      refine Wx.rd (v := (.func (.func fe) fs.toArray cs.toArray)) (rd_loadX hS 1 rfl rfl rfl Try.isAgg76) rfl ?_
      refine Wx.rd (v := lv) (rd_move rfl) rfl ?_
      refine Wx.callB (run_callC (fs := fs) (cs := cs) (vs := fs ++ [lv] ++ cs) hcall rfl rfl) (hE ls l lv [Ob.v (tSl (tI .i64)) l lv, .box ge 76 [(.func (.func fe) fs.toArray cs.toArray)], .box gn 3 [.int .i64 n], .box gp 76 [.func (.func 87) #[] #[(.pointer (some ⟨ge, 0, none⟩)), (.pointer (some ⟨gn, 0, none⟩)), (.pointer (some ⟨gp, 0, none⟩))]]] ob w0 _ O (by omega) p_l p_b p_d hT hS (hS.v 0 rfl)) rfl ?_
      rintro r_3 w_4 ⟨rfl, ob_6, hT_5, hS⟩
      have hS : St w0 O w_4 (Ob.v (tSl (tI .i64)) l lv :: .box ge 76 [(.func (.func fe) fs.toArray cs.toArray)] :: .box gn 3 [.int .i64 n] :: .box gp 76 [.func (.func 87) #[] #[(.pointer (some ⟨ge, 0, none⟩)), (.pointer (some ⟨gn, 0, none⟩)), (.pointer (some ⟨gp, 0, none⟩))]] :: ob_6) := hS
      have hT := hT_5
      refine Wx.nil ?_
      refine ⟨(ob_6, ls ++ [l]), ?_, ?_, Out.look rfl Out.refl⟩
      · exact ⟨hS, (hT), (by rw [hd_yes c0])⟩
      · exact trivial
    · -- no
      refine W.skip ?_
      refine ⟨(ob, ls), ?_, ?_, Out.look rfl Out.refl⟩
      · exact ⟨hS, (hT), (by rw [hd_no c0, List.append_nil])⟩
      · exact trivial
  rintro ⟨o1, ms0⟩ u_8 w_7 ⟨hS, hT0, hms⟩
  refine W.seq ?_
  refine W.reg ?_
  refine Wx.rd (v := .int .i64 n) (rd_loadX hS 2 rfl rfl rfl Try.isAgg3) rfl ?_
  refine Wx.rd (v := .int .i64 0) (rd_move rfl) rfl ?_
  refine Wx.nil ?_
  refine W.block ?_
  refine W.loop [5, 13, 14, 15, 16, 17, 18, 19, 20, 21, 22, 23, 24, 25, 26, 27] (fun x : Int × (List Ob) × (List (List Int)) => match x with | (x, ot, ms) => [(13, .int .i64 x)]) (fun (x : Int × (List Ob) × (List (List Int))) w' => match x with | (x, ot, ms) => St w0 O w' (Ob.v (tSl (tI .i64)) l lv :: .box ge 76 [(.func (.func fe) fs.toArray cs.toArray)] :: .box gn 3 [.int .i64 n] :: .box gp 76 [.func (.func 87) #[] #[(.pointer (some ⟨ge, 0, none⟩)), (.pointer (some ⟨gn, 0, none⟩)), (.pointer (some ⟨gp, 0, none⟩))]] :: ot) ∧ 0 ≤ x ∧ x ≤ n ∧ ms ++ allX n (allP n m) l (n - x).toNat = ls ++ (hdL l ++ allX n (allP n m) l n.toNat) ∧ Tl ms ot) (fun x : Int × (List Ob) × (List (List Int)) => match x with | (x, ot, ms) => (n - x).toNat) (0, o1, ms0) ⟨rfl, trivial⟩ ⟨hS, (by first | omega | simp), (by first | omega | simp), (by rw [Int.sub_zero, hms, List.append_assoc]), (hT0)⟩ ?_
  rintro ⟨x, ot, ms⟩ u_10 w_9 ⟨hS, h0, h1, h2, h3⟩
  refine W.seq ?_
  refine W.reg ?_
  refine Wx.rd (v := .bool (decide (x < n))) (rd_lss rfl rfl) rfl ?_
  refine Wx.nil ?_
  refine W.seq ?_
  refine W.condD rfl (fun c1 => ?_) (fun c1 => ?_)
  · -- yes
    refine W.skip ?_
    refine W.seq ?_
    refine W.block ?_
    refine W.seq ?_
    refine W.reg ?_
    refine Wx.rd (v := .int .i64 x) (rd_move rfl) rfl ?_
    refine Wx.rd (v := .int .i64 x) (rd_assign rfl) rfl ?_
    refine Wx.nil ?_
    refine W.seq ?_
    refine W.reg ?_
    refine Wx.rd (v := lv) (rd_move rfl) rfl ?_
    refine Wx.rd (v := .int .i64 x) (rd_move rfl) rfl ?_
    refine Wx.callF (run_callF Try.call55 rfl) (F55 (hS.v 0 rfl) (in_i64 (by omega) (by omega))) rfl ?_
    rintro r_11 w_12 hx_13 rfl
    have hS := hS.ext hx_13
    refine Wx.rd (v := .bool (!(hasL l x))) (rd_not rfl) rfl ?_
    refine Wx.nil ?_
    refine W.cond rfl (fun c2 => ?_) (fun c2 => ?_)
    · -- yes
      try simp only [Bool.and_eq_true, Bool.or_eq_true, Bool.not_eq_true', Bool.and_eq_false_iff, Bool.or_eq_false_iff, Bool.not_eq_false', decide_eq_true_eq, decide_eq_false_iff_not, not_or, Bool.false_eq_true, Bool.true_eq_false, false_or, or_false, not_false_eq_true] at c2
      obtain ⟨hnd, hnl⟩ := snoc_nodup p_0 p_d p_b h0 c1 c2
      refine W.regP mixedLw_ (fun w_14 hx_15 => ?_)
      have hS := hS.ext hx_15
      refine Wp.rd (v := lv) 1 rfl (by kernel_rfl) (fun _ => (rd_move rfl)) rfl ?_
      refine Wp.rd (v := .int .i64 x) 3 rfl (by kernel_rfl) (fun _ => (rd_move rfl)) rfl ?_
      refine Wp.br [0, 2, 4] (by kernel_rfl) (by decide) ⟨⟨_, rfl, ?_⟩, ⟨_, rfl, ?_⟩, ⟨_, rfl, ?_⟩, trivial⟩
      · -- operation 0
        refine Wx.rd (v := .func (.func 87) #[] #[(.pointer (some ⟨ge, 0, none⟩)), (.pointer (some ⟨gn, 0, none⟩)), (.pointer (some ⟨gp, 0, none⟩))]) (rd_loadX hS 3 rfl rfl rfl Try.isAgg76) rfl ?_
        refine Wx.nil ?_
        refine Wp.br [2, 4] (by kernel_rfl) (by decide) ⟨⟨_, rfl, ?_⟩, ⟨_, rfl, ?_⟩, trivial⟩
        · -- operation 2
          refine Wx.callF (run_callF Try.call88 rfl) (F88 (hS.v 0 rfl) hS.fb_lt) rfl ?_
          rintro r_16 w_17 hx_18 ⟨_, rfl, ⟨⟨ad_20, rfl⟩, hv_19⟩⟩
          have ln_22 := hv_19.len63
          have hS := hS.ext hx_18
          have hS := hS.add hv_19
          refine Wx.nil ?_
          refine Wp.br [4] (by kernel_rfl) (by decide) ⟨⟨_, rfl, ?_⟩, trivial⟩
          refine Wx.lit (t := (tI .i64)) (ys := [x]) (vs := [.int .i64 x]) elLw_39 hS rfl rfl ⟨(V.mkInt (in_i64 (by omega) (by omega))), trivial⟩ (by decide) rfl (fun v_23 w_24 hx_25 hS => ?_)
          refine Wx.nil ?_
          refine Wp.br [5] (by kernel_rfl) (by decide) ⟨⟨_, rfl, ?_⟩, trivial⟩
          refine Wx.appendNew elLw_39 hS rfl (hS.v 1 rfl) rfl (Src.ofR hS 0 rfl) (by simp) (by simp only [maxLen]; simp; omega) (by simp; omega) rfl (fun v_26 w_27 hz_28 hS => ?_)
          refine Wx.nil ?_
          refine Wp.br [6] (by kernel_rfl) (by decide) ⟨⟨_, rfl, ?_⟩, trivial⟩
          have hS := hS.freeze 0 rfl
          have hL := V.pull (pre := [Ob.v (tSl (tI .i64)) (l ++ [x]) v_26, .row (tI .i64) 3 v_23 [x], Ob.v (tSl (tI .i64)) l (.slice ad_20 l.length l.length), Ob.v (tSl (tI .i64)) l lv]) (A := [.box ge 76 [(.func (.func fe) fs.toArray cs.toArray)], .box gn 3 [.int .i64 n], .box gp 76 [.func (.func 87) #[] #[(.pointer (some ⟨ge, 0, none⟩)), (.pointer (some ⟨gn, 0, none⟩)), (.pointer (some ⟨gp, 0, none⟩))]]]) (R := ot) (hS.v 0 rfl)
          have hP := St.pull (pre := [Ob.v (tSl (tI .i64)) (l ++ [x]) v_26, .row (tI .i64) 3 v_23 [x], Ob.v (tSl (tI .i64)) l (.slice ad_20 l.length l.length), Ob.v (tSl (tI .i64)) l lv]) (A := [.box ge 76 [(.func (.func fe) fs.toArray cs.toArray)], .box gn 3 [.int .i64 n], .box gp 76 [.func (.func 87) #[] #[(.pointer (some ⟨ge, 0, none⟩)), (.pointer (some ⟨gn, 0, none⟩)), (.pointer (some ⟨gp, 0, none⟩))]]]) (R := ot) hS
          refine Wx.callB (run_callC (fs := []) (cs := [(.pointer (some ⟨ge, 0, none⟩)), (.pointer (some ⟨gn, 0, none⟩)), (.pointer (some ⟨gp, 0, none⟩))]) (vs := [v_26, (.pointer (some ⟨ge, 0, none⟩)), (.pointer (some ⟨gn, 0, none⟩)), (.pointer (some ⟨gp, 0, none⟩))]) Try.call87 rfl rfl) (IH (l := (l ++ [x])) (lv := v_26) (ls := ms) (Tl := fun ls ob => ∃ ob', ob = [Ob.v (tSl (tI .i64)) (l ++ [x]) v_26, .row (tI .i64) 3 v_23 [x], Ob.v (tSl (tI .i64)) l (.slice ad_20 l.length l.length), Ob.v (tSl (tI .i64)) l lv] ++ ob' ∧ Tl ls ob') (ob := [Ob.v (tSl (tI .i64)) (l ++ [x]) v_26, .row (tI .i64) 3 v_23 [x], Ob.v (tSl (tI .i64)) l (.slice ad_20 l.length l.length), Ob.v (tSl (tI .i64)) l lv] ++ ot) hcall (eachN_pre hE [Ob.v (tSl (tI .i64)) (l ++ [x]) v_26, .row (tI .i64) 3 v_23 [x], Ob.v (tSl (tI .i64)) l (.slice ad_20 l.length l.length), Ob.v (tSl (tI .i64)) l lv]) p_0 p_7 (by simp; omega) (snoc_in p_b h0 (by omega)) hnd ⟨_, rfl, h3⟩ hP hL (by simp; omega)) rfl ?_
          rintro r_30 w_31 ⟨rfl, _, ⟨ob_33, rfl, hT_32⟩, hS⟩
          have hS : St w0 O w_31 (Ob.v (tSl (tI .i64)) (l ++ [x]) v_26 :: .row (tI .i64) 3 v_23 [x] :: Ob.v (tSl (tI .i64)) l (.slice ad_20 l.length l.length) :: Ob.v (tSl (tI .i64)) l lv :: .box ge 76 [(.func (.func fe) fs.toArray cs.toArray)] :: .box gn 3 [.int .i64 n] :: .box gp 76 [.func (.func 87) #[] #[(.pointer (some ⟨ge, 0, none⟩)), (.pointer (some ⟨gn, 0, none⟩)), (.pointer (some ⟨gp, 0, none⟩))]] :: ob_33) := St.pull (pre := [.box ge 76 [(.func (.func fe) fs.toArray cs.toArray)], .box gn 3 [.int .i64 n], .box gp 76 [.func (.func 87) #[] #[(.pointer (some ⟨ge, 0, none⟩)), (.pointer (some ⟨gn, 0, none⟩)), (.pointer (some ⟨gp, 0, none⟩))]]]) (A := [Ob.v (tSl (tI .i64)) (l ++ [x]) v_26, .row (tI .i64) 3 v_23 [x], Ob.v (tSl (tI .i64)) l (.slice ad_20 l.length l.length), Ob.v (tSl (tI .i64)) l lv]) (R := ob_33) hS
          have hT := hT_32
          refine Wx.nil ?_
          refine Wp.done (by kernel_rfl) ?_
          refine W.reg ?_
          refine Wx.rd (v := .int .i64 (x + 1)) (rd_add rfl rfl (in_i64 (by omega) (by omega))) rfl ?_
          refine Wx.rd (v := .int .i64 (x + 1)) (rd_move rfl) rfl ?_
          refine Wx.nil ?_
          refine ⟨(x + 1, ob_33, ms ++ allP n (n + 1 - ((l ++ [x]).length : Int)).toNat (l ++ [x])), (by show (n - (x + 1)).toNat < (n - x).toNat; omega), ?_, ?_, Out.look rfl Out.self⟩
          · exact ⟨St.tl (St.tl (hS.tl)), (by first | omega | assumption), (by first | omega | assumption), (by rw [← h2, allX_cons n _ l c1]; first | (rw [if_neg (by rw [c2]; decide), show (n + 1 - (((l ++ [x]).length : Nat) : Int)).toNat = m by simp; omega, List.append_assoc]) | rw [if_pos c2, List.nil_append]), (by first | exact hT | exact h3)⟩
          · exact ⟨rfl, trivial⟩
        · -- operation 4
          refine Wx.lit (t := (tI .i64)) (ys := [x]) (vs := [.int .i64 x]) elLw_39 hS rfl rfl ⟨(V.mkInt (in_i64 (by omega) (by omega))), trivial⟩ (by decide) rfl (fun v_34 w_35 hx_36 hS => ?_)
          refine Wx.nil ?_
          refine Wp.br [2] (by kernel_rfl) (by decide) ⟨⟨_, rfl, ?_⟩, trivial⟩
          refine Wx.callF (run_callF Try.call88 rfl) (F88 (hS.v 1 rfl) hS.fb_lt) rfl ?_
          rintro r_37 w_38 hx_39 ⟨_, rfl, ⟨⟨ad_41, rfl⟩, hv_40⟩⟩
          have ln_43 := hv_40.len63
          have hS := hS.ext hx_39
          have hS := hS.add hv_40
          refine Wx.nil ?_
          refine Wp.br [5] (by kernel_rfl) (by decide) ⟨⟨_, rfl, ?_⟩, trivial⟩
          refine Wx.appendNew elLw_39 hS rfl (hS.v 0 rfl) rfl (Src.ofR hS 1 rfl) (by simp) (by simp only [maxLen]; simp; omega) (by simp; omega) rfl (fun v_44 w_45 hz_46 hS => ?_)
          refine Wx.nil ?_
          refine Wp.br [6] (by kernel_rfl) (by decide) ⟨⟨_, rfl, ?_⟩, trivial⟩
          have hS := hS.freeze 0 rfl
          have hL := V.pull (pre := [Ob.v (tSl (tI .i64)) (l ++ [x]) v_44, Ob.v (tSl (tI .i64)) l (.slice ad_41 l.length l.length), .row (tI .i64) 3 v_34 [x], Ob.v (tSl (tI .i64)) l lv]) (A := [.box ge 76 [(.func (.func fe) fs.toArray cs.toArray)], .box gn 3 [.int .i64 n], .box gp 76 [.func (.func 87) #[] #[(.pointer (some ⟨ge, 0, none⟩)), (.pointer (some ⟨gn, 0, none⟩)), (.pointer (some ⟨gp, 0, none⟩))]]]) (R := ot) (hS.v 0 rfl)
          have hP := St.pull (pre := [Ob.v (tSl (tI .i64)) (l ++ [x]) v_44, Ob.v (tSl (tI .i64)) l (.slice ad_41 l.length l.length), .row (tI .i64) 3 v_34 [x], Ob.v (tSl (tI .i64)) l lv]) (A := [.box ge 76 [(.func (.func fe) fs.toArray cs.toArray)], .box gn 3 [.int .i64 n], .box gp 76 [.func (.func 87) #[] #[(.pointer (some ⟨ge, 0, none⟩)), (.pointer (some ⟨gn, 0, none⟩)), (.pointer (some ⟨gp, 0, none⟩))]]]) (R := ot) hS
          refine Wx.callB (run_callC (fs := []) (cs := [(.pointer (some ⟨ge, 0, none⟩)), (.pointer (some ⟨gn, 0, none⟩)), (.pointer (some ⟨gp, 0, none⟩))]) (vs := [v_44, (.pointer (some ⟨ge, 0, none⟩)), (.pointer (some ⟨gn, 0, none⟩)), (.pointer (some ⟨gp, 0, none⟩))]) Try.call87 rfl rfl) (IH (l := (l ++ [x])) (lv := v_44) (ls := ms) (Tl := fun ls ob => ∃ ob', ob = [Ob.v (tSl (tI .i64)) (l ++ [x]) v_44, Ob.v (tSl (tI .i64)) l (.slice ad_41 l.length l.length), .row (tI .i64) 3 v_34 [x], Ob.v (tSl (tI .i64)) l lv] ++ ob' ∧ Tl ls ob') (ob := [Ob.v (tSl (tI .i64)) (l ++ [x]) v_44, Ob.v (tSl (tI .i64)) l (.slice ad_41 l.length l.length), .row (tI .i64) 3 v_34 [x], Ob.v (tSl (tI .i64)) l lv] ++ ot) hcall (eachN_pre hE [Ob.v (tSl (tI .i64)) (l ++ [x]) v_44, Ob.v (tSl (tI .i64)) l (.slice ad_41 l.length l.length), .row (tI .i64) 3 v_34 [x], Ob.v (tSl (tI .i64)) l lv]) p_0 p_7 (by simp; omega) (snoc_in p_b h0 (by omega)) hnd ⟨_, rfl, h3⟩ hP hL (by simp; omega)) rfl ?_
          rintro r_48 w_49 ⟨rfl, _, ⟨ob_51, rfl, hT_50⟩, hS⟩
          have hS : St w0 O w_49 (Ob.v (tSl (tI .i64)) (l ++ [x]) v_44 :: Ob.v (tSl (tI .i64)) l (.slice ad_41 l.length l.length) :: .row (tI .i64) 3 v_34 [x] :: Ob.v (tSl (tI .i64)) l lv :: .box ge 76 [(.func (.func fe) fs.toArray cs.toArray)] :: .box gn 3 [.int .i64 n] :: .box gp 76 [.func (.func 87) #[] #[(.pointer (some ⟨ge, 0, none⟩)), (.pointer (some ⟨gn, 0, none⟩)), (.pointer (some ⟨gp, 0, none⟩))]] :: ob_51) := St.pull (pre := [.box ge 76 [(.func (.func fe) fs.toArray cs.toArray)], .box gn 3 [.int .i64 n], .box gp 76 [.func (.func 87) #[] #[(.pointer (some ⟨ge, 0, none⟩)), (.pointer (some ⟨gn, 0, none⟩)), (.pointer (some ⟨gp, 0, none⟩))]]]) (A := [Ob.v (tSl (tI .i64)) (l ++ [x]) v_44, Ob.v (tSl (tI .i64)) l (.slice ad_41 l.length l.length), .row (tI .i64) 3 v_34 [x], Ob.v (tSl (tI .i64)) l lv]) (R := ob_51) hS
          have hT := hT_50
          refine Wx.nil ?_
          refine Wp.done (by kernel_rfl) ?_
          refine W.reg ?_
          refine Wx.rd (v := .int .i64 (x + 1)) (rd_add rfl rfl (in_i64 (by omega) (by omega))) rfl ?_
          refine Wx.rd (v := .int .i64 (x + 1)) (rd_move rfl) rfl ?_
          refine Wx.nil ?_
          refine ⟨(x + 1, ob_51, ms ++ allP n (n + 1 - ((l ++ [x]).length : Int)).toNat (l ++ [x])), (by show (n - (x + 1)).toNat < (n - x).toNat; omega), ?_, ?_, Out.look rfl Out.self⟩
          · exact ⟨St.tl (St.tl (hS.tl)), (by first | omega | assumption), (by first | omega | assumption), (by rw [← h2, allX_cons n _ l c1]; first | (rw [if_neg (by rw [c2]; decide), show (n + 1 - (((l ++ [x]).length : Nat) : Int)).toNat = m by simp; omega, List.append_assoc]) | rw [if_pos c2, List.nil_append]), (by first | exact hT | exact h3)⟩
          · exact ⟨rfl, trivial⟩
      · -- operation 2
        refine Wx.callF (run_callF Try.call88 rfl) (F88 (hS.v 0 rfl) hS.fb_lt) rfl ?_
        rintro r_52 w_53 hx_54 ⟨_, rfl, ⟨⟨ad_56, rfl⟩, hv_55⟩⟩
        have ln_58 := hv_55.len63
        have hS := hS.ext hx_54
        have hS := hS.add hv_55
        refine Wx.nil ?_
        refine Wp.br [0, 4] (by kernel_rfl) (by decide) ⟨⟨_, rfl, ?_⟩, ⟨_, rfl, ?_⟩, trivial⟩
        · -- operation 0
          refine Wx.rd (v := .func (.func 87) #[] #[(.pointer (some ⟨ge, 0, none⟩)), (.pointer (some ⟨gn, 0, none⟩)), (.pointer (some ⟨gp, 0, none⟩))]) (rd_loadX hS 4 rfl rfl rfl Try.isAgg76) rfl ?_
          refine Wx.nil ?_
          refine Wp.br [4] (by kernel_rfl) (by decide) ⟨⟨_, rfl, ?_⟩, trivial⟩
          refine Wx.lit (t := (tI .i64)) (ys := [x]) (vs := [.int .i64 x]) elLw_39 hS rfl rfl ⟨(V.mkInt (in_i64 (by omega) (by omega))), trivial⟩ (by decide) rfl (fun v_59 w_60 hx_61 hS => ?_)
          refine Wx.nil ?_
          refine Wp.br [5] (by kernel_rfl) (by decide) ⟨⟨_, rfl, ?_⟩, trivial⟩
          refine Wx.appendNew elLw_39 hS rfl (hS.v 1 rfl) rfl (Src.ofR hS 0 rfl) (by simp) (by simp only [maxLen]; simp; omega) (by simp; omega) rfl (fun v_62 w_63 hz_64 hS => ?_)
          refine Wx.nil ?_
          refine Wp.br [6] (by kernel_rfl) (by decide) ⟨⟨_, rfl, ?_⟩, trivial⟩
          have hS := hS.freeze 0 rfl
          have hL := V.pull (pre := [Ob.v (tSl (tI .i64)) (l ++ [x]) v_62, .row (tI .i64) 3 v_59 [x], Ob.v (tSl (tI .i64)) l (.slice ad_56 l.length l.length), Ob.v (tSl (tI .i64)) l lv]) (A := [.box ge 76 [(.func (.func fe) fs.toArray cs.toArray)], .box gn 3 [.int .i64 n], .box gp 76 [.func (.func 87) #[] #[(.pointer (some ⟨ge, 0, none⟩)), (.pointer (some ⟨gn, 0, none⟩)), (.pointer (some ⟨gp, 0, none⟩))]]]) (R := ot) (hS.v 0 rfl)
          have hP := St.pull (pre := [Ob.v (tSl (tI .i64)) (l ++ [x]) v_62, .row (tI .i64) 3 v_59 [x], Ob.v (tSl (tI .i64)) l (.slice ad_56 l.length l.length), Ob.v (tSl (tI .i64)) l lv]) (A := [.box ge 76 [(.func (.func fe) fs.toArray cs.toArray)], .box gn 3 [.int .i64 n], .box gp 76 [.func (.func 87) #[] #[(.pointer (some ⟨ge, 0, none⟩)), (.pointer (some ⟨gn, 0, none⟩)), (.pointer (some ⟨gp, 0, none⟩))]]]) (R := ot) hS
          refine Wx.callB (run_callC (fs := []) (cs := [(.pointer (some ⟨ge, 0, none⟩)), (.pointer (some ⟨gn, 0, none⟩)), (.pointer (some ⟨gp, 0, none⟩))]) (vs := [v_62, (.pointer (some ⟨ge, 0, none⟩)), (.pointer (some ⟨gn, 0, none⟩)), (.pointer (some ⟨gp, 0, none⟩))]) Try.call87 rfl rfl) (IH (l := (l ++ [x])) (lv := v_62) (ls := ms) (Tl := fun ls ob => ∃ ob', ob = [Ob.v (tSl (tI .i64)) (l ++ [x]) v_62, .row (tI .i64) 3 v_59 [x], Ob.v (tSl (tI .i64)) l (.slice ad_56 l.length l.length), Ob.v (tSl (tI .i64)) l lv] ++ ob' ∧ Tl ls ob') (ob := [Ob.v (tSl (tI .i64)) (l ++ [x]) v_62, .row (tI .i64) 3 v_59 [x], Ob.v (tSl (tI .i64)) l (.slice ad_56 l.length l.length), Ob.v (tSl (tI .i64)) l lv] ++ ot) hcall (eachN_pre hE [Ob.v (tSl (tI .i64)) (l ++ [x]) v_62, .row (tI .i64) 3 v_59 [x], Ob.v (tSl (tI .i64)) l (.slice ad_56 l.length l.length), Ob.v (tSl (tI .i64)) l lv]) p_0 p_7 (by simp; omega) (snoc_in p_b h0 (by omega)) hnd ⟨_, rfl, h3⟩ hP hL (by simp; omega)) rfl ?_
          rintro r_66 w_67 ⟨rfl, _, ⟨ob_69, rfl, hT_68⟩, hS⟩
          have hS : St w0 O w_67 (Ob.v (tSl (tI .i64)) (l ++ [x]) v_62 :: .row (tI .i64) 3 v_59 [x] :: Ob.v (tSl (tI .i64)) l (.slice ad_56 l.length l.length) :: Ob.v (tSl (tI .i64)) l lv :: .box ge 76 [(.func (.func fe) fs.toArray cs.toArray)] :: .box gn 3 [.int .i64 n] :: .box gp 76 [.func (.func 87) #[] #[(.pointer (some ⟨ge, 0, none⟩)), (.pointer (some ⟨gn, 0, none⟩)), (.pointer (some ⟨gp, 0, none⟩))]] :: ob_69) := St.pull (pre := [.box ge 76 [(.func (.func fe) fs.toArray cs.toArray)], .box gn 3 [.int .i64 n], .box gp 76 [.func (.func 87) #[] #[(.pointer (some ⟨ge, 0, none⟩)), (.pointer (some ⟨gn, 0, none⟩)), (.pointer (some ⟨gp, 0, none⟩))]]]) (A := [Ob.v (tSl (tI .i64)) (l ++ [x]) v_62, .row (tI .i64) 3 v_59 [x], Ob.v (tSl (tI .i64)) l (.slice ad_56 l.length l.length), Ob.v (tSl (tI .i64)) l lv]) (R := ob_69) hS
          have hT := hT_68
          refine Wx.nil ?_
          refine Wp.done (by kernel_rfl) ?_
          refine W.reg ?_
          refine Wx.rd (v := .int .i64 (x + 1)) (rd_add rfl rfl (in_i64 (by omega) (by omega))) rfl ?_
          refine Wx.rd (v := .int .i64 (x + 1)) (rd_move rfl) rfl ?_
          refine Wx.nil ?_
          refine ⟨(x + 1, ob_69, ms ++ allP n (n + 1 - ((l ++ [x]).length : Int)).toNat (l ++ [x])), (by show (n - (x + 1)).toNat < (n - x).toNat; omega), ?_, ?_, Out.look rfl Out.self⟩
          · exact ⟨St.tl (St.tl (hS.tl)), (by first | omega | assumption), (by first | omega | assumption), (by rw [← h2, allX_cons n _ l c1]; first | (rw [if_neg (by rw [c2]; decide), show (n + 1 - (((l ++ [x]).length : Nat) : Int)).toNat = m by simp; omega, List.append_assoc]) | rw [if_pos c2, List.nil_append]), (by first | exact hT | exact h3)⟩
          · exact ⟨rfl, trivial⟩
        · -- operation 4
          refine Wx.lit (t := (tI .i64)) (ys := [x]) (vs := [.int .i64 x]) elLw_39 hS rfl rfl ⟨(V.mkInt (in_i64 (by omega) (by omega))), trivial⟩ (by decide) rfl (fun v_70 w_71 hx_72 hS => ?_)
          refine Wx.nil ?_
          refine Wp.br [0, 5] (by kernel_rfl) (by decide) ⟨⟨_, rfl, ?_⟩, ⟨_, rfl, ?_⟩, trivial⟩
          · -- operation 0
            refine Wx.rd (v := .func (.func 87) #[] #[(.pointer (some ⟨ge, 0, none⟩)), (.pointer (some ⟨gn, 0, none⟩)), (.pointer (some ⟨gp, 0, none⟩))]) (rd_loadX hS 5 rfl rfl rfl Try.isAgg76) rfl ?_
            refine Wx.nil ?_
            refine Wp.br [5] (by kernel_rfl) (by decide) ⟨⟨_, rfl, ?_⟩, trivial⟩
            refine Wx.appendNew elLw_39 hS rfl (hS.v 1 rfl) rfl (Src.ofR hS 0 rfl) (by simp) (by simp only [maxLen]; simp; omega) (by simp; omega) rfl (fun v_73 w_74 hz_75 hS => ?_)
            refine Wx.nil ?_
            refine Wp.br [6] (by kernel_rfl) (by decide) ⟨⟨_, rfl, ?_⟩, trivial⟩
            have hS := hS.freeze 0 rfl
            have hL := V.pull (pre := [Ob.v (tSl (tI .i64)) (l ++ [x]) v_73, .row (tI .i64) 3 v_70 [x], Ob.v (tSl (tI .i64)) l (.slice ad_56 l.length l.length), Ob.v (tSl (tI .i64)) l lv]) (A := [.box ge 76 [(.func (.func fe) fs.toArray cs.toArray)], .box gn 3 [.int .i64 n], .box gp 76 [.func (.func 87) #[] #[(.pointer (some ⟨ge, 0, none⟩)), (.pointer (some ⟨gn, 0, none⟩)), (.pointer (some ⟨gp, 0, none⟩))]]]) (R := ot) (hS.v 0 rfl)
            have hP := St.pull (pre := [Ob.v (tSl (tI .i64)) (l ++ [x]) v_73, .row (tI .i64) 3 v_70 [x], Ob.v (tSl (tI .i64)) l (.slice ad_56 l.length l.length), Ob.v (tSl (tI .i64)) l lv]) (A := [.box ge 76 [(.func (.func fe) fs.toArray cs.toArray)], .box gn 3 [.int .i64 n], .box gp 76 [.func (.func 87) #[] #[(.pointer (some ⟨ge, 0, none⟩)), (.pointer (some ⟨gn, 0, none⟩)), (.pointer (some ⟨gp, 0, none⟩))]]]) (R := ot) hS
            refine Wx.callB (run_callC (fs := []) (cs := [(.pointer (some ⟨ge, 0, none⟩)), (.pointer (some ⟨gn, 0, none⟩)), (.pointer (some ⟨gp, 0, none⟩))]) (vs := [v_73, (.pointer (some ⟨ge, 0, none⟩)), (.pointer (some ⟨gn, 0, none⟩)), (.pointer (some ⟨gp, 0, none⟩))]) Try.call87 rfl rfl) (IH (l := (l ++ [x])) (lv := v_73) (ls := ms) (Tl := fun ls ob => ∃ ob', ob = [Ob.v (tSl (tI .i64)) (l ++ [x]) v_73, .row (tI .i64) 3 v_70 [x], Ob.v (tSl (tI .i64)) l (.slice ad_56 l.length l.length), Ob.v (tSl (tI .i64)) l lv] ++ ob' ∧ Tl ls ob') (ob := [Ob.v (tSl (tI .i64)) (l ++ [x]) v_73, .row (tI .i64) 3 v_70 [x], Ob.v (tSl (tI .i64)) l (.slice ad_56 l.length l.length), Ob.v (tSl (tI .i64)) l lv] ++ ot) hcall (eachN_pre hE [Ob.v (tSl (tI .i64)) (l ++ [x]) v_73, .row (tI .i64) 3 v_70 [x], Ob.v (tSl (tI .i64)) l (.slice ad_56 l.length l.length), Ob.v (tSl (tI .i64)) l lv]) p_0 p_7 (by simp; omega) (snoc_in p_b h0 (by omega)) hnd ⟨_, rfl, h3⟩ hP hL (by simp; omega)) rfl ?_
            rintro r_77 w_78 ⟨rfl, _, ⟨ob_80, rfl, hT_79⟩, hS⟩
            have hS : St w0 O w_78 (Ob.v (tSl (tI .i64)) (l ++ [x]) v_73 :: .row (tI .i64) 3 v_70 [x] :: Ob.v (tSl (tI .i64)) l (.slice ad_56 l.length l.length) :: Ob.v (tSl (tI .i64)) l lv :: .box ge 76 [(.func (.func fe) fs.toArray cs.toArray)] :: .box gn 3 [.int .i64 n] :: .box gp 76 [.func (.func 87) #[] #[(.pointer (some ⟨ge, 0, none⟩)), (.pointer (some ⟨gn, 0, none⟩)), (.pointer (some ⟨gp, 0, none⟩))]] :: ob_80) := St.pull (pre := [.box ge 76 [(.func (.func fe) fs.toArray cs.toArray)], .box gn 3 [.int .i64 n], .box gp 76 [.func (.func 87) #[] #[(.pointer (some ⟨ge, 0, none⟩)), (.pointer (some ⟨gn, 0, none⟩)), (.pointer (some ⟨gp, 0, none⟩))]]]) (A := [Ob.v (tSl (tI .i64)) (l ++ [x]) v_73, .row (tI .i64) 3 v_70 [x], Ob.v (tSl (tI .i64)) l (.slice ad_56 l.length l.length), Ob.v (tSl (tI .i64)) l lv]) (R := ob_80) hS
            have hT := hT_79
            refine Wx.nil ?_
            refine Wp.done (by kernel_rfl) ?_
            refine W.reg ?_
            refine Wx.rd (v := .int .i64 (x + 1)) (rd_add rfl rfl (in_i64 (by omega) (by omega))) rfl ?_
            refine Wx.rd (v := .int .i64 (x + 1)) (rd_move rfl) rfl ?_
            refine Wx.nil ?_
            refine ⟨(x + 1, ob_80, ms ++ allP n (n + 1 - ((l ++ [x]).length : Int)).toNat (l ++ [x])), (by show (n - (x + 1)).toNat < (n - x).toNat; omega), ?_, ?_, Out.look rfl Out.self⟩
            · exact ⟨St.tl (St.tl (hS.tl)), (by first | omega | assumption), (by first | omega | assumption), (by rw [← h2, allX_cons n _ l c1]; first | (rw [if_neg (by rw [c2]; decide), show (n + 1 - (((l ++ [x]).length : Nat) : Int)).toNat = m by simp; omega, List.append_assoc]) | rw [if_pos c2, List.nil_append]), (by first | exact hT | exact h3)⟩
            · exact ⟨rfl, trivial⟩
          · -- operation 5
            refine Wx.appendNew elLw_39 hS rfl (hS.v 1 rfl) rfl (Src.ofR hS 0 rfl) (by simp) (by simp only [maxLen]; simp; omega) (by simp; omega) rfl (fun v_81 w_82 hz_83 hS => ?_)
            refine Wx.nil ?_
            refine Wp.br [0] (by kernel_rfl) (by decide) ⟨⟨_, rfl, ?_⟩, trivial⟩
            refine Wx.rd (v := .func (.func 87) #[] #[(.pointer (some ⟨ge, 0, none⟩)), (.pointer (some ⟨gn, 0, none⟩)), (.pointer (some ⟨gp, 0, none⟩))]) (rd_loadX hS 6 rfl rfl rfl Try.isAgg76) rfl ?_
            refine Wx.nil ?_
            refine Wp.br [6] (by kernel_rfl) (by decide) ⟨⟨_, rfl, ?_⟩, trivial⟩
            have hS := hS.freeze 0 rfl
            have hL := V.pull (pre := [Ob.v (tSl (tI .i64)) (l ++ [x]) v_81, .row (tI .i64) 3 v_70 [x], Ob.v (tSl (tI .i64)) l (.slice ad_56 l.length l.length), Ob.v (tSl (tI .i64)) l lv]) (A := [.box ge 76 [(.func (.func fe) fs.toArray cs.toArray)], .box gn 3 [.int .i64 n], .box gp 76 [.func (.func 87) #[] #[(.pointer (some ⟨ge, 0, none⟩)), (.pointer (some ⟨gn, 0, none⟩)), (.pointer (some ⟨gp, 0, none⟩))]]]) (R := ot) (hS.v 0 rfl)
            have hP := St.pull (pre := [Ob.v (tSl (tI .i64)) (l ++ [x]) v_81, .row (tI .i64) 3 v_70 [x], Ob.v (tSl (tI .i64)) l (.slice ad_56 l.length l.length), Ob.v (tSl (tI .i64)) l lv]) (A := [.box ge 76 [(.func (.func fe) fs.toArray cs.toArray)], .box gn 3 [.int .i64 n], .box gp 76 [.func (.func 87) #[] #[(.pointer (some ⟨ge, 0, none⟩)), (.pointer (some ⟨gn, 0, none⟩)), (.pointer (some ⟨gp, 0, none⟩))]]]) (R := ot) hS
            refine Wx.callB (run_callC (fs := []) (cs := [(.pointer (some ⟨ge, 0, none⟩)), (.pointer (some ⟨gn, 0, none⟩)), (.pointer (some ⟨gp, 0, none⟩))]) (vs := [v_81, (.pointer (some ⟨ge, 0, none⟩)), (.pointer (some ⟨gn, 0, none⟩)), (.pointer (some ⟨gp, 0, none⟩))]) Try.call87 rfl rfl) (IH (l := (l ++ [x])) (lv := v_81) (ls := ms) (Tl := fun ls ob => ∃ ob', ob = [Ob.v (tSl (tI .i64)) (l ++ [x]) v_81, .row (tI .i64) 3 v_70 [x], Ob.v (tSl (tI .i64)) l (.slice ad_56 l.length l.length), Ob.v (tSl (tI .i64)) l lv] ++ ob' ∧ Tl ls ob') (ob := [Ob.v (tSl (tI .i64)) (l ++ [x]) v_81, .row (tI .i64) 3 v_70 [x], Ob.v (tSl (tI .i64)) l (.slice ad_56 l.length l.length), Ob.v (tSl (tI .i64)) l lv] ++ ot) hcall (eachN_pre hE [Ob.v (tSl (tI .i64)) (l ++ [x]) v_81, .row (tI .i64) 3 v_70 [x], Ob.v (tSl (tI .i64)) l (.slice ad_56 l.length l.length), Ob.v (tSl (tI .i64)) l lv]) p_0 p_7 (by simp; omega) (snoc_in p_b h0 (by omega)) hnd ⟨_, rfl, h3⟩ hP hL (by simp; omega)) rfl ?_
            rintro r_85 w_86 ⟨rfl, _, ⟨ob_88, rfl, hT_87⟩, hS⟩
            have hS : St w0 O w_86 (Ob.v (tSl (tI .i64)) (l ++ [x]) v_81 :: .row (tI .i64) 3 v_70 [x] :: Ob.v (tSl (tI .i64)) l (.slice ad_56 l.length l.length) :: Ob.v (tSl (tI .i64)) l lv :: .box ge 76 [(.func (.func fe) fs.toArray cs.toArray)] :: .box gn 3 [.int .i64 n] :: .box gp 76 [.func (.func 87) #[] #[(.pointer (some ⟨ge, 0, none⟩)), (.pointer (some ⟨gn, 0, none⟩)), (.pointer (some ⟨gp, 0, none⟩))]] :: ob_88) := St.pull (pre := [.box ge 76 [(.func (.func fe) fs.toArray cs.toArray)], .box gn 3 [.int .i64 n], .box gp 76 [.func (.func 87) #[] #[(.pointer (some ⟨ge, 0, none⟩)), (.pointer (some ⟨gn, 0, none⟩)), (.pointer (some ⟨gp, 0, none⟩))]]]) (A := [Ob.v (tSl (tI .i64)) (l ++ [x]) v_81, .row (tI .i64) 3 v_70 [x], Ob.v (tSl (tI .i64)) l (.slice ad_56 l.length l.length), Ob.v (tSl (tI .i64)) l lv]) (R := ob_88) hS
            have hT := hT_87
            refine Wx.nil ?_
            refine Wp.done (by kernel_rfl) ?_
            refine W.reg ?_
            refine Wx.rd (v := .int .i64 (x + 1)) (rd_add rfl rfl (in_i64 (by omega) (by omega))) rfl ?_
            refine Wx.rd (v := .int .i64 (x + 1)) (rd_move rfl) rfl ?_
            refine Wx.nil ?_
            refine ⟨(x + 1, ob_88, ms ++ allP n (n + 1 - ((l ++ [x]).length : Int)).toNat (l ++ [x])), (by show (n - (x + 1)).toNat < (n - x).toNat; omega), ?_, ?_, Out.look rfl Out.self⟩
            · exact ⟨St.tl (St.tl (hS.tl)), (by first | omega | assumption), (by first | omega | assumption), (by rw [← h2, allX_cons n _ l c1]; first | (rw [if_neg (by rw [c2]; decide), show (n + 1 - (((l ++ [x]).length : Nat) : Int)).toNat = m by simp; omega, List.append_assoc]) | rw [if_pos c2, List.nil_append]), (by first | exact hT | exact h3)⟩
            · exact ⟨rfl, trivial⟩
      · -- operation 4
        refine Wx.lit (t := (tI .i64)) (ys := [x]) (vs := [.int .i64 x]) elLw_39 hS rfl rfl ⟨(V.mkInt (in_i64 (by omega) (by omega))), trivial⟩ (by decide) rfl (fun v_89 w_90 hx_91 hS => ?_)
        refine Wx.nil ?_
        refine Wp.br [0, 2] (by kernel_rfl) (by decide) ⟨⟨_, rfl, ?_⟩, ⟨_, rfl, ?_⟩, trivial⟩
        · -- operation 0
          refine Wx.rd (v := .func (.func 87) #[] #[(.pointer (some ⟨ge, 0, none⟩)), (.pointer (some ⟨gn, 0, none⟩)), (.pointer (some ⟨gp, 0, none⟩))]) (rd_loadX hS 4 rfl rfl rfl Try.isAgg76) rfl ?_
          refine Wx.nil ?_
          refine Wp.br [2] (by kernel_rfl) (by decide) ⟨⟨_, rfl, ?_⟩, trivial⟩
          refine Wx.callF (run_callF Try.call88 rfl) (F88 (hS.v 1 rfl) hS.fb_lt) rfl ?_
          rintro r_92 w_93 hx_94 ⟨_, rfl, ⟨⟨ad_96, rfl⟩, hv_95⟩⟩
          have ln_98 := hv_95.len63
          have hS := hS.ext hx_94
          have hS := hS.add hv_95
          refine Wx.nil ?_
          refine Wp.br [5] (by kernel_rfl) (by decide) ⟨⟨_, rfl, ?_⟩, trivial⟩
          refine Wx.appendNew elLw_39 hS rfl (hS.v 0 rfl) rfl (Src.ofR hS 1 rfl) (by simp) (by simp only [maxLen]; simp; omega) (by simp; omega) rfl (fun v_99 w_100 hz_101 hS => ?_)
          refine Wx.nil ?_
          refine Wp.br [6] (by kernel_rfl) (by decide) ⟨⟨_, rfl, ?_⟩, trivial⟩
          have hS := hS.freeze 0 rfl
          have hL := V.pull (pre := [Ob.v (tSl (tI .i64)) (l ++ [x]) v_99, Ob.v (tSl (tI .i64)) l (.slice ad_96 l.length l.length), .row (tI .i64) 3 v_89 [x], Ob.v (tSl (tI .i64)) l lv]) (A := [.box ge 76 [(.func (.func fe) fs.toArray cs.toArray)], .box gn 3 [.int .i64 n], .box gp 76 [.func (.func 87) #[] #[(.pointer (some ⟨ge, 0, none⟩)), (.pointer (some ⟨gn, 0, none⟩)), (.pointer (some ⟨gp, 0, none⟩))]]]) (R := ot) (hS.v 0 rfl)
          have hP := St.pull (pre := [Ob.v (tSl (tI .i64)) (l ++ [x]) v_99, Ob.v (tSl (tI .i64)) l (.slice ad_96 l.length l.length), .row (tI .i64) 3 v_89 [x], Ob.v (tSl (tI .i64)) l lv]) (A := [.box ge 76 [(.func (.func fe) fs.toArray cs.toArray)], .box gn 3 [.int .i64 n], .box gp 76 [.func (.func 87) #[] #[(.pointer (some ⟨ge, 0, none⟩)), (.pointer (some ⟨gn, 0, none⟩)), (.pointer (some ⟨gp, 0, none⟩))]]]) (R := ot) hS
          refine Wx.callB (run_callC (fs := []) (cs := [(.pointer (some ⟨ge, 0, none⟩)), (.pointer (some ⟨gn, 0, none⟩)), (.pointer (some ⟨gp, 0, none⟩))]) (vs := [v_99, (.pointer (some ⟨ge, 0, none⟩)), (.pointer (some ⟨gn, 0, none⟩)), (.pointer (some ⟨gp, 0, none⟩))]) Try.call87 rfl rfl) (IH (l := (l ++ [x])) (lv := v_99) (ls := ms) (Tl := fun ls ob => ∃ ob', ob = [Ob.v (tSl (tI .i64)) (l ++ [x]) v_99, Ob.v (tSl (tI .i64)) l (.slice ad_96 l.length l.length), .row (tI .i64) 3 v_89 [x], Ob.v (tSl (tI .i64)) l lv] ++ ob' ∧ Tl ls ob') (ob := [Ob.v (tSl (tI .i64)) (l ++ [x]) v_99, Ob.v (tSl (tI .i64)) l (.slice ad_96 l.length l.length), .row (tI .i64) 3 v_89 [x], Ob.v (tSl (tI .i64)) l lv] ++ ot) hcall (eachN_pre hE [Ob.v (tSl (tI .i64)) (l ++ [x]) v_99, Ob.v (tSl (tI .i64)) l (.slice ad_96 l.length l.length), .row (tI .i64) 3 v_89 [x], Ob.v (tSl (tI .i64)) l lv]) p_0 p_7 (by simp; omega) (snoc_in p_b h0 (by omega)) hnd ⟨_, rfl, h3⟩ hP hL (by simp; omega)) rfl ?_
          rintro r_103 w_104 ⟨rfl, _, ⟨ob_106, rfl, hT_105⟩, hS⟩
          have hS : St w0 O w_104 (Ob.v (tSl (tI .i64)) (l ++ [x]) v_99 :: Ob.v (tSl (tI .i64)) l (.slice ad_96 l.length l.length) :: .row (tI .i64) 3 v_89 [x] :: Ob.v (tSl (tI .i64)) l lv :: .box ge 76 [(.func (.func fe) fs.toArray cs.toArray)] :: .box gn 3 [.int .i64 n] :: .box gp 76 [.func (.func 87) #[] #[(.pointer (some ⟨ge, 0, none⟩)), (.pointer (some ⟨gn, 0, none⟩)), (.pointer (some ⟨gp, 0, none⟩))]] :: ob_106) := St.pull (pre := [.box ge 76 [(.func (.func fe) fs.toArray cs.toArray)], .box gn 3 [.int .i64 n], .box gp 76 [.func (.func 87) #[] #[(.pointer (some ⟨ge, 0, none⟩)), (.pointer (some ⟨gn, 0, none⟩)), (.pointer (some ⟨gp, 0, none⟩))]]]) (A := [Ob.v (tSl (tI .i64)) (l ++ [x]) v_99, Ob.v (tSl (tI .i64)) l (.slice ad_96 l.length l.length), .row (tI .i64) 3 v_89 [x], Ob.v (tSl (tI .i64)) l lv]) (R := ob_106) hS
          have hT := hT_105
          refine Wx.nil ?_
          refine Wp.done (by kernel_rfl) ?_
          refine W.reg ?_
          refine Wx.rd (v := .int .i64 (x + 1)) (rd_add rfl rfl (in_i64 (by omega) (by omega))) rfl ?_
          refine Wx.rd (v := .int .i64 (x + 1)) (rd_move rfl) rfl ?_
          refine Wx.nil ?_
          refine ⟨(x + 1, ob_106, ms ++ allP n (n + 1 - ((l ++ [x]).length : Int)).toNat (l ++ [x])), (by show (n - (x + 1)).toNat < (n - x).toNat; omega), ?_, ?_, Out.look rfl Out.self⟩
          · exact ⟨St.tl (St.tl (hS.tl)), (by first | omega | assumption), (by first | omega | assumption), (by rw [← h2, allX_cons n _ l c1]; first | (rw [if_neg (by rw [c2]; decide), show (n + 1 - (((l ++ [x]).length : Nat) : Int)).toNat = m by simp; omega, List.append_assoc]) | rw [if_pos c2, List.nil_append]), (by first | exact hT | exact h3)⟩
          · exact ⟨rfl, trivial⟩
        · -- operation 2
          refine Wx.callF (run_callF Try.call88 rfl) (F88 (hS.v 1 rfl) hS.fb_lt) rfl ?_
          rintro r_107 w_108 hx_109 ⟨_, rfl, ⟨⟨ad_111, rfl⟩, hv_110⟩⟩
          have ln_113 := hv_110.len63
          have hS := hS.ext hx_109
          have hS := hS.add hv_110
          refine Wx.nil ?_
          refine Wp.br [0, 5] (by kernel_rfl) (by decide) ⟨⟨_, rfl, ?_⟩, ⟨_, rfl, ?_⟩, trivial⟩
          · -- operation 0
            refine Wx.rd (v := .func (.func 87) #[] #[(.pointer (some ⟨ge, 0, none⟩)), (.pointer (some ⟨gn, 0, none⟩)), (.pointer (some ⟨gp, 0, none⟩))]) (rd_loadX hS 5 rfl rfl rfl Try.isAgg76) rfl ?_
            refine Wx.nil ?_
            refine Wp.br [5] (by kernel_rfl) (by decide) ⟨⟨_, rfl, ?_⟩, trivial⟩
            refine Wx.appendNew elLw_39 hS rfl (hS.v 0 rfl) rfl (Src.ofR hS 1 rfl) (by simp) (by simp only [maxLen]; simp; omega) (by simp; omega) rfl (fun v_114 w_115 hz_116 hS => ?_)
            refine Wx.nil ?_
            refine Wp.br [6] (by kernel_rfl) (by decide) ⟨⟨_, rfl, ?_⟩, trivial⟩
            have hS := hS.freeze 0 rfl
            have hL := V.pull (pre := [Ob.v (tSl (tI .i64)) (l ++ [x]) v_114, Ob.v (tSl (tI .i64)) l (.slice ad_111 l.length l.length), .row (tI .i64) 3 v_89 [x], Ob.v (tSl (tI .i64)) l lv]) (A := [.box ge 76 [(.func (.func fe) fs.toArray cs.toArray)], .box gn 3 [.int .i64 n], .box gp 76 [.func (.func 87) #[] #[(.pointer (some ⟨ge, 0, none⟩)), (.pointer (some ⟨gn, 0, none⟩)), (.pointer (some ⟨gp, 0, none⟩))]]]) (R := ot) (hS.v 0 rfl)
            have hP := St.pull (pre := [Ob.v (tSl (tI .i64)) (l ++ [x]) v_114, Ob.v (tSl (tI .i64)) l (.slice ad_111 l.length l.length), .row (tI .i64) 3 v_89 [x], Ob.v (tSl (tI .i64)) l lv]) (A := [.box ge 76 [(.func (.func fe) fs.toArray cs.toArray)], .box gn 3 [.int .i64 n], .box gp 76 [.func (.func 87) #[] #[(.pointer (some ⟨ge, 0, none⟩)), (.pointer (some ⟨gn, 0, none⟩)), (.pointer (some ⟨gp, 0, none⟩))]]]) (R := ot) hS
            refine Wx.callB (run_callC (fs := []) (cs := [(.pointer (some ⟨ge, 0, none⟩)), (.pointer (some ⟨gn, 0, none⟩)), (.pointer (some ⟨gp, 0, none⟩))]) (vs := [v_114, (.pointer (some ⟨ge, 0, none⟩)), (.pointer (some ⟨gn, 0, none⟩)), (.pointer (some ⟨gp, 0, none⟩))]) Try.call87 rfl rfl) (IH (l := (l ++ [x])) (lv := v_114) (ls := ms) (Tl := fun ls ob => ∃ ob', ob = [Ob.v (tSl (tI .i64)) (l ++ [x]) v_114, Ob.v (tSl (tI .i64)) l (.slice ad_111 l.length l.length), .row (tI .i64) 3 v_89 [x], Ob.v (tSl (tI .i64)) l lv] ++ ob' ∧ Tl ls ob') (ob := [Ob.v (tSl (tI .i64)) (l ++ [x]) v_114, Ob.v (tSl (tI .i64)) l (.slice ad_111 l.length l.length), .row (tI .i64) 3 v_89 [x], Ob.v (tSl (tI .i64)) l lv] ++ ot) hcall (eachN_pre hE [Ob.v (tSl (tI .i64)) (l ++ [x]) v_114, Ob.v (tSl (tI .i64)) l (.slice ad_111 l.length l.length), .row (tI .i64) 3 v_89 [x], Ob.v (tSl (tI .i64)) l lv]) p_0 p_7 (by simp; omega) (snoc_in p_b h0 (by omega)) hnd ⟨_, rfl, h3⟩ hP hL (by simp; omega)) rfl ?_
            rintro r_118 w_119 ⟨rfl, _, ⟨ob_121, rfl, hT_120⟩, hS⟩
            have hS : St w0 O w_119 (Ob.v (tSl (tI .i64)) (l ++ [x]) v_114 :: Ob.v (tSl (tI .i64)) l (.slice ad_111 l.length l.length) :: .row (tI .i64) 3 v_89 [x] :: Ob.v (tSl (tI .i64)) l lv :: .box ge 76 [(.func (.func fe) fs.toArray cs.toArray)] :: .box gn 3 [.int .i64 n] :: .box gp 76 [.func (.func 87) #[] #[(.pointer (some ⟨ge, 0, none⟩)), (.pointer (some ⟨gn, 0, none⟩)), (.pointer (some ⟨gp, 0, none⟩))]] :: ob_121) := St.pull (pre := [.box ge 76 [(.func (.func fe) fs.toArray cs.toArray)], .box gn 3 [.int .i64 n], .box gp 76 [.func (.func 87) #[] #[(.pointer (some ⟨ge, 0, none⟩)), (.pointer (some ⟨gn, 0, none⟩)), (.pointer (some ⟨gp, 0, none⟩))]]]) (A := [Ob.v (tSl (tI .i64)) (l ++ [x]) v_114, Ob.v (tSl (tI .i64)) l (.slice ad_111 l.length l.length), .row (tI .i64) 3 v_89 [x], Ob.v (tSl (tI .i64)) l lv]) (R := ob_121) hS
            have hT := hT_120
            refine Wx.nil ?_
            refine Wp.done (by kernel_rfl) ?_
            refine W.reg ?_
            refine Wx.rd (v := .int .i64 (x + 1)) (rd_add rfl rfl (in_i64 (by omega) (by omega))) rfl ?_
            refine Wx.rd (v := .int .i64 (x + 1)) (rd_move rfl) rfl ?_
            refine Wx.nil ?_
            refine ⟨(x + 1, ob_121, ms ++ allP n (n + 1 - ((l ++ [x]).length : Int)).toNat (l ++ [x])), (by show (n - (x + 1)).toNat < (n - x).toNat; omega), ?_, ?_, Out.look rfl Out.self⟩
            · exact ⟨St.tl (St.tl (hS.tl)), (by first | omega | assumption), (by first | omega | assumption), (by rw [← h2, allX_cons n _ l c1]; first | (rw [if_neg (by rw [c2]; decide), show (n + 1 - (((l ++ [x]).length : Nat) : Int)).toNat = m by simp; omega, List.append_assoc]) | rw [if_pos c2, List.nil_append]), (by first | exact hT | exact h3)⟩
            · exact ⟨rfl, trivial⟩
          · -- operation 5
            refine Wx.appendNew elLw_39 hS rfl (hS.v 0 rfl) rfl (Src.ofR hS 1 rfl) (by simp) (by simp only [maxLen]; simp; omega) (by simp; omega) rfl (fun v_122 w_123 hz_124 hS => ?_)
            refine Wx.nil ?_
            refine Wp.br [0] (by kernel_rfl) (by decide) ⟨⟨_, rfl, ?_⟩, trivial⟩
            refine Wx.rd (v := .func (.func 87) #[] #[(.pointer (some ⟨ge, 0, none⟩)), (.pointer (some ⟨gn, 0, none⟩)), (.pointer (some ⟨gp, 0, none⟩))]) (rd_loadX hS 6 rfl rfl rfl Try.isAgg76) rfl ?_
            refine Wx.nil ?_
            refine Wp.br [6] (by kernel_rfl) (by decide) ⟨⟨_, rfl, ?_⟩, trivial⟩
            have hS := hS.freeze 0 rfl
            have hL := V.pull (pre := [Ob.v (tSl (tI .i64)) (l ++ [x]) v_122, Ob.v (tSl (tI .i64)) l (.slice ad_111 l.length l.length), .row (tI .i64) 3 v_89 [x], Ob.v (tSl (tI .i64)) l lv]) (A := [.box ge 76 [(.func (.func fe) fs.toArray cs.toArray)], .box gn 3 [.int .i64 n], .box gp 76 [.func (.func 87) #[] #[(.pointer (some ⟨ge, 0, none⟩)), (.pointer (some ⟨gn, 0, none⟩)), (.pointer (some ⟨gp, 0, none⟩))]]]) (R := ot) (hS.v 0 rfl)
            have hP := St.pull (pre := [Ob.v (tSl (tI .i64)) (l ++ [x]) v_122, Ob.v (tSl (tI .i64)) l (.slice ad_111 l.length l.length), .row (tI .i64) 3 v_89 [x], Ob.v (tSl (tI .i64)) l lv]) (A := [.box ge 76 [(.func (.func fe) fs.toArray cs.toArray)], .box gn 3 [.int .i64 n], .box gp 76 [.func (.func 87) #[] #[(.pointer (some ⟨ge, 0, none⟩)), (.pointer (some ⟨gn, 0, none⟩)), (.pointer (some ⟨gp, 0, none⟩))]]]) (R := ot) hS
            refine Wx.callB (run_callC (fs := []) (cs := [(.pointer (some ⟨ge, 0, none⟩)), (.pointer (some ⟨gn, 0, none⟩)), (.pointer (some ⟨gp, 0, none⟩))]) (vs := [v_122, (.pointer (some ⟨ge, 0, none⟩)), (.pointer (some ⟨gn, 0, none⟩)), (.pointer (some ⟨gp, 0, none⟩))]) Try.call87 rfl rfl) (IH (l := (l ++ [x])) (lv := v_122) (ls := ms) (Tl := fun ls ob => ∃ ob', ob = [Ob.v (tSl (tI .i64)) (l ++ [x]) v_122, Ob.v (tSl (tI .i64)) l (.slice ad_111 l.length l.length), .row (tI .i64) 3 v_89 [x], Ob.v (tSl (tI .i64)) l lv] ++ ob' ∧ Tl ls ob') (ob := [Ob.v (tSl (tI .i64)) (l ++ [x]) v_122, Ob.v (tSl (tI .i64)) l (.slice ad_111 l.length l.length), .row (tI .i64) 3 v_89 [x], Ob.v (tSl (tI .i64)) l lv] ++ ot) hcall (eachN_pre hE [Ob.v (tSl (tI .i64)) (l ++ [x]) v_122, Ob.v (tSl (tI .i64)) l (.slice ad_111 l.length l.length), .row (tI .i64) 3 v_89 [x], Ob.v (tSl (tI .i64)) l lv]) p_0 p_7 (by simp; omega) (snoc_in p_b h0 (by omega)) hnd ⟨_, rfl, h3⟩ hP hL (by simp; omega)) rfl ?_
            rintro r_126 w_127 ⟨rfl, _, ⟨ob_129, rfl, hT_128⟩, hS⟩
            have hS : St w0 O w_127 (Ob.v (tSl (tI .i64)) (l ++ [x]) v_122 :: Ob.v (tSl (tI .i64)) l (.slice ad_111 l.length l.length) :: .row (tI .i64) 3 v_89 [x] :: Ob.v (tSl (tI .i64)) l lv :: .box ge 76 [(.func (.func fe) fs.toArray cs.toArray)] :: .box gn 3 [.int .i64 n] :: .box gp 76 [.func (.func 87) #[] #[(.pointer (some ⟨ge, 0, none⟩)), (.pointer (some ⟨gn, 0, none⟩)), (.pointer (some ⟨gp, 0, none⟩))]] :: ob_129) := St.pull (pre := [.box ge 76 [(.func (.func fe) fs.toArray cs.toArray)], .box gn 3 [.int .i64 n], .box gp 76 [.func (.func 87) #[] #[(.pointer (some ⟨ge, 0, none⟩)), (.pointer (some ⟨gn, 0, none⟩)), (.pointer (some ⟨gp, 0, none⟩))]]]) (A := [Ob.v (tSl (tI .i64)) (l ++ [x]) v_122, Ob.v (tSl (tI .i64)) l (.slice ad_111 l.length l.length), .row (tI .i64) 3 v_89 [x], Ob.v (tSl (tI .i64)) l lv]) (R := ob_129) hS
            have hT := hT_128
            refine Wx.nil ?_
            refine Wp.done (by kernel_rfl) ?_
            refine W.reg ?_
            refine Wx.rd (v := .int .i64 (x + 1)) (rd_add rfl rfl (in_i64 (by omega) (by omega))) rfl ?_
            refine Wx.rd (v := .int .i64 (x + 1)) (rd_move rfl) rfl ?_
            refine Wx.nil ?_
            refine ⟨(x + 1, ob_129, ms ++ allP n (n + 1 - ((l ++ [x]).length : Int)).toNat (l ++ [x])), (by show (n - (x + 1)).toNat < (n - x).toNat; omega), ?_, ?_, Out.look rfl Out.self⟩
            · exact ⟨St.tl (St.tl (hS.tl)), (by first | omega | assumption), (by first | omega | assumption), (by rw [← h2, allX_cons n _ l c1]; first | (rw [if_neg (by rw [c2]; decide), show (n + 1 - (((l ++ [x]).length : Nat) : Int)).toNat = m by simp; omega, List.append_assoc]) | rw [if_pos c2, List.nil_append]), (by first | exact hT | exact h3)⟩
            · exact ⟨rfl, trivial⟩
    · -- no
      try simp only [Bool.and_eq_true, Bool.or_eq_true, Bool.not_eq_true', Bool.and_eq_false_iff, Bool.or_eq_false_iff, Bool.not_eq_false', decide_eq_true_eq, decide_eq_false_iff_not, not_or, Bool.false_eq_true, Bool.true_eq_false, false_or, or_false, not_false_eq_true] at c2
      refine W.skip ?_
      refine W.reg ?_
      refine Wx.rd (v := .int .i64 (x + 1)) (rd_add rfl rfl (in_i64 (by omega) (by omega))) rfl ?_
      refine Wx.rd (v := .int .i64 (x + 1)) (rd_move rfl) rfl ?_
      refine Wx.nil ?_
      refine ⟨(x + 1, ot, ms), (by show (n - (x + 1)).toNat < (n - x).toNat; omega), ?_, ?_, Out.look rfl Out.self⟩
      · exact ⟨hS, (by first | omega | assumption), (by first | omega | assumption), (by rw [← h2, allX_cons n _ l c1]; first | (rw [if_neg (by rw [c2]; decide), show (n + 1 - (((l ++ [x]).length : Nat) : Int)).toNat = m by simp; omega, List.append_assoc]) | rw [if_pos c2, List.nil_append]), (by first | exact hT | exact h3)⟩
      · exact ⟨rfl, trivial⟩
  · -- no
    refine W.exit rfl ?_
    exact ⟨.tuple #[], ResIs.zero, rfl, ot, by rw [hm, allP]; rw [show (n - x).toNat = 0 by omega, allX, List.append_nil] at h2; rw [← h2]; exact h3, (St.tl hS)⟩

theorem F50 {n : Int} {fe : FuncId} {fs cs : List Value} {Tl : List (List Int) → List Ob → Prop} {ls : List (List Int)} {ob : List Ob} {w0 w : World} {O : List (Option Nat)} (hcall : ∀ args w, (callFunc fe args).run Try.prog w = .ok (.enter fe args) w) (hE : EachN Try.prog fe fs cs n Tl) (p_0 : 0 ≤ n) (p_7 : n ≤ 7) (hT : Tl ls ob) (hS : St w0 O w ob) : Calls Try.prog 50 #[.int .i64 n, .func (.func fe) fs.toArray cs.toArray] w (Bk fun r w' => r = .tuple #[] ∧ ∃ ob', Tl (ls ++ allQ n) ob' ∧ St w0 O w' ob') := by
  refine enterB Try.func50 rfl Try.ntmps50 Try.results50 rfl ?_
  refine W.seq ?_
  refine W.reg ?_
  refine Wx.box (cs := [.int .i64 n]) hS rfl rfl rfl (fun g_1 w_2 hx_4 hb_3 hS => ?_)
  refine Wx.box (cs := [(.func (.func fe) fs.toArray cs.toArray)]) hS rfl rfl rfl (fun g_5 w_6 hx_8 hb_7 hS => ?_)
  refine Wx.nil ?_
  refine W.seq ?_
  refine W.reg ?_
  refine Wx.alloc (cs := [.nilFunc]) hS Try.zeroValue76 rfl rfl (fun g_9 w_10 hx_12 hb_11 hS => ?_)
  refine Wx.nil ?_
  refine W.seq ?_
  refine W.reg ?_
  refine Wx.rd (v := .func (.func 87) #[] #[.pointer (some ⟨g_5, 0, none⟩), .pointer (some ⟨g_1, 0, none⟩), .pointer (some ⟨g_9, 0, none⟩)]) (rd_makeFunc (vs := []) (us := [.pointer (some ⟨g_5, 0, none⟩), .pointer (some ⟨g_1, 0, none⟩), .pointer (some ⟨g_9, 0, none⟩)]) rfl rfl) rfl ?_
  refine Wx.storeX (cs' := [.func (.func 87) #[] #[.pointer (some ⟨g_5, 0, none⟩), .pointer (some ⟨g_1, 0, none⟩), .pointer (some ⟨g_9, 0, none⟩)]]) (ds := [.func (.func 87) #[] #[.pointer (some ⟨g_5, 0, none⟩), .pointer (some ⟨g_1, 0, none⟩), .pointer (some ⟨g_9, 0, none⟩)]]) hS 0 rfl rfl rfl rfl Try.sizeOf76 (Nat.le_of_ble_eq_true rfl) (one_cons rfl one_nil) rfl (fun w_13 hz_14 hS => ?_)
  refine Wx.nil ?_
  refine W.reg ?_
  refine Wx.rd (v := .func (.func 87) #[] #[.pointer (some ⟨g_5, 0, none⟩), .pointer (some ⟨g_1, 0, none⟩), .pointer (some ⟨g_9, 0, none⟩)]) (rd_loadX hS 0 rfl rfl rfl Try.isAgg76) rfl ?_
  have hP := (hS.front 2 rfl).front 2 rfl
  refine Wx.callB (run_callC (fs := []) (cs := [.pointer (some ⟨g_5, 0, none⟩), .pointer (some ⟨g_1, 0, none⟩), .pointer (some ⟨g_9, 0, none⟩)]) (vs := [(.slice none 0 0), .pointer (some ⟨g_5, 0, none⟩), .pointer (some ⟨g_1, 0, none⟩), .pointer (some ⟨g_9, 0, none⟩)]) Try.call87 rfl rfl) (F87 _ (l := []) (ls := ls) (Tl := Tl) (n := n) hcall hE p_0 p_7 (by simp; omega) (by simp) List.nodup_nil hT hP (V.nil (t := tI .i64)) (Nat.lt_succ_self _)) rfl ?_
  rintro r_15 w_16 ⟨rfl, ob_18, hT_17, hS⟩
  have hT := hT_17
  refine Wx.nil ?_
  exact ⟨.tuple #[], ResIs.zero, rfl, ob_18, by simpa [allQ] using hT, (St.tl (St.tl (St.tl hS)))⟩
end Go.Proofs.Ytjbcpggikaeleaa

namespace Go.Proofs.Ytjbcpggikaeleaa
open Go.Wk Go.RowKit Go.Lib
set_option linter.unusedVariables false
set_option linter.unusedSimpArgs false
theorem elMb_31 : ElemI Try.prog 31 59 (.agg #[.int .i64 0, .int .i64 0]) 2 16 := ElemI.of Try.underlying31 (by kernel_rfl) (by first | rfl | kernel_rfl) (by decide)
theorem mixedMb_ : Try.prog.follows .mixedOrders = true := by kernel_rfl
theorem foMb_62_1 : fldOff Try.prog 62 1 = some 1 := by kernel_rfl

set_option maxHeartbeats 4000000 in
set_option maxRecDepth 10000 in
theorem F10 {zs : List Int} {one : Int} {two : Int} {O : List (Option Nat)} {w : World} (n_zs : zs.length = 39) (i_zs : ∀ z ∈ zs, InK .u8 z) (i_one : InK .u8 one) (i_two : InK .u8 two) (hO : ∀ b, some b ∈ O → b < w.heap.size) : Calls Try.prog 10 #[.agg (List.map (Value.int .u8) zs).toArray, .int .u8 one, .int .u8 two] w (Ret w (fun r _ => r = .bool true)) := by
  have b_two := bd_u8 i_two
  have b_one := bd_u8 i_one
  have b_o := bd_u8 i_one
  have b_t := bd_u8 i_two
  have hS := St.start w O hO
  refine enterR Try.func10 rfl Try.ntmps10 Try.results10 rfl ?_
  refine W.seq ?_
  refine W.reg ?_
  refine Wx.box (cs := List.map (Value.int .u8) zs) hS rfl rfl rfl (fun g_1 w_2 hx_4 hb_3 hS => ?_)
  refine Wx.rd (v := .bool false) (rd_assign rfl) rfl ?_
  refine Wx.nil ?_
  refine W.seq ?_
  refine W.reg ?_
  refine Wx.rd (v := .agg (List.map (Value.int .u8) zs).toArray) (rd_loadXs (ds := List.map (Value.int .u8) zs) hS 0 rfl rfl (by rw [List.drop_zero, List.take_of_length_le (by simp; omega)]) (by simp; omega) Try.isAgg66 Try.sizeOf66) rfl ?_
  refine Wx.callF (run_callF Try.call46 rfl) (F46 n_zs i_zs (in_i64 (by omega) (by omega)) (by omega) (by omega) hS.fb_lt) rfl ?_
  rintro r_5 w_6 hx_7 ⟨l, x_hc, v_8, rfl, hv_9⟩
  have hS := hS.pushFrO hx_7 hv_9
  obtain ⟨hc, ok_hc, h6_hc⟩ := shop_ok (by decide) (by decide) x_hc
  have hgz := shG_bd zs
  refine Wx.rd (v := .tuple #[.int .i64 (shG zs), v_8]) (rd_move rfl) rfl ?_
  refine Wx.rd (v := .int .i64 (shG zs)) (rd_extract rfl rfl) rfl ?_
  refine Wx.rd (v := v_8) (rd_extract rfl rfl) rfl ?_
  refine Wx.alloc (cs := [(.slice none 0 0)]) hS Try.zeroValue22 rfl rfl (fun g_11 w_12 hx_14 hb_13 hS => ?_)
  refine Wx.rd (v := .int .i64 (shG zs)) (rd_assign rfl) rfl ?_
  have hS := hS.freeze 1 rfl
  refine Wx.storeX (cs' := [v_8]) (ds := [v_8]) hS 1 rfl rfl rfl (Go.Wk.cells_one (V.oneC (hS.v 0 rfl))) Try.sizeOf22 (Nat.le_of_ble_eq_true rfl) (one_cons (V.oneC (hS.v 0 rfl)) one_nil) rfl (fun w_16 hz_17 hS => ?_)
  refine Wx.nil ?_
  refine W.seq ?_
  refine W.reg ?_
  refine Wx.rd (v := (.slice none 0 0)) (rd_assign rfl) rfl ?_
  refine Wx.rd (v := (.slice none 0 0)) (rd_assign rfl) rfl ?_
  refine Wx.nil ?_
  refine W.seq ?_
  refine W.seq ?_
  refine W.reg ?_
  obtain ⟨gd, hgd, hok⟩ := ok_hc.at
  have hokz : ∀ i : Int, 0 ≤ i → i < l.length → OkAt (shG zs) (ix ([], []) l i) := fun i i0 i1 => by { have q := chk_ix hc i0 i1; exact ⟨q.1.1, q.1.2, q.2.1, q.2.2⟩ }
  refine Wx.rd (v := v_8) (rd_loadX hS 1 rfl rfl rfl Try.isAgg22) rfl ?_
  refine Wx.rd (v := .int .i64 (l.length : Int)) (rd_lenV rfl (hS.v 0 rfl) Try.underlying22) rfl ?_
  refine Wx.rd (v := .int .i64 0) (rd_move rfl) rfl ?_
  refine Wx.nil ?_
  refine W.block ?_
  have hS := hS.addNil (tP (tI .i64) (tI .i64)) 59
  have hS := hS.addNil (tP (tI .i64) (tI .i64)) 59
  refine W.loop [6, 9, 10, 11, 12, 13, 14, 15, 16, 17, 18, 19, 20, 21, 40, 41, 42, 43, 44, 45, 46, 47, 48, 49, 50, 51, 52, 53, 54, 55, 56, 57, 58, 59, 60, 61, 62, 63, 64, 65, 66, 67, 68, 69, 70, 71, 72, 73, 74, 75, 76, 77, 78, 79, 80, 81, 82, 83, 84, 85, 86, 87, 88, 89, 90, 91, 92, 93, 94, 95, 96, 97, 98, 99, 100, 101, 102, 103, 104, 105, 106, 107, 108, 109, 110, 111, 112, 113, 114, 115, 116, 117, 118, 119, 120, 121, 122, 123, 124, 125, 126, 127, 128, 129, 130, 131, 132, 133, 134, 135, 136, 137, 138, 139, 140, 141, 142, 143, 144, 145, 146, 147, 148, 149, 150, 151, 152, 153, 154, 155, 156, 157, 158] (fun x : Int × Value × (List (Int × Int)) × Value × (List (Int × Int)) => match x with | (i, ssv, ss, bbv, bb) => [(40, .int .i64 i), (9, ssv), (10, bbv)]) (fun (x : Int × Value × (List (Int × Int)) × Value × (List (Int × Int))) w' => match x with | (i, ssv, ss, bbv, bb) => St w O w' [.row (tP (tI .i64) (tI .i64)) 59 bbv bb, .row (tP (tI .i64) (tI .i64)) 59 ssv ss, Ob.v (tSl (tP (tSl (tI .i64)) (tSl (tI .i64)))) l v_8, .box g_11 22 [v_8], .box g_1 66 (List.map (Value.int .u8) zs)] ∧ 0 ≤ i ∧ i ≤ l.length ∧ ss ++ pairsR (gS l) l.length (rng i l.length) = pairsV (gS l) l.length ∧ bb ++ pairsR (bS l) l.length (rng i l.length) = pairsV (bS l) l.length ∧ (ss.length : Int) ≤ 6 * i ∧ (bb.length : Int) ≤ 6 * i) (fun x : Int × Value × (List (Int × Int)) × Value × (List (Int × Int)) => match x with | (i, ssv, ss, bbv, bb) => (l.length - i).toNat) (0, (.slice none 0 0), [], (.slice none 0 0), []) ⟨rfl, rfl, rfl, trivial⟩ ⟨hS, (by first | omega | simp), (by first | omega | simp), (rfl), (rfl), (by decide), (by decide)⟩ ?_
  rintro ⟨i, ssv, ss, bbv, bb⟩ u_19 w_18 ⟨hS, h0, h1, h2, h3, h4, h5⟩
  refine W.seq ?_
  refine W.reg ?_
  refine Wx.rd (v := .bool (decide (i < (l.length : Int)))) (rd_lss rfl rfl) rfl ?_
  refine Wx.nil ?_
  refine W.seq ?_
  refine W.condD rfl (fun c0 => ?_) (fun c0 => ?_)
  · -- yes
    refine W.skip ?_
    refine W.seq ?_
    refine W.block ?_
    refine W.seq ?_
    refine W.reg ?_
    refine Wx.rd (v := .int .i64 i) (rd_move rfl) rfl ?_
    refine Wx.ex (rd_index ([], []) (hS.v 2 rfl) rfl rfl Try.underlying22 Try.sizeOf62 (by first | omega | (simp only [List.length_set, List.length_append, List.length_cons, List.length_nil, List.length_replicate]; omega)) (by first | omega | (simp only [List.length_set, List.length_append, List.length_cons, List.length_nil, List.length_replicate]; omega))) rfl (fun p_20 hp_21 => ?_)
    refine Wx.ex (rd_load hp_21 rfl Try.isAgg62 Try.sizeOf62) rfl (fun v_22 hv_23 => ?_)
    obtain ⟨v_24, v_25, rfl, hv_26, hv_27⟩ := hv_23.s2
    have hS := hS.add (hv_26)
    have ln_29 := (hS.v 0 rfl).len63
    have hS := hS.add (V.upF (hv_27))
    have ln_31 := (hS.v 0 rfl).len63
    refine Wx.alloc (cs := [(.slice none 0 0), (.slice none 0 0)]) hS Try.zeroValue62 rfl rfl (fun g_32 w_33 hx_35 hb_34 hS => ?_)
    refine Wx.rd (v := .int .i64 i) (rd_assign rfl) rfl ?_
    refine Wx.storeX (cs' := [v_24, v_25]) (ds := [v_24, v_25]) hS 0 rfl rfl rfl rfl Try.sizeOf62 (Nat.le_of_ble_eq_true rfl) (one_cons (V.oneC (hS.v 2 rfl)) (one_cons (V.oneC (hS.v 1 rfl)) one_nil)) rfl (fun w_36 hz_37 hS => ?_)
    refine Wx.nil ?_
    refine W.seq ?_
    refine W.reg ?_
    refine Wx.rd (v := v_8) (rd_loadX hS 6 rfl rfl rfl Try.isAgg22) rfl ?_
    refine Wx.rd (v := .int .i64 (l.length : Int)) (rd_lenV rfl (hS.v 5 rfl) Try.underlying22) rfl ?_
    refine Wx.rd (v := .int .i64 0) (rd_move rfl) rfl ?_
    refine Wx.nil ?_
    refine W.block ?_
    refine W.loop [6, 9, 10, 13, 14, 15, 16, 17, 18, 19, 20, 21, 47, 48, 49, 50, 51, 52, 53, 54, 55, 56, 57, 58, 59, 60, 61, 62, 63, 64, 65, 66, 67, 68, 69, 70, 71, 72, 73, 74, 75, 76, 77, 78, 79, 80, 81, 82, 83, 84, 85, 86, 87, 88, 89, 90, 91, 92, 93, 94, 95, 96, 97, 98, 99, 100, 101, 102, 103, 104, 105, 106, 107, 108, 109, 110, 111, 112, 113, 114, 115, 116, 117, 118, 119, 120, 121, 122, 123, 124, 125, 126, 127, 128, 129, 130, 131, 132, 133, 134, 135, 136, 137, 138, 139, 140, 141, 142, 143, 144, 145, 146, 147, 148, 149, 150, 151, 152, 153, 154, 155, 156, 157] (fun x : Int × Value × (List (Int × Int)) × Value × (List (Int × Int)) => match x with | (j, ss2v, ss2, bb2v, bb2) => [(47, .int .i64 j), (9, ss2v), (10, bb2v)]) (fun (x : Int × Value × (List (Int × Int)) × Value × (List (Int × Int))) w' => match x with | (j, ss2v, ss2, bb2v, bb2) => St w O w' [.box g_32 62 [v_24, v_25], Ob.v (tSl (tI .i64)) ((ix ([], []) l i).2) v_25, Ob.v (tSl (tI .i64)) ((ix ([], []) l i).1) v_24, .row (tP (tI .i64) (tI .i64)) 59 bb2v bb2, .row (tP (tI .i64) (tI .i64)) 59 ss2v ss2, Ob.v (tSl (tP (tSl (tI .i64)) (tSl (tI .i64)))) l v_8, .box g_11 22 [v_8], .box g_1 66 (List.map (Value.int .u8) zs)] ∧ 0 ≤ j ∧ j ≤ l.length ∧ ss2 ++ (pairR (gS l) i (rng j l.length) ++ pairsR (gS l) l.length (rng (i + 1) l.length)) = pairsV (gS l) l.length ∧ bb2 ++ (pairR (bS l) i (rng j l.length) ++ pairsR (bS l) l.length (rng (i + 1) l.length)) = pairsV (bS l) l.length ∧ (ss2.length : Int) ≤ 6 * i + j ∧ (bb2.length : Int) ≤ 6 * i + j) (fun x : Int × Value × (List (Int × Int)) × Value × (List (Int × Int)) => match x with | (j, ss2v, ss2, bb2v, bb2) => (l.length - j).toNat) (0, ssv, ss, bbv, bb) ⟨rfl, rfl, rfl, trivial⟩ ⟨hS, (by first | omega | simp), (by first | omega | simp), (by rw [← h2, pairsR_next c0]), (by rw [← h3, pairsR_next c0]), (by first | omega | simp), (by first | omega | simp)⟩ ?_
    rintro ⟨j, ss2v, ss2, bb2v, bb2⟩ u_39 w_38 ⟨hS, g0, g1, g2, g3, g4, g5⟩
    refine W.seq ?_
    refine W.reg ?_
    refine Wx.rd (v := .bool (decide (j < (l.length : Int)))) (rd_lss rfl rfl) rfl ?_
    refine Wx.nil ?_
    refine W.seq ?_
    refine W.condD rfl (fun c1 => ?_) (fun c1 => ?_)
    · -- yes
      have hxo := hokz i h0 (by omega)
      have hyo := hokz j g0 (by omega)
      have hx2 := hxo.l2
      have hy2 := hyo.l2
      refine W.skip ?_
      refine W.seq ?_
      refine W.block ?_
      refine W.seq ?_
      refine W.reg ?_
      refine Wx.rd (v := .int .i64 j) (rd_move rfl) rfl ?_
      refine Wx.ex (rd_index ([], []) (hS.v 5 rfl) rfl rfl Try.underlying22 Try.sizeOf62 (by first | omega | (simp only [List.length_set, List.length_append, List.length_cons, List.length_nil, List.length_replicate]; omega)) (by first | omega | (simp only [List.length_set, List.length_append, List.length_cons, List.length_nil, List.length_replicate]; omega))) rfl (fun p_40 hp_41 => ?_)
      refine Wx.ex (rd_load hp_41 rfl Try.isAgg62 Try.sizeOf62) rfl (fun v_42 hv_43 => ?_)
      obtain ⟨v_44, v_45, rfl, hv_46, hv_47⟩ := hv_43.s2
      have hS := hS.add (hv_46)
      have ln_49 := (hS.v 0 rfl).len63
      have hS := hS.add (V.upF (hv_47))
      have ln_51 := (hS.v 0 rfl).len63
      refine Wx.alloc (cs := [(.slice none 0 0), (.slice none 0 0)]) hS Try.zeroValue62 rfl rfl (fun g_52 w_53 hx_55 hb_54 hS => ?_)
      refine Wx.rd (v := .int .i64 j) (rd_assign rfl) rfl ?_
      refine Wx.storeX (cs' := [v_44, v_45]) (ds := [v_44, v_45]) hS 0 rfl rfl rfl rfl Try.sizeOf62 (Nat.le_of_ble_eq_true rfl) (one_cons (V.oneC (hS.v 2 rfl)) (one_cons (V.oneC (hS.v 1 rfl)) one_nil)) rfl (fun w_56 hz_57 hS => ?_)
      refine Wx.nil ?_
      refine W.seq ?_
      refine W.reg ?_
      refine Wx.rd (v := .int .i64 (shG zs)) (rd_move rfl) rfl ?_
      refine Wx.rd (v := v_8) (rd_loadX hS 9 rfl rfl rfl Try.isAgg22) rfl ?_
      refine Wx.rd (v := .int .i64 i) (rd_move rfl) rfl ?_
      refine Wx.rd (v := .int .i64 j) (rd_move rfl) rfl ?_
      refine Wx.callF (run_callF Try.call18 rfl) (F18 (in_i64 (by omega) (by omega)) (hS.v 8 rfl) (in_i64 (by omega) (by omega)) (in_i64 (by omega) (by omega)) hS.fb_lt) rfl ?_
      rintro r_58 w_59 hx_60 rfl
      have hS := hS.ext hx_60
      refine Wx.rd (v := .tuple #[.int .i64 (costE (shG zs) l i j), .int .i64 (twoE (shG zs) l i j)]) (rd_move rfl) rfl ?_
      refine Wx.rd (v := .int .i64 (costE (shG zs) l i j)) (rd_extract rfl rfl) rfl ?_
      refine Wx.rd (v := .int .i64 (twoE (shG zs) l i j)) (rd_extract rfl rfl) rfl ?_
      refine Wx.rd (v := .int .i64 (costS (ix ([], []) l i) (ix ([], []) l j))) (Rd.to (v := .int .i64 (costE (shG zs) l i j)) (rd_assign rfl) (congrArg (Value.int .i64) (show (costS (ix ([], []) l i) (ix ([], []) l j) : Int) = (costE (shG zs) l i j : Int) from (cost_in hc ⟨h0, by omega⟩ ⟨g0, by omega⟩).symm).symm)) rfl ?_
      refine Wx.rd (v := .int .i64 0) (Rd.to (v := .int .i64 (twoE (shG zs) l i j)) (rd_assign rfl) (congrArg (Value.int .i64) (show (0 : Int) = (twoE (shG zs) l i j : Int) from (two_in hc ⟨h0, by omega⟩ ⟨g0, by omega⟩).symm).symm)) rfl ?_
      refine Wx.nil ?_
      refine W.seq ?_
      refine W.reg ?_
      refine Wx.rd (v := .int .i64 (shG zs)) (rd_move rfl) rfl ?_
      refine Wx.rd (v := v_8) (rd_loadX hS 9 rfl rfl rfl Try.isAgg22) rfl ?_
      refine Wx.rd (v := .int .i64 i) (rd_move rfl) rfl ?_
      refine Wx.rd (v := .int .i64 i) (rd_move rfl) rfl ?_
      refine Wx.callF (run_callF Try.call18 rfl) (F18 (in_i64 (by omega) (by omega)) (hS.v 8 rfl) (in_i64 (by omega) (by omega)) (in_i64 (by omega) (by omega)) hS.fb_lt) rfl ?_
      rintro r_61 w_62 hx_63 rfl
      have hS := hS.ext hx_63
      refine Wx.rd (v := .tuple #[.int .i64 (costE (shG zs) l i i), .int .i64 (twoE (shG zs) l i i)]) (rd_move rfl) rfl ?_
      refine Wx.rd (v := .int .i64 (costE (shG zs) l i i)) (rd_extract rfl rfl) rfl ?_
      refine Wx.rd (v := .int .i64 (twoE (shG zs) l i i)) (rd_extract rfl rfl) rfl ?_
      refine Wx.rd (v := .int .i64 (costS (ix ([], []) l i) (ix ([], []) l i))) (Rd.to (v := .int .i64 (costE (shG zs) l i i)) (rd_assign rfl) (congrArg (Value.int .i64) (show (costS (ix ([], []) l i) (ix ([], []) l i) : Int) = (costE (shG zs) l i i : Int) from (cost_in hc ⟨h0, by omega⟩ ⟨h0, by omega⟩).symm).symm)) rfl ?_
      refine Wx.rd (v := .int .i64 0) (Rd.to (v := .int .i64 (twoE (shG zs) l i i)) (rd_assign rfl) (congrArg (Value.int .i64) (show (0 : Int) = (twoE (shG zs) l i i : Int) from (two_in hc ⟨h0, by omega⟩ ⟨h0, by omega⟩).symm).symm)) rfl ?_
      have hcb1 := costS_bd hgz.2 (chk_ix hc h0 (by omega)) (chk_ix hc h0 (by omega))
      have hcb2 := costS_bd hgz.2 (chk_ix hc h0 (by omega)) (chk_ix hc g0 (by omega))
      refine Wx.nil ?_
      refine W.seq ?_
      refine W.seq ?_
      refine W.reg ?_
      refine Wx.rd (v := .int .i64 0) (rd_move rfl) rfl ?_
      refine Wx.rd (v := .bool false) (Rd.to (v := .bool (decide ((0 : Int) ≠ 0))) (rd_neq rfl rfl) rfl) rfl ?_
      refine Wx.rd (v := .bool false) (rd_move rfl) rfl ?_
      refine Wx.gyes rfl rfl rfl ?_
      refine Wx.rd (v := .int .i64 0) (rd_move rfl) rfl ?_
      refine Wx.gyes rfl rfl rfl ?_
      refine Wx.rd (v := .bool false) (Rd.to (v := .bool (decide ((0 : Int) ≠ 0))) (rd_neq rfl rfl) rfl) rfl ?_
      refine Wx.rd (v := .bool false) (rd_pickF rfl rfl) rfl ?_
      refine Wx.rd (v := .bool false) (rd_move rfl) rfl ?_
      refine Wx.gyes rfl rfl rfl ?_
      refine Wx.rd (v := .int .i64 (costS (ix ([], []) l i) (ix ([], []) l i))) (rd_move rfl) rfl ?_
      refine Wx.gyes rfl rfl rfl ?_
      refine Wx.rd (v := .int .i64 (costS (ix ([], []) l i) (ix ([], []) l j))) (rd_move rfl) rfl ?_
      refine Wx.gyes rfl rfl rfl ?_
      refine Wx.rd (v := .int .i64 ((costS (ix ([], []) l i) (ix ([], []) l i)) - (costS (ix ([], []) l i) (ix ([], []) l j)))) (rd_sub rfl rfl (in_i64 (by omega) (by omega))) rfl ?_
      refine Wx.gyes rfl rfl rfl ?_
      refine Wx.rd (v := .agg #[v_24, v_25]) (rd_loadXs (ds := [v_24, v_25]) hS 3 rfl rfl rfl rfl Try.isAgg62 Try.sizeOf62) rfl ?_
      refine Wx.gyes rfl rfl rfl ?_
      refine Wx.rd (v := .agg #[v_44, v_45]) (rd_loadXs (ds := [v_44, v_45]) hS 0 rfl rfl rfl rfl Try.isAgg62 Try.sizeOf62) rfl ?_
      refine Wx.gyes rfl rfl rfl ?_
      refine Wx.callF (run_callF Try.call53 rfl) (F53 (hS.v 5 rfl) (hS.v 4 rfl) (hS.v 2 rfl) (hS.v 1 rfl) (hok i (by omega) (by omega)).b1 (hok i (by omega) (by omega)).b2 (hok j (by omega) (by omega)).b2 (by have := (hok i (by omega) (by omega)).l1; omega) (by have h1 := (hok i (by omega) (by omega)).l1; have h2 := (hok i (by omega) (by omega)).l2; omega) (by have h1 := (hok i (by omega) (by omega)).l1; have h2 := (hok j (by omega) (by omega)).l2; omega)) rfl ?_
      rintro r_64 w_65 hx_66 rfl
      have hS := hS.ext hx_66
      rw [show (leadS (((ix ([], []) l i).1), ((ix ([], []) l i).2)) (((ix ([], []) l j).1), ((ix ([], []) l j).2)) : Int) = leadS (ix ([], []) l i) (ix ([], []) l j) from rfl]
      refine Wx.gyes rfl rfl rfl ?_
      refine Wx.rd (v := .bool (decide (((costS (ix ([], []) l i) (ix ([], []) l i)) - (costS (ix ([], []) l i) (ix ([], []) l j))) ≠ (leadS (ix ([], []) l i) (ix ([], []) l j))))) (rd_neq rfl rfl) rfl ?_
      refine Wx.rd (v := .bool (decide (((costS (ix ([], []) l i) (ix ([], []) l i)) - (costS (ix ([], []) l i) (ix ([], []) l j))) ≠ (leadS (ix ([], []) l i) (ix ([], []) l j))))) (rd_pickF rfl rfl) rfl ?_
      refine Wx.nil ?_
      refine W.condF rfl (decide_eq_false (not_not_intro rfl)) ?_
      refine W.skip ?_
      refine W.seq ?_
      refine W.seq ?_
      refine W.reg ?_
      refine Wx.rd (v := .int .i64 i) (rd_move rfl) rfl ?_
      refine Wx.rd (v := .int .i64 j) (rd_move rfl) rfl ?_
      refine Wx.rd (v := .bool (decide (i ≠ j))) (rd_neq rfl rfl) rfl ?_
      refine Wx.rd (v := .bool (decide (i ≠ j))) (rd_move rfl) rfl ?_
      refine Wx.cut (X := Unit) 5 [87, 88, 89, 90, 91] (fun _ => [(91, .bool (decide (i ≠ j) && decide (0 ≤ (leadS (ix ([], []) l i) (ix ([], []) l j)))))]) (fun _ w' => St w O w' [.box g_52 62 [v_44, v_45], Ob.v (tSl (tI .i64)) ((ix ([], []) l j).2) v_45, Ob.v (tSl (tI .i64)) ((ix ([], []) l j).1) v_44, .box g_32 62 [v_24, v_25], Ob.v (tSl (tI .i64)) ((ix ([], []) l i).2) v_25, Ob.v (tSl (tI .i64)) ((ix ([], []) l i).1) v_24, .row (tP (tI .i64) (tI .i64)) 59 bb2v bb2, .row (tP (tI .i64) (tI .i64)) 59 ss2v ss2, Ob.v (tSl (tP (tSl (tI .i64)) (tSl (tI .i64)))) l v_8, .box g_11 22 [v_8], .box g_1 66 (List.map (Value.int .u8) zs)]) ?_ ?_
      · rcases Bool.eq_false_or_eq_true (decide (i ≠ j)) with g_67 | g_67
        · -- True
          have gp_68 := of_decide_eq_true g_67
          refine Wx.gyes rfl rfl (congrArg Value.bool g_67) ?_
          refine Wx.rd (v := .agg #[v_24, v_25]) (rd_loadXs (ds := [v_24, v_25]) hS 3 rfl rfl rfl rfl Try.isAgg62 Try.sizeOf62) rfl ?_
          refine Wx.gyes rfl rfl (congrArg Value.bool g_67) ?_
          refine Wx.rd (v := .agg #[v_44, v_45]) (rd_loadXs (ds := [v_44, v_45]) hS 0 rfl rfl rfl rfl Try.isAgg62 Try.sizeOf62) rfl ?_
          refine Wx.gyes rfl rfl (congrArg Value.bool g_67) ?_
          refine Wx.callF (run_callF Try.call53 rfl) (F53 (hS.v 5 rfl) (hS.v 4 rfl) (hS.v 2 rfl) (hS.v 1 rfl) (hok i (by omega) (by omega)).b1 (hok i (by omega) (by omega)).b2 (hok j (by omega) (by omega)).b2 (by have := (hok i (by omega) (by omega)).l1; omega) (by have h1 := (hok i (by omega) (by omega)).l1; have h2 := (hok i (by omega) (by omega)).l2; omega) (by have h1 := (hok i (by omega) (by omega)).l1; have h2 := (hok j (by omega) (by omega)).l2; omega)) rfl ?_
          rintro r_69 w_70 hx_71 rfl
          have hS := hS.ext hx_71
          rw [show (leadS (((ix ([], []) l i).1), ((ix ([], []) l i).2)) (((ix ([], []) l j).1), ((ix ([], []) l j).2)) : Int) = leadS (ix ([], []) l i) (ix ([], []) l j) from rfl]
          refine Wx.gyes rfl rfl (congrArg Value.bool g_67) ?_
          refine Wx.rd (v := .bool (decide (0 ≤ (leadS (ix ([], []) l i) (ix ([], []) l j))))) (rd_geq rfl rfl) rfl ?_
          refine Wx.rd (v := .bool (decide (0 ≤ (leadS (ix ([], []) l i) (ix ([], []) l j))))) (rd_pickT (congrArg Value.bool g_67) rfl) rfl ?_
          refine Wx.nil ⟨(), hS, ⟨?_, trivial⟩, Out.look rfl Out.refl⟩
          show Value.bool (decide (0 ≤ (leadS (ix ([], []) l i) (ix ([], []) l j)))) = Value.bool (decide (i ≠ j) && decide (0 ≤ (leadS (ix ([], []) l i) (ix ([], []) l j))))
          first | rw [g_67, Bool.true_and] | (rw [g_67]; rfl)
        · -- False
          have gp_72 := of_decide_eq_false g_67
          refine Wx.gnoB rfl rfl (congrArg Value.bool g_67) rfl rfl ?_
          refine Wx.gnoB rfl rfl (congrArg Value.bool g_67) rfl rfl ?_
          refine Wx.gnoB rfl rfl (congrArg Value.bool g_67) rfl rfl ?_
          refine Wx.gnoB rfl rfl (congrArg Value.bool g_67) rfl rfl ?_
          refine Wx.rd (v := .bool false) (rd_pickF (congrArg Value.bool g_67) rfl) rfl ?_
          refine Wx.nil ⟨(), hS, ⟨?_, trivial⟩, Out.look rfl Out.refl⟩
          show Value.bool false = Value.bool (decide (i ≠ j) && decide (0 ≤ (leadS (ix ([], []) l i) (ix ([], []) l j))))
          first | rw [g_67, Bool.false_and] | (rw [g_67]; rfl)
      rintro ⟨⟩ u_74 w_73 hS
      refine Wx.nil ?_
      refine W.cutK [9, 92, 93, 94, 95, 96, 97] (fun x : Value × (List (Int × Int)) => match x with | (ss3v, ss3) => [(9, ss3v)]) (fun (x : Value × (List (Int × Int))) w' => match x with | (ss3v, ss3) => St w O w' [.box g_52 62 [v_44, v_45], Ob.v (tSl (tI .i64)) ((ix ([], []) l j).2) v_45, Ob.v (tSl (tI .i64)) ((ix ([], []) l j).1) v_44, .box g_32 62 [v_24, v_25], Ob.v (tSl (tI .i64)) ((ix ([], []) l i).2) v_25, Ob.v (tSl (tI .i64)) ((ix ([], []) l i).1) v_24, .row (tP (tI .i64) (tI .i64)) 59 bb2v bb2, .row (tP (tI .i64) (tI .i64)) 59 ss3v ss3, Ob.v (tSl (tP (tSl (tI .i64)) (tSl (tI .i64)))) l v_8, .box g_11 22 [v_8], .box g_1 66 (List.map (Value.int .u8) zs)] ∧ ss3 ++ (pairR (gS l) i (rng (j + 1) l.length) ++ pairsR (gS l) l.length (rng (i + 1) l.length)) = pairsV (gS l) l.length ∧ (ss3.length : Int) ≤ 6 * i + j + 1) ?_ ?_
      · -- up to the cut
        refine W.cond rfl (fun c3 => ?_) (fun c3 => ?_)
        · -- yes
          try simp only [Bool.and_eq_true, Bool.or_eq_true, Bool.not_eq_true', Bool.and_eq_false_iff, Bool.or_eq_false_iff, Bool.not_eq_false', decide_eq_true_eq, decide_eq_false_iff_not, not_or, Bool.false_eq_true, Bool.true_eq_false, false_or, or_false, not_false_eq_true] at c3
          refine W.reg ?_
          refine Wx.rd (v := ss2v) (rd_move rfl) rfl ?_
          refine Wx.rd (v := .int .i64 i) (rd_move rfl) rfl ?_
          refine Wx.rd (v := .int .i64 j) (rd_move rfl) rfl ?_
          refine Wx.rd (v := .agg #[.int .i64 i, .int .i64 j]) (rd_build (vs := [(0, .int .i64 i), (1, .int .i64 j)]) rfl (by kernel_rfl)) rfl ?_
          refine Wx.lit (t := (tP (tI .i64) (tI .i64))) (ys := [(i, j)]) (vs := [.agg #[.int .i64 i, .int .i64 j]]) elMb_31 hS rfl rfl ⟨(V.mk2 (in_i64 (by omega) (by omega)) (in_i64 (by omega) (by omega))), trivial⟩ (by decide) rfl (fun v_75 w_76 hx_77 hS => ?_)
          refine Wx.append elMb_31 hS 8 rfl rfl rfl (Src.ofR hS 0 rfl) (by simp only [maxLen]; simp; omega) (by simp; omega) rfl (fun v_78 w_79 hz_80 hS => ?_)
          refine Wx.rd (v := v_78) (rd_assign rfl) rfl ?_
          refine Wx.nil ?_
          refine ⟨(v_78, ss2 ++ [(i, j)]), ?_, ?_, Out.look rfl Out.refl⟩
          · exact ⟨hS.tl, (by rw [← g2, pairR_yes (f := gS l) c1 ⟨c3.1, decide_eq_true (by omega)⟩]; simp), (by simp only [List.length_append, List.length_cons, List.length_nil]; omega)⟩
          · exact ⟨rfl, trivial⟩
        · -- no
          try simp only [Bool.and_eq_true, Bool.or_eq_true, Bool.not_eq_true', Bool.and_eq_false_iff, Bool.or_eq_false_iff, Bool.not_eq_false', decide_eq_true_eq, decide_eq_false_iff_not, not_or, Bool.false_eq_true, Bool.true_eq_false, false_or, or_false, not_false_eq_true] at c3
          refine W.skip ?_
          refine ⟨(ss2v, ss2), ?_, ?_, Out.look rfl Out.refl⟩
          · exact ⟨hS, (by rw [← g2, pairR_no (f := gS l) c1 (c3.elim (fun h => .inl (by omega)) (fun h => .inr (decide_eq_false (by omega))))]), (by omega)⟩
          · exact ⟨rfl, trivial⟩
      rintro ⟨ss3v, ss3⟩ u_82 w_81 ⟨hS, u2, u3⟩
      refine W.seq ?_
      refine W.seq ?_
      refine W.reg ?_
      refine Wx.rd (v := .int .i64 i) (rd_move rfl) rfl ?_
      refine Wx.rd (v := .int .i64 j) (rd_move rfl) rfl ?_
      refine Wx.rd (v := .bool (decide (i ≠ j))) (rd_neq rfl rfl) rfl ?_
      refine Wx.rd (v := .bool (decide (i ≠ j))) (rd_move rfl) rfl ?_
      refine Wx.cut (X := Unit) 5 [102, 103, 104, 105, 106] (fun _ => [(106, .bool (decide (i ≠ j) && decide (0 < (leadS (ix ([], []) l i) (ix ([], []) l j)))))]) (fun _ w' => St w O w' [.box g_52 62 [v_44, v_45], Ob.v (tSl (tI .i64)) ((ix ([], []) l j).2) v_45, Ob.v (tSl (tI .i64)) ((ix ([], []) l j).1) v_44, .box g_32 62 [v_24, v_25], Ob.v (tSl (tI .i64)) ((ix ([], []) l i).2) v_25, Ob.v (tSl (tI .i64)) ((ix ([], []) l i).1) v_24, .row (tP (tI .i64) (tI .i64)) 59 bb2v bb2, .row (tP (tI .i64) (tI .i64)) 59 ss3v ss3, Ob.v (tSl (tP (tSl (tI .i64)) (tSl (tI .i64)))) l v_8, .box g_11 22 [v_8], .box g_1 66 (List.map (Value.int .u8) zs)]) ?_ ?_
      · rcases Bool.eq_false_or_eq_true (decide (i ≠ j)) with g_83 | g_83
        · -- True
          have gp_84 := of_decide_eq_true g_83
          refine Wx.gyes rfl rfl (congrArg Value.bool g_83) ?_
          refine Wx.rd (v := .agg #[v_24, v_25]) (rd_loadXs (ds := [v_24, v_25]) hS 3 rfl rfl rfl rfl Try.isAgg62 Try.sizeOf62) rfl ?_
          refine Wx.gyes rfl rfl (congrArg Value.bool g_83) ?_
          refine Wx.rd (v := .agg #[v_44, v_45]) (rd_loadXs (ds := [v_44, v_45]) hS 0 rfl rfl rfl rfl Try.isAgg62 Try.sizeOf62) rfl ?_
          refine Wx.gyes rfl rfl (congrArg Value.bool g_83) ?_
          refine Wx.callF (run_callF Try.call53 rfl) (F53 (hS.v 5 rfl) (hS.v 4 rfl) (hS.v 2 rfl) (hS.v 1 rfl) (hok i (by omega) (by omega)).b1 (hok i (by omega) (by omega)).b2 (hok j (by omega) (by omega)).b2 (by have := (hok i (by omega) (by omega)).l1; omega) (by have h1 := (hok i (by omega) (by omega)).l1; have h2 := (hok i (by omega) (by omega)).l2; omega) (by have h1 := (hok i (by omega) (by omega)).l1; have h2 := (hok j (by omega) (by omega)).l2; omega)) rfl ?_
          rintro r_85 w_86 hx_87 rfl
          have hS := hS.ext hx_87
          rw [show (leadS (((ix ([], []) l i).1), ((ix ([], []) l i).2)) (((ix ([], []) l j).1), ((ix ([], []) l j).2)) : Int) = leadS (ix ([], []) l i) (ix ([], []) l j) from rfl]
          refine Wx.gyes rfl rfl (congrArg Value.bool g_83) ?_
          refine Wx.rd (v := .bool (decide (0 < (leadS (ix ([], []) l i) (ix ([], []) l j))))) (rd_gtr rfl rfl) rfl ?_
          refine Wx.rd (v := .bool (decide (0 < (leadS (ix ([], []) l i) (ix ([], []) l j))))) (rd_pickT (congrArg Value.bool g_83) rfl) rfl ?_
          refine Wx.nil ⟨(), hS, ⟨?_, trivial⟩, Out.look rfl Out.refl⟩
          show Value.bool (decide (0 < (leadS (ix ([], []) l i) (ix ([], []) l j)))) = Value.bool (decide (i ≠ j) && decide (0 < (leadS (ix ([], []) l i) (ix ([], []) l j))))
          first | rw [g_83, Bool.true_and] | (rw [g_83]; rfl)
        · -- False
          have gp_88 := of_decide_eq_false g_83
          refine Wx.gnoB rfl rfl (congrArg Value.bool g_83) rfl rfl ?_
          refine Wx.gnoB rfl rfl (congrArg Value.bool g_83) rfl rfl ?_
          refine Wx.gnoB rfl rfl (congrArg Value.bool g_83) rfl rfl ?_
          refine Wx.gnoB rfl rfl (congrArg Value.bool g_83) rfl rfl ?_
          refine Wx.rd (v := .bool false) (rd_pickF (congrArg Value.bool g_83) rfl) rfl ?_
          refine Wx.nil ⟨(), hS, ⟨?_, trivial⟩, Out.look rfl Out.refl⟩
          show Value.bool false = Value.bool (decide (i ≠ j) && decide (0 < (leadS (ix ([], []) l i) (ix ([], []) l j))))
          first | rw [g_83, Bool.false_and] | (rw [g_83]; rfl)
      rintro ⟨⟩ u_90 w_89 hS
      refine Wx.nil ?_
      refine W.cutK [10, 107, 108, 109, 110, 111, 112] (fun x : Value × (List (Int × Int)) => match x with | (bb3v, bb3) => [(10, bb3v)]) (fun (x : Value × (List (Int × Int))) w' => match x with | (bb3v, bb3) => St w O w' [.box g_52 62 [v_44, v_45], Ob.v (tSl (tI .i64)) ((ix ([], []) l j).2) v_45, Ob.v (tSl (tI .i64)) ((ix ([], []) l j).1) v_44, .box g_32 62 [v_24, v_25], Ob.v (tSl (tI .i64)) ((ix ([], []) l i).2) v_25, Ob.v (tSl (tI .i64)) ((ix ([], []) l i).1) v_24, .row (tP (tI .i64) (tI .i64)) 59 bb3v bb3, .row (tP (tI .i64) (tI .i64)) 59 ss3v ss3, Ob.v (tSl (tP (tSl (tI .i64)) (tSl (tI .i64)))) l v_8, .box g_11 22 [v_8], .box g_1 66 (List.map (Value.int .u8) zs)] ∧ bb3 ++ (pairR (bS l) i (rng (j + 1) l.length) ++ pairsR (bS l) l.length (rng (i + 1) l.length)) = pairsV (bS l) l.length ∧ (bb3.length : Int) ≤ 6 * i + j + 1) ?_ ?_
      · -- up to the cut
        refine W.cond rfl (fun c4 => ?_) (fun c4 => ?_)
        · -- yes
          try simp only [Bool.and_eq_true, Bool.or_eq_true, Bool.not_eq_true', Bool.and_eq_false_iff, Bool.or_eq_false_iff, Bool.not_eq_false', decide_eq_true_eq, decide_eq_false_iff_not, not_or, Bool.false_eq_true, Bool.true_eq_false, false_or, or_false, not_false_eq_true] at c4
          refine W.reg ?_
          refine Wx.rd (v := bb2v) (rd_move rfl) rfl ?_
          refine Wx.rd (v := .int .i64 i) (rd_move rfl) rfl ?_
          refine Wx.rd (v := .int .i64 j) (rd_move rfl) rfl ?_
          refine Wx.rd (v := .agg #[.int .i64 i, .int .i64 j]) (rd_build (vs := [(0, .int .i64 i), (1, .int .i64 j)]) rfl (by kernel_rfl)) rfl ?_
          refine Wx.lit (t := (tP (tI .i64) (tI .i64))) (ys := [(i, j)]) (vs := [.agg #[.int .i64 i, .int .i64 j]]) elMb_31 hS rfl rfl ⟨(V.mk2 (in_i64 (by omega) (by omega)) (in_i64 (by omega) (by omega))), trivial⟩ (by decide) rfl (fun v_91 w_92 hx_93 hS => ?_)
          refine Wx.append elMb_31 hS 7 rfl rfl rfl (Src.ofR hS 0 rfl) (by simp only [maxLen]; simp; omega) (by simp; omega) rfl (fun v_94 w_95 hz_96 hS => ?_)
          refine Wx.rd (v := v_94) (rd_assign rfl) rfl ?_
          refine Wx.nil ?_
          refine ⟨(v_94, bb2 ++ [(i, j)]), ?_, ?_, Out.look rfl Out.refl⟩
          · exact ⟨hS.tl, (by rw [← g3, pairR_yes (f := bS l) c1 ⟨c4.1, decide_eq_true (by omega)⟩]; simp), (by simp only [List.length_append, List.length_cons, List.length_nil]; omega)⟩
          · exact ⟨rfl, trivial⟩
        · -- no
          try simp only [Bool.and_eq_true, Bool.or_eq_true, Bool.not_eq_true', Bool.and_eq_false_iff, Bool.or_eq_false_iff, Bool.not_eq_false', decide_eq_true_eq, decide_eq_false_iff_not, not_or, Bool.false_eq_true, Bool.true_eq_false, false_or, or_false, not_false_eq_true] at c4
          refine W.skip ?_
          refine ⟨(bb2v, bb2), ?_, ?_, Out.look rfl Out.refl⟩
          · exact ⟨hS, (by rw [← g3, pairR_no (f := bS l) c1 (c4.elim (fun h => .inl (by omega)) (fun h => .inr (decide_eq_false (by omega))))]), (by omega)⟩
          · exact ⟨rfl, trivial⟩
      rintro ⟨bb3v, bb3⟩ u_98 w_97 ⟨hS, v2, v3⟩
      refine W.seq ?_
      refine W.reg ?_
      refine Wx.rd (v := .bool false) (rd_assign rfl) rfl ?_
      refine Wx.rd (v := .bool false) (rd_assign rfl) rfl ?_
      refine Wx.nil ?_
      refine W.seq ?_
      refine W.seq ?_
      refine W.reg ?_
      refine Wx.rd (v := .int .i64 (shG zs)) (rd_move rfl) rfl ?_
      refine Wx.rd (v := .int .i64 0) (rd_move rfl) rfl ?_
      refine Wx.nil ?_
      refine W.block ?_
      refine W.loop [19, 20, 21, 114, 115, 116, 117, 118, 119, 120, 121, 122, 123, 124, 125, 126, 127, 128, 129, 130, 131, 132, 133, 134, 135, 136, 137, 138, 139, 140, 141, 142, 143, 144, 145] (fun x : Bool × Bool × Int => match x with | (mo, le, k) => [(19, .bool mo), (20, .bool le), (114, .int .i64 k)]) (fun (x : Bool × Bool × Int) w' => match x with | (mo, le, k) => St w O w' [.box g_52 62 [v_44, v_45], Ob.v (tSl (tI .i64)) ((ix ([], []) l j).2) v_45, Ob.v (tSl (tI .i64)) ((ix ([], []) l j).1) v_44, .box g_32 62 [v_24, v_25], Ob.v (tSl (tI .i64)) ((ix ([], []) l i).2) v_25, Ob.v (tSl (tI .i64)) ((ix ([], []) l i).1) v_24, .row (tP (tI .i64) (tI .i64)) 59 bb3v bb3, .row (tP (tI .i64) (tI .i64)) 59 ss3v ss3, Ob.v (tSl (tP (tSl (tI .i64)) (tSl (tI .i64)))) l v_8, .box g_11 22 [v_8], .box g_1 66 (List.map (Value.int .u8) zs)] ∧ 0 ≤ k ∧ k ≤ shG zs ∧ mo = (rng 0 k).any (fun q => decide (ix 0 (ix ([], []) l j).2 q < ix 0 (ix ([], []) l i).2 q)) ∧ le = (rng 0 k).any (fun q => decide (ix 0 (ix ([], []) l i).2 q < ix 0 (ix ([], []) l j).2 q))) (fun x : Bool × Bool × Int => match x with | (mo, le, k) => (shG zs - k).toNat) (false, false, 0) ⟨rfl, rfl, rfl, trivial⟩ ⟨hS, (by first | omega | simp), (by first | omega | simp), (rfl), (rfl)⟩ ?_
      rintro ⟨mo, le, k⟩ u_100 w_99 ⟨hS, k0, k1, k2, k3⟩
      refine W.seq ?_
      refine W.reg ?_
      refine Wx.rd (v := .bool (decide (k < (shG zs)))) (rd_lss rfl rfl) rfl ?_
      refine Wx.nil ?_
      refine W.seq ?_
      refine W.condD rfl (fun c5 => ?_) (fun c5 => ?_)
      · -- yes
        refine W.skip ?_
        refine W.seq ?_
        refine W.block ?_
        refine W.seq ?_
        refine W.reg ?_
        refine Wx.rd (v := .int .i64 k) (rd_move rfl) rfl ?_
        refine Wx.rd (v := .int .i64 k) (rd_assign rfl) rfl ?_
        refine Wx.nil ?_
        refine W.seq ?_
        refine W.regQ mixedMb_ (by kernel_rfl) ?_
        refine Wx.rd (v := .bool mo) (rd_move rfl) rfl ?_
        refine Wx.rd (v := .bool mo) (rd_move rfl) rfl ?_
        refine Wx.cutQ (X := Unit) 12 [119, 120, 121, 122, 123, 124, 125, 126, 127, 128, 129, 130] (fun _ => [(130, .bool (mo || decide ((ix 0 ((ix ([], []) l j).2) k) < (ix 0 ((ix ([], []) l i).2) k))))]) (fun _ => True) ?_ ?_
        · rcases Bool.eq_false_or_eq_true mo with g_101 | g_101
          · -- True
            have gp_102 := g_101
            try simp only [Bool.and_eq_true, Bool.or_eq_true, Bool.not_eq_true', Bool.and_eq_false_iff, Bool.or_eq_false_iff, Bool.not_eq_false', decide_eq_true_eq, decide_eq_false_iff_not, not_or, Bool.false_eq_true, Bool.true_eq_false, false_or, or_false, not_false_eq_true] at gp_102
            refine Wx.gnoB rfl rfl (congrArg Value.bool g_101) rfl rfl ?_
            refine Wx.gnoB rfl rfl (congrArg Value.bool g_101) rfl rfl ?_
            refine Wx.gnoB rfl rfl (congrArg Value.bool g_101) rfl rfl ?_
            refine Wx.gnoB rfl rfl (congrArg Value.bool g_101) rfl rfl ?_
            refine Wx.gnoB rfl rfl (congrArg Value.bool g_101) rfl rfl ?_
            refine Wx.gnoB rfl rfl (congrArg Value.bool g_101) rfl rfl ?_
            refine Wx.gnoB rfl rfl (congrArg Value.bool g_101) rfl rfl ?_
            refine Wx.gnoB rfl rfl (congrArg Value.bool g_101) rfl rfl ?_
            refine Wx.gnoB rfl rfl (congrArg Value.bool g_101) rfl rfl ?_
            refine Wx.gnoB rfl rfl (congrArg Value.bool g_101) rfl rfl ?_
            refine Wx.gnoB rfl rfl (congrArg Value.bool g_101) rfl rfl ?_
            refine Wx.rd (v := .bool true) (rd_pickT (congrArg Value.bool g_101) rfl) rfl ?_
            refine Wx.nilQ (fun _ _ => ⟨(), trivial, ⟨?_, trivial⟩, Out.look rfl Out.refl⟩)
            show Value.bool true = Value.bool (mo || decide ((ix 0 ((ix ([], []) l j).2) k) < (ix 0 ((ix ([], []) l i).2) k)))
            first | rw [g_101, Bool.true_or] | (rw [g_101]; rfl)
          · -- False
            have gp_103 := g_101
            try simp only [Bool.and_eq_true, Bool.or_eq_true, Bool.not_eq_true', Bool.and_eq_false_iff, Bool.or_eq_false_iff, Bool.not_eq_false', decide_eq_true_eq, decide_eq_false_iff_not, not_or, Bool.false_eq_true, Bool.true_eq_false, false_or, or_false, not_false_eq_true] at gp_103
            refine Wx.gyes rfl rfl (congrArg Value.bool g_101) ?_
            refine Wx.rd (v := .pointer (some ⟨g_32, 1, none⟩)) (rd_fieldAddr rfl foMb_62_1) rfl ?_
            refine Wx.gyes rfl rfl (congrArg Value.bool g_101) ?_
            refine Wx.rd (v := v_25) (rd_loadX hS 3 rfl rfl rfl Try.isAgg39) rfl ?_
            refine Wx.gyes rfl rfl (congrArg Value.bool g_101) ?_
            refine Wx.rd (v := .int .i64 k) (rd_move rfl) rfl ?_
            refine Wx.gyes rfl rfl (congrArg Value.bool g_101) ?_
            refine Wx.ex (rd_index 0 (hS.v 4 rfl) rfl rfl Try.underlying39 Try.sizeOf3 (by first | omega | (simp only [List.length_set, List.length_append, List.length_cons, List.length_nil, List.length_replicate]; omega)) (by first | omega | (simp only [List.length_set, List.length_append, List.length_cons, List.length_nil, List.length_replicate]; omega))) rfl (fun p_104 hp_105 => ?_)
            refine Wx.gyes rfl rfl (congrArg Value.bool g_101) ?_
            refine Wx.rd (v := .int .i64 (ix 0 ((ix ([], []) l i).2) k)) (rd_loadI hp_105 rfl Try.isAgg3 Try.sizeOf3) rfl ?_
            have bd_106 := bd_i64 hp_105.inK
            refine Wx.gyes rfl rfl (congrArg Value.bool g_101) ?_
            refine Wx.rd (v := .pointer (some ⟨g_52, 1, none⟩)) (rd_fieldAddr rfl foMb_62_1) rfl ?_
            refine Wx.gyes rfl rfl (congrArg Value.bool g_101) ?_
            refine Wx.rd (v := v_45) (rd_loadX hS 0 rfl rfl rfl Try.isAgg39) rfl ?_
            refine Wx.gyes rfl rfl (congrArg Value.bool g_101) ?_
            refine Wx.rd (v := .int .i64 k) (rd_move rfl) rfl ?_
            refine Wx.gyes rfl rfl (congrArg Value.bool g_101) ?_
            refine Wx.ex (rd_index 0 (hS.v 1 rfl) rfl rfl Try.underlying39 Try.sizeOf3 (by first | omega | (simp only [List.length_set, List.length_append, List.length_cons, List.length_nil, List.length_replicate]; omega)) (by first | omega | (simp only [List.length_set, List.length_append, List.length_cons, List.length_nil, List.length_replicate]; omega))) rfl (fun p_107 hp_108 => ?_)
            refine Wx.gyes rfl rfl (congrArg Value.bool g_101) ?_
            refine Wx.rd (v := .int .i64 (ix 0 ((ix ([], []) l j).2) k)) (rd_loadI hp_108 rfl Try.isAgg3 Try.sizeOf3) rfl ?_
            have bd_109 := bd_i64 hp_108.inK
            refine Wx.gyes rfl rfl (congrArg Value.bool g_101) ?_
            refine Wx.rd (v := .bool (decide ((ix 0 ((ix ([], []) l j).2) k) < (ix 0 ((ix ([], []) l i).2) k)))) (rd_gtr rfl rfl) rfl ?_
            refine Wx.rd (v := .bool (decide ((ix 0 ((ix ([], []) l j).2) k) < (ix 0 ((ix ([], []) l i).2) k)))) (rd_pickF (congrArg Value.bool g_101) rfl) rfl ?_
            refine Wx.nilQ (fun _ _ => ⟨(), trivial, ⟨?_, trivial⟩, Out.look rfl Out.refl⟩)
            show Value.bool (decide ((ix 0 ((ix ([], []) l j).2) k) < (ix 0 ((ix ([], []) l i).2) k))) = Value.bool (mo || decide ((ix 0 ((ix ([], []) l j).2) k) < (ix 0 ((ix ([], []) l i).2) k)))
            first | rw [g_101, Bool.false_or] | (rw [g_101]; rfl)
        rintro ⟨⟩ u_111 -
        refine Wx.rd (v := .bool (mo || decide ((ix 0 ((ix ([], []) l j).2) k) < (ix 0 ((ix ([], []) l i).2) k)))) (rd_assign rfl) rfl ?_
        refine Wx.nilQ (fun w_112 hx_113 => ?_)
        have hS := hS.ext hx_113
        refine W.regQ mixedMb_ (by kernel_rfl) ?_
        refine Wx.rd (v := .bool le) (rd_move rfl) rfl ?_
        refine Wx.rd (v := .bool le) (rd_move rfl) rfl ?_
        refine Wx.cutQ (X := Unit) 12 [133, 134, 135, 136, 137, 138, 139, 140, 141, 142, 143, 144] (fun _ => [(144, .bool (le || decide ((ix 0 ((ix ([], []) l i).2) k) < (ix 0 ((ix ([], []) l j).2) k))))]) (fun _ => True) ?_ ?_
        · rcases Bool.eq_false_or_eq_true le with g_114 | g_114
          · -- True
            have gp_115 := g_114
            try simp only [Bool.and_eq_true, Bool.or_eq_true, Bool.not_eq_true', Bool.and_eq_false_iff, Bool.or_eq_false_iff, Bool.not_eq_false', decide_eq_true_eq, decide_eq_false_iff_not, not_or, Bool.false_eq_true, Bool.true_eq_false, false_or, or_false, not_false_eq_true] at gp_115
            refine Wx.gnoB rfl rfl (congrArg Value.bool g_114) rfl rfl ?_
            refine Wx.gnoB rfl rfl (congrArg Value.bool g_114) rfl rfl ?_
            refine Wx.gnoB rfl rfl (congrArg Value.bool g_114) rfl rfl ?_
            refine Wx.gnoB rfl rfl (congrArg Value.bool g_114) rfl rfl ?_
            refine Wx.gnoB rfl rfl (congrArg Value.bool g_114) rfl rfl ?_
            refine Wx.gnoB rfl rfl (congrArg Value.bool g_114) rfl rfl ?_
            refine Wx.gnoB rfl rfl (congrArg Value.bool g_114) rfl rfl ?_
            refine Wx.gnoB rfl rfl (congrArg Value.bool g_114) rfl rfl ?_
            refine Wx.gnoB rfl rfl (congrArg Value.bool g_114) rfl rfl ?_
            refine Wx.gnoB rfl rfl (congrArg Value.bool g_114) rfl rfl ?_
            refine Wx.gnoB rfl rfl (congrArg Value.bool g_114) rfl rfl ?_
            refine Wx.rd (v := .bool true) (rd_pickT (congrArg Value.bool g_114) rfl) rfl ?_
            refine Wx.nilQ (fun _ _ => ⟨(), trivial, ⟨?_, trivial⟩, Out.look rfl Out.refl⟩)
            show Value.bool true = Value.bool (le || decide ((ix 0 ((ix ([], []) l i).2) k) < (ix 0 ((ix ([], []) l j).2) k)))
            first | rw [g_114, Bool.true_or] | (rw [g_114]; rfl)
          · -- False
            have gp_116 := g_114
            try simp only [Bool.and_eq_true, Bool.or_eq_true, Bool.not_eq_true', Bool.and_eq_false_iff, Bool.or_eq_false_iff, Bool.not_eq_false', decide_eq_true_eq, decide_eq_false_iff_not, not_or, Bool.false_eq_true, Bool.true_eq_false, false_or, or_false, not_false_eq_true] at gp_116
            refine Wx.gyes rfl rfl (congrArg Value.bool g_114) ?_
            refine Wx.rd (v := .pointer (some ⟨g_32, 1, none⟩)) (rd_fieldAddr rfl foMb_62_1) rfl ?_
            refine Wx.gyes rfl rfl (congrArg Value.bool g_114) ?_
            refine Wx.rd (v := v_25) (rd_loadX hS 3 rfl rfl rfl Try.isAgg39) rfl ?_
            refine Wx.gyes rfl rfl (congrArg Value.bool g_114) ?_
            refine Wx.rd (v := .int .i64 k) (rd_move rfl) rfl ?_
            refine Wx.gyes rfl rfl (congrArg Value.bool g_114) ?_
            refine Wx.ex (rd_index 0 (hS.v 4 rfl) rfl rfl Try.underlying39 Try.sizeOf3 (by first | omega | (simp only [List.length_set, List.length_append, List.length_cons, List.length_nil, List.length_replicate]; omega)) (by first | omega | (simp only [List.length_set, List.length_append, List.length_cons, List.length_nil, List.length_replicate]; omega))) rfl (fun p_117 hp_118 => ?_)
            refine Wx.gyes rfl rfl (congrArg Value.bool g_114) ?_
            refine Wx.rd (v := .int .i64 (ix 0 ((ix ([], []) l i).2) k)) (rd_loadI hp_118 rfl Try.isAgg3 Try.sizeOf3) rfl ?_
            have bd_119 := bd_i64 hp_118.inK
            refine Wx.gyes rfl rfl (congrArg Value.bool g_114) ?_
            refine Wx.rd (v := .pointer (some ⟨g_52, 1, none⟩)) (rd_fieldAddr rfl foMb_62_1) rfl ?_
            refine Wx.gyes rfl rfl (congrArg Value.bool g_114) ?_
            refine Wx.rd (v := v_45) (rd_loadX hS 0 rfl rfl rfl Try.isAgg39) rfl ?_
            refine Wx.gyes rfl rfl (congrArg Value.bool g_114) ?_
            refine Wx.rd (v := .int .i64 k) (rd_move rfl) rfl ?_
            refine Wx.gyes rfl rfl (congrArg Value.bool g_114) ?_
            refine Wx.ex (rd_index 0 (hS.v 1 rfl) rfl rfl Try.underlying39 Try.sizeOf3 (by first | omega | (simp only [List.length_set, List.length_append, List.length_cons, List.length_nil, List.length_replicate]; omega)) (by first | omega | (simp only [List.length_set, List.length_append, List.length_cons, List.length_nil, List.length_replicate]; omega))) rfl (fun p_120 hp_121 => ?_)
            refine Wx.gyes rfl rfl (congrArg Value.bool g_114) ?_
            refine Wx.rd (v := .int .i64 (ix 0 ((ix ([], []) l j).2) k)) (rd_loadI hp_121 rfl Try.isAgg3 Try.sizeOf3) rfl ?_
            have bd_122 := bd_i64 hp_121.inK
            refine Wx.gyes rfl rfl (congrArg Value.bool g_114) ?_
            refine Wx.rd (v := .bool (decide ((ix 0 ((ix ([], []) l i).2) k) < (ix 0 ((ix ([], []) l j).2) k)))) (rd_lss rfl rfl) rfl ?_
            refine Wx.rd (v := .bool (decide ((ix 0 ((ix ([], []) l i).2) k) < (ix 0 ((ix ([], []) l j).2) k)))) (rd_pickF (congrArg Value.bool g_114) rfl) rfl ?_
            refine Wx.nilQ (fun _ _ => ⟨(), trivial, ⟨?_, trivial⟩, Out.look rfl Out.refl⟩)
            show Value.bool (decide ((ix 0 ((ix ([], []) l i).2) k) < (ix 0 ((ix ([], []) l j).2) k))) = Value.bool (le || decide ((ix 0 ((ix ([], []) l i).2) k) < (ix 0 ((ix ([], []) l j).2) k)))
            first | rw [g_114, Bool.false_or] | (rw [g_114]; rfl)
        rintro ⟨⟩ u_124 -
        refine Wx.rd (v := .bool (le || decide ((ix 0 ((ix ([], []) l i).2) k) < (ix 0 ((ix ([], []) l j).2) k)))) (rd_assign rfl) rfl ?_
        refine Wx.nilQ (fun w_125 hx_126 => ?_)
        have hS := hS.ext hx_126
        refine W.reg ?_
        refine Wx.rd (v := .int .i64 (k + 1)) (rd_add rfl rfl (in_i64 (by omega) (by omega))) rfl ?_
        refine Wx.rd (v := .int .i64 (k + 1)) (rd_move rfl) rfl ?_
        refine Wx.nil ?_
        refine ⟨((mo || decide ((ix 0 ((ix ([], []) l j).2) k) < (ix 0 ((ix ([], []) l i).2) k))), (le || decide ((ix 0 ((ix ([], []) l i).2) k) < (ix 0 ((ix ([], []) l j).2) k))), k + 1), (by show (shG zs - (k + 1)).toNat < (shG zs - k).toNat; omega), ?_, ?_, Out.look rfl (Out.hav rfl (Out.look rfl (Out.hav rfl (Out.look rfl Out.self))))⟩
        · exact ⟨hS, (by first | omega | assumption), (by first | omega | assumption), (by rw [any_snoc' k0, ← k2]), (by rw [any_snoc' k0, ← k3])⟩
        · exact ⟨rfl, rfl, rfl, trivial⟩
      · -- no
        refine W.exit rfl ?_
        refine W.seq ?_
        refine W.reg ?_
        refine Wx.rd (v := .bool mo) (rd_move rfl) rfl ?_
        refine Wx.rd (v := .bool mo) (rd_move rfl) rfl ?_
        refine Wx.cut (X := Unit) 3 [148, 149, 150] (fun _ => [(150, .bool (mo && !le))]) (fun _ w' => St w O w' [.box g_52 62 [v_44, v_45], Ob.v (tSl (tI .i64)) ((ix ([], []) l j).2) v_45, Ob.v (tSl (tI .i64)) ((ix ([], []) l j).1) v_44, .box g_32 62 [v_24, v_25], Ob.v (tSl (tI .i64)) ((ix ([], []) l i).2) v_25, Ob.v (tSl (tI .i64)) ((ix ([], []) l i).1) v_24, .row (tP (tI .i64) (tI .i64)) 59 bb3v bb3, .row (tP (tI .i64) (tI .i64)) 59 ss3v ss3, Ob.v (tSl (tP (tSl (tI .i64)) (tSl (tI .i64)))) l v_8, .box g_11 22 [v_8], .box g_1 66 (List.map (Value.int .u8) zs)]) ?_ ?_
        · rcases Bool.eq_false_or_eq_true mo with g_127 | g_127
          · -- True
            have gp_128 := g_127
            try simp only [Bool.and_eq_true, Bool.or_eq_true, Bool.not_eq_true', Bool.and_eq_false_iff, Bool.or_eq_false_iff, Bool.not_eq_false', decide_eq_true_eq, decide_eq_false_iff_not, not_or, Bool.false_eq_true, Bool.true_eq_false, false_or, or_false, not_false_eq_true] at gp_128
            refine Wx.gyes rfl rfl (congrArg Value.bool g_127) ?_
            refine Wx.rd (v := .bool le) (rd_move rfl) rfl ?_
            refine Wx.gyes rfl rfl (congrArg Value.bool g_127) ?_
            refine Wx.rd (v := .bool (!le)) (rd_not rfl) rfl ?_
            refine Wx.rd (v := .bool (!le)) (rd_pickT (congrArg Value.bool g_127) rfl) rfl ?_
            refine Wx.nil ⟨(), hS, ⟨?_, trivial⟩, Out.look rfl Out.refl⟩
            show Value.bool (!le) = Value.bool (mo && !le)
            first | rw [g_127, Bool.true_and] | (rw [g_127]; rfl)
          · -- False
            have gp_129 := g_127
            try simp only [Bool.and_eq_true, Bool.or_eq_true, Bool.not_eq_true', Bool.and_eq_false_iff, Bool.or_eq_false_iff, Bool.not_eq_false', decide_eq_true_eq, decide_eq_false_iff_not, not_or, Bool.false_eq_true, Bool.true_eq_false, false_or, or_false, not_false_eq_true] at gp_129
            refine Wx.gnoB rfl rfl (congrArg Value.bool g_127) rfl rfl ?_
            refine Wx.gnoB rfl rfl (congrArg Value.bool g_127) rfl rfl ?_
            refine Wx.rd (v := .bool false) (rd_pickF (congrArg Value.bool g_127) rfl) rfl ?_
            refine Wx.nil ⟨(), hS, ⟨?_, trivial⟩, Out.look rfl Out.refl⟩
            show Value.bool false = Value.bool (mo && !le)
            first | rw [g_127, Bool.false_and] | (rw [g_127]; rfl)
        rintro ⟨⟩ u_131 w_130 hS
        refine Wx.rd (v := .bool (mo && !le)) (rd_move rfl) rfl ?_
        refine Wx.cut (X := Unit) 5 [152, 153, 154, 155, 156] (fun _ => [(156, .bool ((mo && !le) && decide ((leadS (ix ([], []) l i) (ix ([], []) l j)) ≤ 0)))]) (fun _ w' => St w O w' [.box g_52 62 [v_44, v_45], Ob.v (tSl (tI .i64)) ((ix ([], []) l j).2) v_45, Ob.v (tSl (tI .i64)) ((ix ([], []) l j).1) v_44, .box g_32 62 [v_24, v_25], Ob.v (tSl (tI .i64)) ((ix ([], []) l i).2) v_25, Ob.v (tSl (tI .i64)) ((ix ([], []) l i).1) v_24, .row (tP (tI .i64) (tI .i64)) 59 bb3v bb3, .row (tP (tI .i64) (tI .i64)) 59 ss3v ss3, Ob.v (tSl (tP (tSl (tI .i64)) (tSl (tI .i64)))) l v_8, .box g_11 22 [v_8], .box g_1 66 (List.map (Value.int .u8) zs)]) ?_ ?_
        · rcases Bool.eq_false_or_eq_true (mo && !le) with g_132 | g_132
          · -- True
            have gp_133 := g_132
            try simp only [Bool.and_eq_true, Bool.or_eq_true, Bool.not_eq_true', Bool.and_eq_false_iff, Bool.or_eq_false_iff, Bool.not_eq_false', decide_eq_true_eq, decide_eq_false_iff_not, not_or, Bool.false_eq_true, Bool.true_eq_false, false_or, or_false, not_false_eq_true] at gp_133
            refine Wx.gyes rfl rfl (congrArg Value.bool g_132) ?_
            refine Wx.rd (v := .agg #[v_24, v_25]) (rd_loadXs (ds := [v_24, v_25]) hS 3 rfl rfl rfl rfl Try.isAgg62 Try.sizeOf62) rfl ?_
            refine Wx.gyes rfl rfl (congrArg Value.bool g_132) ?_
            refine Wx.rd (v := .agg #[v_44, v_45]) (rd_loadXs (ds := [v_44, v_45]) hS 0 rfl rfl rfl rfl Try.isAgg62 Try.sizeOf62) rfl ?_
            refine Wx.gyes rfl rfl (congrArg Value.bool g_132) ?_
            refine Wx.callF (run_callF Try.call53 rfl) (F53 (hS.v 5 rfl) (hS.v 4 rfl) (hS.v 2 rfl) (hS.v 1 rfl) (hok i (by omega) (by omega)).b1 (hok i (by omega) (by omega)).b2 (hok j (by omega) (by omega)).b2 (by have := (hok i (by omega) (by omega)).l1; omega) (by have h1 := (hok i (by omega) (by omega)).l1; have h2 := (hok i (by omega) (by omega)).l2; omega) (by have h1 := (hok i (by omega) (by omega)).l1; have h2 := (hok j (by omega) (by omega)).l2; omega)) rfl ?_
            rintro r_134 w_135 hx_136 rfl
            have hS := hS.ext hx_136
            rw [show (leadS (((ix ([], []) l i).1), ((ix ([], []) l i).2)) (((ix ([], []) l j).1), ((ix ([], []) l j).2)) : Int) = leadS (ix ([], []) l i) (ix ([], []) l j) from rfl]
            refine Wx.gyes rfl rfl (congrArg Value.bool g_132) ?_
            refine Wx.rd (v := .bool (decide ((leadS (ix ([], []) l i) (ix ([], []) l j)) ≤ 0))) (rd_leq rfl rfl) rfl ?_
            refine Wx.rd (v := .bool (decide ((leadS (ix ([], []) l i) (ix ([], []) l j)) ≤ 0))) (rd_pickT (congrArg Value.bool g_132) rfl) rfl ?_
            refine Wx.nil ⟨(), hS, ⟨?_, trivial⟩, Out.look rfl Out.refl⟩
            show Value.bool (decide ((leadS (ix ([], []) l i) (ix ([], []) l j)) ≤ 0)) = Value.bool ((mo && !le) && decide ((leadS (ix ([], []) l i) (ix ([], []) l j)) ≤ 0))
            first | rw [g_132, Bool.true_and] | (rw [g_132]; rfl)
          · -- False
            have gp_137 := g_132
            try simp only [Bool.and_eq_true, Bool.or_eq_true, Bool.not_eq_true', Bool.and_eq_false_iff, Bool.or_eq_false_iff, Bool.not_eq_false', decide_eq_true_eq, decide_eq_false_iff_not, not_or, Bool.false_eq_true, Bool.true_eq_false, false_or, or_false, not_false_eq_true] at gp_137
            refine Wx.gnoB rfl rfl (congrArg Value.bool g_132) rfl rfl ?_
            refine Wx.gnoB rfl rfl (congrArg Value.bool g_132) rfl rfl ?_
            refine Wx.gnoB rfl rfl (congrArg Value.bool g_132) rfl rfl ?_
            refine Wx.gnoB rfl rfl (congrArg Value.bool g_132) rfl rfl ?_
            refine Wx.rd (v := .bool false) (rd_pickF (congrArg Value.bool g_132) rfl) rfl ?_
            refine Wx.nil ⟨(), hS, ⟨?_, trivial⟩, Out.look rfl Out.refl⟩
            show Value.bool false = Value.bool ((mo && !le) && decide ((leadS (ix ([], []) l i) (ix ([], []) l j)) ≤ 0))
            first | rw [g_132, Bool.false_and] | (rw [g_132]; rfl)
        rintro ⟨⟩ u_139 w_138 hS
        refine Wx.nil ?_
        refine W.condF rfl (by cases hm : mo with | false => rfl | true => cases hl : le with | true => rfl | false => exact decide_eq_false (by have := more_lead hxo hyo (by rw [show shG zs = k by omega, ← k3]; exact hl) (by rw [show shG zs = k by omega, ← k2]; exact hm); omega)) ?_
        refine W.skip ?_
        refine W.reg ?_
        refine Wx.rd (v := .int .i64 (j + 1)) (rd_add rfl rfl (in_i64 (by omega) (by omega))) rfl ?_
        refine Wx.rd (v := .int .i64 (j + 1)) (rd_move rfl) rfl ?_
        refine Wx.nil ?_
        refine ⟨(j + 1, ss3v, ss3, bb3v, bb3), (by show (l.length - (j + 1)).toNat < (l.length - j).toNat; omega), ?_, ?_, Out.look rfl (Out.hav rfl (Out.look rfl (Out.hav rfl (Out.look rfl (Out.hav rfl (Out.look rfl (Out.hav rfl (Out.look rfl (Out.hav rfl (Out.look rfl (Out.hav rfl (Out.look rfl (Out.hav rfl (Out.look rfl Out.self))))))))))))))⟩
        · exact ⟨St.tl (St.tl (hS.tl)), (by first | omega | assumption), (by first | omega | assumption), (u2), (v2), (by first | omega | assumption), (by first | omega | assumption)⟩
        · exact ⟨rfl, rfl, rfl, trivial⟩
    · -- no
      refine W.exit rfl ?_
      refine W.reg ?_
      refine Wx.rd (v := .int .i64 (i + 1)) (rd_add rfl rfl (in_i64 (by omega) (by omega))) rfl ?_
      refine Wx.rd (v := .int .i64 (i + 1)) (rd_move rfl) rfl ?_
      refine Wx.nil ?_
      refine ⟨(i + 1, ss2v, ss2, bb2v, bb2), (by show (l.length - (i + 1)).toNat < (l.length - i).toNat; omega), ?_, ?_, Out.look rfl (Out.hav rfl (Out.look rfl Out.self))⟩
      · exact ⟨St.tl (St.tl (hS.tl)), (by first | omega | assumption), (by first | omega | assumption), (by rw [← g2, pairR_end (by omega), List.nil_append]), (by rw [← g3, pairR_end (by omega), List.nil_append]), (by first | omega | assumption), (by first | omega | assumption)⟩
      · exact ⟨rfl, rfl, rfl, trivial⟩
  · -- no
    refine W.exit rfl ?_
    refine W.seq ?_
    refine W.reg ?_
    refine Wx.rd (v := .int .i64 (shG zs)) (rd_move rfl) rfl ?_
    refine Wx.rd (v := v_8) (rd_loadX hS 3 rfl rfl rfl Try.isAgg22) rfl ?_
    refine Wx.callF (run_callF Try.call20 rfl) (F20 (in_i64 (by omega) (by omega)) (hS.v 2 rfl) hS.fb_lt) rfl ?_
    rintro r_140 w_141 hx_142 ⟨v_143, rfl, hv_144⟩
    have hS := hS.pushFr hx_142 hv_144
    refine Wx.rd (v := .tuple #[v_143, .int .i64 (checkE (shG zs) l)]) (rd_move rfl) rfl ?_
    refine Wx.rd (v := v_143) (rd_extract rfl rfl) rfl ?_
    refine Wx.rd (v := .int .i64 (checkE (shG zs) l)) (rd_extract rfl rfl) rfl ?_
    refine Wx.rd (v := v_143) (rd_assign rfl) rfl ?_
    refine Wx.rd (v := .int .i64 0) (Rd.to (v := .int .i64 (checkE (shG zs) l)) (rd_assign rfl) (congrArg (Value.int .i64) (show (0 : Int) = (checkE (shG zs) l : Int) from hc.symm).symm)) rfl ?_
    refine Wx.nil ?_
    refine W.seq ?_
    refine W.reg ?_
    refine Wx.rd (v := .int .i64 (shG zs)) (rd_move rfl) rfl ?_
    refine Wx.rd (v := v_8) (rd_loadX hS 4 rfl rfl rfl Try.isAgg22) rfl ?_
    refine Wx.callF (run_callF Try.call22 rfl) (F22 (in_i64 (by omega) (by omega)) (hS.v 3 rfl) hS.fb_lt) rfl ?_
    rintro r_146 w_147 hx_148 ⟨v_149, rfl, hv_150⟩
    have hS := hS.pushFr hx_148 hv_150
    refine Wx.rd (v := .tuple #[v_149, .int .i64 (checkE (shG zs) l)]) (rd_move rfl) rfl ?_
    refine Wx.rd (v := v_149) (rd_extract rfl rfl) rfl ?_
    refine Wx.rd (v := .int .i64 (checkE (shG zs) l)) (rd_extract rfl rfl) rfl ?_
    refine Wx.rd (v := v_149) (rd_assign rfl) rfl ?_
    refine Wx.rd (v := .int .i64 0) (Rd.to (v := .int .i64 (checkE (shG zs) l)) (rd_assign rfl) (congrArg (Value.int .i64) (show (0 : Int) = (checkE (shG zs) l : Int) from hc.symm).symm)) rfl ?_
    refine Wx.nil ?_
    refine W.seq ?_
    refine W.seq ?_
    refine W.reg ?_
    refine Wx.rd (v := .int .i64 0) (rd_move rfl) rfl ?_
    refine Wx.rd (v := .bool false) (Rd.to (v := .bool (decide ((0 : Int) ≠ 0))) (rd_neq rfl rfl) rfl) rfl ?_
    refine Wx.rd (v := .bool false) (rd_move rfl) rfl ?_
    refine Wx.gyes rfl rfl rfl ?_
    refine Wx.rd (v := .int .i64 0) (rd_move rfl) rfl ?_
    refine Wx.gyes rfl rfl rfl ?_
    refine Wx.rd (v := .bool false) (Rd.to (v := .bool (decide ((0 : Int) ≠ 0))) (rd_neq rfl rfl) rfl) rfl ?_
    refine Wx.rd (v := .bool false) (rd_pickF rfl rfl) rfl ?_
    refine Wx.rd (v := .bool false) (rd_move rfl) rfl ?_
    refine Wx.gyes rfl rfl rfl ?_
    refine Wx.rd (v := v_143) (rd_move rfl) rfl ?_
    refine Wx.gyes rfl rfl rfl ?_
    refine Wx.rd (v := ssv) (rd_move rfl) rfl ?_
    refine Wx.gyes rfl rfl rfl ?_
    refine Wx.callF (run_callF Try.call24 rfl) (F24 (hS.lend 1 rfl) (hS.lend 3 rfl)) rfl ?_
    rintro r_152 w_153 hx_154 rfl
    have hS := hS.ext hx_154
    rw [show (decide ((pairsE (gS l) (shG zs) l) = ss) : Bool) = true from (decide_eq_true (by rw [pairsE, if_pos hc, ← h2, pairsR_end (by omega), List.append_nil]))]
    refine Wx.gyes rfl rfl rfl ?_
    refine Wx.rd (v := .bool false) (rd_not (c := true) rfl) rfl ?_
    refine Wx.rd (v := .bool false) (rd_pickF rfl rfl) rfl ?_
    refine Wx.rd (v := .bool false) (rd_move rfl) rfl ?_
    refine Wx.gyes rfl rfl rfl ?_
    refine Wx.rd (v := v_149) (rd_move rfl) rfl ?_
    refine Wx.gyes rfl rfl rfl ?_
    refine Wx.rd (v := bbv) (rd_move rfl) rfl ?_
    refine Wx.gyes rfl rfl rfl ?_
    refine Wx.callF (run_callF Try.call24 rfl) (F24 (hS.lend 0 rfl) (hS.lend 2 rfl)) rfl ?_
    rintro r_155 w_156 hx_157 rfl
    have hS := hS.ext hx_157
    rw [show (decide ((pairsE (bS l) (shG zs) l) = bb) : Bool) = true from (decide_eq_true (by rw [pairsE, if_pos hc, ← h3, pairsR_end (by omega), List.append_nil]))]
    refine Wx.gyes rfl rfl rfl ?_
    refine Wx.rd (v := .bool false) (rd_not (c := true) rfl) rfl ?_
    refine Wx.rd (v := .bool false) (rd_pickF rfl rfl) rfl ?_
    refine Wx.nil ?_
    refine W.condF rfl rfl ?_
    refine W.skip ?_
    refine W.seq ?_
    refine W.reg ?_
    refine Wx.rd (v := v_8) (rd_loadX hS 5 rfl rfl rfl Try.isAgg22) rfl ?_
    refine Wx.rd (v := .int .i64 (l.length : Int)) (rd_lenV rfl (hS.v 4 rfl) Try.underlying22) rfl ?_
    refine Wx.rd (v := .int .i64 (l.length : Int)) (rd_assign rfl) rfl ?_
    refine Wx.nil ?_
    refine W.seq ?_
    refine W.reg ?_
    refine Wx.rd (v := .int .i64 (shG zs)) (rd_move rfl) rfl ?_
    refine Wx.rd (v := v_8) (rd_loadX hS 5 rfl rfl rfl Try.isAgg22) rfl ?_
    refine Wx.rd (v := .int .i64 (l.length : Int)) (rd_move rfl) rfl ?_
    refine Wx.callF (run_callF Try.call27 rfl) (F27 (in_i64 (by omega) (by omega)) (hS.v 4 rfl) (in_i64 (by omega) (by omega)) (in_i64 (by omega) (by omega)) hS.fb_lt) rfl ?_
    rintro r_158 w_159 hx_160 ⟨v_161, rfl, hv_162⟩
    have ln_164 := hv_162.len63
    have hS := hS.ext hx_160
    have hS := hS.add hv_162
    refine Wx.rd (v := .tuple #[v_161, .int .i64 (leastX (shG zs) l (l.length : Int) 0)]) (rd_move rfl) rfl ?_
    refine Wx.rd (v := v_161) (rd_extract rfl rfl) rfl ?_
    refine Wx.rd (v := .int .i64 (leastX (shG zs) l (l.length : Int) 0)) (rd_extract rfl rfl) rfl ?_
    refine Wx.rd (v := v_161) (rd_assign rfl) rfl ?_
    refine Wx.rd (v := .int .i64 2) (Rd.to (v := .int .i64 (leastX (shG zs) l (l.length : Int) 0)) (rd_assign rfl) (congrArg (Value.int .i64) (show (2 : Int) = (leastX (shG zs) l (l.length : Int) 0 : Int) from (least_out hc).symm).symm)) rfl ?_
    refine Wx.nil ?_
    refine W.seq ?_
    refine W.seq ?_
    refine W.reg ?_
    refine Wx.rd (v := .int .i64 (l.length : Int)) (rd_move rfl) rfl ?_
    refine Wx.rd (v := .bool (decide ((l.length : Int) = 0))) (rd_eql rfl rfl) rfl ?_
    refine Wx.nil ?_
    refine W.condD rfl (fun c8 => ?_) (fun c8 => ?_)
    · -- yes
      refine W.seq ?_
      refine W.reg ?_
      refine Wx.rd (v := .int .i64 2) (rd_move rfl) rfl ?_
      refine Wx.rd (v := .bool true) (Rd.to (v := .bool (decide ((2 : Int) = 2))) (rd_eql rfl rfl) rfl) rfl ?_
      refine Wx.rd (v := .bool true) (rd_move rfl) rfl ?_
      refine Wx.gyes rfl rfl rfl ?_
      refine Wx.callF (run_callF Try.call16 rfl) (F16 hS.fb_lt) rfl ?_
      rintro r_165 w_166 hx_167 rfl
      have hS := hS.ext hx_167
      refine Wx.rd (v := .bool true) (rd_pickT rfl rfl) rfl ?_
      refine Wx.rd (v := .bool true) (rd_assign rfl) rfl ?_
      refine Wx.nil ?_
      exact W.ret ⟨.bool true, ResIs.one, hS.bel, rfl⟩
    · -- no
      refine W.skip ?_
      refine W.seq ?_
      refine W.regH mixedMb_ (fun w_168 hx_169 => ?_)
      have h0 := hS
      have hS := (St.start _ _ h0.fb_lt).ext hx_169
      have ho0 := Int.emod_nonneg one (show (l.length : Int) ≠ 0 by omega)
      have ho1 := Int.emod_lt_of_pos one (show 0 < (l.length : Int) by omega)
      have ht0 := Int.emod_nonneg two (show (l.length : Int) ≠ 0 by omega)
      have ht1 := Int.emod_lt_of_pos two (show 0 < (l.length : Int) by omega)
      refine Wh.rd (v := .int .u8 one) 0 rfl (by kernel_rfl) hS.bel (rd_move rfl) rfl ?_
      refine Wh.rd (v := .int .i64 one) 1 rfl (by kernel_rfl) hS.bel (rd_convIn rfl Try.underlying5 Try.underlying3 (in_i64 (by omega) (by omega))) rfl ?_
      refine Wh.rd (v := .int .i64 (l.length : Int)) 2 rfl (by kernel_rfl) hS.bel (rd_move rfl) rfl ?_
      refine Wh.rd (v := .int .i64 (one % (l.length : Int))) 3 rfl (by kernel_rfl) hS.bel (rd_rem rfl rfl (by omega) (by omega)) rfl ?_
      refine Wh.rd (v := .int .u8 two) 4 rfl (by kernel_rfl) hS.bel (rd_move rfl) rfl ?_
      refine Wh.rd (v := .int .i64 two) 5 rfl (by kernel_rfl) hS.bel (rd_convIn rfl Try.underlying5 Try.underlying3 (in_i64 (by omega) (by omega))) rfl ?_
      refine Wh.rd (v := .int .i64 (l.length : Int)) 6 rfl (by kernel_rfl) hS.bel (rd_move rfl) rfl ?_
      refine Wh.rd (v := .int .i64 (two % (l.length : Int))) 7 rfl (by kernel_rfl) hS.bel (rd_rem rfl rfl (by omega) (by omega)) rfl ?_
      refine Wh.br [8, 9] (by kernel_rfl) (by decide) ⟨⟨_, rfl, ?_⟩, ⟨_, rfl, ?_⟩, trivial⟩
      · -- operation 8
        refine Wx.alloc (cs := [.int .i64 0]) hS Try.zeroValue3 rfl rfl (fun g_170 w_171 hx_173 hb_172 hS => ?_)
        refine Wx.nil ⟨hS.bel, ?_⟩
        refine Wh.br [9] (by kernel_rfl) (by decide) ⟨⟨_, rfl, ?_⟩, trivial⟩
        refine Wx.alloc (cs := [.int .i64 0]) hS Try.zeroValue3 rfl rfl (fun g_174 w_175 hx_177 hb_176 hS => ?_)
        refine Wx.nil ⟨hS.bel, ?_⟩
        refine Wh.br [10] (by kernel_rfl) (by decide) ⟨⟨_, rfl, ?_⟩, trivial⟩
        refine Wx.storeX (cs' := [.int .i64 (one % (l.length : Int))]) (ds := [.int .i64 (one % (l.length : Int))]) hS 1 rfl rfl rfl rfl Try.sizeOf3 (Nat.le_of_ble_eq_true rfl) (one_cons rfl one_nil) rfl (fun w_178 hz_179 hS => ?_)
        refine Wx.nil ⟨hS.bel, ?_⟩
        refine Wh.br [11] (by kernel_rfl) (by decide) ⟨⟨_, rfl, ?_⟩, trivial⟩
        refine Wx.storeX (cs' := [.int .i64 (two % (l.length : Int))]) (ds := [.int .i64 (two % (l.length : Int))]) hS 0 rfl rfl rfl rfl Try.sizeOf3 (Nat.le_of_ble_eq_true rfl) (one_cons rfl one_nil) rfl (fun w_180 hz_181 hS => ?_)
        refine Wx.nil ⟨hS.bel, ?_⟩
        refine Wh.done (by kernel_rfl) ?_
        have hS := h0.merge hS
        refine W.seq ?_
        refine W.reg ?_
        refine Wx.alloc (cs := [(.slice none 0 0)]) hS Try.zeroValue39 rfl rfl (fun g_182 w_183 hx_185 hb_184 hS => ?_)
        refine Wx.nil ?_
        refine W.seq ?_
        refine W.reg ?_
        refine Wx.rd (v := .int .i64 (l.length : Int)) (rd_move rfl) rfl ?_
        refine Wx.rd (v := .func (.func 54) #[] #[.pointer (some ⟨g_170, 0, none⟩), .pointer (some ⟨g_174, 0, none⟩), .pointer (some ⟨g_11, 0, none⟩), .pointer (some ⟨g_182, 0, none⟩)]) (rd_makeFunc (vs := []) (us := [.pointer (some ⟨g_170, 0, none⟩), .pointer (some ⟨g_174, 0, none⟩), .pointer (some ⟨g_11, 0, none⟩), .pointer (some ⟨g_182, 0, none⟩)]) rfl rfl) rfl ?_
        have hS := hS.add (V.nil (t := tI .i64))
        refine Wx.callB (run_callF Try.call50 rfl) (F50 (fe := 54) (fs := []) (cs := [.pointer (some ⟨g_170, 0, none⟩), .pointer (some ⟨g_174, 0, none⟩), .pointer (some ⟨g_11, 0, none⟩), .pointer (some ⟨g_182, 0, none⟩)]) (ls := []) (n := (l.length : Int)) (Tl := fun ls ob => ∃ bv best, (best = ls.foldl (keepT l (one % (l.length : Int)) (two % (l.length : Int))) [] ∧ (best = [] → bv = .slice none 0 0)) ∧ ob = Ob.v (tSl (tI .i64)) best bv :: Ob.v (tSl (tP (tSl (tI .i64)) (tSl (tI .i64)))) l v_8 :: .box g_170 3 [.int .i64 (one % (l.length : Int))] :: .box g_174 3 [.int .i64 (two % (l.length : Int))] :: .box g_11 22 [v_8] :: .box g_182 39 [bv] :: [Ob.v (tSl (tI .i64)) (leastL (shG zs) l (l.length : Int) 0) v_161, .row (tP (tI .i64) (tI .i64)) 59 v_149 (pairsE (bS l) (shG zs) l), .row (tP (tI .i64) (tI .i64)) 59 v_143 (pairsE (gS l) (shG zs) l), .row (tP (tI .i64) (tI .i64)) 59 bbv bb, .row (tP (tI .i64) (tI .i64)) 59 ssv ss, .box g_1 66 (List.map (Value.int .u8) zs)]) Try.call54 (each54 ok_hc (in_i64 (by omega) (by omega)) (in_i64 (by omega) (by omega))) (by omega) (by omega) ⟨_, [], ⟨rfl, fun _ => rfl⟩, rfl⟩ ((((((hS.front 1 rfl).front 10 rfl).front 3 rfl).front 4 rfl).front 10 rfl).front 5 rfl)) rfl ?_
        rintro r_186 w_187 ⟨rfl, _, ⟨bv, best, ⟨hbe, p_nz⟩, rfl⟩, hS⟩
        have hS : St w O w_187 [Ob.v (tSl (tI .i64)) best bv, Ob.v (tSl (tP (tSl (tI .i64)) (tSl (tI .i64)))) l v_8, .box g_170 3 [.int .i64 (one % (l.length : Int))], .box g_174 3 [.int .i64 (two % (l.length : Int))], .box g_11 22 [v_8], .box g_182 39 [bv], Ob.v (tSl (tI .i64)) (leastL (shG zs) l (l.length : Int) 0) v_161, .row (tP (tI .i64) (tI .i64)) 59 v_149 (pairsE (bS l) (shG zs) l), .row (tP (tI .i64) (tI .i64)) 59 v_143 (pairsE (gS l) (shG zs) l), .row (tP (tI .i64) (tI .i64)) 59 bbv bb, .row (tP (tI .i64) (tI .i64)) 59 ssv ss, .box g_1 66 (List.map (Value.int .u8) zs)] := hS
        obtain ⟨bp1, bp2⟩ := best_path (l := l) (a := (one % (l.length : Int))) (b := (two % (l.length : Int))) ⟨ho0, ho1⟩
        rw [List.nil_append] at hbe
        rw [← hbe] at bp1 bp2
        refine Wx.nil ?_
        refine W.seq ?_
        refine W.reg ?_
        refine Wx.rd (v := .int .i64 (shG zs)) (rd_move rfl) rfl ?_
        refine Wx.rd (v := v_8) (rd_loadX hS 4 rfl rfl rfl Try.isAgg22) rfl ?_
        refine Wx.rd (v := .int .i64 (one % (l.length : Int))) (rd_loadX hS 2 rfl rfl rfl Try.isAgg3) rfl ?_
        refine Wx.rd (v := .int .i64 (two % (l.length : Int))) (rd_loadX hS 3 rfl rfl rfl Try.isAgg3) rfl ?_
        refine Wx.callF (run_callF Try.call27 rfl) (F27 (in_i64 (by omega) (by omega)) (hS.v 1 rfl) (in_i64 (by omega) (by omega)) (in_i64 (by omega) (by omega)) hS.fb_lt) rfl ?_
        rintro r_188 w_189 hx_190 ⟨v_191, rfl, hv_192⟩
        have ln_194 := hv_192.len63
        have hS := hS.ext hx_190
        have hS := hS.add hv_192
        refine Wx.rd (v := .tuple #[v_191, .int .i64 (leastX (shG zs) l (one % (l.length : Int)) (two % (l.length : Int)))]) (rd_move rfl) rfl ?_
        refine Wx.rd (v := v_191) (rd_extract rfl rfl) rfl ?_
        refine Wx.rd (v := .int .i64 (leastX (shG zs) l (one % (l.length : Int)) (two % (l.length : Int)))) (rd_extract rfl rfl) rfl ?_
        refine Wx.rd (v := v_191) (rd_assign rfl) rfl ?_
        refine Wx.rd (v := .int .i64 (leastX (shG zs) l (one % (l.length : Int)) (two % (l.length : Int)))) (rd_assign rfl) rfl ?_
        refine Wx.nil ?_
        refine W.seq ?_
        refine W.seq ?_
        refine W.reg ?_
        refine Wx.rd (v := bv) (rd_loadX hS 6 rfl rfl rfl Try.isAgg39) rfl ?_
        refine Wx.rd (v := .bool (decide (best = []))) (rd_eqlNilI (hS.v 1 rfl) rfl rfl Try.underlying39 p_nz) rfl ?_
        refine Wx.nil ?_
        refine W.condD rfl (fun c9 => ?_) (fun c9 => ?_)
        · -- yes
          obtain ⟨sn1, sn2⟩ := shown_none hc ⟨ho0, ho1⟩ ⟨ht0, ht1⟩ (bp2.2 c9)
          refine W.seq ?_
          refine W.reg ?_
          refine Wx.rd (v := .int .i64 (leastX (shG zs) l (one % (l.length : Int)) (two % (l.length : Int)))) (rd_move rfl) rfl ?_
          refine Wx.rd (v := .bool true) (Rd.to (v := .bool (decide ((leastX (shG zs) l (one % (l.length : Int)) (two % (l.length : Int))) = 12))) (rd_eql rfl rfl) (congrArg (Value.bool) (show (true : Bool) = (decide ((leastX (shG zs) l (one % (l.length : Int)) (two % (l.length : Int))) = 12) : Bool) from (decide_eq_true sn1).symm).symm)) rfl ?_
          refine Wx.rd (v := .bool true) (rd_move rfl) rfl ?_
          refine Wx.gyes rfl rfl rfl ?_
          refine Wx.rd (v := v_191) (rd_move rfl) rfl ?_
          refine Wx.gyes rfl rfl rfl ?_
          refine Wx.rd (v := .int .i64 ((leastL (shG zs) l (one % (l.length : Int)) (two % (l.length : Int))).length : Int)) (rd_lenV rfl (hS.v 0 rfl) Try.underlying39) rfl ?_
          refine Wx.gyes rfl rfl rfl ?_
          refine Wx.rd (v := .bool true) (Rd.to (v := .bool (decide (((leastL (shG zs) l (one % (l.length : Int)) (two % (l.length : Int))).length : Int) = 0))) (rd_eql rfl rfl) (congrArg (Value.bool) (show (true : Bool) = (decide (((leastL (shG zs) l (one % (l.length : Int)) (two % (l.length : Int))).length : Int) = 0) : Bool) from (decide_eq_true (by rw [sn2]; rfl)).symm).symm)) rfl ?_
          refine Wx.rd (v := .bool true) (rd_pickT rfl rfl) rfl ?_
          refine Wx.rd (v := .bool true) (rd_move rfl) rfl ?_
          refine Wx.gyes rfl rfl rfl ?_
          refine Wx.rd (v := .int .i64 2) (rd_move rfl) rfl ?_
          refine Wx.gyes rfl rfl rfl ?_
          refine Wx.rd (v := .bool true) (Rd.to (v := .bool (decide ((2 : Int) = 2))) (rd_eql rfl rfl) rfl) rfl ?_
          refine Wx.rd (v := .bool true) (rd_pickT rfl rfl) rfl ?_
          refine Wx.rd (v := .bool true) (rd_move rfl) rfl ?_
          refine Wx.gyes rfl rfl rfl ?_
          refine Wx.callF (run_callF Try.call16 rfl) (F16 hS.fb_lt) rfl ?_
          rintro r_195 w_196 hx_197 rfl
          have hS := hS.ext hx_197
          refine Wx.rd (v := .bool true) (rd_pickT rfl rfl) rfl ?_
          refine Wx.rd (v := .bool true) (rd_assign rfl) rfl ?_
          refine Wx.nil ?_
          exact W.ret ⟨.bool true, ResIs.one, hS.bel, rfl⟩
        · -- no
          obtain ⟨sn1, sn2⟩ := shown_some hc ⟨ho0, ho1⟩ ⟨ht0, ht1⟩ (fun h => c9 (bp2.1 h))
          refine W.skip ?_
          refine W.seq ?_
          refine W.reg ?_
          refine Wx.rd (v := .int .i64 (leastX (shG zs) l (one % (l.length : Int)) (two % (l.length : Int)))) (rd_move rfl) rfl ?_
          refine Wx.rd (v := .bool true) (Rd.to (v := .bool (decide ((leastX (shG zs) l (one % (l.length : Int)) (two % (l.length : Int))) = 0))) (rd_eql rfl rfl) (congrArg (Value.bool) (show (true : Bool) = (decide ((leastX (shG zs) l (one % (l.length : Int)) (two % (l.length : Int))) = 0) : Bool) from (decide_eq_true sn1).symm).symm)) rfl ?_
          refine Wx.rd (v := .bool true) (rd_move rfl) rfl ?_
          refine Wx.gyes rfl rfl rfl ?_
          refine Wx.rd (v := v_191) (rd_move rfl) rfl ?_
          refine Wx.gyes rfl rfl rfl ?_
          refine Wx.rd (v := bv) (rd_loadX hS 6 rfl rfl rfl Try.isAgg39) rfl ?_
          refine Wx.gyes rfl rfl rfl ?_
          refine Wx.callF (run_callF Try.call33 rfl) (F33 (hS.v 0 rfl) (hS.v 1 rfl)) rfl ?_
          rintro r_198 w_199 hx_200 rfl
          have hS := hS.ext hx_200
          rw [show (decide ((leastL (shG zs) l (one % (l.length : Int)) (two % (l.length : Int))) = best) : Bool) = true from (decide_eq_true (by rw [sn2, bp1]))]
          refine Wx.rd (v := .bool true) (rd_pickT rfl rfl) rfl ?_
          refine Wx.rd (v := .bool true) (rd_move rfl) rfl ?_
          refine Wx.gyes rfl rfl rfl ?_
          refine Wx.rd (v := .int .i64 2) (rd_move rfl) rfl ?_
          refine Wx.gyes rfl rfl rfl ?_
          refine Wx.rd (v := .bool true) (Rd.to (v := .bool (decide ((2 : Int) = 2))) (rd_eql rfl rfl) rfl) rfl ?_
          refine Wx.rd (v := .bool true) (rd_pickT rfl rfl) rfl ?_
          refine Wx.rd (v := .bool true) (rd_move rfl) rfl ?_
          refine Wx.gyes rfl rfl rfl ?_
          refine Wx.callF (run_callF Try.call16 rfl) (F16 hS.fb_lt) rfl ?_
          rintro r_201 w_202 hx_203 rfl
          have hS := hS.ext hx_203
          refine Wx.rd (v := .bool true) (rd_pickT rfl rfl) rfl ?_
          refine Wx.rd (v := .bool true) (rd_assign rfl) rfl ?_
          refine Wx.nil ?_
          exact W.ret ⟨.bool true, ResIs.one, hS.bel, rfl⟩
      · -- operation 9
        refine Wx.alloc (cs := [.int .i64 0]) hS Try.zeroValue3 rfl rfl (fun g_204 w_205 hx_207 hb_206 hS => ?_)
        refine Wx.nil ⟨hS.bel, ?_⟩
        refine Wh.br [8] (by kernel_rfl) (by decide) ⟨⟨_, rfl, ?_⟩, trivial⟩
        refine Wx.alloc (cs := [.int .i64 0]) hS Try.zeroValue3 rfl rfl (fun g_208 w_209 hx_211 hb_210 hS => ?_)
        refine Wx.nil ⟨hS.bel, ?_⟩
        refine Wh.br [10] (by kernel_rfl) (by decide) ⟨⟨_, rfl, ?_⟩, trivial⟩
        refine Wx.storeX (cs' := [.int .i64 (one % (l.length : Int))]) (ds := [.int .i64 (one % (l.length : Int))]) hS 0 rfl rfl rfl rfl Try.sizeOf3 (Nat.le_of_ble_eq_true rfl) (one_cons rfl one_nil) rfl (fun w_212 hz_213 hS => ?_)
        refine Wx.nil ⟨hS.bel, ?_⟩
        refine Wh.br [11] (by kernel_rfl) (by decide) ⟨⟨_, rfl, ?_⟩, trivial⟩
        refine Wx.storeX (cs' := [.int .i64 (two % (l.length : Int))]) (ds := [.int .i64 (two % (l.length : Int))]) hS 1 rfl rfl rfl rfl Try.sizeOf3 (Nat.le_of_ble_eq_true rfl) (one_cons rfl one_nil) rfl (fun w_214 hz_215 hS => ?_)
        refine Wx.nil ⟨hS.bel, ?_⟩
        refine Wh.done (by kernel_rfl) ?_
        have hS := h0.merge hS
        refine W.seq ?_
        refine W.reg ?_
        refine Wx.alloc (cs := [(.slice none 0 0)]) hS Try.zeroValue39 rfl rfl (fun g_216 w_217 hx_219 hb_218 hS => ?_)
        refine Wx.nil ?_
        refine W.seq ?_
        refine W.reg ?_
        refine Wx.rd (v := .int .i64 (l.length : Int)) (rd_move rfl) rfl ?_
        refine Wx.rd (v := .func (.func 54) #[] #[.pointer (some ⟨g_208, 0, none⟩), .pointer (some ⟨g_204, 0, none⟩), .pointer (some ⟨g_11, 0, none⟩), .pointer (some ⟨g_216, 0, none⟩)]) (rd_makeFunc (vs := []) (us := [.pointer (some ⟨g_208, 0, none⟩), .pointer (some ⟨g_204, 0, none⟩), .pointer (some ⟨g_11, 0, none⟩), .pointer (some ⟨g_216, 0, none⟩)]) rfl rfl) rfl ?_
        have hS := hS.add (V.nil (t := tI .i64))
        refine Wx.callB (run_callF Try.call50 rfl) (F50 (fe := 54) (fs := []) (cs := [.pointer (some ⟨g_208, 0, none⟩), .pointer (some ⟨g_204, 0, none⟩), .pointer (some ⟨g_11, 0, none⟩), .pointer (some ⟨g_216, 0, none⟩)]) (ls := []) (n := (l.length : Int)) (Tl := fun ls ob => ∃ bv best, (best = ls.foldl (keepT l (one % (l.length : Int)) (two % (l.length : Int))) [] ∧ (best = [] → bv = .slice none 0 0)) ∧ ob = Ob.v (tSl (tI .i64)) best bv :: Ob.v (tSl (tP (tSl (tI .i64)) (tSl (tI .i64)))) l v_8 :: .box g_208 3 [.int .i64 (one % (l.length : Int))] :: .box g_204 3 [.int .i64 (two % (l.length : Int))] :: .box g_11 22 [v_8] :: .box g_216 39 [bv] :: [Ob.v (tSl (tI .i64)) (leastL (shG zs) l (l.length : Int) 0) v_161, .row (tP (tI .i64) (tI .i64)) 59 v_149 (pairsE (bS l) (shG zs) l), .row (tP (tI .i64) (tI .i64)) 59 v_143 (pairsE (gS l) (shG zs) l), .row (tP (tI .i64) (tI .i64)) 59 bbv bb, .row (tP (tI .i64) (tI .i64)) 59 ssv ss, .box g_1 66 (List.map (Value.int .u8) zs)]) Try.call54 (each54 ok_hc (in_i64 (by omega) (by omega)) (in_i64 (by omega) (by omega))) (by omega) (by omega) ⟨_, [], ⟨rfl, fun _ => rfl⟩, rfl⟩ ((((((hS.front 1 rfl).front 10 rfl).front 4 rfl).front 4 rfl).front 10 rfl).front 5 rfl)) rfl ?_
        rintro r_220 w_221 ⟨rfl, _, ⟨bv, best, ⟨hbe, p_nz⟩, rfl⟩, hS⟩
        have hS : St w O w_221 [Ob.v (tSl (tI .i64)) best bv, Ob.v (tSl (tP (tSl (tI .i64)) (tSl (tI .i64)))) l v_8, .box g_208 3 [.int .i64 (one % (l.length : Int))], .box g_204 3 [.int .i64 (two % (l.length : Int))], .box g_11 22 [v_8], .box g_216 39 [bv], Ob.v (tSl (tI .i64)) (leastL (shG zs) l (l.length : Int) 0) v_161, .row (tP (tI .i64) (tI .i64)) 59 v_149 (pairsE (bS l) (shG zs) l), .row (tP (tI .i64) (tI .i64)) 59 v_143 (pairsE (gS l) (shG zs) l), .row (tP (tI .i64) (tI .i64)) 59 bbv bb, .row (tP (tI .i64) (tI .i64)) 59 ssv ss, .box g_1 66 (List.map (Value.int .u8) zs)] := hS
        obtain ⟨bp1, bp2⟩ := best_path (l := l) (a := (one % (l.length : Int))) (b := (two % (l.length : Int))) ⟨ho0, ho1⟩
        rw [List.nil_append] at hbe
        rw [← hbe] at bp1 bp2
        refine Wx.nil ?_
        refine W.seq ?_
        refine W.reg ?_
        refine Wx.rd (v := .int .i64 (shG zs)) (rd_move rfl) rfl ?_
        refine Wx.rd (v := v_8) (rd_loadX hS 4 rfl rfl rfl Try.isAgg22) rfl ?_
        refine Wx.rd (v := .int .i64 (one % (l.length : Int))) (rd_loadX hS 2 rfl rfl rfl Try.isAgg3) rfl ?_
        refine Wx.rd (v := .int .i64 (two % (l.length : Int))) (rd_loadX hS 3 rfl rfl rfl Try.isAgg3) rfl ?_
        refine Wx.callF (run_callF Try.call27 rfl) (F27 (in_i64 (by omega) (by omega)) (hS.v 1 rfl) (in_i64 (by omega) (by omega)) (in_i64 (by omega) (by omega)) hS.fb_lt) rfl ?_
        rintro r_222 w_223 hx_224 ⟨v_225, rfl, hv_226⟩
        have ln_228 := hv_226.len63
        have hS := hS.ext hx_224
        have hS := hS.add hv_226
        refine Wx.rd (v := .tuple #[v_225, .int .i64 (leastX (shG zs) l (one % (l.length : Int)) (two % (l.length : Int)))]) (rd_move rfl) rfl ?_
        refine Wx.rd (v := v_225) (rd_extract rfl rfl) rfl ?_
        refine Wx.rd (v := .int .i64 (leastX (shG zs) l (one % (l.length : Int)) (two % (l.length : Int)))) (rd_extract rfl rfl) rfl ?_
        refine Wx.rd (v := v_225) (rd_assign rfl) rfl ?_
        refine Wx.rd (v := .int .i64 (leastX (shG zs) l (one % (l.length : Int)) (two % (l.length : Int)))) (rd_assign rfl) rfl ?_
        refine Wx.nil ?_
        refine W.seq ?_
        refine W.seq ?_
        refine W.reg ?_
        refine Wx.rd (v := bv) (rd_loadX hS 6 rfl rfl rfl Try.isAgg39) rfl ?_
        refine Wx.rd (v := .bool (decide (best = []))) (rd_eqlNilI (hS.v 1 rfl) rfl rfl Try.underlying39 p_nz) rfl ?_
        refine Wx.nil ?_
        refine W.condD rfl (fun c9 => ?_) (fun c9 => ?_)
        · -- yes
          obtain ⟨sn1, sn2⟩ := shown_none hc ⟨ho0, ho1⟩ ⟨ht0, ht1⟩ (bp2.2 c9)
          refine W.seq ?_
          refine W.reg ?_
          refine Wx.rd (v := .int .i64 (leastX (shG zs) l (one % (l.length : Int)) (two % (l.length : Int)))) (rd_move rfl) rfl ?_
          refine Wx.rd (v := .bool true) (Rd.to (v := .bool (decide ((leastX (shG zs) l (one % (l.length : Int)) (two % (l.length : Int))) = 12))) (rd_eql rfl rfl) (congrArg (Value.bool) (show (true : Bool) = (decide ((leastX (shG zs) l (one % (l.length : Int)) (two % (l.length : Int))) = 12) : Bool) from (decide_eq_true sn1).symm).symm)) rfl ?_
          refine Wx.rd (v := .bool true) (rd_move rfl) rfl ?_
          refine Wx.gyes rfl rfl rfl ?_
          refine Wx.rd (v := v_225) (rd_move rfl) rfl ?_
          refine Wx.gyes rfl rfl rfl ?_
          refine Wx.rd (v := .int .i64 ((leastL (shG zs) l (one % (l.length : Int)) (two % (l.length : Int))).length : Int)) (rd_lenV rfl (hS.v 0 rfl) Try.underlying39) rfl ?_
          refine Wx.gyes rfl rfl rfl ?_
          refine Wx.rd (v := .bool true) (Rd.to (v := .bool (decide (((leastL (shG zs) l (one % (l.length : Int)) (two % (l.length : Int))).length : Int) = 0))) (rd_eql rfl rfl) (congrArg (Value.bool) (show (true : Bool) = (decide (((leastL (shG zs) l (one % (l.length : Int)) (two % (l.length : Int))).length : Int) = 0) : Bool) from (decide_eq_true (by rw [sn2]; rfl)).symm).symm)) rfl ?_
          refine Wx.rd (v := .bool true) (rd_pickT rfl rfl) rfl ?_
          refine Wx.rd (v := .bool true) (rd_move rfl) rfl ?_
          refine Wx.gyes rfl rfl rfl ?_
          refine Wx.rd (v := .int .i64 2) (rd_move rfl) rfl ?_
          refine Wx.gyes rfl rfl rfl ?_
          refine Wx.rd (v := .bool true) (Rd.to (v := .bool (decide ((2 : Int) = 2))) (rd_eql rfl rfl) rfl) rfl ?_
          refine Wx.rd (v := .bool true) (rd_pickT rfl rfl) rfl ?_
          refine Wx.rd (v := .bool true) (rd_move rfl) rfl ?_
          refine Wx.gyes rfl rfl rfl ?_
          refine Wx.callF (run_callF Try.call16 rfl) (F16 hS.fb_lt) rfl ?_
          rintro r_229 w_230 hx_231 rfl
          have hS := hS.ext hx_231
          refine Wx.rd (v := .bool true) (rd_pickT rfl rfl) rfl ?_
          refine Wx.rd (v := .bool true) (rd_assign rfl) rfl ?_
          refine Wx.nil ?_
          exact W.ret ⟨.bool true, ResIs.one, hS.bel, rfl⟩
        · -- no
          obtain ⟨sn1, sn2⟩ := shown_some hc ⟨ho0, ho1⟩ ⟨ht0, ht1⟩ (fun h => c9 (bp2.1 h))
          refine W.skip ?_
          refine W.seq ?_
          refine W.reg ?_
          refine Wx.rd (v := .int .i64 (leastX (shG zs) l (one % (l.length : Int)) (two % (l.length : Int)))) (rd_move rfl) rfl ?_
          refine Wx.rd (v := .bool true) (Rd.to (v := .bool (decide ((leastX (shG zs) l (one % (l.length : Int)) (two % (l.length : Int))) = 0))) (rd_eql rfl rfl) (congrArg (Value.bool) (show (true : Bool) = (decide ((leastX (shG zs) l (one % (l.length : Int)) (two % (l.length : Int))) = 0) : Bool) from (decide_eq_true sn1).symm).symm)) rfl ?_
          refine Wx.rd (v := .bool true) (rd_move rfl) rfl ?_
          refine Wx.gyes rfl rfl rfl ?_
          refine Wx.rd (v := v_225) (rd_move rfl) rfl ?_
          refine Wx.gyes rfl rfl rfl ?_
          refine Wx.rd (v := bv) (rd_loadX hS 6 rfl rfl rfl Try.isAgg39) rfl ?_
          refine Wx.gyes rfl rfl rfl ?_
          refine Wx.callF (run_callF Try.call33 rfl) (F33 (hS.v 0 rfl) (hS.v 1 rfl)) rfl ?_
          rintro r_232 w_233 hx_234 rfl
          have hS := hS.ext hx_234
          rw [show (decide ((leastL (shG zs) l (one % (l.length : Int)) (two % (l.length : Int))) = best) : Bool) = true from (decide_eq_true (by rw [sn2, bp1]))]
          refine Wx.rd (v := .bool true) (rd_pickT rfl rfl) rfl ?_
          refine Wx.rd (v := .bool true) (rd_move rfl) rfl ?_
          refine Wx.gyes rfl rfl rfl ?_
          refine Wx.rd (v := .int .i64 2) (rd_move rfl) rfl ?_
          refine Wx.gyes rfl rfl rfl ?_
          refine Wx.rd (v := .bool true) (Rd.to (v := .bool (decide ((2 : Int) = 2))) (rd_eql rfl rfl) rfl) rfl ?_
          refine Wx.rd (v := .bool true) (rd_pickT rfl rfl) rfl ?_
          refine Wx.rd (v := .bool true) (rd_move rfl) rfl ?_
          refine Wx.gyes rfl rfl rfl ?_
          refine Wx.callF (run_callF Try.call16 rfl) (F16 hS.fb_lt) rfl ?_
          rintro r_235 w_236 hx_237 rfl
          have hS := hS.ext hx_237
          refine Wx.rd (v := .bool true) (rd_pickT rfl rfl) rfl ?_
          refine Wx.rd (v := .bool true) (rd_assign rfl) rfl ?_
          refine Wx.nil ?_
          exact W.ret ⟨.bool true, ResIs.one, hS.bel, rfl⟩
end Go.Proofs.Ytjbcpggikaeleaa

namespace Go.Wk
open Go.RowKit Go.ChangeShapes
section
variable {H : Type} {enc : TypeId × Value → H} {P : Program} {W : World}
theorem RdI.arrayN {k : IntKind} {n m : Nat} {e t : TypeId} (hu : P.underlying t = some (.array n e)) (he : RdI enc P W k m e) (hc : P.cellsOf e = m) (hn : P.cellsOf t = n * m) : RdI enc P W k (n * m) t := by
  intro fuel cs x h
  obtain ⟨xs, f', _, _, hl, hx, hel⟩ := DataW.trod_array hu h
  rw [hc] at hel
  rw [hn] at hl
  have h1 : ∀ j, j ≤ n → ∃ zs : List Int, zs.length = j * m ∧ cs.take (j * m) = zs.map (Value.int k) ∧ ∀ z ∈ zs, InK k z := by
    intro j
    induction j with
    | zero => exact fun _ => ⟨[], by simp, by simp, fun z hz => by cases hz⟩
    | succ j ih =>
      intro hj
      obtain ⟨zs, l1, l2, l3⟩ := ih (by omega)
      have := hel j (by omega)
      cases hxi : xs[j]? with
      | none => rw [List.getElem?_eq_none_iff] at hxi; omega
      | some y =>
        rw [hxi] at this
        obtain ⟨zt, m1, m2, m3⟩ := he _ _ _ this
        refine ⟨zs ++ zt, by rw [List.length_append, l1, m1, Nat.succ_mul], ?_, fun z hz => (List.mem_append.1 hz).elim (l3 z) (m3 z)⟩
        rw [Nat.succ_mul, List.take_add, l2, List.map_append, ← m2]
  obtain ⟨zs, l1, l2, l3⟩ := h1 n (Nat.le_refl n)
  exact ⟨zs, l1, by rw [← l2, List.take_of_length_le (by omega)], l3⟩
end
end Go.Wk

namespace Go.Wk
open Go.RowKit Go.ChangeShapes
section
variable {H : Type} {enc : TypeId × Value → H} {P : Program} {W : World}
theorem drop_split (l : List Value) (a b : Nat) : l.drop a = (l.drop a).take b ++ l.drop (a + b) := by
  have := (List.take_append_drop b (l.drop a)).symm
  rw [List.drop_drop] at this
  exact this
theorem RdI.struct5 {k : IntKind} {t : TypeId} {f0 f1 f2 f3 f4 : Field} {m0 m1 m2 m3 m4 : Nat} (hu : P.underlying t = some (.struct #[f0, f1, f2, f3, f4])) (h0 : RdI enc P W k m0 f0.type) (h1 : RdI enc P W k m1 f1.type) (h2 : RdI enc P W k m2 f2.type) (h3 : RdI enc P W k m3 f3.type) (h4 : RdI enc P W k m4 f4.type)
    (c0 : P.cellsOf f0.type = m0) (c1 : P.cellsOf f1.type = m1) (c2 : P.cellsOf f2.type = m2) (c3 : P.cellsOf f3.type = m3) (c4 : P.cellsOf f4.type = m4) (o0 : f0.offset = 0) (o1 : f1.offset = m0) (o2 : f2.offset = m0 + m1) (o3 : f3.offset = m0 + m1 + m2) (o4 : f4.offset = m0 + m1 + m2 + m3)
    (hC : P.cellsOf t = m0 + m1 + m2 + m3 + m4) : RdI enc P W k (m0 + m1 + m2 + m3 + m4) t := by
  intro fuel cs x h
  obtain ⟨xs, n, _, rfl, hl, hlen, hf⟩ := DataW.trod_struct hu h
  match xs, hlen with
  | [y0, y1, y2, y3, y4], _ =>
    have r0 := hf 0 f0 rfl
    have r1 := hf 1 f1 rfl
    have r2 := hf 2 f2 rfl
    have r3 := hf 3 f3 rfl
    have r4 := hf 4 f4 rfl
    rw [c0, o0] at r0
    rw [c1, o1] at r1
    rw [c2, o2] at r2
    rw [c3, o3] at r3
    rw [c4, o4] at r4
    rw [hC] at hl
    obtain ⟨z0, l0, e0, i0⟩ := h0 _ _ _ (by simpa using r0)
    obtain ⟨z1, l1, e1, i1⟩ := h1 _ _ _ (by simpa using r1)
    obtain ⟨z2, l2, e2, i2⟩ := h2 _ _ _ (by simpa using r2)
    obtain ⟨z3, l3, e3, i3⟩ := h3 _ _ _ (by simpa using r3)
    obtain ⟨z4, l4, e4, i4⟩ := h4 _ _ _ (by simpa using r4)
    refine ⟨z0 ++ (z1 ++ (z2 ++ (z3 ++ z4))), by simp only [List.length_append, l0, l1, l2, l3, l4]; omega, ?_, fun z hz => ?_⟩
    · have e5 : (cs.drop (m0 + m1 + m2 + m3)).take m4 = cs.drop (m0 + m1 + m2 + m3) := List.take_of_length_le (by rw [List.length_drop]; omega)
      rw [List.map_append, List.map_append, List.map_append, List.map_append, ← e0, ← e1, ← e2, ← e3, ← e4, e5, ← drop_split, ← drop_split, ← drop_split, List.take_append_drop]
    · rw [List.mem_append, List.mem_append, List.mem_append, List.mem_append] at hz
      rcases hz with hz | hz | hz | hz | hz
      · exact i0 z hz
      · exact i1 z hz
      · exact i2 z hz
      · exact i3 z hz
      · exact i4 z hz
end
end Go.Wk

namespace Go.Proofs.Ytjbcpggikaeleaa.tasteShown
open Go.ChangeShapes Go.WideShapes Go.ChangeAt Go.RowKit Go.Joins Go.Wk
set_option linter.unusedVariables false

theorem own : ownKnob Try.prog.godebug = none := by kernel_rfl
theorem laidOut : laidOutB Try.prog = true := by kernel_rfl
theorem cells5 : Try.prog.cellsOf 5 = 1 := by kernel_rfl
theorem cells63 : Try.prog.cellsOf 63 = 3 := by kernel_rfl
theorem cells64 : Try.prog.cellsOf 64 = 18 := by kernel_rfl
theorem cells66 : Try.prog.cellsOf 66 = 39 := by kernel_rfl

set_option maxRecDepth 100000 in
theorem lifted (os : Os) (started : os.Started) (H : Type) (enc : TypeId × Value → H) :
    ReturnsInHanded {} Try.checked os 10 .any (Rows.tasteShownSpec.pre6 enc Try.prog Try.f10 Rows.tasteShownRow.domain false) (Rows.tasteShownSpec.post enc Try.prog Try.f10 false true false false) := by
  refine returnsInHanded_of_change (C := Try.checked) own started (by kernel_rfl) Try.func10
    (ChangeSpec.witness6 (enc := enc) (C := Try.checked) false ⟨#[], #[.agg #[.int .u8 0, .int .u8 0, .int .u8 0, .int .u8 0, .int .u8 0, .int .u8 0, .int .u8 0, .int .u8 0, .int .u8 0, .int .u8 0, .int .u8 0, .int .u8 0, .int .u8 0, .int .u8 0, .int .u8 0, .int .u8 0, .int .u8 0, .int .u8 0, .int .u8 0, .int .u8 0, .int .u8 0, .int .u8 0, .int .u8 0, .int .u8 0, .int .u8 0, .int .u8 0, .int .u8 0, .int .u8 0, .int .u8 0, .int .u8 0, .int .u8 0, .int .u8 0, .int .u8 0, .int .u8 0, .int .u8 0, .int .u8 0, .int .u8 0, .int .u8 0, .int .u8 0], .int .u8 0, .int .u8 0], []⟩ 8 (by kernel_rfl) (by kernel_rfl) (by kernel_rfl) (by kernel_rfl)) ?_
  intro W base args ds gs before hval0 hW hcnd _
  have hval : ∀ (j : Nat) t v, Try.f10.params[j]? = some t → args[j]? = some v → Value.okWide Try.prog W .any base t v := hval0
  have hW' := hW
  obtain ⟨p, q, hA0, hV, rfl, hfz, hnd⟩ := hW
  have hA : DataW.TrodAll enc Try.prog W 0 (fun _ => true) true Try.f10.params.toList args.toList ds p := hA0
  rw [Try.params10] at hA hval
  obtain ⟨v0, vs0, d0, ds0, p0, q0, hargs, rfl, rfl, h0, r0⟩ := trodAll_cons hA
  obtain ⟨v1, vs1, d1, ds1, p1, q1, rfl, rfl, rfl, h1, r1⟩ := trodAll_cons r0
  obtain ⟨v2, vs2, d2, ds2, p2, q2, rfl, rfl, rfl, h2, r2⟩ := trodAll_cons r1
  obtain ⟨rfl, rfl, rfl⟩ := trodAll_nil r2
  obtain rfl : args = #[v0, v1, v2] := by cases args; simp_all
  obtain ⟨rfl, rfl⟩ := trodVars_none hV
  have k0 := h0
  have lt0 : ∀ x ∈ p0, x.block < W.heap.size := by obtain ⟨m, hm⟩ := k0; exact DataW.trod_lt m _ _ _ hm
  obtain ⟨cs0, rfl, hsz0⟩ := okWide_struct Try.underlying66 (hval 0 66 v0 rfl rfl)
  obtain ⟨zs0, hz0, rfl, hin0⟩ := RdI.v (RdI.struct5 Try.underlying66 (RdI.int Try.underlying5) (RdI.int Try.underlying5) (RdI.int Try.underlying5) (RdI.arrayN (n := 6) Try.underlying64 (RdI.array Try.underlying63 Try.underlying5 cells5 cells63) cells63 cells64) (RdI.arrayN (n := 6) Try.underlying64 (RdI.array Try.underlying63 Try.underlying5 cells5 cells63) cells63 cells64) cells5 cells5 cells5 cells64 cells64 rfl rfl rfl rfl rfl cells66) h0
  obtain ⟨a1, rfl, rfl, rfl, u1⟩ := open_int Try.underlying5 (hval 1 5 v1 rfl rfl) h1
  obtain ⟨a2, rfl, rfl, rfl, u2⟩ := open_int Try.underlying5 (hval 2 5 v2 rfl rfl) h2
  clear hA0 hval0
  refine (F10 hz0 hin0 (inK_of_wf u1) (inK_of_wf u2) (fun b (h : some b ∈ ([] : List (Option Nat))) => nomatch h)).mono fun e W' hE => ?_
  obtain ⟨r, he, bel, hr⟩ := hE
  subst he
  subst hr
  exact ⟨_, rfl, _, _, _, [], _, [], hW', trodAll_mk1 (shut_bool Try.underlying4 _), (trodAll_cons_mk (Below.trod laidOut (by kernel_rfl) (of_decide_eq_true (by kernel_rfl)) k0 bel lt0) (trodAll_cons_mk (shut_int Try.underlying5 u1) (trodAll_cons_mk (shut_int Try.underlying5 u2) trodAll_mk0))), rfl, bel.frame _, fun h => by cases h⟩

theorem over : Rows.tasteShownRow.holds Try.pinned (OpenSpec.ofChange Rows.tasteShownSpec) :=
  OpenClaim.holds_of_wide 10 Try.f10 rfl rfl rfl rfl rfl rfl rfl ⟨rfl, rfl, rfl, rfl, rfl⟩ rfl rfl rfl rfl rfl (by kernel_rfl) Try.func10 (by kernel_rfl)
    (of_decide_eq_true (by kernel_rfl)) (by unfold Func.isWrapper; first | (rw [if_pos (by decide +kernel)]; kernel_rfl) | (rw [if_neg (by decide +kernel)]; exact ⟨rfl, rfl⟩))
    (fun os started H enc _ => lifted os started H enc)

end Go.Proofs.Ytjbcpggikaeleaa.tasteShown
namespace Go.Proofs.Ytjbcpggikaeleaa
/-- The statement. -/
theorem tasteShown_proved : Rows.TasteShownSaid := tasteShown.over
#print axioms tasteShown_proved
end Go.Proofs.Ytjbcpggikaeleaa
