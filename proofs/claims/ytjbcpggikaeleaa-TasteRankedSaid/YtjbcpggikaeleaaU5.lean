/-
  WHAT IS PROVED HERE, TEXT BY TEXT (several texts of one prover, joined to one file; the conditions stand in each statement):
  * WHAT IS PROVED HERE: what functions of layer 10 hand back, each out of its own code; the conditions stand in each statement.
  * WHAT IS PROVED HERE: what functions of layer 10 hand back, each out of its own code; the conditions stand in each statement.
  * WHAT IS PROVED HERE: what functions of layer 10 hand back, each out of its own code; the conditions stand in each statement.
  * WHAT IS PROVED HERE: what functions of layer 10 hand back, each out of its own code; the conditions stand in each statement.
  * WHAT IS PROVED HERE: what functions of layer 10 hand back, each out of its own code; the conditions stand in each statement.
  * WHAT IS PROVED HERE: what functions of layer 10 hand back, each out of its own code; the conditions stand in each statement.
  * WHAT IS PROVED HERE: what functions of layer 10 hand back, each out of its own code; the conditions stand in each statement.
  * WHAT IS PROVED HERE: what functions of layer 10 hand back, each out of its own code; the conditions stand in each statement.
  * WHAT IS PROVED HERE: what functions of layer 10 hand back, each out of its own code; the conditions stand in each statement.
  * WHAT IS PROVED HERE: what functions of layer 10 hand back, each out of its own code; the conditions stand in each statement.
  * WHAT IS PROVED HERE: what functions of layer 10 hand back, each out of its own code; the conditions stand in each statement.
  * WHAT IS PROVED HERE: what functions of layer 10 hand back, each out of its own code; the conditions stand in each statement.
  * WHAT IS PROVED HERE: what functions of layer 10 hand back, each out of its own code; the conditions stand in each statement.
  * WHAT IS PROVED HERE: what functions of layer 10 hand back, each out of its own code; the conditions stand in each statement.
  * WHAT IS PROVED HERE: what functions of layer 10 hand back, each out of its own code; the conditions stand in each statement.
  * WHAT IS PROVED HERE: what functions of layer 10 hand back, each out of its own code; the conditions stand in each statement.
  * WHAT IS PROVED HERE: what functions of layer 10 hand back, each out of its own code; the conditions stand in each statement.
  * WHAT IS PROVED HERE: what functions of layer 10 hand back, each out of its own code; the conditions stand in each statement.
-/
import Derived.Test.YtjbcpggikaeleaaProg
import Derived.Test.YtjbcpggikaeleaaU2
import Derived.Test.YtjbcpggikaeleaaU4
import Derived.Test.YtjbcpggikaeleaaU3

set_option linter.unusedVariables false
set_option linter.unusedSimpArgs false

namespace Go.Proofs.Ytjbcpggikaeleaa
open Go.Wk Go.RowKit Go.Lib
set_option linter.unusedVariables false
set_option linter.unusedSimpArgs false
theorem foLa_93_0 : fldOff Try.prog 93 0 = some 0 := by kernel_rfl
theorem foLa_93_1 : fldOff Try.prog 93 1 = some 1 := by kernel_rfl
theorem elLa_39 : ElemI Try.prog 39 3 (.int .i64 0) 1 8 := ElemI.of Try.underlying39 (by kernel_rfl) (by first | rfl | kernel_rfl) (by decide)

theorem F85 {mv : Value} {l : List Sale} {a : Int} {b : Int} {O : List (Option Nat)} {w : World} (h_mv : V (tMk true) l mv O w) (i_a : InK .i64 a) (i_b : InK .i64 b) (p_a : 0 ≤ a ∧ a < (l.length : Int)) (p_b : 0 ≤ b ∧ b < (l.length : Int)) (hO : ∀ b, some b ∈ O → b < w.heap.size) : Calls Try.prog 85 #[mv, .int .i64 a, .int .i64 b] w (Ret w (fun r _ => r = .bool (btsV (gS l) (bS l) l.length a b))) := by
  have b_b := bd_i64 i_b
  have b_a := bd_i64 i_a
  obtain ⟨g_mv, rfl⟩ := V.mkPtr h_mv
  have ok_mv := V.mkOK h_mv
  obtain ⟨gd, hgd, hok⟩ := ok_mv.at
  have hl6 := ok_mv.1
  have a_mv := h_mv
  have hS := St.start w O hO
  refine enterR Try.func85 rfl Try.ntmps85 Try.results85 rfl ?_
  refine W.seq ?_
  refine W.reg ?_
  refine Wx.rd (v := .bool false) (rd_assign rfl) rfl ?_
  refine Wx.nil ?_
  refine W.seq ?_
  refine W.seq ?_
  refine W.reg ?_
  refine Wx.rd (v := (.pointer (some ⟨g_mv, 0, none⟩))) (rd_move rfl) rfl ?_
  refine Wx.rd (v := (.pointer (some ⟨g_mv, 0, none⟩))) (rd_nilCheck rfl rfl) rfl ?_
  refine Wx.rd (v := .pointer (some ⟨g_mv, 0, none⟩)) (rd_fieldAddr rfl foLa_93_0) rfl ?_
  refine Wx.ex (rd_mkS (hS.arg a_mv) rfl Try.isAgg22) rfl (fun v_1 hv_2 => ?_)
  have ln_3 := hv_2.len63
  have hS := hS.add hv_2
  refine Wx.rd (v := .int .i64 (l.length : Int)) (rd_lenV rfl (hS.v 0 rfl) Try.underlying22) rfl ?_
  refine Wx.rd (v := .int .i64 0) (rd_move rfl) rfl ?_
  refine Wx.nil ?_
  refine W.block ?_
  refine W.loop [6, 7, 8, 9, 10, 16, 17, 18, 19, 20, 21, 22, 23, 24, 25, 26, 27, 28, 29, 30, 31, 32, 33, 34, 35, 36, 37, 38, 39, 40, 41, 42, 43, 44, 45, 46, 47, 48, 49, 50, 51, 52, 53, 54, 55] (fun (i : Int) => [(16, .int .i64 i)]) (fun (i : Int) w' => St w O w' [Ob.v (tSl (tP (tSl (tI .i64)) (tSl (tI .i64)))) l v_1] ∧ 0 ≤ i ∧ i ≤ l.length ∧ (∀ x y, 0 ≤ x → x < i → 0 ≤ y → y < (l.length : Int) → ¬ ((bS l x y = true ∧ ledB (gS l) l.length a x = true) ∧ ledB (gS l) l.length y b = true))) (fun (i : Int) => (l.length - i).toNat) 0 ⟨rfl, trivial⟩ ⟨hS, (by first | omega | simp), (by first | omega | simp), (fun x y x0 x1 => by omega)⟩ ?_
  rintro i u_6 w_5 ⟨hS, h0, h1, h2⟩
  refine W.seq ?_
  refine W.reg ?_
  refine Wx.rd (v := .bool (decide (i < (l.length : Int)))) (rd_lss rfl rfl) rfl ?_
  refine Wx.nil ?_
  refine W.seq ?_
  refine W.condD rfl (fun c0 => ?_) (fun c0 => ?_)
  · -- yes
    refine W.skip ?_
    refine W.seq ?_
    refine W.block ?_
    refine W.seq ?_
    refine W.reg ?_
    refine Wx.rd (v := .int .i64 i) (rd_move rfl) rfl ?_
    refine Wx.ex (rd_index ([], []) (hS.v 0 rfl) rfl rfl Try.underlying22 Try.sizeOf62 (by first | omega | (simp only [List.length_set, List.length_append, List.length_cons, List.length_nil, List.length_replicate]; omega)) (by first | omega | (simp only [List.length_set, List.length_append, List.length_cons, List.length_nil, List.length_replicate]; omega))) rfl (fun p_7 hp_8 => ?_)
    refine Wx.ex (rd_load hp_8 rfl Try.isAgg62 Try.sizeOf62) rfl (fun v_9 hv_10 => ?_)
    obtain ⟨v_11, v_12, rfl, hv_13, hv_14⟩ := hv_10.s2
    have hS := hS.add (hv_13)
    have ln_16 := (hS.v 0 rfl).len63
    have hS := hS.add (V.upF (hv_14))
    have ln_18 := (hS.v 0 rfl).len63
    refine Wx.alloc (cs := [(.slice none 0 0), (.slice none 0 0)]) hS Try.zeroValue62 rfl rfl (fun g_19 w_20 hx_22 hb_21 hS => ?_)
    refine Wx.rd (v := .int .i64 i) (rd_assign rfl) rfl ?_
    refine Wx.storeX (cs' := [v_11, v_12]) (ds := [v_11, v_12]) hS 0 rfl rfl rfl rfl Try.sizeOf62 (Nat.le_of_ble_eq_true rfl) (one_cons (V.oneC (hS.v 2 rfl)) (one_cons (V.oneC (hS.v 1 rfl)) one_nil)) rfl (fun w_23 hz_24 hS => ?_)
    refine Wx.nil ?_
    refine W.seq ?_
    refine W.reg ?_
    refine Wx.rd (v := (.pointer (some ⟨g_mv, 0, none⟩))) (rd_move rfl) rfl ?_
    refine Wx.rd (v := (.pointer (some ⟨g_mv, 0, none⟩))) (rd_nilCheck rfl rfl) rfl ?_
    refine Wx.rd (v := .pointer (some ⟨g_mv, 0, none⟩)) (rd_fieldAddr rfl foLa_93_0) rfl ?_
    refine Wx.ex (rd_mkS (hS.arg a_mv) rfl Try.isAgg22) rfl (fun v_25 hv_26 => ?_)
    have ln_27 := hv_26.len63
    have hS := hS.add hv_26
    refine Wx.rd (v := .int .i64 (l.length : Int)) (rd_lenV rfl (hS.v 0 rfl) Try.underlying22) rfl ?_
    refine Wx.rd (v := .int .i64 0) (rd_move rfl) rfl ?_
    refine Wx.nil ?_
    refine W.block ?_
    refine W.loop [6, 9, 10, 26, 27, 28, 29, 30, 31, 32, 33, 34, 35, 36, 37, 38, 39, 40, 41, 42, 43, 44, 45, 46, 47, 48, 49, 50, 51, 52, 53, 54] (fun (k : Int) => [(26, .int .i64 k)]) (fun (k : Int) w' => St w O w' [Ob.v (tSl (tP (tSl (tI .i64)) (tSl (tI .i64)))) l v_25, .box g_19 62 [v_11, v_12], Ob.v (tSl (tI .i64)) ((ix ([], []) l i).2) v_12, Ob.v (tSl (tI .i64)) ((ix ([], []) l i).1) v_11, Ob.v (tSl (tP (tSl (tI .i64)) (tSl (tI .i64)))) l v_1] ∧ 0 ≤ k ∧ k ≤ l.length ∧ (∀ y, 0 ≤ y → y < k → ¬ ((bS l i y = true ∧ ledB (gS l) l.length a i = true) ∧ ledB (gS l) l.length y b = true))) (fun (k : Int) => (l.length - k).toNat) 0 ⟨rfl, trivial⟩ ⟨hS, (by first | omega | simp), (by first | omega | simp), (fun y y0 y1 => by omega)⟩ ?_
    rintro k u_30 w_29 ⟨hS, g0, g1, g2⟩
    refine W.seq ?_
    refine W.reg ?_
    refine Wx.rd (v := .bool (decide (k < (l.length : Int)))) (rd_lss rfl rfl) rfl ?_
    refine Wx.nil ?_
    refine W.seq ?_
    refine W.condD rfl (fun c1 => ?_) (fun c1 => ?_)
    · -- yes
      refine W.skip ?_
      refine W.seq ?_
      refine W.block ?_
      refine W.seq ?_
      refine W.reg ?_
      refine Wx.rd (v := .int .i64 k) (rd_move rfl) rfl ?_
      refine Wx.ex (rd_index ([], []) (hS.v 0 rfl) rfl rfl Try.underlying22 Try.sizeOf62 (by first | omega | (simp only [List.length_set, List.length_append, List.length_cons, List.length_nil, List.length_replicate]; omega)) (by first | omega | (simp only [List.length_set, List.length_append, List.length_cons, List.length_nil, List.length_replicate]; omega))) rfl (fun p_31 hp_32 => ?_)
      refine Wx.ex (rd_load hp_32 rfl Try.isAgg62 Try.sizeOf62) rfl (fun v_33 hv_34 => ?_)
      obtain ⟨v_35, v_36, rfl, hv_37, hv_38⟩ := hv_34.s2
      have hS := hS.add (hv_37)
      have ln_40 := (hS.v 0 rfl).len63
      have hS := hS.add (V.upF (hv_38))
      have ln_42 := (hS.v 0 rfl).len63
      refine Wx.alloc (cs := [(.slice none 0 0), (.slice none 0 0)]) hS Try.zeroValue62 rfl rfl (fun g_43 w_44 hx_46 hb_45 hS => ?_)
      refine Wx.rd (v := .int .i64 k) (rd_assign rfl) rfl ?_
      refine Wx.storeX (cs' := [v_35, v_36]) (ds := [v_35, v_36]) hS 0 rfl rfl rfl rfl Try.sizeOf62 (Nat.le_of_ble_eq_true rfl) (one_cons (V.oneC (hS.v 2 rfl)) (one_cons (V.oneC (hS.v 1 rfl)) one_nil)) rfl (fun w_47 hz_48 hS => ?_)
      refine Wx.nil ?_
      refine W.seq ?_
      refine W.reg ?_
      refine Wx.rd (v := .agg #[v_11, v_12]) (rd_loadXs (ds := [v_11, v_12]) hS 4 rfl rfl rfl rfl Try.isAgg62 Try.sizeOf62) rfl ?_
      refine Wx.rd (v := .agg #[v_35, v_36]) (rd_loadXs (ds := [v_35, v_36]) hS 0 rfl rfl rfl rfl Try.isAgg62 Try.sizeOf62) rfl ?_
      refine Wx.callF (run_callF Try.call69 rfl) (F69 (hS.v 6 rfl) (hS.v 5 rfl) (hS.v 2 rfl) (hS.v 1 rfl) (hok i (by omega) (by omega)).b1 (hok i (by omega) (by omega)).b2 (hok k (by omega) (by omega)).b2 (by have := (hok i (by omega) (by omega)).l1; omega) (by have h1 := (hok i (by omega) (by omega)).l1; have h2 := (hok i (by omega) (by omega)).l2; omega) (by have h1 := (hok i (by omega) (by omega)).l1; have h2 := (hok k (by omega) (by omega)).l2; omega)) rfl ?_
      rintro r_49 w_50 hx_51 rfl
      have hS := hS.ext hx_51
      refine Wx.rd (v := .bool (betterS (((ix ([], []) l i).1), ((ix ([], []) l i).2)) (((ix ([], []) l k).1), ((ix ([], []) l k).2)))) (rd_move rfl) rfl ?_
      refine Wx.cut (X := Unit) 9 [35, 36, 37, 38, 39, 40, 41, 42, 43] (fun _ => [(43, .bool (betterS (((ix ([], []) l i).1), ((ix ([], []) l i).2)) (((ix ([], []) l k).1), ((ix ([], []) l k).2)) && ledB (gS l) l.length a i))]) (fun _ w' => St w O w' [.box g_43 62 [v_35, v_36], Ob.v (tSl (tI .i64)) ((ix ([], []) l k).2) v_36, Ob.v (tSl (tI .i64)) ((ix ([], []) l k).1) v_35, Ob.v (tSl (tP (tSl (tI .i64)) (tSl (tI .i64)))) l v_25, .box g_19 62 [v_11, v_12], Ob.v (tSl (tI .i64)) ((ix ([], []) l i).2) v_12, Ob.v (tSl (tI .i64)) ((ix ([], []) l i).1) v_11, Ob.v (tSl (tP (tSl (tI .i64)) (tSl (tI .i64)))) l v_1]) ?_ ?_
      · rcases Bool.eq_false_or_eq_true (betterS (((ix ([], []) l i).1), ((ix ([], []) l i).2)) (((ix ([], []) l k).1), ((ix ([], []) l k).2))) with g_52 | g_52
        · -- True
          have gp_53 := g_52
          try simp only [Bool.and_eq_true, Bool.or_eq_true, Bool.not_eq_true', Bool.and_eq_false_iff, Bool.or_eq_false_iff, Bool.not_eq_false', decide_eq_true_eq, decide_eq_false_iff_not, not_or, Bool.false_eq_true, Bool.true_eq_false, false_or, or_false, not_false_eq_true] at gp_53
          refine Wx.gyes rfl rfl (congrArg Value.bool g_52) ?_
          refine Wx.rd (v := (.pointer (some ⟨g_mv, 0, none⟩))) (rd_move rfl) rfl ?_
          refine Wx.gyes rfl rfl (congrArg Value.bool g_52) ?_
          refine Wx.rd (v := .int .i64 a) (rd_move rfl) rfl ?_
          refine Wx.gyes rfl rfl (congrArg Value.bool g_52) ?_
          refine Wx.rd (v := .int .i64 i) (rd_move rfl) rfl ?_
          refine Wx.gyes rfl rfl (congrArg Value.bool g_52) ?_
          refine Wx.rd (v := (.pointer (some ⟨g_mv, 0, none⟩))) (rd_nilCheck rfl rfl) rfl ?_
          refine Wx.gyes rfl rfl (congrArg Value.bool g_52) ?_
          refine Wx.rd (v := .pointer (some ⟨g_mv, 1, none⟩)) (rd_fieldAddr rfl foLa_93_1) rfl ?_
          refine Wx.gyes rfl rfl (congrArg Value.bool g_52) ?_
          refine Wx.rd (v := .pointer (some ⟨g_mv, 1 + a.toNat * 6, none⟩)) (rd_indexArr (o := 1) rfl rfl Try.underlying82 Try.sizeOf81 (by omega) (by omega)) rfl ?_
          refine Wx.gyes rfl rfl (congrArg Value.bool g_52) ?_
          refine Wx.rd (v := .pointer (some ⟨g_mv, 1 + a.toNat * 6 + i.toNat * 1, none⟩)) (rd_indexArr (o := 1 + a.toNat * 6) rfl rfl Try.underlying81 Try.sizeOf4 (by omega) (by omega)) rfl ?_
          refine Wx.gyes rfl rfl (congrArg Value.bool g_52) ?_
          refine Wx.rd (v := .bool (ledB (gS l) l.length a i)) (rd_mkB (hS.arg a_mv) rfl (by omega) (by omega) (by omega) (by omega) Try.isAgg4) rfl ?_
          refine Wx.rd (v := .bool (ledB (gS l) l.length a i)) (rd_pickT (congrArg Value.bool g_52) rfl) rfl ?_
          refine Wx.nil ⟨(), hS, ⟨?_, trivial⟩, Out.look rfl Out.refl⟩
          show Value.bool (ledB (gS l) l.length a i) = Value.bool (betterS (((ix ([], []) l i).1), ((ix ([], []) l i).2)) (((ix ([], []) l k).1), ((ix ([], []) l k).2)) && ledB (gS l) l.length a i)
          first | rw [g_52, Bool.true_and] | (rw [g_52]; rfl)
        · -- False
          have gp_54 := g_52
          try simp only [Bool.and_eq_true, Bool.or_eq_true, Bool.not_eq_true', Bool.and_eq_false_iff, Bool.or_eq_false_iff, Bool.not_eq_false', decide_eq_true_eq, decide_eq_false_iff_not, not_or, Bool.false_eq_true, Bool.true_eq_false, false_or, or_false, not_false_eq_true] at gp_54
          refine Wx.gnoB rfl rfl (congrArg Value.bool g_52) rfl rfl ?_
          refine Wx.gnoB rfl rfl (congrArg Value.bool g_52) rfl rfl ?_
          refine Wx.gnoB rfl rfl (congrArg Value.bool g_52) rfl rfl ?_
          refine Wx.gnoB rfl rfl (congrArg Value.bool g_52) rfl rfl ?_
          refine Wx.gnoB rfl rfl (congrArg Value.bool g_52) rfl rfl ?_
          refine Wx.gnoB rfl rfl (congrArg Value.bool g_52) rfl rfl ?_
          refine Wx.gnoB rfl rfl (congrArg Value.bool g_52) rfl rfl ?_
          refine Wx.gnoB rfl rfl (congrArg Value.bool g_52) rfl rfl ?_
          refine Wx.rd (v := .bool false) (rd_pickF (congrArg Value.bool g_52) rfl) rfl ?_
          refine Wx.nil ⟨(), hS, ⟨?_, trivial⟩, Out.look rfl Out.refl⟩
          show Value.bool false = Value.bool (betterS (((ix ([], []) l i).1), ((ix ([], []) l i).2)) (((ix ([], []) l k).1), ((ix ([], []) l k).2)) && ledB (gS l) l.length a i)
          first | rw [g_52, Bool.false_and] | (rw [g_52]; rfl)
      rintro ⟨⟩ u_56 w_55 hS
      refine Wx.rd (v := .bool (betterS (((ix ([], []) l i).1), ((ix ([], []) l i).2)) (((ix ([], []) l k).1), ((ix ([], []) l k).2)) && ledB (gS l) l.length a i)) (rd_move rfl) rfl ?_
      refine Wx.cut (X := Unit) 9 [45, 46, 47, 48, 49, 50, 51, 52, 53] (fun _ => [(53, .bool ((betterS (((ix ([], []) l i).1), ((ix ([], []) l i).2)) (((ix ([], []) l k).1), ((ix ([], []) l k).2)) && ledB (gS l) l.length a i) && ledB (gS l) l.length k b))]) (fun _ w' => St w O w' [.box g_43 62 [v_35, v_36], Ob.v (tSl (tI .i64)) ((ix ([], []) l k).2) v_36, Ob.v (tSl (tI .i64)) ((ix ([], []) l k).1) v_35, Ob.v (tSl (tP (tSl (tI .i64)) (tSl (tI .i64)))) l v_25, .box g_19 62 [v_11, v_12], Ob.v (tSl (tI .i64)) ((ix ([], []) l i).2) v_12, Ob.v (tSl (tI .i64)) ((ix ([], []) l i).1) v_11, Ob.v (tSl (tP (tSl (tI .i64)) (tSl (tI .i64)))) l v_1]) ?_ ?_
      · rcases Bool.eq_false_or_eq_true (betterS (((ix ([], []) l i).1), ((ix ([], []) l i).2)) (((ix ([], []) l k).1), ((ix ([], []) l k).2)) && ledB (gS l) l.length a i) with g_57 | g_57
        · -- True
          have gp_58 := g_57
          try simp only [Bool.and_eq_true, Bool.or_eq_true, Bool.not_eq_true', Bool.and_eq_false_iff, Bool.or_eq_false_iff, Bool.not_eq_false', decide_eq_true_eq, decide_eq_false_iff_not, not_or, Bool.false_eq_true, Bool.true_eq_false, false_or, or_false, not_false_eq_true] at gp_58
          refine Wx.gyes rfl rfl (congrArg Value.bool g_57) ?_
          refine Wx.rd (v := (.pointer (some ⟨g_mv, 0, none⟩))) (rd_move rfl) rfl ?_
          refine Wx.gyes rfl rfl (congrArg Value.bool g_57) ?_
          refine Wx.rd (v := .int .i64 k) (rd_move rfl) rfl ?_
          refine Wx.gyes rfl rfl (congrArg Value.bool g_57) ?_
          refine Wx.rd (v := .int .i64 b) (rd_move rfl) rfl ?_
          refine Wx.gyes rfl rfl (congrArg Value.bool g_57) ?_
          refine Wx.rd (v := (.pointer (some ⟨g_mv, 0, none⟩))) (rd_nilCheck rfl rfl) rfl ?_
          refine Wx.gyes rfl rfl (congrArg Value.bool g_57) ?_
          refine Wx.rd (v := .pointer (some ⟨g_mv, 1, none⟩)) (rd_fieldAddr rfl foLa_93_1) rfl ?_
          refine Wx.gyes rfl rfl (congrArg Value.bool g_57) ?_
          refine Wx.rd (v := .pointer (some ⟨g_mv, 1 + k.toNat * 6, none⟩)) (rd_indexArr (o := 1) rfl rfl Try.underlying82 Try.sizeOf81 (by omega) (by omega)) rfl ?_
          refine Wx.gyes rfl rfl (congrArg Value.bool g_57) ?_
          refine Wx.rd (v := .pointer (some ⟨g_mv, 1 + k.toNat * 6 + b.toNat * 1, none⟩)) (rd_indexArr (o := 1 + k.toNat * 6) rfl rfl Try.underlying81 Try.sizeOf4 (by omega) (by omega)) rfl ?_
          refine Wx.gyes rfl rfl (congrArg Value.bool g_57) ?_
          refine Wx.rd (v := .bool (ledB (gS l) l.length k b)) (rd_mkB (hS.arg a_mv) rfl (by omega) (by omega) (by omega) (by omega) Try.isAgg4) rfl ?_
          refine Wx.rd (v := .bool (ledB (gS l) l.length k b)) (rd_pickT (congrArg Value.bool g_57) rfl) rfl ?_
          refine Wx.nil ⟨(), hS, ⟨?_, trivial⟩, Out.look rfl Out.refl⟩
          show Value.bool (ledB (gS l) l.length k b) = Value.bool ((betterS (((ix ([], []) l i).1), ((ix ([], []) l i).2)) (((ix ([], []) l k).1), ((ix ([], []) l k).2)) && ledB (gS l) l.length a i) && ledB (gS l) l.length k b)
          first | rw [g_57, Bool.true_and] | (rw [g_57]; rfl)
        · -- False
          have gp_59 := g_57
          try simp only [Bool.and_eq_true, Bool.or_eq_true, Bool.not_eq_true', Bool.and_eq_false_iff, Bool.or_eq_false_iff, Bool.not_eq_false', decide_eq_true_eq, decide_eq_false_iff_not, not_or, Bool.false_eq_true, Bool.true_eq_false, false_or, or_false, not_false_eq_true] at gp_59
          refine Wx.gnoB rfl rfl (congrArg Value.bool g_57) rfl rfl ?_
          refine Wx.gnoB rfl rfl (congrArg Value.bool g_57) rfl rfl ?_
          refine Wx.gnoB rfl rfl (congrArg Value.bool g_57) rfl rfl ?_
          refine Wx.gnoB rfl rfl (congrArg Value.bool g_57) rfl rfl ?_
          refine Wx.gnoB rfl rfl (congrArg Value.bool g_57) rfl rfl ?_
          refine Wx.gnoB rfl rfl (congrArg Value.bool g_57) rfl rfl ?_
          refine Wx.gnoB rfl rfl (congrArg Value.bool g_57) rfl rfl ?_
          refine Wx.gnoB rfl rfl (congrArg Value.bool g_57) rfl rfl ?_
          refine Wx.rd (v := .bool false) (rd_pickF (congrArg Value.bool g_57) rfl) rfl ?_
          refine Wx.nil ⟨(), hS, ⟨?_, trivial⟩, Out.look rfl Out.refl⟩
          show Value.bool false = Value.bool ((betterS (((ix ([], []) l i).1), ((ix ([], []) l i).2)) (((ix ([], []) l k).1), ((ix ([], []) l k).2)) && ledB (gS l) l.length a i) && ledB (gS l) l.length k b)
          first | rw [g_57, Bool.false_and] | (rw [g_57]; rfl)
      rintro ⟨⟩ u_61 w_60 hS
      refine Wx.nil ?_
      refine W.cond rfl (fun c2 => ?_) (fun c2 => ?_)
      · -- yes
        try simp only [Bool.and_eq_true, Bool.or_eq_true, Bool.not_eq_true', Bool.and_eq_false_iff, Bool.or_eq_false_iff, Bool.not_eq_false', decide_eq_true_eq, decide_eq_false_iff_not, not_or, Bool.false_eq_true, Bool.true_eq_false, false_or, or_false, not_false_eq_true] at c2
        refine W.seq ?_
        refine W.reg ?_
        refine Wx.rd (v := .bool true) (rd_assign rfl) rfl ?_
        refine Wx.nil ?_
        have e0_0 : (btsV (gS l) (bS l) l.length a b) = true := by exact (bts_yes h0 (by omega) g0 (by omega) c2).symm
        exact W.ret ⟨.bool true, ResIs.one, hS.bel, (by rw [e0_0])⟩
      · -- no
        try simp only [Bool.and_eq_true, Bool.or_eq_true, Bool.not_eq_true', Bool.and_eq_false_iff, Bool.or_eq_false_iff, Bool.not_eq_false', decide_eq_true_eq, decide_eq_false_iff_not, not_or, Bool.false_eq_true, Bool.true_eq_false, false_or, or_false, not_false_eq_true] at c2
        refine W.skip ?_
        refine W.reg ?_
        refine Wx.rd (v := .int .i64 (k + 1)) (rd_add rfl rfl (in_i64 (by omega) (by omega))) rfl ?_
        refine Wx.rd (v := .int .i64 (k + 1)) (rd_move rfl) rfl ?_
        refine Wx.nil ?_
        refine ⟨k + 1, (by show (l.length - (k + 1)).toNat < (l.length - k).toNat; omega), ?_, ?_, Out.look rfl (Out.hav rfl (Out.look rfl (Out.hav rfl (Out.look rfl Out.self))))⟩
        · exact ⟨St.tl (St.tl (hS.tl)), (by first | omega | assumption), (by first | omega | assumption), (fun y y0 y1 => by by_cases hy : y = k; (subst hy; rintro ⟨⟨z1, z2⟩, z3⟩; rcases c2 with (z | z) | z; (have z1 : betterS (ix ([], []) l i) (ix ([], []) l y) = true := z1; rw [z1] at z; cases z); (rw [z2] at z; cases z); (rw [z3] at z; cases z)); exact g2 y y0 (by omega))⟩
        · exact ⟨rfl, trivial⟩
    · -- no
      refine W.exit rfl ?_
      refine W.reg ?_
      refine Wx.rd (v := .int .i64 (i + 1)) (rd_add rfl rfl (in_i64 (by omega) (by omega))) rfl ?_
      refine Wx.rd (v := .int .i64 (i + 1)) (rd_move rfl) rfl ?_
      refine Wx.nil ?_
      refine ⟨i + 1, (by show (l.length - (i + 1)).toNat < (l.length - i).toNat; omega), ?_, ?_, Out.look rfl (Out.hav rfl (Out.look rfl Out.self))⟩
      · exact ⟨St.tl (St.tl (St.tl (hS.tl))), (by first | omega | assumption), (by first | omega | assumption), (fun x y x0 x1 y0 y1 => by by_cases hx : x = i; (subst hx; exact g2 y y0 (by omega)); exact h2 x y x0 (by omega) y0 y1)⟩
      · exact ⟨rfl, trivial⟩
  · -- no
    refine W.exit rfl ?_
    refine W.seq ?_
    refine W.reg ?_
    refine Wx.rd (v := .bool false) (rd_assign rfl) rfl ?_
    refine Wx.nil ?_
    have e1_0 : (btsV (gS l) (bS l) l.length a b) = false := by exact (bts_no (by omega) h2).symm
    exact W.ret ⟨.bool false, ResIs.one, hS.bel, (by rw [e1_0])⟩

set_option maxHeartbeats 2000000 in
theorem F41 {g : Int} {v : Value} {l : List ((List Int) × (List Int))} {O : List (Option Nat)} {w : World} (i_g : InK .i64 g) (h_v : V (tSl (tP (tSl (tI .i64)) (tSl (tI .i64)))) l v O w) (hO : ∀ b, some b ∈ O → b < w.heap.size) : Calls Try.prog 41 #[.int .i64 g, v] w (Ret w (fun r w' => ∃ rv, r = .tuple #[rv, .int .i64 (ranksX g l)] ∧ Fresh (tI .i64) 3 (ranksL g l) rv w.heap.size w')) := by
  have b_g := bd_i64 i_g
  have a_v := h_v
  have l_v := h_v.len63
  have hS := St.start w O hO
  refine enterR Try.func41 rfl Try.ntmps41 Try.results41 rfl ?_
  refine W.seq ?_
  refine W.reg ?_
  refine Wx.rd (v := (.slice none 0 0)) (rd_assign rfl) rfl ?_
  refine Wx.rd (v := .int .i64 0) (rd_assign rfl) rfl ?_
  refine Wx.nil ?_
  refine W.seq ?_
  refine W.reg ?_
  refine Wx.rd (v := .int .i64 g) (rd_move rfl) rfl ?_
  refine Wx.rd (v := v) (rd_move rfl) rfl ?_
  refine Wx.callF (run_callF Try.call62 rfl) (F62 i_g (hS.arg a_v) (V.nil (t := (tI .i64))) hS.fb_lt) rfl ?_
  rintro r_1 w_2 hx_3 ⟨v_4, rfl, hv_5⟩
  have hS := hS.ext hx_3
  have hS := hS.add hv_5
  refine Wx.rd (v := .tuple #[v_4, .int .i64 (openE g l ([] : List Int))]) (rd_move rfl) rfl ?_
  refine Wx.rd (v := v_4) (rd_extract rfl rfl) rfl ?_
  refine Wx.rd (v := .int .i64 (openE g l ([] : List Int))) (rd_extract rfl rfl) rfl ?_
  refine Wx.rd (v := v_4) (rd_assign rfl) rfl ?_
  refine Wx.rd (v := .int .i64 (openE g l ([] : List Int))) (rd_assign rfl) rfl ?_
  refine Wx.nil ?_
  refine W.seq ?_
  refine W.seq ?_
  refine W.reg ?_
  refine Wx.rd (v := .int .i64 (openE g l ([] : List Int))) (rd_move rfl) rfl ?_
  refine Wx.rd (v := .bool (decide ((openE g l ([] : List Int)) ≠ 0))) (rd_neq rfl rfl) rfl ?_
  refine Wx.nil ?_
  refine W.condD rfl (fun c0 => ?_) (fun c0 => ?_)
  · -- yes
    refine W.seq ?_
    refine W.reg ?_
    refine Wx.rd (v := .int .i64 (openE g l ([] : List Int))) (rd_move rfl) rfl ?_
    refine Wx.rd (v := (.slice none 0 0)) (rd_assign rfl) rfl ?_
    refine Wx.rd (v := .int .i64 (openE g l ([] : List Int))) (rd_assign rfl) rfl ?_
    refine Wx.nil ?_
    have e0_0 : ranksL g l = [] := by exact (ranks_err (by rw [← openE_nil]; exact c0)).1
    have e0_1 : (ranksX g l) = (openE g l ([] : List Int) : Int) := by rw [(ranks_err (by rw [← openE_nil]; exact c0)).2]; exact openE_nil.symm
    exact W.ret ⟨.tuple #[(.slice none 0 0), .int .i64 (openE g l ([] : List Int))], ResIs.two, hS.bel, ⟨(.slice none 0 0), (by rw [e0_1]), (by rw [e0_0]; exact ((hS.addNil (tI .i64) 3).fr 0 rfl flat_int))⟩⟩
  · -- no
    have h0c : checkE g l = 0 := by rw [← openE_nil]; omega
    have hsok := SalesOK.of h0c
    have hl6 := hsok.1
    obtain ⟨gd, hgd, hok⟩ := hsok.at
    obtain ⟨g_7, rfl, hm_8⟩ := V.mkOpen (hS.v 0 rfl) (decide_eq_true (by omega))
    have ok_g_7 := V.mkOK hm_8
    have hS := hS.add hm_8
    refine W.skip ?_
    refine W.seq ?_
    refine W.seq ?_
    refine W.reg ?_
    refine Wx.rd (v := (.pointer (some ⟨g_7, 0, none⟩))) (rd_move rfl) rfl ?_
    refine Wx.callF (run_callF Try.call76 rfl) (F76 (hS.v 0 rfl) hS.fb_lt) rfl ?_
    rintro r_10 w_11 hx_12 ⟨_, rfl, hv_13⟩
    have hS := hS.ext hx_12
    have hS := hS.add hv_13
    rcases V.rep (hS.v 0 rfl) with ⟨hjdg, u_15, rfl, hu_16⟩ | ⟨hjdg, u_15, rfl, hu_16⟩
    · -- classes
      have hS := hS.add hu_16
      have ln_18 := (hS.v 0 rfl).len63
      refine Wx.callF (run_invoke (told115 _) rfl) (F143 (hS.v 0 rfl)) rfl ?_
      rintro r_19 w_20 hx_21 rfl
      have hS := hS.ext hx_21
      refine Wx.rd (v := .bool false) (rd_not (c := true) rfl) rfl ?_
      refine Wx.nil ?_
      refine W.condF rfl rfl ?_
      refine W.skip ?_
      refine W.seq ?_
      refine W.reg ?_
      refine Wx.rd (v := v) (rd_move rfl) rfl ?_
      refine Wx.rd (v := .int .i64 (l.length : Int)) (rd_lenV rfl (hS.arg a_v) Try.underlying22) rfl ?_
      have hno := jdg_nil.1 hjdg
      have hr0 : ranksX g l = 0 := by rw [ranksX, if_pos h0c, if_pos hno]
      refine Wx.make (t := (tI .i64)) (zy := 0) (m := l.length) elLa_39 rfl rfl (fun _ _ => ⟨rfl, by decide, by decide⟩) hS (congrArg (Value.int .i64) rfl) (congrArg (Value.int .i64) rfl) (by omega) (by simp only [maxLen]; omega) rfl (fun v_22 w_23 hx_24 hS => ?_)
      refine Wx.rd (v := v_22) (rd_assign rfl) rfl ?_
      refine Wx.nil ?_
      refine W.seq ?_
      refine W.seq ?_
      refine W.reg ?_
      refine Wx.rd (v := v) (rd_move rfl) rfl ?_
      refine Wx.rd (v := .int .i64 (l.length : Int)) (rd_lenV rfl (hS.arg a_v) Try.underlying22) rfl ?_
      refine Wx.rd (v := .int .i64 0) (rd_move rfl) rfl ?_
      refine Wx.nil ?_
      refine W.block ?_
      refine W.loop [9, 10, 29, 30, 31, 32, 33, 34, 35, 36, 37, 38, 39, 40, 41, 42, 43, 44, 45, 46, 47, 48, 49, 50, 51, 52, 53, 54, 55, 56, 57, 58, 59, 60, 61, 62, 63, 64, 65, 66, 67, 68, 69, 70, 71, 72, 73, 74] (fun x : Int × (List Int) => match x with | (a, out) => [(29, .int .i64 a)]) (fun (x : Int × (List Int)) w' => match x with | (a, out) => St w O w' [.row (tI .i64) 3 v_22 out, Ob.v (tSl (tI .i64)) (classL l) u_15, Ob.v tRep l (.iface 115 (.agg #[u_15])), Ob.v (tMk true) l (.pointer (some ⟨g_7, 0, none⟩)), Ob.v (tMk (decide (openE g l ([] : List Int) = 0))) l (.pointer (some ⟨g_7, 0, none⟩))] ∧ 0 ≤ a ∧ a ≤ l.length ∧ RkI l a 0 out ∧ out.length = l.length) (fun x : Int × (List Int) => match x with | (a, out) => (l.length - a).toNat) (0, List.replicate l.length 0) ⟨rfl, trivial⟩ ⟨hS, (by first | omega | simp), (by first | omega | simp), (rk_start), (by simp)⟩ ?_
      rintro ⟨a, out⟩ u_28 w_27 ⟨hS, h0, h1, h2, h3⟩
      refine W.seq ?_
      refine W.reg ?_
      refine Wx.rd (v := .bool (decide (a < (l.length : Int)))) (rd_lss rfl rfl) rfl ?_
      refine Wx.nil ?_
      refine W.seq ?_
      refine W.condD rfl (fun c2 => ?_) (fun c2 => ?_)
      · -- yes
        refine W.skip ?_
        refine W.seq ?_
        refine W.block ?_
        refine W.seq ?_
        refine W.reg ?_
        refine Wx.rd (v := .int .i64 a) (rd_move rfl) rfl ?_
        refine Wx.rd (v := .int .i64 a) (rd_assign rfl) rfl ?_
        refine Wx.nil ?_
        refine W.seq ?_
        refine W.reg ?_
        refine Wx.rd (v := v) (rd_move rfl) rfl ?_
        refine Wx.rd (v := .int .i64 (l.length : Int)) (rd_lenV rfl (hS.arg a_v) Try.underlying22) rfl ?_
        refine Wx.rd (v := .int .i64 0) (rd_move rfl) rfl ?_
        refine Wx.nil ?_
        refine W.block ?_
        refine W.loop [10, 34, 35, 36, 37, 38, 39, 40, 41, 42, 43, 44, 45, 46, 47, 48, 49, 50, 51, 52, 53, 54, 55, 56, 57, 58, 59, 60, 61, 62, 63, 64, 65, 66, 67, 68, 69, 70, 71, 72, 73] (fun x : Int × (List Int) => match x with | (b, out2) => [(34, .int .i64 b)]) (fun (x : Int × (List Int)) w' => match x with | (b, out2) => St w O w' [.row (tI .i64) 3 v_22 out2, Ob.v (tSl (tI .i64)) (classL l) u_15, Ob.v tRep l (.iface 115 (.agg #[u_15])), Ob.v (tMk true) l (.pointer (some ⟨g_7, 0, none⟩)), Ob.v (tMk (decide (openE g l ([] : List Int) = 0))) l (.pointer (some ⟨g_7, 0, none⟩))] ∧ 0 ≤ b ∧ b ≤ l.length ∧ RkI l a b out2 ∧ out2.length = l.length) (fun x : Int × (List Int) => match x with | (b, out2) => (l.length - b).toNat) (0, out) ⟨rfl, trivial⟩ ⟨hS, (by first | omega | simp), (by first | omega | simp), (h2), (h3)⟩ ?_
        rintro ⟨b, out2⟩ u_30 w_29 ⟨hS, g0, g1, g2, g3⟩
        refine W.seq ?_
        refine W.reg ?_
        refine Wx.rd (v := .bool (decide (b < (l.length : Int)))) (rd_lss rfl rfl) rfl ?_
        refine Wx.nil ?_
        refine W.seq ?_
        refine W.condD rfl (fun c3 => ?_) (fun c3 => ?_)
        · -- yes
          refine W.skip ?_
          refine W.seq ?_
          refine W.block ?_
          refine W.seq ?_
          refine W.reg ?_
          refine Wx.rd (v := .int .i64 b) (rd_move rfl) rfl ?_
          refine Wx.rd (v := .int .i64 b) (rd_assign rfl) rfl ?_
          refine Wx.nil ?_
          refine W.seq ?_
          refine W.reg ?_
          refine Wx.rd (v := .int .i64 a) (rd_move rfl) rfl ?_
          refine Wx.rd (v := .int .i64 b) (rd_move rfl) rfl ?_
          refine Wx.rd (v := .bool (decide (a ≠ b))) (rd_neq rfl rfl) rfl ?_
          refine Wx.rd (v := .bool (decide (a ≠ b))) (rd_move rfl) rfl ?_
          refine Wx.cut (X := Unit) 9 [41, 42, 43, 44, 45, 46, 47, 48, 49] (fun _ => [(49, .bool (decide (a ≠ b) && ledB (gS l) l.length a b))]) (fun _ w' => St w O w' [.row (tI .i64) 3 v_22 out2, Ob.v (tSl (tI .i64)) (classL l) u_15, Ob.v tRep l (.iface 115 (.agg #[u_15])), Ob.v (tMk true) l (.pointer (some ⟨g_7, 0, none⟩)), Ob.v (tMk (decide (openE g l ([] : List Int) = 0))) l (.pointer (some ⟨g_7, 0, none⟩))]) ?_ ?_
          · rcases Bool.eq_false_or_eq_true (decide (a ≠ b)) with g_31 | g_31
            · -- True
              have gp_32 := of_decide_eq_true g_31
              refine Wx.gyes rfl rfl (congrArg Value.bool g_31) ?_
              refine Wx.rd (v := (.pointer (some ⟨g_7, 0, none⟩))) (rd_move rfl) rfl ?_
              refine Wx.gyes rfl rfl (congrArg Value.bool g_31) ?_
              refine Wx.rd (v := .int .i64 a) (rd_move rfl) rfl ?_
              refine Wx.gyes rfl rfl (congrArg Value.bool g_31) ?_
              refine Wx.rd (v := .int .i64 b) (rd_move rfl) rfl ?_
              refine Wx.gyes rfl rfl (congrArg Value.bool g_31) ?_
              refine Wx.rd (v := (.pointer (some ⟨g_7, 0, none⟩))) (rd_nilCheck rfl rfl) rfl ?_
              refine Wx.gyes rfl rfl (congrArg Value.bool g_31) ?_
              refine Wx.rd (v := .pointer (some ⟨g_7, 1, none⟩)) (rd_fieldAddr rfl foLa_93_1) rfl ?_
              refine Wx.gyes rfl rfl (congrArg Value.bool g_31) ?_
              refine Wx.rd (v := .pointer (some ⟨g_7, 1 + a.toNat * 6, none⟩)) (rd_indexArr (o := 1) rfl rfl Try.underlying82 Try.sizeOf81 (by omega) (by omega)) rfl ?_
              refine Wx.gyes rfl rfl (congrArg Value.bool g_31) ?_
              refine Wx.rd (v := .pointer (some ⟨g_7, 1 + a.toNat * 6 + b.toNat * 1, none⟩)) (rd_indexArr (o := 1 + a.toNat * 6) rfl rfl Try.underlying81 Try.sizeOf4 (by omega) (by omega)) rfl ?_
              refine Wx.gyes rfl rfl (congrArg Value.bool g_31) ?_
              refine Wx.rd (v := .bool (ledB (gS l) l.length a b)) (rd_mkB (hS.v 3 rfl) rfl (by omega) (by omega) (by omega) (by omega) Try.isAgg4) rfl ?_
              refine Wx.rd (v := .bool (ledB (gS l) l.length a b)) (rd_pickT (congrArg Value.bool g_31) rfl) rfl ?_
              refine Wx.nil ⟨(), hS, ⟨?_, trivial⟩, Out.look rfl Out.refl⟩
              show Value.bool (ledB (gS l) l.length a b) = Value.bool (decide (a ≠ b) && ledB (gS l) l.length a b)
              first | rw [g_31, Bool.true_and] | (rw [g_31]; rfl)
            · -- False
              have gp_33 := of_decide_eq_false g_31
              refine Wx.gnoB rfl rfl (congrArg Value.bool g_31) rfl rfl ?_
              refine Wx.gnoB rfl rfl (congrArg Value.bool g_31) rfl rfl ?_
              refine Wx.gnoB rfl rfl (congrArg Value.bool g_31) rfl rfl ?_
              refine Wx.gnoB rfl rfl (congrArg Value.bool g_31) rfl rfl ?_
              refine Wx.gnoB rfl rfl (congrArg Value.bool g_31) rfl rfl ?_
              refine Wx.gnoB rfl rfl (congrArg Value.bool g_31) rfl rfl ?_
              refine Wx.gnoB rfl rfl (congrArg Value.bool g_31) rfl rfl ?_
              refine Wx.gnoB rfl rfl (congrArg Value.bool g_31) rfl rfl ?_
              refine Wx.rd (v := .bool false) (rd_pickF (congrArg Value.bool g_31) rfl) rfl ?_
              refine Wx.nil ⟨(), hS, ⟨?_, trivial⟩, Out.look rfl Out.refl⟩
              show Value.bool false = Value.bool (decide (a ≠ b) && ledB (gS l) l.length a b)
              first | rw [g_31, Bool.false_and] | (rw [g_31]; rfl)
          rintro ⟨⟩ u_35 w_34 hS
          refine Wx.rd (v := .bool (decide (a ≠ b) && ledB (gS l) l.length a b)) (rd_move rfl) rfl ?_
          refine Wx.cut (X := Unit) 10 [51, 52, 53, 54, 55, 56, 57, 58, 59, 60] (fun _ => [(60, .bool ((decide (a ≠ b) && ledB (gS l) l.length a b) && !(ledB (gS l) l.length b a)))]) (fun _ w' => St w O w' [.row (tI .i64) 3 v_22 out2, Ob.v (tSl (tI .i64)) (classL l) u_15, Ob.v tRep l (.iface 115 (.agg #[u_15])), Ob.v (tMk true) l (.pointer (some ⟨g_7, 0, none⟩)), Ob.v (tMk (decide (openE g l ([] : List Int) = 0))) l (.pointer (some ⟨g_7, 0, none⟩))]) ?_ ?_
          · rcases Bool.eq_false_or_eq_true (decide (a ≠ b) && ledB (gS l) l.length a b) with g_36 | g_36
            · -- True
              have gp_37 := g_36
              try simp only [Bool.and_eq_true, Bool.or_eq_true, Bool.not_eq_true', Bool.and_eq_false_iff, Bool.or_eq_false_iff, Bool.not_eq_false', decide_eq_true_eq, decide_eq_false_iff_not, not_or, Bool.false_eq_true, Bool.true_eq_false, false_or, or_false, not_false_eq_true] at gp_37
              refine Wx.gyes rfl rfl (congrArg Value.bool g_36) ?_
              refine Wx.rd (v := (.pointer (some ⟨g_7, 0, none⟩))) (rd_move rfl) rfl ?_
              refine Wx.gyes rfl rfl (congrArg Value.bool g_36) ?_
              refine Wx.rd (v := .int .i64 b) (rd_move rfl) rfl ?_
              refine Wx.gyes rfl rfl (congrArg Value.bool g_36) ?_
              refine Wx.rd (v := .int .i64 a) (rd_move rfl) rfl ?_
              refine Wx.gyes rfl rfl (congrArg Value.bool g_36) ?_
              refine Wx.rd (v := (.pointer (some ⟨g_7, 0, none⟩))) (rd_nilCheck rfl rfl) rfl ?_
              refine Wx.gyes rfl rfl (congrArg Value.bool g_36) ?_
              refine Wx.rd (v := .pointer (some ⟨g_7, 1, none⟩)) (rd_fieldAddr rfl foLa_93_1) rfl ?_
              refine Wx.gyes rfl rfl (congrArg Value.bool g_36) ?_
              refine Wx.rd (v := .pointer (some ⟨g_7, 1 + b.toNat * 6, none⟩)) (rd_indexArr (o := 1) rfl rfl Try.underlying82 Try.sizeOf81 (by omega) (by omega)) rfl ?_
              refine Wx.gyes rfl rfl (congrArg Value.bool g_36) ?_
              refine Wx.rd (v := .pointer (some ⟨g_7, 1 + b.toNat * 6 + a.toNat * 1, none⟩)) (rd_indexArr (o := 1 + b.toNat * 6) rfl rfl Try.underlying81 Try.sizeOf4 (by omega) (by omega)) rfl ?_
              refine Wx.gyes rfl rfl (congrArg Value.bool g_36) ?_
              refine Wx.rd (v := .bool (ledB (gS l) l.length b a)) (rd_mkB (hS.v 3 rfl) rfl (by omega) (by omega) (by omega) (by omega) Try.isAgg4) rfl ?_
              refine Wx.gyes rfl rfl (congrArg Value.bool g_36) ?_
              refine Wx.rd (v := .bool (!(ledB (gS l) l.length b a))) (rd_not rfl) rfl ?_
              refine Wx.rd (v := .bool (!(ledB (gS l) l.length b a))) (rd_pickT (congrArg Value.bool g_36) rfl) rfl ?_
              refine Wx.nil ⟨(), hS, ⟨?_, trivial⟩, Out.look rfl Out.refl⟩
              show Value.bool (!(ledB (gS l) l.length b a)) = Value.bool ((decide (a ≠ b) && ledB (gS l) l.length a b) && !(ledB (gS l) l.length b a))
              first | rw [g_36, Bool.true_and] | (rw [g_36]; rfl)
            · -- False
              have gp_38 := g_36
              try simp only [Bool.and_eq_true, Bool.or_eq_true, Bool.not_eq_true', Bool.and_eq_false_iff, Bool.or_eq_false_iff, Bool.not_eq_false', decide_eq_true_eq, decide_eq_false_iff_not, not_or, Bool.false_eq_true, Bool.true_eq_false, false_or, or_false, not_false_eq_true] at gp_38
              refine Wx.gnoB rfl rfl (congrArg Value.bool g_36) rfl rfl ?_
              refine Wx.gnoB rfl rfl (congrArg Value.bool g_36) rfl rfl ?_
              refine Wx.gnoB rfl rfl (congrArg Value.bool g_36) rfl rfl ?_
              refine Wx.gnoB rfl rfl (congrArg Value.bool g_36) rfl rfl ?_
              refine Wx.gnoB rfl rfl (congrArg Value.bool g_36) rfl rfl ?_
              refine Wx.gnoB rfl rfl (congrArg Value.bool g_36) rfl rfl ?_
              refine Wx.gnoB rfl rfl (congrArg Value.bool g_36) rfl rfl ?_
              refine Wx.gnoB rfl rfl (congrArg Value.bool g_36) rfl rfl ?_
              refine Wx.gnoB rfl rfl (congrArg Value.bool g_36) rfl rfl ?_
              refine Wx.rd (v := .bool false) (rd_pickF (congrArg Value.bool g_36) rfl) rfl ?_
              refine Wx.nil ⟨(), hS, ⟨?_, trivial⟩, Out.look rfl Out.refl⟩
              show Value.bool false = Value.bool ((decide (a ≠ b) && ledB (gS l) l.length a b) && !(ledB (gS l) l.length b a))
              first | rw [g_36, Bool.false_and] | (rw [g_36]; rfl)
          rintro ⟨⟩ u_40 w_39 hS
          refine Wx.rd (v := .bool ((decide (a ≠ b) && ledB (gS l) l.length a b) && !(ledB (gS l) l.length b a))) (rd_move rfl) rfl ?_
          refine Wx.cut (X := Unit) 5 [62, 63, 64, 65, 66] (fun _ => [(66, .bool (((decide (a ≠ b) && ledB (gS l) l.length a b) && !(ledB (gS l) l.length b a)) && btsV (gS l) (bS l) l.length a b))]) (fun _ w' => St w O w' [.row (tI .i64) 3 v_22 out2, Ob.v (tSl (tI .i64)) (classL l) u_15, Ob.v tRep l (.iface 115 (.agg #[u_15])), Ob.v (tMk true) l (.pointer (some ⟨g_7, 0, none⟩)), Ob.v (tMk (decide (openE g l ([] : List Int) = 0))) l (.pointer (some ⟨g_7, 0, none⟩))]) ?_ ?_
          · rcases Bool.eq_false_or_eq_true ((decide (a ≠ b) && ledB (gS l) l.length a b) && !(ledB (gS l) l.length b a)) with g_41 | g_41
            · -- True
              have gp_42 := g_41
              try simp only [Bool.and_eq_true, Bool.or_eq_true, Bool.not_eq_true', Bool.and_eq_false_iff, Bool.or_eq_false_iff, Bool.not_eq_false', decide_eq_true_eq, decide_eq_false_iff_not, not_or, Bool.false_eq_true, Bool.true_eq_false, false_or, or_false, not_false_eq_true] at gp_42
              refine Wx.gyes rfl rfl (congrArg Value.bool g_41) ?_
              refine Wx.rd (v := (.pointer (some ⟨g_7, 0, none⟩))) (rd_move rfl) rfl ?_
              refine Wx.gyes rfl rfl (congrArg Value.bool g_41) ?_
              refine Wx.rd (v := .int .i64 a) (rd_move rfl) rfl ?_
              refine Wx.gyes rfl rfl (congrArg Value.bool g_41) ?_
              refine Wx.rd (v := .int .i64 b) (rd_move rfl) rfl ?_
              refine Wx.gyes rfl rfl (congrArg Value.bool g_41) ?_
              refine Wx.callF (run_callF Try.call85 rfl) (F85 (hS.v 3 rfl) (in_i64 (by omega) (by omega)) (in_i64 (by omega) (by omega)) (by omega) (by omega) hS.fb_lt) rfl ?_
              rintro r_43 w_44 hx_45 rfl
              have hS := hS.ext hx_45
              refine Wx.rd (v := .bool (btsV (gS l) (bS l) l.length a b)) (rd_pickT (congrArg Value.bool g_41) rfl) rfl ?_
              refine Wx.nil ⟨(), hS, ⟨?_, trivial⟩, Out.look rfl Out.refl⟩
              show Value.bool (btsV (gS l) (bS l) l.length a b) = Value.bool (((decide (a ≠ b) && ledB (gS l) l.length a b) && !(ledB (gS l) l.length b a)) && btsV (gS l) (bS l) l.length a b)
              first | rw [g_41, Bool.true_and] | (rw [g_41]; rfl)
            · -- False
              have gp_46 := g_41
              try simp only [Bool.and_eq_true, Bool.or_eq_true, Bool.not_eq_true', Bool.and_eq_false_iff, Bool.or_eq_false_iff, Bool.not_eq_false', decide_eq_true_eq, decide_eq_false_iff_not, not_or, Bool.false_eq_true, Bool.true_eq_false, false_or, or_false, not_false_eq_true] at gp_46
              refine Wx.gnoB rfl rfl (congrArg Value.bool g_41) rfl rfl ?_
              refine Wx.gnoB rfl rfl (congrArg Value.bool g_41) rfl rfl ?_
              refine Wx.gnoB rfl rfl (congrArg Value.bool g_41) rfl rfl ?_
              refine Wx.gnoB rfl rfl (congrArg Value.bool g_41) rfl rfl ?_
              refine Wx.rd (v := .bool false) (rd_pickF (congrArg Value.bool g_41) rfl) rfl ?_
              refine Wx.nil ⟨(), hS, ⟨?_, trivial⟩, Out.look rfl Out.refl⟩
              show Value.bool false = Value.bool (((decide (a ≠ b) && ledB (gS l) l.length a b) && !(ledB (gS l) l.length b a)) && btsV (gS l) (bS l) l.length a b)
              first | rw [g_41, Bool.false_and] | (rw [g_41]; rfl)
          rintro ⟨⟩ u_48 w_47 hS
          refine Wx.nil ?_
          refine W.cond rfl (fun c4 => ?_) (fun c4 => ?_)
          · -- yes
            try simp only [Bool.and_eq_true, Bool.or_eq_true, Bool.not_eq_true', Bool.and_eq_false_iff, Bool.or_eq_false_iff, Bool.not_eq_false', decide_eq_true_eq, decide_eq_false_iff_not, not_or, Bool.false_eq_true, Bool.true_eq_false, false_or, or_false, not_false_eq_true] at c4
            refine W.reg ?_
            refine Wx.rd (v := v_22) (rd_move rfl) rfl ?_
            refine Wx.rd (v := .int .i64 a) (rd_move rfl) rfl ?_
            refine Wx.indexR hS 0 rfl rfl rfl Try.underlying39 Try.sizeOf3 (by first | omega | (simp only [List.length_set, List.length_append, List.length_cons, List.length_nil, List.length_replicate]; omega)) (by first | omega | (simp only [List.length_set, List.length_append, List.length_cons, List.length_nil, List.length_replicate]; omega)) rfl (fun g_49 hg_50 => ?_)
            refine Wx.rd (v := .int .i64 (ix 0 out2 a)) (rd_loadRI' hS 0 rfl hg_50 rfl (by first | omega | (simp only [List.length_set, List.length_append, List.length_cons, List.length_nil, List.length_replicate]; omega)) (by first | omega | (simp only [List.length_set, List.length_append, List.length_cons, List.length_nil, List.length_replicate]; omega)) Try.isAgg3 Try.sizeOf3) rfl ?_
            have bd_51 := bd_i64 (hS.rowInK' 0 rfl (by first | omega | (simp only [List.length_set, List.length_append, List.length_cons, List.length_nil, List.length_replicate]; omega)) (by first | omega | (simp only [List.length_set, List.length_append, List.length_cons, List.length_nil, List.length_replicate]; omega)) : InK .i64 (ix 0 out2 a))
            have hrb := rk_bd g2 h0 (by omega)
            refine Wx.rd (v := .int .i64 ((ix 0 out2 a) + 1)) (rd_add rfl rfl (in_i64 (by omega) (by omega))) rfl ?_
            refine Wx.indexR hS 0 rfl rfl rfl Try.underlying39 Try.sizeOf3 (by first | omega | (simp only [List.length_set, List.length_append, List.length_cons, List.length_nil, List.length_replicate]; omega)) (by first | omega | (simp only [List.length_set, List.length_append, List.length_cons, List.length_nil, List.length_replicate]; omega)) rfl (fun g_52 hg_53 => ?_)
            refine Wx.storeR (j := a.toNat) (z := (ix 0 out2 a) + 1) hS 0 rfl hg_53 rfl (by first | omega | (simp only [List.length_set, List.length_append, List.length_cons, List.length_nil, List.length_replicate]; omega)) rfl (V.mkInt (in_i64 (by omega) (by omega))) Try.sizeOf3 (fun w_54 hz_55 hS => ?_)
            refine Wx.nil ?_
            refine W.reg ?_
            refine Wx.rd (v := .int .i64 (b + 1)) (rd_add rfl rfl (in_i64 (by omega) (by omega))) rfl ?_
            refine Wx.rd (v := .int .i64 (b + 1)) (rd_move rfl) rfl ?_
            refine Wx.nil ?_
            refine ⟨(b + 1, List.set out2 a.toNat ((ix 0 out2 a) + 1)), (by show (l.length - (b + 1)).toNat < (l.length - b).toNat; omega), ?_, ?_, Out.look rfl (Out.hav rfl (Out.look rfl (Out.hav rfl (Out.look rfl (Out.hav rfl (Out.look rfl Out.self))))))⟩
            · exact ⟨hS, (by first | omega | assumption), (by first | omega | assumption), (rk_yes g2 h0 (by omega) (by omega) ⟨c4.1.1.1, (beat_law (G := gS l) (B := bS l) (n := l.length) (bS_gS l) hno (a := a) (b := b) ⟨h0, by omega⟩ ⟨g0, by omega⟩).2 ⟨⟨c4.1.1.2, c4.1.2⟩, c4.2⟩⟩), (by rw [List.length_set]; exact g3)⟩
            · exact ⟨rfl, trivial⟩
          · -- no
            try simp only [Bool.and_eq_true, Bool.or_eq_true, Bool.not_eq_true', Bool.and_eq_false_iff, Bool.or_eq_false_iff, Bool.not_eq_false', decide_eq_true_eq, decide_eq_false_iff_not, not_or, Bool.false_eq_true, Bool.true_eq_false, false_or, or_false, not_false_eq_true] at c4
            refine W.skip ?_
            refine W.reg ?_
            refine Wx.rd (v := .int .i64 (b + 1)) (rd_add rfl rfl (in_i64 (by omega) (by omega))) rfl ?_
            refine Wx.rd (v := .int .i64 (b + 1)) (rd_move rfl) rfl ?_
            refine Wx.nil ?_
            refine ⟨(b + 1, out2), (by show (l.length - (b + 1)).toNat < (l.length - b).toNat; omega), ?_, ?_, Out.look rfl (Out.hav rfl (Out.look rfl (Out.hav rfl (Out.look rfl (Out.hav rfl (Out.look rfl Out.self))))))⟩
            · exact ⟨hS, (by first | omega | assumption), (by first | omega | assumption), (rk_no g2 (by omega) (by rcases c4 with ((z | z) | z) | z; exact .inl (Decidable.not_not.1 z); all_goals (right; cases hq : beatsV (gS l) (bS l) l.length a b with | false => rfl | true => (obtain ⟨⟨q1, q2⟩, q3⟩ := (beat_law (G := gS l) (B := bS l) (n := l.length) (bS_gS l) hno (a := a) (b := b) ⟨h0, by omega⟩ ⟨g0, by omega⟩).1 hq; first | (rw [q1] at z; cases z) | (rw [q2] at z; cases z) | (rw [q3] at z; cases z))))), (by first | omega | assumption)⟩
            · exact ⟨rfl, trivial⟩
        · -- no
          refine W.exit rfl ?_
          refine W.reg ?_
          refine Wx.rd (v := .int .i64 (a + 1)) (rd_add rfl rfl (in_i64 (by omega) (by omega))) rfl ?_
          refine Wx.rd (v := .int .i64 (a + 1)) (rd_move rfl) rfl ?_
          refine Wx.nil ?_
          refine ⟨(a + 1, out2), (by show (l.length - (a + 1)).toNat < (l.length - a).toNat; omega), ?_, ?_, Out.look rfl (Out.hav rfl (Out.look rfl Out.self))⟩
          · exact ⟨hS, (by first | omega | assumption), (by first | omega | assumption), (rk_row g2 (by omega)), (g3)⟩
          · exact ⟨rfl, trivial⟩
      · -- no
        refine W.exit rfl ?_
        refine W.seq ?_
        refine W.reg ?_
        refine Wx.rd (v := v_22) (rd_move rfl) rfl ?_
        refine Wx.rd (v := v_22) (rd_assign rfl) rfl ?_
        refine Wx.rd (v := .int .i64 0) (rd_assign rfl) rfl ?_
        refine Wx.nil ?_
        have e1_0 : ranksL g l = out := by exact rk_end h2 (by omega) hr0
        have e1_1 : (ranksX g l) = (0 : Int) := by exact hr0
        exact W.ret ⟨.tuple #[v_22, .int .i64 0], ResIs.two, hS.bel, ⟨v_22, (by rw [e1_1]), (by rw [e1_0]; exact (hS.fr 0 rfl flat_int))⟩⟩
    · -- a ring
      have hS := hS.add hu_16
      have ln_57 := (hS.v 0 rfl).len63
      refine Wx.callF (run_invoke (told111 _) rfl) (F142 (hS.v 0 rfl)) rfl ?_
      rintro r_58 w_59 hx_60 rfl
      have hS := hS.ext hx_60
      refine Wx.rd (v := .bool true) (rd_not (c := false) rfl) rfl ?_
      refine Wx.nil ?_
      refine W.condT rfl rfl ?_
      refine W.seq ?_
      refine W.reg ?_
      refine Wx.rd (v := (.slice none 0 0)) (rd_assign rfl) rfl ?_
      refine Wx.rd (v := .int .i64 13) (rd_assign rfl) rfl ?_
      refine Wx.nil ?_
      have e2_0 : ranksL g l = [] := by exact (ranks_ring h0c hjdg).1
      have e2_1 : (ranksX g l) = (13 : Int) := by exact (ranks_ring h0c hjdg).2
      exact W.ret ⟨.tuple #[(.slice none 0 0), .int .i64 13], ResIs.two, hS.bel, ⟨(.slice none 0 0), (by rw [e2_1]), (by rw [e2_0]; exact ((hS.addNil (tI .i64) 3).fr 0 rfl flat_int))⟩⟩
end Go.Proofs.Ytjbcpggikaeleaa

namespace Go.Proofs.Ytjbcpggikaeleaa
open Go.Wk Go.RowKit Go.Lib
set_option linter.unusedVariables false
set_option linter.unusedSimpArgs false
theorem mixedLb_ : Try.prog.follows .mixedOrders = true := by kernel_rfl
theorem elLb_39 : ElemI Try.prog 39 3 (.int .i64 0) 1 8 := ElemI.of Try.underlying39 (by kernel_rfl) (by first | rfl | kernel_rfl) (by decide)
theorem foLb_115_0 : fldOff Try.prog 115 0 = some 0 := by kernel_rfl

set_option maxHeartbeats 2000000 in
theorem F36 {g : Int} {v : Value} {l : List ((List Int) × (List Int))} {O : List (Option Nat)} {w : World} (i_g : InK .i64 g) (h_v : V (tSl (tP (tSl (tI .i64)) (tSl (tI .i64)))) l v O w) (hO : ∀ b, some b ∈ O → b < w.heap.size) : Calls Try.prog 36 #[.int .i64 g, v] w (Ret w (fun r w' => ∃ wv uv, r = .tuple #[wv, uv, .int .i64 (numX g l)] ∧ V (tSl (tI .i64)) (numW g l) wv O w' ∧ V (tSl (tI .i64)) (numU g l) uv O w')) := by
  have b_g := bd_i64 i_g
  have a_v := h_v
  have l_v := h_v.len63
  have hS := St.start w O hO
  refine enterR Try.func36 rfl Try.ntmps36 Try.results36 rfl ?_
  refine W.seq ?_
  refine W.reg ?_
  refine Wx.rd (v := (.slice none 0 0)) (rd_assign rfl) rfl ?_
  refine Wx.rd (v := (.slice none 0 0)) (rd_assign rfl) rfl ?_
  refine Wx.rd (v := .int .i64 0) (rd_assign rfl) rfl ?_
  refine Wx.nil ?_
  refine W.seq ?_
  refine W.reg ?_
  refine Wx.rd (v := .int .i64 g) (rd_move rfl) rfl ?_
  refine Wx.rd (v := v) (rd_move rfl) rfl ?_
  refine Wx.callF (run_callF Try.call62 rfl) (F62 i_g (hS.arg a_v) (V.nil (t := (tI .i64))) hS.fb_lt) rfl ?_
  rintro r_1 w_2 hx_3 ⟨v_4, rfl, hv_5⟩
  have hS := hS.ext hx_3
  have hS := hS.add hv_5
  refine Wx.rd (v := .tuple #[v_4, .int .i64 (openE g l ([] : List Int))]) (rd_move rfl) rfl ?_
  refine Wx.rd (v := v_4) (rd_extract rfl rfl) rfl ?_
  refine Wx.rd (v := .int .i64 (openE g l ([] : List Int))) (rd_extract rfl rfl) rfl ?_
  refine Wx.rd (v := v_4) (rd_assign rfl) rfl ?_
  refine Wx.rd (v := .int .i64 (openE g l ([] : List Int))) (rd_assign rfl) rfl ?_
  refine Wx.nil ?_
  refine W.seq ?_
  refine W.seq ?_
  refine W.reg ?_
  refine Wx.rd (v := .int .i64 (openE g l ([] : List Int))) (rd_move rfl) rfl ?_
  refine Wx.rd (v := .bool (decide ((openE g l ([] : List Int)) ≠ 0))) (rd_neq rfl rfl) rfl ?_
  refine Wx.nil ?_
  refine W.condD rfl (fun c0 => ?_) (fun c0 => ?_)
  · -- yes
    refine W.seq ?_
    refine W.reg ?_
    refine Wx.rd (v := .int .i64 (openE g l ([] : List Int))) (rd_move rfl) rfl ?_
    refine Wx.rd (v := (.slice none 0 0)) (rd_assign rfl) rfl ?_
    refine Wx.rd (v := (.slice none 0 0)) (rd_assign rfl) rfl ?_
    refine Wx.rd (v := .int .i64 (openE g l ([] : List Int))) (rd_assign rfl) rfl ?_
    refine Wx.nil ?_
    have e0_0 : numW g l = [] := by exact (num_err (g := g) (l := l) (by rw [← openE_nil]; exact c0)).2.1
    have e0_1 : numU g l = [] := by exact (num_err (g := g) (l := l) (by rw [← openE_nil]; exact c0)).2.2
    have e0_2 : (numX g l) = (openE g l ([] : List Int) : Int) := by rw [(num_err (g := g) (l := l) (by rw [← openE_nil]; exact c0)).1]; exact openE_nil.symm
    exact W.ret ⟨.tuple #[(.slice none 0 0), (.slice none 0 0), .int .i64 (openE g l ([] : List Int))], ResIs.three, hS.bel, ⟨(.slice none 0 0), (.slice none 0 0), (by rw [e0_2]), (by rw [e0_0]; exact (V.nil (t := (tI .i64)))), (by rw [e0_1]; exact (V.nil (t := (tI .i64))))⟩⟩
  · -- no
    have h0c : checkE g l = 0 := by rw [← openE_nil]; omega
    have hsok := SalesOK.of h0c
    have hl6 := hsok.1
    obtain ⟨gd, hgd, hok⟩ := hsok.at
    obtain ⟨g_7, rfl, hm_8⟩ := V.mkOpen (hS.v 0 rfl) (decide_eq_true (by omega))
    have ok_g_7 := V.mkOK hm_8
    have hS := hS.add hm_8
    refine W.skip ?_
    refine W.seq ?_
    refine W.reg ?_
    refine Wx.rd (v := (.pointer (some ⟨g_7, 0, none⟩))) (rd_move rfl) rfl ?_
    refine Wx.callF (run_callF Try.call76 rfl) (F76 (hS.v 0 rfl) hS.fb_lt) rfl ?_
    rintro r_10 w_11 hx_12 ⟨_, rfl, hv_13⟩
    have hS := hS.ext hx_12
    have hS := hS.add hv_13
    rcases V.rep (hS.v 0 rfl) with ⟨hjdg, u_15, rfl, hu_16⟩ | ⟨hjdg, u_15, rfl, hu_16⟩
    · -- classes
      have hS := hS.add hu_16
      have ln_18 := (hS.v 0 rfl).len63
      refine Wx.rd (v := .tuple #[.agg #[u_15], .bool true]) (rd_assertY rfl Try.underlying115) rfl ?_
      refine Wx.rd (v := .tuple #[.agg #[u_15], .bool true]) (rd_move rfl) rfl ?_
      refine Wx.rd (v := .agg #[u_15]) (rd_extract rfl rfl) rfl ?_
      refine Wx.rd (v := .bool true) (rd_extract rfl rfl) rfl ?_
      refine Wx.alloc (cs := [(.slice none 0 0)]) hS Try.zeroValue115 rfl rfl (fun g_19 w_20 hx_22 hb_21 hS => ?_)
      refine Wx.storeX (cs' := [u_15]) (ds := [u_15]) hS 0 rfl rfl rfl rfl Try.sizeOf115 (Nat.le_of_ble_eq_true rfl) (one_cons (V.oneC (hS.v 1 rfl)) one_nil) rfl (fun w_23 hz_24 hS => ?_)
      refine Wx.rd (v := .bool true) (rd_assign rfl) rfl ?_
      refine Wx.nil ?_
      refine W.seq ?_
      refine W.seq ?_
      refine W.reg ?_
      refine Wx.rd (v := .bool true) (rd_move rfl) rfl ?_
      refine Wx.rd (v := .bool false) (rd_not (c := true) rfl) rfl ?_
      refine Wx.nil ?_
      refine W.condF rfl rfl ?_
      refine W.skip ?_
      refine W.seq ?_
      refine W.reg ?_
      refine Wx.rd (v := .int .i64 1) (rd_assign rfl) rfl ?_
      refine Wx.nil ?_
      refine W.seq ?_
      refine W.seq ?_
      refine W.reg ?_
      refine Wx.rd (v := v) (rd_move rfl) rfl ?_
      refine Wx.rd (v := .int .i64 (l.length : Int)) (rd_lenV rfl (hS.arg a_v) Try.underlying22) rfl ?_
      refine Wx.rd (v := .int .i64 0) (rd_move rfl) rfl ?_
      refine Wx.nil ?_
      refine W.block ?_
      refine W.loop [10, 12, 14, 43, 44, 45, 46, 47, 48, 49, 50, 51, 52, 53, 54, 55, 56, 57, 58, 59] (fun x : Int × Int => match x with | (ld, a) => [(10, .int .i64 ld), (43, .int .i64 a)]) (fun (x : Int × Int) w' => match x with | (ld, a) => St w O w' [.box g_19 115 [u_15], Ob.v (tSl (tI .i64)) (classL l) u_15, Ob.v tRep l (.iface 115 (.agg #[u_15])), Ob.v (tMk true) l (.pointer (some ⟨g_7, 0, none⟩)), Ob.v (tMk (decide (openE g l ([] : List Int) = 0))) l (.pointer (some ⟨g_7, 0, none⟩))] ∧ 0 ≤ a ∧ a ≤ l.length ∧ ldA l ld (rng a l.length) = leadM l) (fun x : Int × Int => match x with | (ld, a) => (l.length - a).toNat) (1, 0) ⟨rfl, rfl, trivial⟩ ⟨hS, (by first | omega | simp), (by first | omega | simp), (rfl)⟩ ?_
      rintro ⟨ld, a⟩ u_26 w_25 ⟨hS, h0, h1, h2⟩
      refine W.seq ?_
      refine W.reg ?_
      refine Wx.rd (v := .bool (decide (a < (l.length : Int)))) (rd_lss rfl rfl) rfl ?_
      refine Wx.nil ?_
      refine W.seq ?_
      refine W.condD rfl (fun c2 => ?_) (fun c2 => ?_)
      · -- yes
        refine W.skip ?_
        refine W.seq ?_
        refine W.block ?_
        refine W.seq ?_
        refine W.reg ?_
        refine Wx.ex (rd_index ([], []) (hS.arg a_v) rfl rfl Try.underlying22 Try.sizeOf62 (by first | omega | (simp only [List.length_set, List.length_append, List.length_cons, List.length_nil, List.length_replicate]; omega)) (by first | omega | (simp only [List.length_set, List.length_append, List.length_cons, List.length_nil, List.length_replicate]; omega))) rfl (fun p_27 hp_28 => ?_)
        refine Wx.ex (rd_load hp_28 rfl Try.isAgg62 Try.sizeOf62) rfl (fun v_29 hv_30 => ?_)
        obtain ⟨v_31, v_32, rfl, hv_33, hv_34⟩ := hv_30.s2
        have hS := hS.add (hv_33)
        have ln_36 := (hS.v 0 rfl).len63
        have hS := hS.add (V.upF (hv_34))
        have ln_38 := (hS.v 0 rfl).len63
        refine Wx.alloc (cs := [(.slice none 0 0), (.slice none 0 0)]) hS Try.zeroValue62 rfl rfl (fun g_39 w_40 hx_42 hb_41 hS => ?_)
        refine Wx.storeX (cs' := [v_31, v_32]) (ds := [v_31, v_32]) hS 0 rfl rfl rfl rfl Try.sizeOf62 (Nat.le_of_ble_eq_true rfl) (one_cons (V.oneC (hS.v 2 rfl)) (one_cons (V.oneC (hS.v 1 rfl)) one_nil)) rfl (fun w_43 hz_44 hS => ?_)
        refine Wx.nil ?_
        refine W.seq ?_
        refine W.reg ?_
        refine Wx.rd (v := v) (rd_move rfl) rfl ?_
        refine Wx.rd (v := .int .i64 (l.length : Int)) (rd_lenV rfl (hS.arg a_v) Try.underlying22) rfl ?_
        refine Wx.rd (v := .int .i64 0) (rd_move rfl) rfl ?_
        refine Wx.nil ?_
        refine W.block ?_
        refine W.loop [10, 14, 49, 50, 51, 52, 53, 54, 55, 56, 57, 58] (fun x : Int × Int => match x with | (ld2, b) => [(10, .int .i64 ld2), (49, .int .i64 b)]) (fun (x : Int × Int) w' => match x with | (ld2, b) => St w O w' [.box g_39 62 [v_31, v_32], Ob.v (tSl (tI .i64)) ((ix ([], []) l a).2) v_32, Ob.v (tSl (tI .i64)) ((ix ([], []) l a).1) v_31, .box g_19 115 [u_15], Ob.v (tSl (tI .i64)) (classL l) u_15, Ob.v tRep l (.iface 115 (.agg #[u_15])), Ob.v (tMk true) l (.pointer (some ⟨g_7, 0, none⟩)), Ob.v (tMk (decide (openE g l ([] : List Int) = 0))) l (.pointer (some ⟨g_7, 0, none⟩))] ∧ 0 ≤ b ∧ b ≤ l.length ∧ ldA l (ldB l a ld2 (rng b l.length)) (rng (a + 1) l.length) = leadM l) (fun x : Int × Int => match x with | (ld2, b) => (l.length - b).toNat) (ld, 0) ⟨rfl, rfl, trivial⟩ ⟨hS, (by first | omega | simp), (by first | omega | simp), (by rw [← h2, ldA_next (a := a) (by omega)])⟩ ?_
        rintro ⟨ld2, b⟩ u_46 w_45 ⟨hS, g0, g1, g2⟩
        refine W.seq ?_
        refine W.reg ?_
        refine Wx.rd (v := .bool (decide (b < (l.length : Int)))) (rd_lss rfl rfl) rfl ?_
        refine Wx.nil ?_
        refine W.seq ?_
        refine W.condD rfl (fun c3 => ?_) (fun c3 => ?_)
        · -- yes
          refine W.skip ?_
          refine W.seq ?_
          refine W.block ?_
          refine W.seq ?_
          refine W.reg ?_
          refine Wx.ex (rd_index ([], []) (hS.arg a_v) rfl rfl Try.underlying22 Try.sizeOf62 (by first | omega | (simp only [List.length_set, List.length_append, List.length_cons, List.length_nil, List.length_replicate]; omega)) (by first | omega | (simp only [List.length_set, List.length_append, List.length_cons, List.length_nil, List.length_replicate]; omega))) rfl (fun p_47 hp_48 => ?_)
          refine Wx.ex (rd_load hp_48 rfl Try.isAgg62 Try.sizeOf62) rfl (fun v_49 hv_50 => ?_)
          obtain ⟨v_51, v_52, rfl, hv_53, hv_54⟩ := hv_50.s2
          have hS := hS.add (hv_53)
          have ln_56 := (hS.v 0 rfl).len63
          have hS := hS.add (V.upF (hv_54))
          have ln_58 := (hS.v 0 rfl).len63
          refine Wx.alloc (cs := [(.slice none 0 0), (.slice none 0 0)]) hS Try.zeroValue62 rfl rfl (fun g_59 w_60 hx_62 hb_61 hS => ?_)
          refine Wx.storeX (cs' := [v_51, v_52]) (ds := [v_51, v_52]) hS 0 rfl rfl rfl rfl Try.sizeOf62 (Nat.le_of_ble_eq_true rfl) (one_cons (V.oneC (hS.v 2 rfl)) (one_cons (V.oneC (hS.v 1 rfl)) one_nil)) rfl (fun w_63 hz_64 hS => ?_)
          refine Wx.nil ?_
          refine W.reg ?_
          refine Wx.rd (v := .int .i64 ld2) (rd_move rfl) rfl ?_
          refine Wx.rd (v := .agg #[v_31, v_32]) (rd_loadXs (ds := [v_31, v_32]) hS 3 rfl rfl rfl rfl Try.isAgg62 Try.sizeOf62) rfl ?_
          refine Wx.rd (v := .agg #[v_51, v_52]) (rd_loadXs (ds := [v_51, v_52]) hS 0 rfl rfl rfl rfl Try.isAgg62 Try.sizeOf62) rfl ?_
          refine Wx.callF (run_callF Try.call80 rfl) (F80 (hS.v 5 rfl) (hS.v 4 rfl) (hS.v 2 rfl) (hS.v 1 rfl) (hok a (by omega) (by omega)).b1 (hok a (by omega) (by omega)).b2 (hok b (by omega) (by omega)).b2 (by have := (hok a (by omega) (by omega)).l1; omega) (by have h1 := (hok a (by omega) (by omega)).l1; have h2 := (hok a (by omega) (by omega)).l2; omega) (by have h1 := (hok a (by omega) (by omega)).l1; have h2 := (hok b (by omega) (by omega)).l2; omega)) rfl ?_
          rintro r_65 w_66 hx_67 rfl
          have hS := hS.ext hx_67
          refine Wx.rd (v := .int .i64 (max ld2 (leadS (((ix ([], []) l a).1), ((ix ([], []) l a).2)) (((ix ([], []) l b).1), ((ix ([], []) l b).2))))) (rd_max rfl rfl) rfl ?_
          refine Wx.rd (v := .int .i64 (max ld2 (leadS (((ix ([], []) l a).1), ((ix ([], []) l a).2)) (((ix ([], []) l b).1), ((ix ([], []) l b).2))))) (rd_assign rfl) rfl ?_
          refine Wx.nil ?_
          refine W.reg ?_
          refine Wx.rd (v := .int .i64 (b + 1)) (rd_add rfl rfl (in_i64 (by omega) (by omega))) rfl ?_
          refine Wx.rd (v := .int .i64 (b + 1)) (rd_move rfl) rfl ?_
          refine Wx.nil ?_
          refine ⟨(max ld2 (leadS (((ix ([], []) l a).1), ((ix ([], []) l a).2)) (((ix ([], []) l b).1), ((ix ([], []) l b).2))), b + 1), (by show (l.length - (b + 1)).toNat < (l.length - b).toNat; omega), ?_, ?_, Out.look rfl Out.self⟩
          · exact ⟨St.tl (St.tl (hS.tl)), (by first | omega | assumption), (by first | omega | assumption), (by rw [← g2, ldB_next (b := b) (by omega)])⟩
          · exact ⟨rfl, rfl, trivial⟩
        · -- no
          refine W.exit rfl ?_
          refine W.reg ?_
          refine Wx.rd (v := .int .i64 (a + 1)) (rd_add rfl rfl (in_i64 (by omega) (by omega))) rfl ?_
          refine Wx.rd (v := .int .i64 (a + 1)) (rd_move rfl) rfl ?_
          refine Wx.nil ?_
          refine ⟨(ld2, a + 1), (by show (l.length - (a + 1)).toNat < (l.length - a).toNat; omega), ?_, ?_, Out.look rfl (Out.hav rfl (Out.look rfl Out.self))⟩
          · exact ⟨St.tl (St.tl (hS.tl)), (by first | omega | assumption), (by first | omega | assumption), (by rw [← g2, ldB_end (by omega)])⟩
          · exact ⟨rfl, rfl, trivial⟩
      · -- no
        refine W.exit rfl ?_
        refine W.seq ?_
        have hld : ld = leadM l := by rw [← h2, ldA_end (by omega)]
        refine W.cutK [4, 5, 60, 61, 62, 63, 64, 65] (fun x : Value × Value => match x with | (wv, uv) => [(4, wv), (5, uv)]) (fun (x : Value × Value) w' => match x with | (wv, uv) => St w O w' [.row (tI .i64) 3 wv (List.replicate l.length 0), .row (tI .i64) 3 uv (List.replicate l.length 0), .box g_19 115 [u_15], Ob.v (tSl (tI .i64)) (classL l) u_15, Ob.v tRep l (.iface 115 (.agg #[u_15])), Ob.v (tMk true) l (.pointer (some ⟨g_7, 0, none⟩)), Ob.v (tMk (decide (openE g l ([] : List Int) = 0))) l (.pointer (some ⟨g_7, 0, none⟩))]) ?_ ?_
        · -- up to the cut
          refine W.regH mixedLb_ (fun w_68 hx_69 => ?_)
          have h0 := hS
          have hS := (St.start _ _ h0.fb_lt).ext hx_69
          refine Wh.rd (v := v) 0 rfl (by kernel_rfl) hS.bel (rd_move rfl) rfl ?_
          refine Wh.rd (v := .int .i64 (l.length : Int)) 1 rfl (by kernel_rfl) hS.bel (rd_lenV rfl (h0.arg a_v) Try.underlying22) rfl ?_
          refine Wh.rd (v := v) 3 rfl (by kernel_rfl) hS.bel (rd_move rfl) rfl ?_
          refine Wh.rd (v := .int .i64 (l.length : Int)) 4 rfl (by kernel_rfl) hS.bel (rd_lenV rfl (h0.arg a_v) Try.underlying22) rfl ?_
          refine Wh.br [2, 5] (by kernel_rfl) (by decide) ⟨⟨_, rfl, ?_⟩, ⟨_, rfl, ?_⟩, trivial⟩
          · -- operation 2
            refine Wx.make (t := (tI .i64)) (zy := 0) (m := l.length) elLb_39 rfl rfl (fun _ _ => ⟨rfl, by decide, by decide⟩) hS (congrArg (Value.int .i64) rfl) (congrArg (Value.int .i64) rfl) (by omega) (by simp only [maxLen]; omega) rfl (fun v_70 w_71 hx_72 hS => ?_)
            refine Wx.nil ⟨hS.bel, ?_⟩
            refine Wh.rd (v := v_70) 6 rfl (by kernel_rfl) hS.bel (rd_assign rfl) rfl ?_
            refine Wh.br [5] (by kernel_rfl) (by decide) ⟨⟨_, rfl, ?_⟩, trivial⟩
            refine Wx.make (t := (tI .i64)) (zy := 0) (m := l.length) elLb_39 rfl rfl (fun _ _ => ⟨rfl, by decide, by decide⟩) hS (congrArg (Value.int .i64) rfl) (congrArg (Value.int .i64) rfl) (by omega) (by simp only [maxLen]; omega) rfl (fun v_75 w_76 hx_77 hS => ?_)
            refine Wx.nil ⟨hS.bel, ?_⟩
            refine Wh.rd (v := v_75) 7 rfl (by kernel_rfl) hS.bel (rd_assign rfl) rfl ?_
            refine Wh.done (by kernel_rfl) ?_
            have hS := h0.merge hS
            have hS := hS.front 6 rfl
            have hS := hS.front 6 rfl
            have hS := hS.front 6 rfl
            have hS := hS.front 6 rfl
            have hS := hS.front 6 rfl
            have hS := hS.front 5 rfl
            have hS := hS.front 6 rfl
            refine ⟨(v_70, v_75), ?_, ?_, Out.look rfl Out.refl⟩
            · exact hS
            · exact ⟨rfl, rfl, trivial⟩
          · -- operation 5
            refine Wx.make (t := (tI .i64)) (zy := 0) (m := l.length) elLb_39 rfl rfl (fun _ _ => ⟨rfl, by decide, by decide⟩) hS (congrArg (Value.int .i64) rfl) (congrArg (Value.int .i64) rfl) (by omega) (by simp only [maxLen]; omega) rfl (fun v_80 w_81 hx_82 hS => ?_)
            refine Wx.nil ⟨hS.bel, ?_⟩
            refine Wh.br [2] (by kernel_rfl) (by decide) ⟨⟨_, rfl, ?_⟩, trivial⟩
            refine Wx.make (t := (tI .i64)) (zy := 0) (m := l.length) elLb_39 rfl rfl (fun _ _ => ⟨rfl, by decide, by decide⟩) hS (congrArg (Value.int .i64) rfl) (congrArg (Value.int .i64) rfl) (by omega) (by simp only [maxLen]; omega) rfl (fun v_85 w_86 hx_87 hS => ?_)
            refine Wx.nil ⟨hS.bel, ?_⟩
            refine Wh.rd (v := v_85) 6 rfl (by kernel_rfl) hS.bel (rd_assign rfl) rfl ?_
            refine Wh.rd (v := v_80) 7 rfl (by kernel_rfl) hS.bel (rd_assign rfl) rfl ?_
            refine Wh.done (by kernel_rfl) ?_
            have hS := h0.merge hS
            have hS := hS.front 6 rfl
            have hS := hS.front 6 rfl
            have hS := hS.front 6 rfl
            have hS := hS.front 6 rfl
            have hS := hS.front 6 rfl
            have hS := hS.front 6 rfl
            have hS := hS.front 6 rfl
            refine ⟨(v_85, v_80), ?_, ?_, Out.look rfl Out.refl⟩
            · exact hS
            · exact ⟨rfl, rfl, trivial⟩
        rintro ⟨wv, uv⟩ u_91 w_90 hS
        refine W.seq ?_
        refine W.reg ?_
        refine Wx.rd (v := .int .i64 0) (rd_assign rfl) rfl ?_
        refine Wx.nil ?_
        refine W.seq ?_
        refine W.seq ?_
        refine W.reg ?_
        refine Wx.rd (v := .pointer (some ⟨g_19, 0, none⟩)) (rd_fieldAddr rfl foLb_115_0) rfl ?_
        refine Wx.rd (v := u_15) (rd_loadX hS 2 rfl rfl rfl Try.isAgg39) rfl ?_
        refine Wx.rd (v := .int .i64 ((classL l).length : Int)) (rd_lenV rfl (hS.v 3 rfl) Try.underlying39) rfl ?_
        refine Wx.rd (v := .int .i64 0) (rd_move rfl) rfl ?_
        refine Wx.nil ?_
        refine W.block ?_
        refine W.loop [15, 17, 69, 70, 71, 72, 73, 74, 75, 76] (fun x : Int × Int => match x with | (tp, k) => [(15, .int .i64 tp), (69, .int .i64 k)]) (fun (x : Int × Int) w' => match x with | (tp, k) => St w O w' [.row (tI .i64) 3 wv (List.replicate l.length 0), .row (tI .i64) 3 uv (List.replicate l.length 0), .box g_19 115 [u_15], Ob.v (tSl (tI .i64)) (classL l) u_15, Ob.v tRep l (.iface 115 (.agg #[u_15])), Ob.v (tMk true) l (.pointer (some ⟨g_7, 0, none⟩)), Ob.v (tMk (decide (openE g l ([] : List Int) = 0))) l (.pointer (some ⟨g_7, 0, none⟩))] ∧ 0 ≤ k ∧ k ≤ (classL l).length ∧ ((classL l).drop k.toNat).foldl max tp = topM (classL l)) (fun x : Int × Int => match x with | (tp, k) => ((classL l).length - k).toNat) (0, 0) ⟨rfl, rfl, trivial⟩ ⟨hS, (by first | omega | simp), (by first | omega | simp), (rfl)⟩ ?_
        rintro ⟨tp, k⟩ u_93 w_92 ⟨hS, k0, k1, k2⟩
        refine W.seq ?_
        refine W.reg ?_
        refine Wx.rd (v := .bool (decide (k < ((classL l).length : Int)))) (rd_lss rfl rfl) rfl ?_
        refine Wx.nil ?_
        refine W.seq ?_
        refine W.condD rfl (fun c4 => ?_) (fun c4 => ?_)
        · -- yes
          refine W.skip ?_
          refine W.seq ?_
          refine W.block ?_
          refine W.seq ?_
          refine W.reg ?_
          refine Wx.ex (rd_index 0 (hS.v 3 rfl) rfl rfl Try.underlying39 Try.sizeOf3 (by first | omega | (simp only [List.length_set, List.length_append, List.length_cons, List.length_nil, List.length_replicate]; omega)) (by first | omega | (simp only [List.length_set, List.length_append, List.length_cons, List.length_nil, List.length_replicate]; omega))) rfl (fun p_94 hp_95 => ?_)
          refine Wx.rd (v := .int .i64 (ix 0 (classL l) k)) (rd_loadI hp_95 rfl Try.isAgg3 Try.sizeOf3) rfl ?_
          have bd_96 := bd_i64 hp_95.inK
          refine Wx.rd (v := .int .i64 (ix 0 (classL l) k)) (rd_assign rfl) rfl ?_
          refine Wx.nil ?_
          refine W.reg ?_
          refine Wx.rd (v := .int .i64 tp) (rd_move rfl) rfl ?_
          refine Wx.rd (v := .int .i64 (ix 0 (classL l) k)) (rd_move rfl) rfl ?_
          refine Wx.rd (v := .int .i64 (max tp (ix 0 (classL l) k))) (rd_max rfl rfl) rfl ?_
          refine Wx.rd (v := .int .i64 (max tp (ix 0 (classL l) k))) (rd_assign rfl) rfl ?_
          refine Wx.nil ?_
          refine W.reg ?_
          refine Wx.rd (v := .int .i64 (k + 1)) (rd_add rfl rfl (in_i64 (by omega) (by omega))) rfl ?_
          refine Wx.rd (v := .int .i64 (k + 1)) (rd_move rfl) rfl ?_
          refine Wx.nil ?_
          refine ⟨(max tp (ix 0 (classL l) k), k + 1), (by show ((classL l).length - (k + 1)).toNat < ((classL l).length - k).toNat; omega), ?_, ?_, Out.look rfl Out.self⟩
          · exact ⟨hS, (by first | omega | assumption), (by first | omega | assumption), (topM_next k0 (by omega) k2)⟩
          · exact ⟨rfl, rfl, trivial⟩
        · -- no
          refine W.exit rfl ?_
          refine W.seq ?_
          refine W.reg ?_
          refine Wx.rd (v := .int .i64 0) (rd_assign rfl) rfl ?_
          refine Wx.nil ?_
          refine W.seq ?_
          refine W.seq ?_
          refine W.reg ?_
          refine Wx.rd (v := .int .i64 tp) (rd_move rfl) rfl ?_
          refine Wx.rd (v := .int .i64 tp) (rd_assign rfl) rfl ?_
          refine Wx.nil ?_
          refine W.block ?_
          have htp := topM_end (by omega) k2
          have hcll := class_len l
          have htb := top_bd hl6
          refine W.loop [18, 19, 20, 21, 22, 78, 79, 80, 81, 82, 83, 84, 85, 86, 87, 88, 89, 90, 91, 92, 93, 94, 95, 96, 97, 98, 99, 100, 101, 102, 103, 104, 105, 106, 107, 108, 109, 110, 111] (fun x : Int × Int × (List Int) × (List Int) => match x with | (bl, c, ws, us) => [(18, .int .i64 bl), (19, .int .i64 c)]) (fun (x : Int × Int × (List Int) × (List Int)) w' => match x with | (bl, c, ws, us) => St w O w' [.row (tI .i64) 3 wv ws, .row (tI .i64) 3 uv us, .box g_19 115 [u_15], Ob.v (tSl (tI .i64)) (classL l) u_15, Ob.v tRep l (.iface 115 (.agg #[u_15])), Ob.v (tMk true) l (.pointer (some ⟨g_7, 0, none⟩)), Ob.v (tMk (decide (openE g l ([] : List Int) = 0))) l (.pointer (some ⟨g_7, 0, none⟩))] ∧ -1 ≤ c ∧ c ≤ topM (classL l) ∧ bl = blw l (max c 0) ∧ NmI l c 0 ws us ∧ ws.length = l.length ∧ us.length = l.length) (fun x : Int × Int × (List Int) × (List Int) => match x with | (bl, c, ws, us) => (c + 1).toNat) (0, tp, List.replicate l.length 0, List.replicate l.length 0) ⟨rfl, rfl, trivial⟩ ⟨hS, (by first | omega | simp), (by first | omega | simp), (by rw [htp, show max (topM (classL l)) 0 = topM (classL l) by omega, blw_top]), (by rw [htp]; exact nm_start hl6), (by simp), (by simp)⟩ ?_
          rintro ⟨bl, c, ws, us⟩ u_98 w_97 ⟨hS, m0, m1, m2, m3, m4, m5⟩
          refine W.seq ?_
          refine W.seq ?_
          refine W.reg ?_
          refine Wx.rd (v := .int .i64 c) (rd_move rfl) rfl ?_
          refine Wx.rd (v := .bool (decide (0 ≤ c))) (rd_geq rfl rfl) rfl ?_
          refine Wx.nil ?_
          refine W.condD rfl (fun c5 => ?_) (fun c5 => ?_)
          · -- yes
            have hbl : bl = blw l c := by rw [m2, show max c 0 = c by omega]
            have hbb := blw_bd hsok c5
            refine W.skip ?_
            refine W.seq ?_
            refine W.block ?_
            refine W.seq ?_
            refine W.reg ?_
            refine Wx.rd (v := .int .i64 bl) (rd_move rfl) rfl ?_
            refine Wx.rd (v := .int .i64 (max 1 bl)) (rd_max rfl rfl) rfl ?_
            refine Wx.rd (v := .int .i64 (max 1 bl)) (rd_assign rfl) rfl ?_
            refine Wx.nil ?_
            refine W.seq ?_
            refine W.seq ?_
            refine W.reg ?_
            refine Wx.rd (v := .pointer (some ⟨g_19, 0, none⟩)) (rd_fieldAddr rfl foLb_115_0) rfl ?_
            refine Wx.rd (v := u_15) (rd_loadX hS 2 rfl rfl rfl Try.isAgg39) rfl ?_
            refine Wx.rd (v := .int .i64 ((classL l).length : Int)) (rd_lenV rfl (hS.v 3 rfl) Try.underlying39) rfl ?_
            refine Wx.rd (v := .int .i64 0) (rd_move rfl) rfl ?_
            refine Wx.nil ?_
            refine W.block ?_
            refine W.loop [21, 22, 87, 88, 89, 90, 91, 92, 93, 94, 95, 96, 97, 98, 99, 100, 101, 102, 103, 104] (fun x : Int × (List Int) × (List Int) => match x with | (i, ws2, us2) => [(87, .int .i64 i)]) (fun (x : Int × (List Int) × (List Int)) w' => match x with | (i, ws2, us2) => St w O w' [.row (tI .i64) 3 wv ws2, .row (tI .i64) 3 uv us2, .box g_19 115 [u_15], Ob.v (tSl (tI .i64)) (classL l) u_15, Ob.v tRep l (.iface 115 (.agg #[u_15])), Ob.v (tMk true) l (.pointer (some ⟨g_7, 0, none⟩)), Ob.v (tMk (decide (openE g l ([] : List Int) = 0))) l (.pointer (some ⟨g_7, 0, none⟩))] ∧ 0 ≤ i ∧ i ≤ l.length ∧ NmI l c i ws2 us2 ∧ ws2.length = l.length ∧ us2.length = l.length) (fun x : Int × (List Int) × (List Int) => match x with | (i, ws2, us2) => (l.length - i).toNat) (0, ws, us) ⟨rfl, trivial⟩ ⟨hS, (by first | omega | simp), (by first | omega | simp), (m3), (m4), (m5)⟩ ?_
            rintro ⟨i, ws2, us2⟩ u_100 w_99 ⟨hS, n0, n1, n2, n3, n4⟩
            refine W.seq ?_
            refine W.reg ?_
            refine Wx.rd (v := .bool (decide (i < ((classL l).length : Int)))) (rd_lss rfl rfl) rfl ?_
            refine Wx.nil ?_
            refine W.seq ?_
            refine W.condD rfl (fun c6 => ?_) (fun c6 => ?_)
            · -- yes
              refine W.skip ?_
              refine W.seq ?_
              refine W.block ?_
              refine W.seq ?_
              refine W.reg ?_
              refine Wx.rd (v := .int .i64 i) (rd_move rfl) rfl ?_
              refine Wx.ex (rd_index 0 (hS.v 3 rfl) rfl rfl Try.underlying39 Try.sizeOf3 (by first | omega | (simp only [List.length_set, List.length_append, List.length_cons, List.length_nil, List.length_replicate]; omega)) (by first | omega | (simp only [List.length_set, List.length_append, List.length_cons, List.length_nil, List.length_replicate]; omega))) rfl (fun p_101 hp_102 => ?_)
              refine Wx.rd (v := .int .i64 (ix 0 (classL l) i)) (rd_loadI hp_102 rfl Try.isAgg3 Try.sizeOf3) rfl ?_
              have bd_103 := bd_i64 hp_102.inK
              refine Wx.rd (v := .int .i64 i) (rd_assign rfl) rfl ?_
              refine Wx.rd (v := .int .i64 (ix 0 (classL l) i)) (rd_assign rfl) rfl ?_
              refine Wx.nil ?_
              refine W.seq ?_
              refine W.reg ?_
              refine Wx.rd (v := .int .i64 (ix 0 (classL l) i)) (rd_move rfl) rfl ?_
              refine Wx.rd (v := .int .i64 c) (rd_move rfl) rfl ?_
              refine Wx.rd (v := .bool (decide ((ix 0 (classL l) i) = c))) (rd_eql rfl rfl) rfl ?_
              refine Wx.nil ?_
              refine W.condD rfl (fun c7 => ?_) (fun c7 => ?_)
              · -- yes
                refine W.reg ?_
                refine Wx.rd (v := wv) (rd_move rfl) rfl ?_
                refine Wx.rd (v := .int .i64 i) (rd_move rfl) rfl ?_
                refine Wx.rd (v := uv) (rd_move rfl) rfl ?_
                refine Wx.rd (v := .int .i64 i) (rd_move rfl) rfl ?_
                refine Wx.rd (v := .int .i64 bl) (rd_move rfl) rfl ?_
                refine Wx.rd (v := .int .i64 (-bl)) (rd_neg rfl (in_i64 (by omega) (by omega))) rfl ?_
                refine Wx.rd (v := .int .i64 (max 1 bl)) (rd_move rfl) rfl ?_
                refine Wx.indexR hS 0 rfl rfl rfl Try.underlying39 Try.sizeOf3 (by first | omega | (simp only [List.length_set, List.length_append, List.length_cons, List.length_nil, List.length_replicate]; omega)) (by first | omega | (simp only [List.length_set, List.length_append, List.length_cons, List.length_nil, List.length_replicate]; omega)) rfl (fun g_104 hg_105 => ?_)
                refine Wx.storeR (j := i.toNat) (z := -bl) hS 0 rfl hg_105 rfl (by first | omega | (simp only [List.length_set, List.length_append, List.length_cons, List.length_nil, List.length_replicate]; omega)) rfl (V.mkInt (in_i64 (by omega) (by omega))) Try.sizeOf3 (fun w_106 hz_107 hS => ?_)
                refine Wx.indexR hS 1 rfl rfl rfl Try.underlying39 Try.sizeOf3 (by first | omega | (simp only [List.length_set, List.length_append, List.length_cons, List.length_nil, List.length_replicate]; omega)) (by first | omega | (simp only [List.length_set, List.length_append, List.length_cons, List.length_nil, List.length_replicate]; omega)) rfl (fun g_108 hg_109 => ?_)
                refine Wx.storeR (j := i.toNat) (z := max 1 bl) hS 1 rfl hg_109 rfl (by first | omega | (simp only [List.length_set, List.length_append, List.length_cons, List.length_nil, List.length_replicate]; omega)) rfl (V.mkInt (in_i64 (by omega) (by omega))) Try.sizeOf3 (fun w_110 hz_111 hS => ?_)
                refine Wx.nil ?_
                refine W.reg ?_
                refine Wx.rd (v := .int .i64 (i + 1)) (rd_add rfl rfl (in_i64 (by omega) (by omega))) rfl ?_
                refine Wx.rd (v := .int .i64 (i + 1)) (rd_move rfl) rfl ?_
                refine Wx.nil ?_
                refine ⟨(i + 1, List.set ws2 i.toNat (-bl), List.set us2 i.toNat (max 1 bl)), (by show (l.length - (i + 1)).toNat < (l.length - i).toNat; omega), ?_, ?_, Out.look rfl Out.self⟩
                · exact ⟨hS, (by first | omega | assumption), (by first | omega | assumption), (by rw [hbl]; exact nm_yes n2 n0 (by omega) c7), (by rw [List.length_set]; exact n3), (by rw [List.length_set]; exact n4)⟩
                · exact ⟨rfl, trivial⟩
              · -- no
                refine W.skip ?_
                refine W.reg ?_
                refine Wx.rd (v := .int .i64 (i + 1)) (rd_add rfl rfl (in_i64 (by omega) (by omega))) rfl ?_
                refine Wx.rd (v := .int .i64 (i + 1)) (rd_move rfl) rfl ?_
                refine Wx.nil ?_
                refine ⟨(i + 1, ws2, us2), (by show (l.length - (i + 1)).toNat < (l.length - i).toNat; omega), ?_, ?_, Out.look rfl Out.self⟩
                · exact ⟨hS, (by first | omega | assumption), (by first | omega | assumption), (nm_no n2 c7), (by first | omega | assumption), (by first | omega | assumption)⟩
                · exact ⟨rfl, trivial⟩
            · -- no
              refine W.exit rfl ?_
              refine W.seq ?_
              refine W.reg ?_
              refine Wx.rd (v := .int .i64 c) (rd_move rfl) rfl ?_
              refine Wx.rd (v := .bool (decide (0 < c))) (rd_gtr rfl rfl) rfl ?_
              refine Wx.nil ?_
              refine W.condD rfl (fun c8 => ?_) (fun c8 => ?_)
              · -- yes
                refine W.reg ?_
                refine Wx.rd (v := .int .i64 bl) (rd_move rfl) rfl ?_
                refine Wx.rd (v := .int .i64 (max 1 bl)) (rd_move rfl) rfl ?_
                refine Wx.rd (v := .int .i64 ld) (rd_move rfl) rfl ?_
                have hmb : max 1 bl * ld = blw l (c - 1) - bl := by have q := blw_next c8 m1; rw [hld, hbl]; omega
                have hb1 := blw_bd hsok (c := c - 1) (by omega)
                refine Wx.rd (v := .int .i64 ((max 1 bl) * ld)) (rd_mul rfl rfl (in_i64 (by omega) (by omega))) rfl ?_
                refine Wx.rd (v := .int .i64 (bl + ((max 1 bl) * ld))) (rd_add rfl rfl (in_i64 (by omega) (by omega))) rfl ?_
                refine Wx.rd (v := .int .i64 (bl + ((max 1 bl) * ld))) (rd_assign rfl) rfl ?_
                refine Wx.nil ?_
                refine W.reg ?_
                refine Wx.rd (v := .int .i64 c) (rd_move rfl) rfl ?_
                refine Wx.rd (v := .int .i64 (c - 1)) (rd_sub rfl rfl (in_i64 (by omega) (by omega))) rfl ?_
                refine Wx.rd (v := .int .i64 (c - 1)) (rd_assign rfl) rfl ?_
                refine Wx.nil ?_
                refine ⟨(bl + ((max 1 bl) * ld), c - 1, ws2, us2), (by show ((c - 1) + 1).toNat < (c + 1).toNat; omega), ?_, ?_, Out.look rfl (Out.hav rfl (Out.look rfl Out.self))⟩
                · exact ⟨hS, (by first | omega | assumption), (by first | omega | assumption), (by rw [hbl, hld, blw_next c8 m1, show max (c - 1) 0 = c - 1 by omega]), (nm_next n2 (by omega)), (n3), (n4)⟩
                · exact ⟨rfl, rfl, trivial⟩
              · -- no
                refine W.skip ?_
                refine W.reg ?_
                refine Wx.rd (v := .int .i64 c) (rd_move rfl) rfl ?_
                refine Wx.rd (v := .int .i64 (c - 1)) (rd_sub rfl rfl (in_i64 (by omega) (by omega))) rfl ?_
                refine Wx.rd (v := .int .i64 (c - 1)) (rd_assign rfl) rfl ?_
                refine Wx.nil ?_
                refine ⟨(bl, c - 1, ws2, us2), (by show ((c - 1) + 1).toNat < (c + 1).toNat; omega), ?_, ?_, Out.look rfl (Out.hav rfl (Out.look rfl Out.self))⟩
                · exact ⟨hS, (by first | omega | assumption), (by first | omega | assumption), (by rw [m2, show max c 0 = max (c - 1) 0 by omega]), (nm_next n2 (by omega)), (n3), (n4)⟩
                · exact ⟨rfl, rfl, trivial⟩
          · -- no
            refine W.exit rfl ?_
            refine W.seq ?_
            refine W.seq ?_
            refine W.reg ?_
            refine Wx.rd (v := wv) (rd_move rfl) rfl ?_
            refine Wx.rd (v := .int .i64 (ws.length : Int)) (rd_lenR hS 0 rfl rfl Try.underlying39) rfl ?_
            refine Wx.rd (v := .int .i64 0) (rd_move rfl) rfl ?_
            refine Wx.nil ?_
            refine W.block ?_
            have hbl0 : bl = blw l 0 := by rw [m2, show max c 0 = 0 by omega]
            refine W.loop [23, 114, 115, 116, 117, 118, 119, 120, 121, 122, 123, 124] (fun x : Int × (List Int) => match x with | (i, ws3) => [(114, .int .i64 i)]) (fun (x : Int × (List Int)) w' => match x with | (i, ws3) => St w O w' [.row (tI .i64) 3 wv ws3, .row (tI .i64) 3 uv us, .box g_19 115 [u_15], Ob.v (tSl (tI .i64)) (classL l) u_15, Ob.v tRep l (.iface 115 (.agg #[u_15])), Ob.v (tMk true) l (.pointer (some ⟨g_7, 0, none⟩)), Ob.v (tMk (decide (openE g l ([] : List Int) = 0))) l (.pointer (some ⟨g_7, 0, none⟩))] ∧ 0 ≤ i ∧ i ≤ l.length ∧ UpI l i ws3 ∧ ws3.length = l.length) (fun x : Int × (List Int) => match x with | (i, ws3) => (l.length - i).toNat) (0, ws) ⟨rfl, trivial⟩ ⟨hS, (by first | omega | simp), (by first | omega | simp), (up_start hl6 m3 (by omega)), (m4)⟩ ?_
            rintro ⟨i, ws3⟩ u_113 w_112 ⟨hS, q0, q1, q2, q3⟩
            refine W.seq ?_
            refine W.reg ?_
            refine Wx.rd (v := .bool (decide (i < (ws.length : Int)))) (rd_lss rfl rfl) rfl ?_
            refine Wx.nil ?_
            refine W.seq ?_
            refine W.condD rfl (fun c9 => ?_) (fun c9 => ?_)
            · -- yes
              have hua := up_at q2 q0 (by omega)
              have hub := blw_bd hsok (class_bd hl6 q0 (show i < (l.length : Int) by omega)).1
              have hub0 := blw_bd hsok (Int.le_refl 0)
              refine W.skip ?_
              refine W.seq ?_
              refine W.block ?_
              refine W.seq ?_
              refine W.reg ?_
              refine Wx.rd (v := .int .i64 i) (rd_move rfl) rfl ?_
              refine Wx.rd (v := .int .i64 i) (rd_assign rfl) rfl ?_
              refine Wx.nil ?_
              refine W.reg ?_
              refine Wx.rd (v := wv) (rd_move rfl) rfl ?_
              refine Wx.rd (v := .int .i64 i) (rd_move rfl) rfl ?_
              refine Wx.indexR hS 0 rfl rfl rfl Try.underlying39 Try.sizeOf3 (by first | omega | (simp only [List.length_set, List.length_append, List.length_cons, List.length_nil, List.length_replicate]; omega)) (by first | omega | (simp only [List.length_set, List.length_append, List.length_cons, List.length_nil, List.length_replicate]; omega)) rfl (fun g_114 hg_115 => ?_)
              refine Wx.rd (v := .int .i64 (ix 0 ws3 i)) (rd_loadRI' hS 0 rfl hg_115 rfl (by first | omega | (simp only [List.length_set, List.length_append, List.length_cons, List.length_nil, List.length_replicate]; omega)) (by first | omega | (simp only [List.length_set, List.length_append, List.length_cons, List.length_nil, List.length_replicate]; omega)) Try.isAgg3 Try.sizeOf3) rfl ?_
              have bd_116 := bd_i64 (hS.rowInK' 0 rfl (by first | omega | (simp only [List.length_set, List.length_append, List.length_cons, List.length_nil, List.length_replicate]; omega)) (by first | omega | (simp only [List.length_set, List.length_append, List.length_cons, List.length_nil, List.length_replicate]; omega)) : InK .i64 (ix 0 ws3 i))
              refine Wx.rd (v := .int .i64 bl) (rd_move rfl) rfl ?_
              refine Wx.rd (v := .int .i64 ((ix 0 ws3 i) + bl)) (rd_add rfl rfl (in_i64 (by omega) (by omega))) rfl ?_
              refine Wx.indexR hS 0 rfl rfl rfl Try.underlying39 Try.sizeOf3 (by first | omega | (simp only [List.length_set, List.length_append, List.length_cons, List.length_nil, List.length_replicate]; omega)) (by first | omega | (simp only [List.length_set, List.length_append, List.length_cons, List.length_nil, List.length_replicate]; omega)) rfl (fun g_117 hg_118 => ?_)
              refine Wx.storeR (j := i.toNat) (z := (ix 0 ws3 i) + bl) hS 0 rfl hg_118 rfl (by first | omega | (simp only [List.length_set, List.length_append, List.length_cons, List.length_nil, List.length_replicate]; omega)) rfl (V.mkInt (in_i64 (by omega) (by omega))) Try.sizeOf3 (fun w_119 hz_120 hS => ?_)
              refine Wx.nil ?_
              refine W.reg ?_
              refine Wx.rd (v := .int .i64 (i + 1)) (rd_add rfl rfl (in_i64 (by omega) (by omega))) rfl ?_
              refine Wx.rd (v := .int .i64 (i + 1)) (rd_move rfl) rfl ?_
              refine Wx.nil ?_
              refine ⟨(i + 1, List.set ws3 i.toNat ((ix 0 ws3 i) + bl)), (by show (l.length - (i + 1)).toNat < (l.length - i).toNat; omega), ?_, ?_, Out.look rfl Out.self⟩
              · exact ⟨hS, (by first | omega | assumption), (by first | omega | assumption), (by rw [hbl0]; exact up_step q2 q0 (by omega)), (by rw [List.length_set]; exact q3)⟩
              · exact ⟨rfl, trivial⟩
            · -- no
              refine W.exit rfl ?_
              refine W.seq ?_
              refine W.reg ?_
              refine Wx.rd (v := wv) (rd_move rfl) rfl ?_
              refine Wx.rd (v := uv) (rd_move rfl) rfl ?_
              refine Wx.rd (v := wv) (rd_assign rfl) rfl ?_
              refine Wx.rd (v := uv) (rd_assign rfl) rfl ?_
              refine Wx.rd (v := .int .i64 0) (rd_assign rfl) rfl ?_
              refine Wx.nil ?_
              have hno := num_ok h0c hjdg
              have e1_0 : numW g l = ws3 := by rw [hno.2.1]; exact up_end q2 (by omega)
              have e1_1 : numU g l = us := by rw [hno.2.2]; exact nm_end hl6 m3 (by omega)
              have e1_2 : (numX g l) = (0 : Int) := by exact hno.1
              exact W.ret ⟨.tuple #[wv, uv, .int .i64 0], ResIs.three, hS.bel, ⟨wv, uv, (by rw [e1_2]), (by rw [e1_0]; exact ((hS.lend 0 rfl).mv (.less (fun _ h => List.mem_append.2 (.inr h))))), (by rw [e1_1]; exact ((hS.lend 1 rfl).mv (.less (fun _ h => List.mem_append.2 (.inr h)))))⟩⟩
    · -- a ring
      have hS := hS.add hu_16
      have ln_122 := (hS.v 0 rfl).len63
      refine Wx.rd (v := .tuple #[.agg #[(.slice none 0 0)], .bool false]) (rd_assertN rfl Try.underlying115 (by decide) (fun _ => Try.zeroValue115 _)) rfl ?_
      refine Wx.rd (v := .tuple #[.agg #[(.slice none 0 0)], .bool false]) (rd_move rfl) rfl ?_
      refine Wx.rd (v := .agg #[(.slice none 0 0)]) (rd_extract rfl rfl) rfl ?_
      refine Wx.rd (v := .bool false) (rd_extract rfl rfl) rfl ?_
      refine Wx.alloc (cs := [(.slice none 0 0)]) hS Try.zeroValue115 rfl rfl (fun g_123 w_124 hx_126 hb_125 hS => ?_)
      refine Wx.storeX (cs' := [(.slice none 0 0)]) (ds := [(.slice none 0 0)]) hS 0 rfl rfl rfl rfl Try.sizeOf115 (Nat.le_of_ble_eq_true rfl) (one_cons rfl one_nil) rfl (fun w_127 hz_128 hS => ?_)
      refine Wx.rd (v := .bool false) (rd_assign rfl) rfl ?_
      refine Wx.nil ?_
      refine W.seq ?_
      refine W.seq ?_
      refine W.reg ?_
      refine Wx.rd (v := .bool false) (rd_move rfl) rfl ?_
      refine Wx.rd (v := .bool true) (rd_not (c := false) rfl) rfl ?_
      refine Wx.nil ?_
      refine W.condT rfl rfl ?_
      refine W.seq ?_
      refine W.reg ?_
      refine Wx.rd (v := (.slice none 0 0)) (rd_assign rfl) rfl ?_
      refine Wx.rd (v := (.slice none 0 0)) (rd_assign rfl) rfl ?_
      refine Wx.rd (v := .int .i64 13) (rd_assign rfl) rfl ?_
      refine Wx.nil ?_
      have hnr := num_ring h0c hjdg
      have e2_0 : numW g l = [] := by exact hnr.2.1
      have e2_1 : numU g l = [] := by exact hnr.2.2
      have e2_2 : (numX g l) = (13 : Int) := by exact hnr.1
      exact W.ret ⟨.tuple #[(.slice none 0 0), (.slice none 0 0), .int .i64 13], ResIs.three, hS.bel, ⟨(.slice none 0 0), (.slice none 0 0), (by rw [e2_2]), (by rw [e2_0]; exact (V.nil (t := (tI .i64)))), (by rw [e2_1]; exact (V.nil (t := (tI .i64))))⟩⟩
end Go.Proofs.Ytjbcpggikaeleaa

namespace Go.Proofs.Ytjbcpggikaeleaa
open Go.Wk Go.RowKit Go.Lib
set_option linter.unusedVariables false
set_option linter.unusedSimpArgs false
theorem foLc_93_0 : fldOff Try.prog 93 0 = some 0 := by kernel_rfl
theorem mixedLc_ : Try.prog.follows .mixedOrders = true := by kernel_rfl

theorem F82 {n : Int} {w : World} (i_n : InK .i64 n) : Calls Try.prog 82 #[.int .i64 n] w (Ret w (fun r _ => r = .bool (ag1 n))) := by
  have b_n := bd_i64 i_n
  have hS := St.start0 w
  refine enterR Try.func82 rfl Try.ntmps82 Try.results82 rfl ?_
  refine W.seq ?_
  refine W.reg ?_
  refine Wx.rd (v := .bool false) (rd_assign rfl) rfl ?_
  refine Wx.nil ?_
  refine W.seq ?_
  refine W.reg ?_
  refine Wx.rd (v := .int .i64 n) (rd_move rfl) rfl ?_
  refine Wx.rd (v := .bool (decide (n < 0))) (rd_lss rfl rfl) rfl ?_
  refine Wx.rd (v := .bool (decide (n < 0))) (rd_move rfl) rfl ?_
  refine Wx.cut (X := Unit) 3 [6, 7, 8] (fun _ => [(8, .bool (decide (n < 0) || decide (1000000000000 < n)))]) (fun _ w' => St w [] w' []) ?_ ?_
  · rcases Bool.eq_false_or_eq_true (decide (n < 0)) with g_1 | g_1
    · -- True
      have gp_2 := of_decide_eq_true g_1
      refine Wx.gnoB rfl rfl (congrArg Value.bool g_1) rfl rfl ?_
      refine Wx.gnoB rfl rfl (congrArg Value.bool g_1) rfl rfl ?_
      refine Wx.rd (v := .bool true) (rd_pickT (congrArg Value.bool g_1) rfl) rfl ?_
      refine Wx.nil ⟨(), hS, ⟨?_, trivial⟩, Out.look rfl Out.refl⟩
      show Value.bool true = Value.bool (decide (n < 0) || decide (1000000000000 < n))
      first | rw [g_1, Bool.true_or] | (rw [g_1]; rfl)
    · -- False
      have gp_3 := of_decide_eq_false g_1
      refine Wx.gyes rfl rfl (congrArg Value.bool g_1) ?_
      refine Wx.rd (v := .int .i64 n) (rd_move rfl) rfl ?_
      refine Wx.gyes rfl rfl (congrArg Value.bool g_1) ?_
      refine Wx.rd (v := .bool (decide (1000000000000 < n))) (rd_gtr rfl rfl) rfl ?_
      refine Wx.rd (v := .bool (decide (1000000000000 < n))) (rd_pickF (congrArg Value.bool g_1) rfl) rfl ?_
      refine Wx.nil ⟨(), hS, ⟨?_, trivial⟩, Out.look rfl Out.refl⟩
      show Value.bool (decide (1000000000000 < n)) = Value.bool (decide (n < 0) || decide (1000000000000 < n))
      first | rw [g_1, Bool.false_or] | (rw [g_1]; rfl)
  rintro ⟨⟩ u_5 w_4 hS
  refine Wx.rd (v := .bool (decide (n < 0) || decide (1000000000000 < n))) (rd_assign rfl) rfl ?_
  refine Wx.nil ?_
  have e0_0 : (ag1 n) = (decide (n < 0) || decide (1000000000000 < n)) := by rfl
  exact W.ret ⟨.bool (decide (n < 0) || decide (1000000000000 < n)), ResIs.one, hS.bel, (by rw [e0_0])⟩

theorem F83 {n : Int} {w : World} (i_n : InK .i64 n) : Calls Try.prog 83 #[.int .i64 n] w (Ret w (fun r _ => r = .bool (ag2 n))) := by
  have b_n := bd_i64 i_n
  have hS := St.start0 w
  refine enterR Try.func83 rfl Try.ntmps83 Try.results83 rfl ?_
  refine W.seq ?_
  refine W.reg ?_
  refine Wx.rd (v := .bool false) (rd_assign rfl) rfl ?_
  refine Wx.nil ?_
  refine W.seq ?_
  refine W.reg ?_
  refine Wx.rd (v := .int .i64 n) (rd_move rfl) rfl ?_
  refine Wx.rd (v := .bool (decide (n < 1))) (rd_lss rfl rfl) rfl ?_
  refine Wx.rd (v := .bool (decide (n < 1))) (rd_move rfl) rfl ?_
  refine Wx.cut (X := Unit) 3 [6, 7, 8] (fun _ => [(8, .bool (decide (n < 1) || decide (1000000000000 < n)))]) (fun _ w' => St w [] w' []) ?_ ?_
  · rcases Bool.eq_false_or_eq_true (decide (n < 1)) with g_1 | g_1
    · -- True
      have gp_2 := of_decide_eq_true g_1
      refine Wx.gnoB rfl rfl (congrArg Value.bool g_1) rfl rfl ?_
      refine Wx.gnoB rfl rfl (congrArg Value.bool g_1) rfl rfl ?_
      refine Wx.rd (v := .bool true) (rd_pickT (congrArg Value.bool g_1) rfl) rfl ?_
      refine Wx.nil ⟨(), hS, ⟨?_, trivial⟩, Out.look rfl Out.refl⟩
      show Value.bool true = Value.bool (decide (n < 1) || decide (1000000000000 < n))
      first | rw [g_1, Bool.true_or] | (rw [g_1]; rfl)
    · -- False
      have gp_3 := of_decide_eq_false g_1
      refine Wx.gyes rfl rfl (congrArg Value.bool g_1) ?_
      refine Wx.rd (v := .int .i64 n) (rd_move rfl) rfl ?_
      refine Wx.gyes rfl rfl (congrArg Value.bool g_1) ?_
      refine Wx.rd (v := .bool (decide (1000000000000 < n))) (rd_gtr rfl rfl) rfl ?_
      refine Wx.rd (v := .bool (decide (1000000000000 < n))) (rd_pickF (congrArg Value.bool g_1) rfl) rfl ?_
      refine Wx.nil ⟨(), hS, ⟨?_, trivial⟩, Out.look rfl Out.refl⟩
      show Value.bool (decide (1000000000000 < n)) = Value.bool (decide (n < 1) || decide (1000000000000 < n))
      first | rw [g_1, Bool.false_or] | (rw [g_1]; rfl)
  rintro ⟨⟩ u_5 w_4 hS
  refine Wx.rd (v := .bool (decide (n < 1) || decide (1000000000000 < n))) (rd_assign rfl) rfl ?_
  refine Wx.nil ?_
  have e0_0 : (ag2 n) = (decide (n < 1) || decide (1000000000000 < n)) := by rfl
  exact W.ret ⟨.bool (decide (n < 1) || decide (1000000000000 < n)), ResIs.one, hS.bel, (by rw [e0_0])⟩

theorem F96a {xv : Value} {xs : List Int} {Fr_xv : List (Option Nat)} {w : World} (h_xv : V (tSl (tI .i64)) xs xv Fr_xv w) : Calls Try.prog 96 #[xv, .func (.func 82) #[] #[]] w (Ret w (fun r _ => r = .int .i64 (idxP ag1 0 xs))) := by
  have a_xv := h_xv.any
  have l_xv := h_xv.len63
  have hS := St.start0 w
  refine enterR Try.func96 rfl Try.ntmps96 Try.results96 rfl ?_
  refine W.seq ?_
  refine W.reg ?_
  refine Wx.rd (v := .int .i64 0) (rd_assign rfl) rfl ?_
  refine Wx.nil ?_
  refine W.seq ?_
  refine W.seq ?_
  refine W.reg ?_
  refine Wx.rd (v := xv) (rd_move rfl) rfl ?_
  refine Wx.rd (v := .int .i64 (xs.length : Int)) (rd_lenV rfl (hS.arg a_xv) Try.underlying39) rfl ?_
  refine Wx.rd (v := .int .i64 0) (rd_move rfl) rfl ?_
  refine Wx.nil ?_
  refine W.block ?_
  refine W.loop [4, 5, 8, 9, 10, 11, 12, 13, 14, 15, 16, 17, 18] (fun (k : Int) => [(8, .int .i64 k)]) (fun (k : Int) w' => St w [] w' [] ∧ 0 ≤ k ∧ k ≤ xs.length ∧ idxP ag1 k (xs.drop k.toNat) = idxP ag1 0 xs) (fun (k : Int) => (xs.length - k).toNat) 0 ⟨rfl, trivial⟩ ⟨hS, (by first | omega | simp), (by first | omega | simp), (by simp)⟩ ?_
  rintro k u_2 w_1 ⟨hS, h0, h1, h2⟩
  refine W.seq ?_
  refine W.reg ?_
  refine Wx.rd (v := .bool (decide (k < (xs.length : Int)))) (rd_lss rfl rfl) rfl ?_
  refine Wx.nil ?_
  refine W.seq ?_
  refine W.condD rfl (fun c0 => ?_) (fun c0 => ?_)
  · -- yes
    refine W.skip ?_
    refine W.seq ?_
    refine W.block ?_
    refine W.seq ?_
    refine W.reg ?_
    refine Wx.rd (v := .int .i64 k) (rd_move rfl) rfl ?_
    refine Wx.rd (v := .int .i64 k) (rd_assign rfl) rfl ?_
    refine Wx.nil ?_
    refine W.seq ?_
    refine W.reg ?_
    refine Wx.rd (v := .func (.func 82) #[] #[]) (rd_move rfl) rfl ?_
    refine Wx.rd (v := xv) (rd_move rfl) rfl ?_
    refine Wx.rd (v := .int .i64 k) (rd_move rfl) rfl ?_
    refine Wx.ex (rd_index 0 (hS.arg a_xv) rfl rfl Try.underlying39 Try.sizeOf3 (by first | omega | (simp only [List.length_set, List.length_append, List.length_cons, List.length_nil, List.length_replicate]; omega)) (by first | omega | (simp only [List.length_set, List.length_append, List.length_cons, List.length_nil, List.length_replicate]; omega))) rfl (fun p_3 hp_4 => ?_)
    refine Wx.rd (v := .int .i64 (ix 0 xs k)) (rd_loadI hp_4 rfl Try.isAgg3 Try.sizeOf3) rfl ?_
    have bd_5 := bd_i64 hp_4.inK
    refine Wx.callF (run_callC (fs := []) (cs := []) (vs := [.int .i64 (ix 0 xs k)]) Try.call82 rfl rfl) (F82 (in_i64 (by omega) (by omega))) rfl ?_
    rintro r_6 w_7 hx_8 rfl
    have hS := hS.ext hx_8
    refine Wx.nil ?_
    refine W.cond rfl (fun c1 => ?_) (fun c1 => ?_)
    · -- yes
      try simp only [Bool.and_eq_true, Bool.or_eq_true, Bool.not_eq_true', Bool.and_eq_false_iff, Bool.or_eq_false_iff, Bool.not_eq_false', decide_eq_true_eq, decide_eq_false_iff_not, not_or, Bool.false_eq_true, Bool.true_eq_false, false_or, or_false, not_false_eq_true] at c1
      refine W.seq ?_
      refine W.reg ?_
      refine Wx.rd (v := .int .i64 k) (rd_move rfl) rfl ?_
      refine Wx.rd (v := .int .i64 k) (rd_assign rfl) rfl ?_
      refine Wx.nil ?_
      have e0_0 : (idxP ag1 0 xs) = (k : Int) := by rw [← h2, drop_ix (d := 0) h0 c0, idxP, if_pos c1]
      exact W.ret ⟨.int .i64 k, ResIs.one, hS.bel, (by rw [e0_0])⟩
    · -- no
      try simp only [Bool.and_eq_true, Bool.or_eq_true, Bool.not_eq_true', Bool.and_eq_false_iff, Bool.or_eq_false_iff, Bool.not_eq_false', decide_eq_true_eq, decide_eq_false_iff_not, not_or, Bool.false_eq_true, Bool.true_eq_false, false_or, or_false, not_false_eq_true] at c1
      refine W.skip ?_
      refine W.reg ?_
      refine Wx.rd (v := .int .i64 (k + 1)) (rd_add rfl rfl (in_i64 (by omega) (by omega))) rfl ?_
      refine Wx.rd (v := .int .i64 (k + 1)) (rd_move rfl) rfl ?_
      refine Wx.nil ?_
      refine ⟨k + 1, (by show (xs.length - (k + 1)).toNat < (xs.length - k).toNat; omega), ?_, ?_, Out.look rfl Out.self⟩
      · exact ⟨hS, (by first | omega | assumption), (by first | omega | assumption), (by rw [← h2, drop_ix (d := 0) h0 c0, idxP, if_neg (by simp [c1])])⟩
      · exact ⟨rfl, trivial⟩
  · -- no
    refine W.exit rfl ?_
    refine W.seq ?_
    refine W.reg ?_
    refine Wx.rd (v := .int .i64 (-1)) (rd_assign rfl) rfl ?_
    refine Wx.nil ?_
    have e1_0 : (idxP ag1 0 xs) = (-1 : Int) := by rw [← h2, drop_end (by omega)]; rfl
    exact W.ret ⟨.int .i64 (-1), ResIs.one, hS.bel, (by rw [e1_0])⟩

theorem F81a {xv : Value} {xs : List Int} {Fr_xv : List (Option Nat)} {w : World} (h_xv : V (tSl (tI .i64)) xs xv Fr_xv w) : Calls Try.prog 81 #[xv, .func (.func 82) #[] #[]] w (Ret w (fun r _ => r = .bool (xs.any ag1))) := by
  have a_xv := h_xv.any
  have l_xv := h_xv.len63
  have hS := St.start0 w
  refine enterR Try.func81 rfl Try.ntmps81 Try.results81 rfl ?_
  refine W.seq ?_
  refine W.reg ?_
  refine Wx.rd (v := .bool false) (rd_assign rfl) rfl ?_
  refine Wx.nil ?_
  refine W.seq ?_
  refine W.reg ?_
  refine Wx.rd (v := xv) (rd_move rfl) rfl ?_
  refine Wx.rd (v := .func (.func 82) #[] #[]) (rd_move rfl) rfl ?_
  refine Wx.callF (run_callF Try.call96 rfl) (F96a (hS.arg a_xv)) rfl ?_
  rintro r_1 w_2 hx_3 rfl
  have hS := hS.ext hx_3
  have ib_4 := idxP_bd ag1 xs 0 (Int.le_refl 0)
  refine Wx.rd (v := .bool (decide (0 ≤ (idxP ag1 0 xs)))) (rd_geq rfl rfl) rfl ?_
  refine Wx.rd (v := .bool (decide (0 ≤ (idxP ag1 0 xs)))) (rd_assign rfl) rfl ?_
  refine Wx.nil ?_
  have e0_0 : (xs.any ag1) = (decide (0 ≤ (idxP ag1 0 xs))) := by exact (idxP_any _ _ _ (by omega)).symm
  exact W.ret ⟨.bool (decide (0 ≤ (idxP ag1 0 xs))), ResIs.one, hS.bel, (by rw [e0_0])⟩

theorem F96b {xv : Value} {xs : List Int} {Fr_xv : List (Option Nat)} {w : World} (h_xv : V (tSl (tI .i64)) xs xv Fr_xv w) : Calls Try.prog 96 #[xv, .func (.func 83) #[] #[]] w (Ret w (fun r _ => r = .int .i64 (idxP ag2 0 xs))) := by
  have a_xv := h_xv.any
  have l_xv := h_xv.len63
  have hS := St.start0 w
  refine enterR Try.func96 rfl Try.ntmps96 Try.results96 rfl ?_
  refine W.seq ?_
  refine W.reg ?_
  refine Wx.rd (v := .int .i64 0) (rd_assign rfl) rfl ?_
  refine Wx.nil ?_
  refine W.seq ?_
  refine W.seq ?_
  refine W.reg ?_
  refine Wx.rd (v := xv) (rd_move rfl) rfl ?_
  refine Wx.rd (v := .int .i64 (xs.length : Int)) (rd_lenV rfl (hS.arg a_xv) Try.underlying39) rfl ?_
  refine Wx.rd (v := .int .i64 0) (rd_move rfl) rfl ?_
  refine Wx.nil ?_
  refine W.block ?_
  refine W.loop [4, 5, 8, 9, 10, 11, 12, 13, 14, 15, 16, 17, 18] (fun (k : Int) => [(8, .int .i64 k)]) (fun (k : Int) w' => St w [] w' [] ∧ 0 ≤ k ∧ k ≤ xs.length ∧ idxP ag2 k (xs.drop k.toNat) = idxP ag2 0 xs) (fun (k : Int) => (xs.length - k).toNat) 0 ⟨rfl, trivial⟩ ⟨hS, (by first | omega | simp), (by first | omega | simp), (by simp)⟩ ?_
  rintro k u_2 w_1 ⟨hS, h0, h1, h2⟩
  refine W.seq ?_
  refine W.reg ?_
  refine Wx.rd (v := .bool (decide (k < (xs.length : Int)))) (rd_lss rfl rfl) rfl ?_
  refine Wx.nil ?_
  refine W.seq ?_
  refine W.condD rfl (fun c0 => ?_) (fun c0 => ?_)
  · -- yes
    refine W.skip ?_
    refine W.seq ?_
    refine W.block ?_
    refine W.seq ?_
    refine W.reg ?_
    refine Wx.rd (v := .int .i64 k) (rd_move rfl) rfl ?_
    refine Wx.rd (v := .int .i64 k) (rd_assign rfl) rfl ?_
    refine Wx.nil ?_
    refine W.seq ?_
    refine W.reg ?_
    refine Wx.rd (v := .func (.func 83) #[] #[]) (rd_move rfl) rfl ?_
    refine Wx.rd (v := xv) (rd_move rfl) rfl ?_
    refine Wx.rd (v := .int .i64 k) (rd_move rfl) rfl ?_
    refine Wx.ex (rd_index 0 (hS.arg a_xv) rfl rfl Try.underlying39 Try.sizeOf3 (by first | omega | (simp only [List.length_set, List.length_append, List.length_cons, List.length_nil, List.length_replicate]; omega)) (by first | omega | (simp only [List.length_set, List.length_append, List.length_cons, List.length_nil, List.length_replicate]; omega))) rfl (fun p_3 hp_4 => ?_)
    refine Wx.rd (v := .int .i64 (ix 0 xs k)) (rd_loadI hp_4 rfl Try.isAgg3 Try.sizeOf3) rfl ?_
    have bd_5 := bd_i64 hp_4.inK
    refine Wx.callF (run_callC (fs := []) (cs := []) (vs := [.int .i64 (ix 0 xs k)]) Try.call83 rfl rfl) (F83 (in_i64 (by omega) (by omega))) rfl ?_
    rintro r_6 w_7 hx_8 rfl
    have hS := hS.ext hx_8
    refine Wx.nil ?_
    refine W.cond rfl (fun c1 => ?_) (fun c1 => ?_)
    · -- yes
      try simp only [Bool.and_eq_true, Bool.or_eq_true, Bool.not_eq_true', Bool.and_eq_false_iff, Bool.or_eq_false_iff, Bool.not_eq_false', decide_eq_true_eq, decide_eq_false_iff_not, not_or, Bool.false_eq_true, Bool.true_eq_false, false_or, or_false, not_false_eq_true] at c1
      refine W.seq ?_
      refine W.reg ?_
      refine Wx.rd (v := .int .i64 k) (rd_move rfl) rfl ?_
      refine Wx.rd (v := .int .i64 k) (rd_assign rfl) rfl ?_
      refine Wx.nil ?_
      have e0_0 : (idxP ag2 0 xs) = (k : Int) := by rw [← h2, drop_ix (d := 0) h0 c0, idxP, if_pos c1]
      exact W.ret ⟨.int .i64 k, ResIs.one, hS.bel, (by rw [e0_0])⟩
    · -- no
      try simp only [Bool.and_eq_true, Bool.or_eq_true, Bool.not_eq_true', Bool.and_eq_false_iff, Bool.or_eq_false_iff, Bool.not_eq_false', decide_eq_true_eq, decide_eq_false_iff_not, not_or, Bool.false_eq_true, Bool.true_eq_false, false_or, or_false, not_false_eq_true] at c1
      refine W.skip ?_
      refine W.reg ?_
      refine Wx.rd (v := .int .i64 (k + 1)) (rd_add rfl rfl (in_i64 (by omega) (by omega))) rfl ?_
      refine Wx.rd (v := .int .i64 (k + 1)) (rd_move rfl) rfl ?_
      refine Wx.nil ?_
      refine ⟨k + 1, (by show (xs.length - (k + 1)).toNat < (xs.length - k).toNat; omega), ?_, ?_, Out.look rfl Out.self⟩
      · exact ⟨hS, (by first | omega | assumption), (by first | omega | assumption), (by rw [← h2, drop_ix (d := 0) h0 c0, idxP, if_neg (by simp [c1])])⟩
      · exact ⟨rfl, trivial⟩
  · -- no
    refine W.exit rfl ?_
    refine W.seq ?_
    refine W.reg ?_
    refine Wx.rd (v := .int .i64 (-1)) (rd_assign rfl) rfl ?_
    refine Wx.nil ?_
    have e1_0 : (idxP ag2 0 xs) = (-1 : Int) := by rw [← h2, drop_end (by omega)]; rfl
    exact W.ret ⟨.int .i64 (-1), ResIs.one, hS.bel, (by rw [e1_0])⟩

theorem F81b {xv : Value} {xs : List Int} {Fr_xv : List (Option Nat)} {w : World} (h_xv : V (tSl (tI .i64)) xs xv Fr_xv w) : Calls Try.prog 81 #[xv, .func (.func 83) #[] #[]] w (Ret w (fun r _ => r = .bool (xs.any ag2))) := by
  have a_xv := h_xv.any
  have l_xv := h_xv.len63
  have hS := St.start0 w
  refine enterR Try.func81 rfl Try.ntmps81 Try.results81 rfl ?_
  refine W.seq ?_
  refine W.reg ?_
  refine Wx.rd (v := .bool false) (rd_assign rfl) rfl ?_
  refine Wx.nil ?_
  refine W.seq ?_
  refine W.reg ?_
  refine Wx.rd (v := xv) (rd_move rfl) rfl ?_
  refine Wx.rd (v := .func (.func 83) #[] #[]) (rd_move rfl) rfl ?_
  refine Wx.callF (run_callF Try.call96 rfl) (F96b (hS.arg a_xv)) rfl ?_
  rintro r_1 w_2 hx_3 rfl
  have hS := hS.ext hx_3
  have ib_4 := idxP_bd ag2 xs 0 (Int.le_refl 0)
  refine Wx.rd (v := .bool (decide (0 ≤ (idxP ag2 0 xs)))) (rd_geq rfl rfl) rfl ?_
  refine Wx.rd (v := .bool (decide (0 ≤ (idxP ag2 0 xs)))) (rd_assign rfl) rfl ?_
  refine Wx.nil ?_
  have e0_0 : (xs.any ag2) = (decide (0 ≤ (idxP ag2 0 xs))) := by exact (idxP_any _ _ _ (by omega)).symm
  exact W.ret ⟨.bool (decide (0 ≤ (idxP ag2 0 xs))), ResIs.one, hS.bel, (by rw [e0_0])⟩

set_option maxHeartbeats 2000000 in
theorem F37 {g : Int} {v : Value} {l : List ((List Int) × (List Int))} {wv : Value} {worth : List Int} {uv : Value} {weight : List Int} {O : List (Option Nat)} {w : World} (i_g : InK .i64 g) (h_v : V (tSl (tP (tSl (tI .i64)) (tSl (tI .i64)))) l v O w) (h_wv : V (tSl (tI .i64)) worth wv O w) (h_uv : V (tSl (tI .i64)) weight uv O w) (hO : ∀ b, some b ∈ O → b < w.heap.size) : Calls Try.prog 37 #[.int .i64 g, v, wv, uv] w (Ret w (fun r _ => r = .int .i64 (agreesE g l worth weight))) := by
  have b_g := bd_i64 i_g
  have a_v := h_v
  have l_v := h_v.len63
  have a_wv := h_wv
  have l_wv := h_wv.len63
  have a_uv := h_uv
  have l_uv := h_uv.len63
  have hS := St.start w O hO
  refine enterR Try.func37 rfl Try.ntmps37 Try.results37 rfl ?_
  refine W.seq ?_
  refine W.reg ?_
  refine Wx.rd (v := .int .i64 0) (rd_assign rfl) rfl ?_
  refine Wx.nil ?_
  refine W.seq ?_
  refine W.reg ?_
  refine Wx.rd (v := .int .i64 g) (rd_move rfl) rfl ?_
  refine Wx.rd (v := v) (rd_move rfl) rfl ?_
  refine Wx.callF (run_callF Try.call62 rfl) (F62 i_g (hS.arg a_v) (V.nil (t := (tI .i64))) hS.fb_lt) rfl ?_
  rintro r_1 w_2 hx_3 ⟨v_4, rfl, hv_5⟩
  have hS := hS.ext hx_3
  have hS := hS.add hv_5
  refine Wx.rd (v := .tuple #[v_4, .int .i64 (openE g l ([] : List Int))]) (rd_move rfl) rfl ?_
  refine Wx.rd (v := v_4) (rd_extract rfl rfl) rfl ?_
  refine Wx.rd (v := .int .i64 (openE g l ([] : List Int))) (rd_extract rfl rfl) rfl ?_
  refine Wx.rd (v := v_4) (rd_assign rfl) rfl ?_
  refine Wx.rd (v := .int .i64 (openE g l ([] : List Int))) (rd_assign rfl) rfl ?_
  refine Wx.nil ?_
  refine W.seq ?_
  refine W.reg ?_
  refine Wx.rd (v := v) (rd_move rfl) rfl ?_
  refine Wx.rd (v := .int .i64 (l.length : Int)) (rd_lenV rfl (hS.arg a_v) Try.underlying22) rfl ?_
  refine Wx.rd (v := .int .i64 (l.length : Int)) (rd_assign rfl) rfl ?_
  refine Wx.nil ?_
  refine W.seq ?_
  refine W.block ?_
  refine W.seq ?_
  refine W.reg ?_
  refine Wx.rd (v := .int .i64 (openE g l ([] : List Int))) (rd_move rfl) rfl ?_
  refine Wx.rd (v := .bool (decide ((openE g l ([] : List Int)) ≠ 0))) (rd_neq rfl rfl) rfl ?_
  refine Wx.rd (v := .bool (decide ((openE g l ([] : List Int)) ≠ 0))) (rd_assign rfl) rfl ?_
  refine Wx.nil ?_
  refine W.condD rfl (fun c0 => ?_) (fun c0 => ?_)
  · -- yes
    refine W.seq ?_
    refine W.reg ?_
    refine Wx.rd (v := .int .i64 (openE g l ([] : List Int))) (rd_move rfl) rfl ?_
    refine Wx.rd (v := .int .i64 (openE g l ([] : List Int))) (rd_assign rfl) rfl ?_
    refine Wx.nil ?_
    have e0_0 : (agreesE g l worth weight) = (openE g l ([] : List Int) : Int) := by rw [agreesE, if_neg (by rw [← openE_nil]; exact c0)]; exact openE_nil.symm
    exact W.ret ⟨.int .i64 (openE g l ([] : List Int)), ResIs.one, hS.bel, (by rw [e0_0])⟩
  · -- no
    have h0c : checkE g l = 0 := by rw [← openE_nil]; omega
    have hsok := SalesOK.of h0c
    have hl6 := hsok.1
    obtain ⟨gd, hgd, hok⟩ := hsok.at
    refine W.seq ?_
    refine W.reg ?_
    refine Wx.rd (v := wv) (rd_move rfl) rfl ?_
    refine Wx.rd (v := .int .i64 (worth.length : Int)) (rd_lenV rfl (hS.arg a_wv) Try.underlying39) rfl ?_
    refine Wx.rd (v := .int .i64 (l.length : Int)) (rd_move rfl) rfl ?_
    refine Wx.rd (v := .bool (decide ((worth.length : Int) ≠ (l.length : Int)))) (rd_neq rfl rfl) rfl ?_
    refine Wx.rd (v := .bool (decide ((worth.length : Int) ≠ (l.length : Int)))) (rd_move rfl) rfl ?_
    refine Wx.cut (X := Unit) 5 [34, 35, 36, 37, 38] (fun _ => [(38, .bool (decide ((worth.length : Int) ≠ (l.length : Int)) || decide ((weight.length : Int) ≠ (l.length : Int))))]) (fun _ w' => St w O w' [Ob.v (tMk (decide (openE g l ([] : List Int) = 0))) l v_4]) ?_ ?_
    · rcases Bool.eq_false_or_eq_true (decide ((worth.length : Int) ≠ (l.length : Int))) with g_7 | g_7
      · -- True
        have gp_8 := of_decide_eq_true g_7
        refine Wx.gnoB rfl rfl (congrArg Value.bool g_7) rfl rfl ?_
        refine Wx.gnoB rfl rfl (congrArg Value.bool g_7) rfl rfl ?_
        refine Wx.gnoB rfl rfl (congrArg Value.bool g_7) rfl rfl ?_
        refine Wx.gnoB rfl rfl (congrArg Value.bool g_7) rfl rfl ?_
        refine Wx.rd (v := .bool true) (rd_pickT (congrArg Value.bool g_7) rfl) rfl ?_
        refine Wx.nil ⟨(), hS, ⟨?_, trivial⟩, Out.look rfl Out.refl⟩
        show Value.bool true = Value.bool (decide ((worth.length : Int) ≠ (l.length : Int)) || decide ((weight.length : Int) ≠ (l.length : Int)))
        first | rw [g_7, Bool.true_or] | (rw [g_7]; rfl)
      · -- False
        have gp_9 := of_decide_eq_false g_7
        refine Wx.gyes rfl rfl (congrArg Value.bool g_7) ?_
        refine Wx.rd (v := uv) (rd_move rfl) rfl ?_
        refine Wx.gyes rfl rfl (congrArg Value.bool g_7) ?_
        refine Wx.rd (v := .int .i64 (weight.length : Int)) (rd_lenV rfl (hS.arg a_uv) Try.underlying39) rfl ?_
        refine Wx.gyes rfl rfl (congrArg Value.bool g_7) ?_
        refine Wx.rd (v := .int .i64 (l.length : Int)) (rd_move rfl) rfl ?_
        refine Wx.gyes rfl rfl (congrArg Value.bool g_7) ?_
        refine Wx.rd (v := .bool (decide ((weight.length : Int) ≠ (l.length : Int)))) (rd_neq rfl rfl) rfl ?_
        refine Wx.rd (v := .bool (decide ((weight.length : Int) ≠ (l.length : Int)))) (rd_pickF (congrArg Value.bool g_7) rfl) rfl ?_
        refine Wx.nil ⟨(), hS, ⟨?_, trivial⟩, Out.look rfl Out.refl⟩
        show Value.bool (decide ((weight.length : Int) ≠ (l.length : Int))) = Value.bool (decide ((worth.length : Int) ≠ (l.length : Int)) || decide ((weight.length : Int) ≠ (l.length : Int)))
        first | rw [g_7, Bool.false_or] | (rw [g_7]; rfl)
    rintro ⟨⟩ u_11 w_10 hS
    refine Wx.rd (v := .bool (decide ((worth.length : Int) ≠ (l.length : Int)) || decide ((weight.length : Int) ≠ (l.length : Int)))) (rd_assign rfl) rfl ?_
    refine Wx.nil ?_
    refine W.cond rfl (fun c1 => ?_) (fun c1 => ?_)
    · -- yes
      try simp only [Bool.and_eq_true, Bool.or_eq_true, Bool.not_eq_true', Bool.and_eq_false_iff, Bool.or_eq_false_iff, Bool.not_eq_false', decide_eq_true_eq, decide_eq_false_iff_not, not_or, Bool.false_eq_true, Bool.true_eq_false, false_or, or_false, not_false_eq_true] at c1
      refine W.seq ?_
      refine W.reg ?_
      refine Wx.rd (v := .int .i64 5) (rd_assign rfl) rfl ?_
      refine Wx.nil ?_
      have e1_0 : (agreesE g l worth weight) = (5 : Int) := by rw [agreesE, if_pos h0c, if_neg (by omega)]
      exact W.ret ⟨.int .i64 5, ResIs.one, hS.bel, (by rw [e1_0])⟩
    · -- no
      try simp only [Bool.and_eq_true, Bool.or_eq_true, Bool.not_eq_true', Bool.and_eq_false_iff, Bool.or_eq_false_iff, Bool.not_eq_false', decide_eq_true_eq, decide_eq_false_iff_not, not_or, Bool.false_eq_true, Bool.true_eq_false, false_or, or_false, not_false_eq_true] at c1
      refine W.seq ?_
      refine W.reg ?_
      refine Wx.rd (v := wv) (rd_move rfl) rfl ?_
      refine Wx.callF (run_callF Try.call81 rfl) (F81a (hS.arg a_wv)) rfl ?_
      rintro r_12 w_13 hx_14 rfl
      have hS := hS.ext hx_14
      refine Wx.rd (v := .bool (worth.any ag1)) (rd_move rfl) rfl ?_
      refine Wx.cut (X := Unit) 3 [43, 44, 45] (fun _ => [(45, .bool (worth.any ag1 || weight.any ag2))]) (fun _ w' => St w O w' [Ob.v (tMk (decide (openE g l ([] : List Int) = 0))) l v_4]) ?_ ?_
      · rcases Bool.eq_false_or_eq_true (worth.any ag1) with g_15 | g_15
        · -- True
          have gp_16 := g_15
          try simp only [Bool.and_eq_true, Bool.or_eq_true, Bool.not_eq_true', Bool.and_eq_false_iff, Bool.or_eq_false_iff, Bool.not_eq_false', decide_eq_true_eq, decide_eq_false_iff_not, not_or, Bool.false_eq_true, Bool.true_eq_false, false_or, or_false, not_false_eq_true] at gp_16
          refine Wx.gnoB rfl rfl (congrArg Value.bool g_15) rfl rfl ?_
          refine Wx.gnoB rfl rfl (congrArg Value.bool g_15) rfl rfl ?_
          refine Wx.rd (v := .bool true) (rd_pickT (congrArg Value.bool g_15) rfl) rfl ?_
          refine Wx.nil ⟨(), hS, ⟨?_, trivial⟩, Out.look rfl Out.refl⟩
          show Value.bool true = Value.bool (worth.any ag1 || weight.any ag2)
          first | rw [g_15, Bool.true_or] | (rw [g_15]; rfl)
        · -- False
          have gp_17 := g_15
          try simp only [Bool.and_eq_true, Bool.or_eq_true, Bool.not_eq_true', Bool.and_eq_false_iff, Bool.or_eq_false_iff, Bool.not_eq_false', decide_eq_true_eq, decide_eq_false_iff_not, not_or, Bool.false_eq_true, Bool.true_eq_false, false_or, or_false, not_false_eq_true] at gp_17
          refine Wx.gyes rfl rfl (congrArg Value.bool g_15) ?_
          refine Wx.rd (v := uv) (rd_move rfl) rfl ?_
          refine Wx.gyes rfl rfl (congrArg Value.bool g_15) ?_
          refine Wx.callF (run_callF Try.call81 rfl) (F81b (hS.arg a_uv)) rfl ?_
          rintro r_18 w_19 hx_20 rfl
          have hS := hS.ext hx_20
          refine Wx.rd (v := .bool (weight.any ag2)) (rd_pickF (congrArg Value.bool g_15) rfl) rfl ?_
          refine Wx.nil ⟨(), hS, ⟨?_, trivial⟩, Out.look rfl Out.refl⟩
          show Value.bool (weight.any ag2) = Value.bool (worth.any ag1 || weight.any ag2)
          first | rw [g_15, Bool.false_or] | (rw [g_15]; rfl)
      rintro ⟨⟩ u_22 w_21 hS
      refine Wx.rd (v := .bool (worth.any ag1 || weight.any ag2)) (rd_assign rfl) rfl ?_
      refine Wx.nil ?_
      refine W.cond rfl (fun c2 => ?_) (fun c2 => ?_)
      · -- yes
        try simp only [Bool.and_eq_true, Bool.or_eq_true, Bool.not_eq_true', Bool.and_eq_false_iff, Bool.or_eq_false_iff, Bool.not_eq_false', decide_eq_true_eq, decide_eq_false_iff_not, not_or, Bool.false_eq_true, Bool.true_eq_false, false_or, or_false, not_false_eq_true] at c2
        refine W.seq ?_
        refine W.reg ?_
        refine Wx.rd (v := .int .i64 1) (rd_assign rfl) rfl ?_
        refine Wx.nil ?_
        have e2_0 : (agreesE g l worth weight) = (1 : Int) := by rw [agreesE, if_pos h0c, if_pos (by omega), if_neg (agr_bad (by omega) (by omega) c2)]
        exact W.ret ⟨.int .i64 1, ResIs.one, hS.bel, (by rw [e2_0])⟩
      · -- no
        try simp only [Bool.and_eq_true, Bool.or_eq_true, Bool.not_eq_true', Bool.and_eq_false_iff, Bool.or_eq_false_iff, Bool.not_eq_false', decide_eq_true_eq, decide_eq_false_iff_not, not_or, Bool.false_eq_true, Bool.true_eq_false, false_or, or_false, not_false_eq_true] at c2
        have hlen : (worth.length : Int) = l.length ∧ (weight.length : Int) = l.length := by omega
        have hw := agr_good hlen.1 hlen.2 c2
        have hw1 : ∀ k : Int, 0 ≤ k → k < l.length → agr1 worth weight k := fun k q0 k1 => agr1_of (hw k q0 k1)
        obtain ⟨g_23, rfl, hm_24⟩ := V.mkOpen (hS.v 0 rfl) (decide_eq_true (by omega))
        have ok_g_23 := V.mkOK hm_24
        have hS := hS.add hm_24
        refine W.skip ?_
        refine W.seq ?_
        refine W.seq ?_
        refine W.reg ?_
        refine Wx.rd (v := (.pointer (some ⟨g_23, 0, none⟩))) (rd_move rfl) rfl ?_
        refine Wx.rd (v := (.pointer (some ⟨g_23, 0, none⟩))) (rd_nilCheck rfl rfl) rfl ?_
        refine Wx.rd (v := .pointer (some ⟨g_23, 0, none⟩)) (rd_fieldAddr rfl foLc_93_0) rfl ?_
        refine Wx.ex (rd_mkS (hS.v 0 rfl) rfl Try.isAgg22) rfl (fun v_26 hv_27 => ?_)
        have ln_28 := hv_27.len63
        have hS := hS.add hv_27
        refine Wx.rd (v := .int .i64 (l.length : Int)) (rd_lenV rfl (hS.v 0 rfl) Try.underlying22) rfl ?_
        refine Wx.rd (v := .int .i64 0) (rd_move rfl) rfl ?_
        refine Wx.nil ?_
        refine W.block ?_
        refine W.loop [8, 12, 13, 14, 15, 51, 52, 53, 54, 55, 56, 57, 58, 59, 60, 61, 62, 63, 64, 65, 66, 67, 68, 69, 70, 71, 72, 73, 74, 75, 76, 77, 78, 79, 80, 81, 82, 83, 84, 85, 86] (fun (a : Int) => [(51, .int .i64 a)]) (fun (a : Int) w' => St w O w' [Ob.v (tSl (tP (tSl (tI .i64)) (tSl (tI .i64)))) l v_26, Ob.v (tMk true) l (.pointer (some ⟨g_23, 0, none⟩)), Ob.v (tMk (decide (openE g l ([] : List Int) = 0))) l (.pointer (some ⟨g_23, 0, none⟩))] ∧ 0 ≤ a ∧ a ≤ l.length ∧ (∀ x y : Int, 0 ≤ x → x < a → 0 ≤ y → y < l.length → agr2 l worth weight x y)) (fun (a : Int) => (l.length - a).toNat) 0 ⟨rfl, trivial⟩ ⟨hS, (by first | omega | simp), (by first | omega | simp), (fun x y x0 x1 => by omega)⟩ ?_
        rintro a u_31 w_30 ⟨hS, a0, a1, a2⟩
        refine W.seq ?_
        refine W.reg ?_
        refine Wx.rd (v := .bool (decide (a < (l.length : Int)))) (rd_lss rfl rfl) rfl ?_
        refine Wx.nil ?_
        refine W.seq ?_
        refine W.condD rfl (fun c3 => ?_) (fun c3 => ?_)
        · -- yes
          refine W.skip ?_
          refine W.seq ?_
          refine W.block ?_
          refine W.seq ?_
          refine W.reg ?_
          refine Wx.rd (v := .int .i64 a) (rd_move rfl) rfl ?_
          refine Wx.ex (rd_index ([], []) (hS.v 0 rfl) rfl rfl Try.underlying22 Try.sizeOf62 (by first | omega | (simp only [List.length_set, List.length_append, List.length_cons, List.length_nil, List.length_replicate]; omega)) (by first | omega | (simp only [List.length_set, List.length_append, List.length_cons, List.length_nil, List.length_replicate]; omega))) rfl (fun p_32 hp_33 => ?_)
          refine Wx.ex (rd_load hp_33 rfl Try.isAgg62 Try.sizeOf62) rfl (fun v_34 hv_35 => ?_)
          obtain ⟨v_36, v_37, rfl, hv_38, hv_39⟩ := hv_35.s2
          have hS := hS.add (hv_38)
          have ln_41 := (hS.v 0 rfl).len63
          have hS := hS.add (V.upF (hv_39))
          have ln_43 := (hS.v 0 rfl).len63
          refine Wx.alloc (cs := [(.slice none 0 0), (.slice none 0 0)]) hS Try.zeroValue62 rfl rfl (fun g_44 w_45 hx_47 hb_46 hS => ?_)
          refine Wx.rd (v := .int .i64 a) (rd_assign rfl) rfl ?_
          refine Wx.storeX (cs' := [v_36, v_37]) (ds := [v_36, v_37]) hS 0 rfl rfl rfl rfl Try.sizeOf62 (Nat.le_of_ble_eq_true rfl) (one_cons (V.oneC (hS.v 2 rfl)) (one_cons (V.oneC (hS.v 1 rfl)) one_nil)) rfl (fun w_48 hz_49 hS => ?_)
          refine Wx.nil ?_
          refine W.seq ?_
          refine W.reg ?_
          refine Wx.rd (v := (.pointer (some ⟨g_23, 0, none⟩))) (rd_move rfl) rfl ?_
          refine Wx.rd (v := (.pointer (some ⟨g_23, 0, none⟩))) (rd_nilCheck rfl rfl) rfl ?_
          refine Wx.rd (v := .pointer (some ⟨g_23, 0, none⟩)) (rd_fieldAddr rfl foLc_93_0) rfl ?_
          refine Wx.ex (rd_mkS (hS.v 4 rfl) rfl Try.isAgg22) rfl (fun v_50 hv_51 => ?_)
          have ln_52 := hv_51.len63
          have hS := hS.add hv_51
          refine Wx.rd (v := .int .i64 (l.length : Int)) (rd_lenV rfl (hS.v 0 rfl) Try.underlying22) rfl ?_
          refine Wx.rd (v := .int .i64 0) (rd_move rfl) rfl ?_
          refine Wx.nil ?_
          refine W.block ?_
          refine W.loop [8, 14, 15, 61, 62, 63, 64, 65, 66, 67, 68, 69, 70, 71, 72, 73, 74, 75, 76, 77, 78, 79, 80, 81, 82, 83, 84, 85] (fun (b : Int) => [(61, .int .i64 b)]) (fun (b : Int) w' => St w O w' [Ob.v (tSl (tP (tSl (tI .i64)) (tSl (tI .i64)))) l v_50, .box g_44 62 [v_36, v_37], Ob.v (tSl (tI .i64)) ((ix ([], []) l a).2) v_37, Ob.v (tSl (tI .i64)) ((ix ([], []) l a).1) v_36, Ob.v (tSl (tP (tSl (tI .i64)) (tSl (tI .i64)))) l v_26, Ob.v (tMk true) l (.pointer (some ⟨g_23, 0, none⟩)), Ob.v (tMk (decide (openE g l ([] : List Int) = 0))) l (.pointer (some ⟨g_23, 0, none⟩))] ∧ 0 ≤ b ∧ b ≤ l.length ∧ (∀ y : Int, 0 ≤ y → y < b → agr2 l worth weight a y)) (fun (b : Int) => (l.length - b).toNat) 0 ⟨rfl, trivial⟩ ⟨hS, (by first | omega | simp), (by first | omega | simp), (fun y y0 y1 => by omega)⟩ ?_
          rintro b u_55 w_54 ⟨hS, b0, b1, b2⟩
          refine W.seq ?_
          refine W.reg ?_
          refine Wx.rd (v := .bool (decide (b < (l.length : Int)))) (rd_lss rfl rfl) rfl ?_
          refine Wx.nil ?_
          refine W.seq ?_
          refine W.condD rfl (fun c4 => ?_) (fun c4 => ?_)
          · -- yes
            have hwa := hw a (by omega) (by omega)
            have hwb := hw b (by omega) (by omega)
            have hld := lead_bd hsok ⟨a0, by omega⟩ (show 0 ≤ b ∧ b < (l.length : Int) by omega)
            have hml := mul_lead hwa.2.1 hwa.2.2 (show -243 ≤ leadS (ix ([], []) l a) (ix ([], []) l b) ∧ leadS (ix ([], []) l a) (ix ([], []) l b) ≤ 243 by omega)
            refine W.skip ?_
            refine W.seq ?_
            refine W.block ?_
            refine W.seq ?_
            refine W.reg ?_
            refine Wx.rd (v := .int .i64 b) (rd_move rfl) rfl ?_
            refine Wx.ex (rd_index ([], []) (hS.v 0 rfl) rfl rfl Try.underlying22 Try.sizeOf62 (by first | omega | (simp only [List.length_set, List.length_append, List.length_cons, List.length_nil, List.length_replicate]; omega)) (by first | omega | (simp only [List.length_set, List.length_append, List.length_cons, List.length_nil, List.length_replicate]; omega))) rfl (fun p_56 hp_57 => ?_)
            refine Wx.ex (rd_load hp_57 rfl Try.isAgg62 Try.sizeOf62) rfl (fun v_58 hv_59 => ?_)
            obtain ⟨v_60, v_61, rfl, hv_62, hv_63⟩ := hv_59.s2
            have hS := hS.add (hv_62)
            have ln_65 := (hS.v 0 rfl).len63
            have hS := hS.add (V.upF (hv_63))
            have ln_67 := (hS.v 0 rfl).len63
            refine Wx.alloc (cs := [(.slice none 0 0), (.slice none 0 0)]) hS Try.zeroValue62 rfl rfl (fun g_68 w_69 hx_71 hb_70 hS => ?_)
            refine Wx.rd (v := .int .i64 b) (rd_assign rfl) rfl ?_
            refine Wx.storeX (cs' := [v_60, v_61]) (ds := [v_60, v_61]) hS 0 rfl rfl rfl rfl Try.sizeOf62 (Nat.le_of_ble_eq_true rfl) (one_cons (V.oneC (hS.v 2 rfl)) (one_cons (V.oneC (hS.v 1 rfl)) one_nil)) rfl (fun w_72 hz_73 hS => ?_)
            refine Wx.nil ?_
            refine W.seq ?_
            refine W.regQ mixedLc_ (by kernel_rfl) ?_
            refine Wx.rd (v := wv) (rd_move rfl) rfl ?_
            refine Wx.rd (v := .int .i64 b) (rd_move rfl) rfl ?_
            refine Wx.ex (rd_index 0 (hS.arg a_wv) rfl rfl Try.underlying39 Try.sizeOf3 (by first | omega | (simp only [List.length_set, List.length_append, List.length_cons, List.length_nil, List.length_replicate]; omega)) (by first | omega | (simp only [List.length_set, List.length_append, List.length_cons, List.length_nil, List.length_replicate]; omega))) rfl (fun p_74 hp_75 => ?_)
            refine Wx.rd (v := .int .i64 (ix 0 worth b)) (rd_loadI hp_75 rfl Try.isAgg3 Try.sizeOf3) rfl ?_
            have bd_76 := bd_i64 hp_75.inK
            refine Wx.rd (v := wv) (rd_move rfl) rfl ?_
            refine Wx.rd (v := .int .i64 a) (rd_move rfl) rfl ?_
            refine Wx.ex (rd_index 0 (hS.arg a_wv) rfl rfl Try.underlying39 Try.sizeOf3 (by first | omega | (simp only [List.length_set, List.length_append, List.length_cons, List.length_nil, List.length_replicate]; omega)) (by first | omega | (simp only [List.length_set, List.length_append, List.length_cons, List.length_nil, List.length_replicate]; omega))) rfl (fun p_77 hp_78 => ?_)
            refine Wx.rd (v := .int .i64 (ix 0 worth a)) (rd_loadI hp_78 rfl Try.isAgg3 Try.sizeOf3) rfl ?_
            have bd_79 := bd_i64 hp_78.inK
            refine Wx.rd (v := .int .i64 ((ix 0 worth b) - (ix 0 worth a))) (rd_sub rfl rfl (in_i64 (by omega) (by omega))) rfl ?_
            refine Wx.rd (v := uv) (rd_move rfl) rfl ?_
            refine Wx.rd (v := .int .i64 a) (rd_move rfl) rfl ?_
            refine Wx.ex (rd_index 0 (hS.arg a_uv) rfl rfl Try.underlying39 Try.sizeOf3 (by first | omega | (simp only [List.length_set, List.length_append, List.length_cons, List.length_nil, List.length_replicate]; omega)) (by first | omega | (simp only [List.length_set, List.length_append, List.length_cons, List.length_nil, List.length_replicate]; omega))) rfl (fun p_80 hp_81 => ?_)
            refine Wx.rd (v := .int .i64 (ix 0 weight a)) (rd_loadI hp_81 rfl Try.isAgg3 Try.sizeOf3) rfl ?_
            have bd_82 := bd_i64 hp_81.inK
            refine Wx.rd (v := .int .i64 (-(ix 0 weight a))) (rd_neg rfl (in_i64 (by omega) (by omega))) rfl ?_
            refine Wx.rd (v := .agg #[v_36, v_37]) (rd_loadXs (ds := [v_36, v_37]) hS 4 rfl rfl rfl rfl Try.isAgg62 Try.sizeOf62) rfl ?_
            refine Wx.rd (v := .agg #[v_60, v_61]) (rd_loadXs (ds := [v_60, v_61]) hS 0 rfl rfl rfl rfl Try.isAgg62 Try.sizeOf62) rfl ?_
            refine Wx.callV (v := .int .i64 (leadS (((ix ([], []) l a).1), ((ix ([], []) l a).2)) (((ix ([], []) l b).1), ((ix ([], []) l b).2)))) (run_callF Try.call80 rfl) (fun w_83 hw_84 => (F80 ((hS.v 6 rfl).ext hw_84) ((hS.v 5 rfl).ext hw_84) ((hS.v 2 rfl).ext hw_84) ((hS.v 1 rfl).ext hw_84) (hok a (by omega) (by omega)).b1 (hok a (by omega) (by omega)).b2 (hok b (by omega) (by omega)).b2 (by have := (hok a (by omega) (by omega)).l1; omega) (by have h1 := (hok a (by omega) (by omega)).l1; have h2 := (hok a (by omega) (by omega)).l2; omega) (by have h1 := (hok a (by omega) (by omega)).l1; have h2 := (hok b (by omega) (by omega)).l2; omega))) rfl ?_
            refine Wx.rd (v := .int .i64 ((-(ix 0 weight a)) * (leadS (((ix ([], []) l a).1), ((ix ([], []) l a).2)) (((ix ([], []) l b).1), ((ix ([], []) l b).2))))) (rd_mul rfl rfl (in_i64 (Int.le_trans (by decide) hml.1) (Int.le_trans hml.2 (by decide)))) rfl ?_
            refine Wx.rd (v := .bool (decide (((-(ix 0 weight a)) * (leadS (((ix ([], []) l a).1), ((ix ([], []) l a).2)) (((ix ([], []) l b).1), ((ix ([], []) l b).2)))) < ((ix 0 worth b) - (ix 0 worth a))))) (rd_gtr rfl rfl) rfl ?_
            refine Wx.nilQ (fun w_85 hx_86 => ?_)
            have hS := hS.ext hx_86
            refine W.condD rfl (fun c5 => ?_) (fun c5 => ?_)
            · -- yes
              refine W.seq ?_
              refine W.reg ?_
              refine Wx.rd (v := .int .i64 14) (rd_assign rfl) rfl ?_
              refine Wx.nil ?_
              have e3_0 : (agreesE g l worth weight) = (14 : Int) := by rw [agreesE, if_pos h0c, if_pos hlen, if_pos hw1, if_neg (fun hh => agr2_lead.1 (hh a b a0 c3 b0 c4) c5)]
              exact W.ret ⟨.int .i64 14, ResIs.one, hS.bel, (by rw [e3_0])⟩
            · -- no
              refine W.skip ?_
              refine W.reg ?_
              refine Wx.rd (v := .int .i64 (b + 1)) (rd_add rfl rfl (in_i64 (by omega) (by omega))) rfl ?_
              refine Wx.rd (v := .int .i64 (b + 1)) (rd_move rfl) rfl ?_
              refine Wx.nil ?_
              refine ⟨b + 1, (by show (l.length - (b + 1)).toNat < (l.length - b).toNat; omega), ?_, ?_, Out.look rfl Out.self⟩
              · exact ⟨St.tl (St.tl (hS.tl)), (by first | omega | assumption), (by first | omega | assumption), (fun y y0 y1 => by by_cases hy : y = b; (subst hy; exact agr2_lead.2 c5); exact b2 y y0 (by omega))⟩
              · exact ⟨rfl, trivial⟩
          · -- no
            refine W.exit rfl ?_
            refine W.reg ?_
            refine Wx.rd (v := .int .i64 (a + 1)) (rd_add rfl rfl (in_i64 (by omega) (by omega))) rfl ?_
            refine Wx.rd (v := .int .i64 (a + 1)) (rd_move rfl) rfl ?_
            refine Wx.nil ?_
            refine ⟨a + 1, (by show (l.length - (a + 1)).toNat < (l.length - a).toNat; omega), ?_, ?_, Out.look rfl (Out.hav rfl (Out.look rfl Out.self))⟩
            · exact ⟨St.tl (St.tl (St.tl (hS.tl))), (by first | omega | assumption), (by first | omega | assumption), (fun x y x0 x1 y0 y1 => by by_cases hx : x = a; (subst hx; exact b2 y y0 (by omega)); exact a2 x y x0 (by omega) y0 y1)⟩
            · exact ⟨rfl, trivial⟩
        · -- no
          refine W.exit rfl ?_
          refine W.seq ?_
          refine W.reg ?_
          refine Wx.rd (v := .int .i64 0) (rd_assign rfl) rfl ?_
          refine Wx.nil ?_
          have e4_0 : (agreesE g l worth weight) = (0 : Int) := by rw [agreesE, if_pos h0c, if_pos hlen, if_pos hw1, if_pos (fun x y x0 x1 y0 y1 => a2 x y x0 (by omega) y0 y1)]
          exact W.ret ⟨.int .i64 0, ResIs.one, hS.bel, (by rw [e4_0])⟩
end Go.Proofs.Ytjbcpggikaeleaa

namespace Go.Proofs.Ytjbcpggikaeleaa
open Go.Wk Go.RowKit Go.Lib
set_option linter.unusedVariables false
set_option linter.unusedSimpArgs false
theorem mixedLd_ : Try.prog.follows .mixedOrders = true := by kernel_rfl
theorem foLd_93_0 : fldOff Try.prog 93 0 = some 0 := by kernel_rfl

set_option maxHeartbeats 2000000 in
theorem F34 {g : Int} {v : Value} {l : List ((List Int) × (List Int))} {rw : Value} {rg : List Int} {O : List (Option Nat)} {w : World} (i_g : InK .i64 g) (h_v : V (tSl (tP (tSl (tI .i64)) (tSl (tI .i64)))) l v O w) (h_rw : V (tSl (tI .i64)) rg rw O w) (p_30 : (rg.length : Int) ≤ 100) (hO : ∀ b, some b ∈ O → b < w.heap.size) : Calls Try.prog 34 #[.int .i64 g, v, rw] w (Ret w (fun r _ => r = .int .i64 (provesE g l rg))) := by
  have b_g := bd_i64 i_g
  have a_v := h_v
  have l_v := h_v.len63
  have a_rw := h_rw
  have l_rw := h_rw.len63
  have hS := St.start w O hO
  refine enterR Try.func34 rfl Try.ntmps34 Try.results34 rfl ?_
  refine W.seq ?_
  refine W.reg ?_
  refine Wx.rd (v := .int .i64 0) (rd_assign rfl) rfl ?_
  refine Wx.nil ?_
  refine W.seq ?_
  refine W.reg ?_
  refine Wx.rd (v := .int .i64 g) (rd_move rfl) rfl ?_
  refine Wx.rd (v := v) (rd_move rfl) rfl ?_
  refine Wx.callF (run_callF Try.call62 rfl) (F62 i_g (hS.arg a_v) (V.nil (t := (tI .i64))) hS.fb_lt) rfl ?_
  rintro r_1 w_2 hx_3 ⟨v_4, rfl, hv_5⟩
  have hS := hS.ext hx_3
  have hS := hS.add hv_5
  refine Wx.rd (v := .tuple #[v_4, .int .i64 (openE g l ([] : List Int))]) (rd_move rfl) rfl ?_
  refine Wx.rd (v := v_4) (rd_extract rfl rfl) rfl ?_
  refine Wx.rd (v := .int .i64 (openE g l ([] : List Int))) (rd_extract rfl rfl) rfl ?_
  refine Wx.rd (v := v_4) (rd_assign rfl) rfl ?_
  refine Wx.rd (v := .int .i64 (openE g l ([] : List Int))) (rd_assign rfl) rfl ?_
  refine Wx.nil ?_
  refine W.seq ?_
  refine W.seq ?_
  refine W.reg ?_
  refine Wx.rd (v := .int .i64 (openE g l ([] : List Int))) (rd_move rfl) rfl ?_
  refine Wx.rd (v := .bool (decide ((openE g l ([] : List Int)) ≠ 0))) (rd_neq rfl rfl) rfl ?_
  refine Wx.nil ?_
  refine W.condD rfl (fun c0 => ?_) (fun c0 => ?_)
  · -- yes
    refine W.seq ?_
    refine W.reg ?_
    refine Wx.rd (v := .int .i64 (openE g l ([] : List Int))) (rd_move rfl) rfl ?_
    refine Wx.rd (v := .int .i64 (openE g l ([] : List Int))) (rd_assign rfl) rfl ?_
    refine Wx.nil ?_
    have e0_0 : (provesE g l rg) = (openE g l ([] : List Int) : Int) := by rw [prv_err (by rw [← openE_nil]; exact c0)]; exact openE_nil.symm
    exact W.ret ⟨.int .i64 (openE g l ([] : List Int)), ResIs.one, hS.bel, (by rw [e0_0])⟩
  · -- no
    have h0c : checkE g l = 0 := by rw [← openE_nil]; omega
    have hsok := SalesOK.of h0c
    have hl6 := hsok.1
    obtain ⟨gd, hgd, hok⟩ := hsok.at
    obtain ⟨g_7, rfl, hm_8⟩ := V.mkOpen (hS.v 0 rfl) (decide_eq_true (by omega))
    have ok_g_7 := V.mkOK hm_8
    have hS := hS.add hm_8
    refine W.skip ?_
    refine W.seq ?_
    refine W.seq ?_
    refine W.reg ?_
    refine Wx.rd (v := rw) (rd_move rfl) rfl ?_
    refine Wx.rd (v := .int .i64 (rg.length : Int)) (rd_lenV rfl (hS.arg a_rw) Try.underlying39) rfl ?_
    refine Wx.rd (v := .int .i64 0) (rd_move rfl) rfl ?_
    refine Wx.nil ?_
    refine W.block ?_
    refine W.loop [6, 9, 10, 26, 27, 28, 29, 30, 31, 32, 33, 34, 35, 36, 37, 38, 39, 40, 41, 42, 43, 44, 45, 46] (fun (k : Int) => [(26, .int .i64 k)]) (fun (k : Int) w' => St w O w' [Ob.v (tMk true) l (.pointer (some ⟨g_7, 0, none⟩)), Ob.v (tMk (decide (openE g l ([] : List Int) = 0))) l (.pointer (some ⟨g_7, 0, none⟩))] ∧ 0 ≤ k ∧ k ≤ rg.length ∧ PrI g l rg k 0) (fun (k : Int) => (rg.length - k).toNat) 0 ⟨rfl, trivial⟩ ⟨hS, (by first | omega | simp), (by first | omega | simp), (PrI.go h0c)⟩ ?_
    rintro k u_11 w_10 ⟨hS, h0, h1, h2⟩
    refine W.seq ?_
    refine W.reg ?_
    refine Wx.rd (v := .bool (decide (k < (rg.length : Int)))) (rd_lss rfl rfl) rfl ?_
    refine Wx.nil ?_
    refine W.seq ?_
    refine W.condD rfl (fun c1 => ?_) (fun c1 => ?_)
    · -- yes
      refine W.skip ?_
      refine W.seq ?_
      refine W.block ?_
      refine W.seq ?_
      refine W.reg ?_
      refine Wx.rd (v := .int .i64 k) (rd_move rfl) rfl ?_
      refine Wx.ex (rd_index 0 (hS.arg a_rw) rfl rfl Try.underlying39 Try.sizeOf3 (by first | omega | (simp only [List.length_set, List.length_append, List.length_cons, List.length_nil, List.length_replicate]; omega)) (by first | omega | (simp only [List.length_set, List.length_append, List.length_cons, List.length_nil, List.length_replicate]; omega))) rfl (fun p_12 hp_13 => ?_)
      refine Wx.rd (v := .int .i64 (ix 0 rg k)) (rd_loadI hp_13 rfl Try.isAgg3 Try.sizeOf3) rfl ?_
      have bd_14 := bd_i64 hp_13.inK
      refine Wx.rd (v := .int .i64 k) (rd_assign rfl) rfl ?_
      refine Wx.rd (v := .int .i64 (ix 0 rg k)) (rd_assign rfl) rfl ?_
      refine Wx.nil ?_
      refine W.block ?_
      refine W.seq ?_
      refine W.reg ?_
      refine Wx.rd (v := .int .i64 (ix 0 rg k)) (rd_move rfl) rfl ?_
      refine Wx.rd (v := .bool (decide ((ix 0 rg k) < 0))) (rd_lss rfl rfl) rfl ?_
      refine Wx.rd (v := .bool (decide ((ix 0 rg k) < 0))) (rd_move rfl) rfl ?_
      refine Wx.cut (X := Unit) 5 [35, 36, 37, 38, 39] (fun _ => [(39, .bool (decide ((ix 0 rg k) < 0) || decide ((l.length : Int) ≤ (ix 0 rg k))))]) (fun _ w' => St w O w' [Ob.v (tMk true) l (.pointer (some ⟨g_7, 0, none⟩)), Ob.v (tMk (decide (openE g l ([] : List Int) = 0))) l (.pointer (some ⟨g_7, 0, none⟩))]) ?_ ?_
      · rcases Bool.eq_false_or_eq_true (decide ((ix 0 rg k) < 0)) with g_15 | g_15
        · -- True
          have gp_16 := of_decide_eq_true g_15
          refine Wx.gnoB rfl rfl (congrArg Value.bool g_15) rfl rfl ?_
          refine Wx.gnoB rfl rfl (congrArg Value.bool g_15) rfl rfl ?_
          refine Wx.gnoB rfl rfl (congrArg Value.bool g_15) rfl rfl ?_
          refine Wx.gnoB rfl rfl (congrArg Value.bool g_15) rfl rfl ?_
          refine Wx.rd (v := .bool true) (rd_pickT (congrArg Value.bool g_15) rfl) rfl ?_
          refine Wx.nil ⟨(), hS, ⟨?_, trivial⟩, Out.look rfl Out.refl⟩
          show Value.bool true = Value.bool (decide ((ix 0 rg k) < 0) || decide ((l.length : Int) ≤ (ix 0 rg k)))
          first | rw [g_15, Bool.true_or] | (rw [g_15]; rfl)
        · -- False
          have gp_17 := of_decide_eq_false g_15
          refine Wx.gyes rfl rfl (congrArg Value.bool g_15) ?_
          refine Wx.rd (v := .int .i64 (ix 0 rg k)) (rd_move rfl) rfl ?_
          refine Wx.gyes rfl rfl (congrArg Value.bool g_15) ?_
          refine Wx.rd (v := v) (rd_move rfl) rfl ?_
          refine Wx.gyes rfl rfl (congrArg Value.bool g_15) ?_
          refine Wx.rd (v := .int .i64 (l.length : Int)) (rd_lenV rfl (hS.arg a_v) Try.underlying22) rfl ?_
          refine Wx.gyes rfl rfl (congrArg Value.bool g_15) ?_
          refine Wx.rd (v := .bool (decide ((l.length : Int) ≤ (ix 0 rg k)))) (rd_geq rfl rfl) rfl ?_
          refine Wx.rd (v := .bool (decide ((l.length : Int) ≤ (ix 0 rg k)))) (rd_pickF (congrArg Value.bool g_15) rfl) rfl ?_
          refine Wx.nil ⟨(), hS, ⟨?_, trivial⟩, Out.look rfl Out.refl⟩
          show Value.bool (decide ((l.length : Int) ≤ (ix 0 rg k))) = Value.bool (decide ((ix 0 rg k) < 0) || decide ((l.length : Int) ≤ (ix 0 rg k)))
          first | rw [g_15, Bool.false_or] | (rw [g_15]; rfl)
      rintro ⟨⟩ u_19 w_18 hS
      refine Wx.rd (v := .bool (decide ((ix 0 rg k) < 0) || decide ((l.length : Int) ≤ (ix 0 rg k)))) (rd_assign rfl) rfl ?_
      refine Wx.nil ?_
      refine W.cond rfl (fun c2 => ?_) (fun c2 => ?_)
      · -- yes
        try simp only [Bool.and_eq_true, Bool.or_eq_true, Bool.not_eq_true', Bool.and_eq_false_iff, Bool.or_eq_false_iff, Bool.not_eq_false', decide_eq_true_eq, decide_eq_false_iff_not, not_or, Bool.false_eq_true, Bool.true_eq_false, false_or, or_false, not_false_eq_true] at c2
        refine W.seq ?_
        refine W.reg ?_
        refine Wx.rd (v := .int .i64 2) (rd_assign rfl) rfl ?_
        refine Wx.nil ?_
        have e1_0 : (provesE g l rg) = (2 : Int) := by exact (h2.none h0 c1 rfl (by omega)).out (by decide)
        exact W.ret ⟨.int .i64 2, ResIs.one, hS.bel, (by rw [e1_0])⟩
      · -- no
        try simp only [Bool.and_eq_true, Bool.or_eq_true, Bool.not_eq_true', Bool.and_eq_false_iff, Bool.or_eq_false_iff, Bool.not_eq_false', decide_eq_true_eq, decide_eq_false_iff_not, not_or, Bool.false_eq_true, Bool.true_eq_false, false_or, or_false, not_false_eq_true] at c2
        refine W.seq ?_
        refine W.reg ?_
        refine Wx.rd (v := rw) (rd_move rfl) rfl ?_
        refine Wx.rd (v := .int .i64 k) (rd_move rfl) rfl ?_
        refine Wx.ex (rd_sliceH (hS.arg a_rw) Try.underlying39 Try.sizeOf3 rfl rfl (by omega) (by omega)) rfl (fun u_20 hu_21 => ?_)
        have ln_22 := hu_21.len63
        have hS := hS.add hu_21
        refine Wx.rd (v := .int .i64 (ix 0 rg k)) (rd_move rfl) rfl ?_
        refine Wx.callF (run_callF Try.call55 rfl) (F55 (hS.v 0 rfl) (in_i64 (by omega) (by omega))) rfl ?_
        rintro r_24 w_25 hx_26 rfl
        have hS := hS.ext hx_26
        refine Wx.rd (v := .bool (hasL (rg.take k.toNat) (ix 0 rg k))) (rd_assign rfl) rfl ?_
        refine Wx.nil ?_
        refine W.cond rfl (fun c3 => ?_) (fun c3 => ?_)
        · -- yes
          try simp only [Bool.and_eq_true, Bool.or_eq_true, Bool.not_eq_true', Bool.and_eq_false_iff, Bool.or_eq_false_iff, Bool.not_eq_false', decide_eq_true_eq, decide_eq_false_iff_not, not_or, Bool.false_eq_true, Bool.true_eq_false, false_or, or_false, not_false_eq_true] at c3
          refine W.seq ?_
          refine W.reg ?_
          refine Wx.rd (v := .int .i64 6) (rd_assign rfl) rfl ?_
          refine Wx.nil ?_
          have e2_0 : (provesE g l rg) = (6 : Int) := by exact (h2.twice h0 c1 rfl (by omega) c3).out (by decide)
          exact W.ret ⟨.int .i64 6, ResIs.one, hS.bel, (by rw [e2_0])⟩
        · -- no
          try simp only [Bool.and_eq_true, Bool.or_eq_true, Bool.not_eq_true', Bool.and_eq_false_iff, Bool.or_eq_false_iff, Bool.not_eq_false', decide_eq_true_eq, decide_eq_false_iff_not, not_or, Bool.false_eq_true, Bool.true_eq_false, false_or, or_false, not_false_eq_true] at c3
          refine W.skip ?_
          refine W.reg ?_
          refine Wx.rd (v := .int .i64 (k + 1)) (rd_add rfl rfl (in_i64 (by omega) (by omega))) rfl ?_
          refine Wx.rd (v := .int .i64 (k + 1)) (rd_move rfl) rfl ?_
          refine Wx.nil ?_
          refine ⟨k + 1, (by show (rg.length - (k + 1)).toNat < (rg.length - k).toNat; omega), ?_, ?_, Out.look rfl (Out.hav rfl (Out.look rfl Out.self))⟩
          · exact ⟨hS.tl, (by first | omega | assumption), (by first | omega | assumption), (h2.next h0 c1 rfl (by omega) c3)⟩
          · exact ⟨rfl, trivial⟩
    · -- no
      have hfin := h2.fin (.inl c1)
      have p_b := (hfin.2 rfl).2
      refine W.exit rfl ?_
      refine W.seq ?_
      refine W.reg ?_
      refine Wx.rd (v := .bool false) (rd_assign rfl) rfl ?_
      refine Wx.nil ?_
      refine W.seq ?_
      refine W.seq ?_
      refine W.reg ?_
      refine Wx.rd (v := rw) (rd_move rfl) rfl ?_
      refine Wx.rd (v := .int .i64 (rg.length : Int)) (rd_lenV rfl (hS.arg a_rw) Try.underlying39) rfl ?_
      refine Wx.rd (v := .int .i64 0) (rd_move rfl) rfl ?_
      refine Wx.nil ?_
      refine W.block ?_
      refine W.loop [6, 11, 12, 13, 14, 49, 50, 51, 52, 53, 54, 55, 56, 57, 58, 59, 60, 61, 62, 63, 64, 65, 66, 67, 68, 69, 70, 71, 72, 73, 74, 75, 76, 77, 78, 79, 80, 81, 82, 83, 84, 85, 86, 87, 88, 89, 90, 91, 92, 93, 94, 95, 96, 97] (fun x : Bool × Int => match x with | (bt, i) => [(11, .bool bt), (49, .int .i64 i)]) (fun (x : Bool × Int) w' => match x with | (bt, i) => St w O w' [Ob.v (tMk true) l (.pointer (some ⟨g_7, 0, none⟩)), Ob.v (tMk (decide (openE g l ([] : List Int) = 0))) l (.pointer (some ⟨g_7, 0, none⟩))] ∧ 0 ≤ i ∧ i ≤ rg.length ∧ (∀ k : Int, 0 ≤ k → k < i → cycB (gS l) rg k = true ∧ ix 0 rg 0 ≤ ix 0 rg k) ∧ bt = (rng 0 i).any (cycB (bS l) rg)) (fun x : Bool × Int => match x with | (bt, i) => (rg.length - i).toNat) (false, 0) ⟨rfl, rfl, trivial⟩ ⟨hS, (by first | omega | simp), (by first | omega | simp), (fun k q0 k1 => by omega), (rfl)⟩ ?_
      rintro ⟨bt, i⟩ u_28 w_27 ⟨hS, k0, k1, k2, k3⟩
      refine W.seq ?_
      refine W.reg ?_
      refine Wx.rd (v := .bool (decide (i < (rg.length : Int)))) (rd_lss rfl rfl) rfl ?_
      refine Wx.nil ?_
      refine W.seq ?_
      refine W.condD rfl (fun c4 => ?_) (fun c4 => ?_)
      · -- yes
        obtain ⟨hr1, hr2, hr3, hr4⟩ := ring_in p_b k0 c4
        refine W.skip ?_
        refine W.seq ?_
        refine W.block ?_
        refine W.seq ?_
        refine W.reg ?_
        refine Wx.rd (v := .int .i64 i) (rd_move rfl) rfl ?_
        refine Wx.ex (rd_index 0 (hS.arg a_rw) rfl rfl Try.underlying39 Try.sizeOf3 (by first | omega | (simp only [List.length_set, List.length_append, List.length_cons, List.length_nil, List.length_replicate]; omega)) (by first | omega | (simp only [List.length_set, List.length_append, List.length_cons, List.length_nil, List.length_replicate]; omega))) rfl (fun p_29 hp_30 => ?_)
        refine Wx.rd (v := .int .i64 (ix 0 rg i)) (rd_loadI hp_30 rfl Try.isAgg3 Try.sizeOf3) rfl ?_
        have bd_31 := bd_i64 hp_30.inK
        refine Wx.rd (v := .int .i64 i) (rd_assign rfl) rfl ?_
        refine Wx.rd (v := .int .i64 (ix 0 rg i)) (rd_assign rfl) rfl ?_
        refine Wx.nil ?_
        refine W.seq ?_
        refine W.regH mixedLd_ (fun w_32 hx_33 => ?_)
        have h0 := hS
        have hS := (St.start _ _ h0.fb_lt).ext hx_33
        refine Wh.rd (v := (.pointer (some ⟨g_7, 0, none⟩))) 0 rfl (by kernel_rfl) hS.bel (rd_move rfl) rfl ?_
        refine Wh.rd (v := (.pointer (some ⟨g_7, 0, none⟩))) 1 rfl (by kernel_rfl) hS.bel (rd_nilCheck rfl rfl) rfl ?_
        refine Wh.rd (v := .pointer (some ⟨g_7, 0, none⟩)) 2 rfl (by kernel_rfl) hS.bel (rd_fieldAddr rfl foLd_93_0) rfl ?_
        refine Wh.ex 3 rfl (by kernel_rfl) hS.bel (rd_mkS (h0.v 0 rfl) rfl Try.isAgg22) rfl (fun v_34 hv_35 => ?_)
        have ln_36 := hv_35.len63
        refine Wh.rd (v := rw) 4 rfl (by kernel_rfl) hS.bel (rd_move rfl) rfl ?_
        refine Wh.rd (v := .int .i64 i) 5 rfl (by kernel_rfl) hS.bel (rd_move rfl) rfl ?_
        refine Wh.rd (v := .int .i64 (i + 1)) 6 rfl (by kernel_rfl) hS.bel (rd_add rfl rfl (in_i64 (by omega) (by omega))) rfl ?_
        refine Wh.rd (v := rw) 7 rfl (by kernel_rfl) hS.bel (rd_move rfl) rfl ?_
        refine Wh.rd (v := .int .i64 (rg.length : Int)) 8 rfl (by kernel_rfl) hS.bel (rd_lenV rfl (h0.arg a_rw) Try.underlying39) rfl ?_
        refine Wh.rd (v := .int .i64 ((i + 1) % (rg.length : Int))) 9 rfl (by kernel_rfl) hS.bel (rd_rem rfl rfl (by omega) (by omega)) rfl ?_
        refine Wh.ex 10 rfl (by kernel_rfl) hS.bel (rd_index 0 (h0.arg a_rw) rfl rfl Try.underlying39 Try.sizeOf3 (Int.emod_nonneg _ (by omega)) (Int.emod_lt_of_pos _ (by omega))) rfl (fun p_37 hp_38 => ?_)
        refine Wh.rd (v := .int .i64 (ix 0 rg ((i + 1) % (rg.length : Int)))) 11 rfl (by kernel_rfl) hS.bel (rd_loadI hp_38 rfl Try.isAgg3 Try.sizeOf3) rfl ?_
        have bd_39 := bd_i64 hp_38.inK
        refine Wh.ex 12 rfl (by kernel_rfl) hS.bel (rd_index ([], []) hv_35 rfl rfl Try.underlying22 Try.sizeOf62 (by first | omega | (simp only [List.length_set, List.length_append, List.length_cons, List.length_nil, List.length_replicate]; omega)) (by first | omega | (simp only [List.length_set, List.length_append, List.length_cons, List.length_nil, List.length_replicate]; omega))) rfl (fun p_40 hp_41 => ?_)
        refine Wh.ex 13 rfl (by kernel_rfl) hS.bel (rd_load hp_41 rfl Try.isAgg62 Try.sizeOf62) rfl (fun v_42 hv_43 => ?_)
        obtain ⟨v_44, v_45, rfl, hv_46, hv_47⟩ := hv_43.s2
        have ln_48 := hv_46.len63
        have ln_49 := hv_47.len63
        refine Wh.br [14] (by kernel_rfl) (by decide) ⟨⟨_, rfl, ?_⟩, trivial⟩
        refine Wx.alloc (cs := [(.slice none 0 0), (.slice none 0 0)]) hS Try.zeroValue62 rfl rfl (fun g_50 w_51 hx_53 hb_52 hS => ?_)
        refine Wx.nil ⟨hS.bel, ?_⟩
        refine Wh.br [15] (by kernel_rfl) (by decide) ⟨⟨_, rfl, ?_⟩, trivial⟩
        refine Wx.storeX (cs' := [v_44, v_45]) (ds := [v_44, v_45]) hS 0 rfl rfl rfl rfl Try.sizeOf62 (Nat.le_of_ble_eq_true rfl) (one_cons (V.oneC (hS.arg hv_46)) (one_cons (V.oneC (hS.arg hv_47)) one_nil)) rfl (fun w_54 hz_55 hS => ?_)
        refine Wx.nil ⟨hS.bel, ?_⟩
        refine Wh.done (by kernel_rfl) ?_
        have hm_56 := V.merge hS hv_46
        have hm_57 := V.merge hS hv_47
        have hS := h0.merge hS
        have hS := hS.add (hm_56)
        have hS := hS.add (V.upF (hm_57))
        refine W.seq ?_
        refine W.seq ?_
        refine W.regQ mixedLd_ (by kernel_rfl) ?_
        refine Wx.rd (v := (.pointer (some ⟨g_7, 0, none⟩))) (rd_move rfl) rfl ?_
        refine Wx.rd (v := (.pointer (some ⟨g_7, 0, none⟩))) (rd_nilCheck rfl rfl) rfl ?_
        refine Wx.rd (v := .pointer (some ⟨g_7, 0, none⟩)) (rd_fieldAddr rfl foLd_93_0) rfl ?_
        refine Wx.ex (rd_mkS (hS.v 3 rfl) rfl Try.isAgg22) rfl (fun v_60 hv_61 => ?_)
        have ln_62 := hv_61.len63
        have hS := hS.add hv_61
        refine Wx.rd (v := .int .i64 (ix 0 rg i)) (rd_move rfl) rfl ?_
        refine Wx.ex (rd_index ([], []) (hS.v 0 rfl) rfl rfl Try.underlying22 Try.sizeOf62 (by first | omega | (simp only [List.length_set, List.length_append, List.length_cons, List.length_nil, List.length_replicate]; omega)) (by first | omega | (simp only [List.length_set, List.length_append, List.length_cons, List.length_nil, List.length_replicate]; omega))) rfl (fun p_64 hp_65 => ?_)
        refine Wx.ex (rd_load hp_65 rfl Try.isAgg62 Try.sizeOf62) rfl (fun v_66 hv_67 => ?_)
        obtain ⟨v_68, v_69, rfl, hv_70, hv_71⟩ := hv_67.s2
        have hS := hS.add (hv_70)
        have ln_73 := (hS.v 0 rfl).len63
        have hS := hS.add (V.upF (hv_71))
        have ln_75 := (hS.v 0 rfl).len63
        refine Wx.rd (v := .agg #[v_44, v_45]) (rd_loadXs (ds := [v_44, v_45]) hS 5 rfl rfl rfl rfl Try.isAgg62 Try.sizeOf62) rfl ?_
        refine Wx.callV (v := .bool (goodS (((ix ([], []) l (ix 0 rg i)).1), ((ix ([], []) l (ix 0 rg i)).2)) (((ix ([], []) l (ix 0 rg ((i + 1) % (rg.length : Int)))).1), ((ix ([], []) l (ix 0 rg ((i + 1) % (rg.length : Int)))).2)))) (run_callF Try.call67 rfl) (fun w_76 hw_77 => (F67 ((hS.v 1 rfl).ext hw_77) ((hS.v 0 rfl).ext hw_77) ((hS.v 4 rfl).ext hw_77) ((hS.v 3 rfl).ext hw_77) (hok (ix 0 rg i) (by omega) (by omega)).b1 (hok (ix 0 rg i) (by omega) (by omega)).b2 (hok (ix 0 rg ((i + 1) % (rg.length : Int))) (by omega) (by omega)).b2 (by have := (hok (ix 0 rg i) (by omega) (by omega)).l1; omega) (by have h1 := (hok (ix 0 rg i) (by omega) (by omega)).l1; have h2 := (hok (ix 0 rg i) (by omega) (by omega)).l2; omega) (by have h1 := (hok (ix 0 rg i) (by omega) (by omega)).l1; have h2 := (hok (ix 0 rg ((i + 1) % (rg.length : Int))) (by omega) (by omega)).l2; omega))) rfl ?_
        refine Wx.rd (v := .bool (!(goodS (((ix ([], []) l (ix 0 rg i)).1), ((ix ([], []) l (ix 0 rg i)).2)) (((ix ([], []) l (ix 0 rg ((i + 1) % (rg.length : Int)))).1), ((ix ([], []) l (ix 0 rg ((i + 1) % (rg.length : Int)))).2))))) (rd_not rfl) rfl ?_
        refine Wx.rd (v := .bool (!(goodS (((ix ([], []) l (ix 0 rg i)).1), ((ix ([], []) l (ix 0 rg i)).2)) (((ix ([], []) l (ix 0 rg ((i + 1) % (rg.length : Int)))).1), ((ix ([], []) l (ix 0 rg ((i + 1) % (rg.length : Int)))).2))))) (rd_move rfl) rfl ?_
        refine Wx.cutQ (X := Unit) 6 [79, 80, 81, 82, 83, 84] (fun _ => [(84, .bool (!(goodS (((ix ([], []) l (ix 0 rg i)).1), ((ix ([], []) l (ix 0 rg i)).2)) (((ix ([], []) l (ix 0 rg ((i + 1) % (rg.length : Int)))).1), ((ix ([], []) l (ix 0 rg ((i + 1) % (rg.length : Int)))).2))) || decide ((ix 0 rg i) < (ix 0 rg 0))))]) (fun _ => True) ?_ ?_
        · rcases Bool.eq_false_or_eq_true (!(goodS (((ix ([], []) l (ix 0 rg i)).1), ((ix ([], []) l (ix 0 rg i)).2)) (((ix ([], []) l (ix 0 rg ((i + 1) % (rg.length : Int)))).1), ((ix ([], []) l (ix 0 rg ((i + 1) % (rg.length : Int)))).2)))) with g_78 | g_78
          · -- True
            have gp_79 := g_78
            try simp only [Bool.and_eq_true, Bool.or_eq_true, Bool.not_eq_true', Bool.and_eq_false_iff, Bool.or_eq_false_iff, Bool.not_eq_false', decide_eq_true_eq, decide_eq_false_iff_not, not_or, Bool.false_eq_true, Bool.true_eq_false, false_or, or_false, not_false_eq_true] at gp_79
            refine Wx.gnoB rfl rfl (congrArg Value.bool g_78) rfl rfl ?_
            refine Wx.gnoB rfl rfl (congrArg Value.bool g_78) rfl rfl ?_
            refine Wx.gnoB rfl rfl (congrArg Value.bool g_78) rfl rfl ?_
            refine Wx.gnoB rfl rfl (congrArg Value.bool g_78) rfl rfl ?_
            refine Wx.gnoB rfl rfl (congrArg Value.bool g_78) rfl rfl ?_
            refine Wx.rd (v := .bool true) (rd_pickT (congrArg Value.bool g_78) rfl) rfl ?_
            refine Wx.nilQ (fun _ _ => ⟨(), trivial, ⟨?_, trivial⟩, Out.look rfl Out.refl⟩)
            show Value.bool true = Value.bool (!(goodS (((ix ([], []) l (ix 0 rg i)).1), ((ix ([], []) l (ix 0 rg i)).2)) (((ix ([], []) l (ix 0 rg ((i + 1) % (rg.length : Int)))).1), ((ix ([], []) l (ix 0 rg ((i + 1) % (rg.length : Int)))).2))) || decide ((ix 0 rg i) < (ix 0 rg 0)))
            first | rw [g_78, Bool.true_or] | (rw [g_78]; rfl)
          · -- False
            have gp_80 := g_78
            try simp only [Bool.and_eq_true, Bool.or_eq_true, Bool.not_eq_true', Bool.and_eq_false_iff, Bool.or_eq_false_iff, Bool.not_eq_false', decide_eq_true_eq, decide_eq_false_iff_not, not_or, Bool.false_eq_true, Bool.true_eq_false, false_or, or_false, not_false_eq_true] at gp_80
            refine Wx.gyes rfl rfl (congrArg Value.bool g_78) ?_
            refine Wx.rd (v := .int .i64 (ix 0 rg i)) (rd_move rfl) rfl ?_
            refine Wx.gyes rfl rfl (congrArg Value.bool g_78) ?_
            refine Wx.rd (v := rw) (rd_move rfl) rfl ?_
            refine Wx.gyes rfl rfl (congrArg Value.bool g_78) ?_
            refine Wx.ex (rd_index 0 (hS.arg a_rw) rfl rfl Try.underlying39 Try.sizeOf3 (by first | omega | (simp only [List.length_set, List.length_append, List.length_cons, List.length_nil, List.length_replicate]; omega)) (by first | omega | (simp only [List.length_set, List.length_append, List.length_cons, List.length_nil, List.length_replicate]; omega))) rfl (fun p_81 hp_82 => ?_)
            refine Wx.gyes rfl rfl (congrArg Value.bool g_78) ?_
            refine Wx.rd (v := .int .i64 (ix 0 rg 0)) (rd_loadI hp_82 rfl Try.isAgg3 Try.sizeOf3) rfl ?_
            have bd_83 := bd_i64 hp_82.inK
            refine Wx.gyes rfl rfl (congrArg Value.bool g_78) ?_
            refine Wx.rd (v := .bool (decide ((ix 0 rg i) < (ix 0 rg 0)))) (rd_lss rfl rfl) rfl ?_
            refine Wx.rd (v := .bool (decide ((ix 0 rg i) < (ix 0 rg 0)))) (rd_pickF (congrArg Value.bool g_78) rfl) rfl ?_
            refine Wx.nilQ (fun _ _ => ⟨(), trivial, ⟨?_, trivial⟩, Out.look rfl Out.refl⟩)
            show Value.bool (decide ((ix 0 rg i) < (ix 0 rg 0))) = Value.bool (!(goodS (((ix ([], []) l (ix 0 rg i)).1), ((ix ([], []) l (ix 0 rg i)).2)) (((ix ([], []) l (ix 0 rg ((i + 1) % (rg.length : Int)))).1), ((ix ([], []) l (ix 0 rg ((i + 1) % (rg.length : Int)))).2))) || decide ((ix 0 rg i) < (ix 0 rg 0)))
            first | rw [g_78, Bool.false_or] | (rw [g_78]; rfl)
        rintro ⟨⟩ u_85 -
        refine Wx.nilQ (fun w_86 hx_87 => ?_)
        have hS := hS.ext hx_87
        refine W.cond rfl (fun c5 => ?_) (fun c5 => ?_)
        · -- yes
          try simp only [Bool.and_eq_true, Bool.or_eq_true, Bool.not_eq_true', Bool.and_eq_false_iff, Bool.or_eq_false_iff, Bool.not_eq_false', decide_eq_true_eq, decide_eq_false_iff_not, not_or, Bool.false_eq_true, Bool.true_eq_false, false_or, or_false, not_false_eq_true] at c5
          refine W.seq ?_
          refine W.reg ?_
          refine Wx.rd (v := .int .i64 14) (rd_assign rfl) rfl ?_
          refine Wx.nil ?_
          have e3_0 : (provesE g l rg) = (14 : Int) := by exact prv_no hfin.1 (closes_no (G := gS l) (B := bS l) k0 c4 c5)
          exact W.ret ⟨.int .i64 14, ResIs.one, hS.bel, (by rw [e3_0])⟩
        · -- no
          try simp only [Bool.and_eq_true, Bool.or_eq_true, Bool.not_eq_true', Bool.and_eq_false_iff, Bool.or_eq_false_iff, Bool.not_eq_false', decide_eq_true_eq, decide_eq_false_iff_not, not_or, Bool.false_eq_true, Bool.true_eq_false, false_or, or_false, not_false_eq_true] at c5
          refine W.skip ?_
          refine W.regQ mixedLd_ (by kernel_rfl) ?_
          refine Wx.rd (v := .bool bt) (rd_move rfl) rfl ?_
          refine Wx.rd (v := .bool bt) (rd_move rfl) rfl ?_
          refine Wx.cutQ (X := Unit) 10 [87, 88, 89, 90, 91, 92, 93, 94, 95, 96] (fun _ => [(96, .bool (bt || betterS (((ix ([], []) l (ix 0 rg i)).1), ((ix ([], []) l (ix 0 rg i)).2)) (((ix ([], []) l (ix 0 rg ((i + 1) % (rg.length : Int)))).1), ((ix ([], []) l (ix 0 rg ((i + 1) % (rg.length : Int)))).2))))]) (fun _ => True) ?_ ?_
          · rcases Bool.eq_false_or_eq_true bt with g_88 | g_88
            · -- True
              have gp_89 := g_88
              try simp only [Bool.and_eq_true, Bool.or_eq_true, Bool.not_eq_true', Bool.and_eq_false_iff, Bool.or_eq_false_iff, Bool.not_eq_false', decide_eq_true_eq, decide_eq_false_iff_not, not_or, Bool.false_eq_true, Bool.true_eq_false, false_or, or_false, not_false_eq_true] at gp_89
              refine Wx.gnoB rfl rfl (congrArg Value.bool g_88) rfl rfl ?_
              refine Wx.gnoB rfl rfl (congrArg Value.bool g_88) rfl rfl ?_
              refine Wx.gnoB rfl rfl (congrArg Value.bool g_88) rfl rfl ?_
              refine Wx.gnoB rfl rfl (congrArg Value.bool g_88) rfl rfl ?_
              refine Wx.gnoB rfl rfl (congrArg Value.bool g_88) rfl rfl ?_
              refine Wx.gnoB rfl rfl (congrArg Value.bool g_88) rfl rfl ?_
              refine Wx.gnoB rfl rfl (congrArg Value.bool g_88) rfl rfl ?_
              refine Wx.gnoB rfl rfl (congrArg Value.bool g_88) rfl rfl ?_
              refine Wx.gnoB rfl rfl (congrArg Value.bool g_88) rfl rfl ?_
              refine Wx.rd (v := .bool true) (rd_pickT (congrArg Value.bool g_88) rfl) rfl ?_
              refine Wx.nilQ (fun _ _ => ⟨(), trivial, ⟨?_, trivial⟩, Out.look rfl Out.refl⟩)
              show Value.bool true = Value.bool (bt || betterS (((ix ([], []) l (ix 0 rg i)).1), ((ix ([], []) l (ix 0 rg i)).2)) (((ix ([], []) l (ix 0 rg ((i + 1) % (rg.length : Int)))).1), ((ix ([], []) l (ix 0 rg ((i + 1) % (rg.length : Int)))).2)))
              first | rw [g_88, Bool.true_or] | (rw [g_88]; rfl)
            · -- False
              have gp_90 := g_88
              try simp only [Bool.and_eq_true, Bool.or_eq_true, Bool.not_eq_true', Bool.and_eq_false_iff, Bool.or_eq_false_iff, Bool.not_eq_false', decide_eq_true_eq, decide_eq_false_iff_not, not_or, Bool.false_eq_true, Bool.true_eq_false, false_or, or_false, not_false_eq_true] at gp_90
              refine Wx.gyes rfl rfl (congrArg Value.bool g_88) ?_
              refine Wx.rd (v := (.pointer (some ⟨g_7, 0, none⟩))) (rd_move rfl) rfl ?_
              refine Wx.gyes rfl rfl (congrArg Value.bool g_88) ?_
              refine Wx.rd (v := (.pointer (some ⟨g_7, 0, none⟩))) (rd_nilCheck rfl rfl) rfl ?_
              refine Wx.gyes rfl rfl (congrArg Value.bool g_88) ?_
              refine Wx.rd (v := .pointer (some ⟨g_7, 0, none⟩)) (rd_fieldAddr rfl foLd_93_0) rfl ?_
              refine Wx.gyes rfl rfl (congrArg Value.bool g_88) ?_
              refine Wx.ex (rd_mkS (hS.v 6 rfl) rfl Try.isAgg22) rfl (fun v_91 hv_92 => ?_)
              have ln_93 := hv_92.len63
              have hS := hS.add hv_92
              refine Wx.gyes rfl rfl (congrArg Value.bool g_88) ?_
              refine Wx.rd (v := .int .i64 (ix 0 rg i)) (rd_move rfl) rfl ?_
              refine Wx.gyes rfl rfl (congrArg Value.bool g_88) ?_
              refine Wx.ex (rd_index ([], []) (hS.v 0 rfl) rfl rfl Try.underlying22 Try.sizeOf62 (by first | omega | (simp only [List.length_set, List.length_append, List.length_cons, List.length_nil, List.length_replicate]; omega)) (by first | omega | (simp only [List.length_set, List.length_append, List.length_cons, List.length_nil, List.length_replicate]; omega))) rfl (fun p_95 hp_96 => ?_)
              refine Wx.gyes rfl rfl (congrArg Value.bool g_88) ?_
              refine Wx.ex (rd_load hp_96 rfl Try.isAgg62 Try.sizeOf62) rfl (fun v_97 hv_98 => ?_)
              obtain ⟨v_99, v_100, rfl, hv_101, hv_102⟩ := hv_98.s2
              have hS := hS.add (hv_101)
              have ln_104 := (hS.v 0 rfl).len63
              have hS := hS.add (V.upF (hv_102))
              have ln_106 := (hS.v 0 rfl).len63
              refine Wx.gyes rfl rfl (congrArg Value.bool g_88) ?_
              refine Wx.rd (v := .agg #[v_44, v_45]) (rd_loadXs (ds := [v_44, v_45]) hS 8 rfl rfl rfl rfl Try.isAgg62 Try.sizeOf62) rfl ?_
              refine Wx.gyes rfl rfl (congrArg Value.bool g_88) ?_
              refine Wx.callV (v := .bool (betterS (((ix ([], []) l (ix 0 rg i)).1), ((ix ([], []) l (ix 0 rg i)).2)) (((ix ([], []) l (ix 0 rg ((i + 1) % (rg.length : Int)))).1), ((ix ([], []) l (ix 0 rg ((i + 1) % (rg.length : Int)))).2)))) (run_callF Try.call69 rfl) (fun w_107 hw_108 => (F69 ((hS.v 1 rfl).ext hw_108) ((hS.v 0 rfl).ext hw_108) ((hS.v 7 rfl).ext hw_108) ((hS.v 6 rfl).ext hw_108) (hok (ix 0 rg i) (by omega) (by omega)).b1 (hok (ix 0 rg i) (by omega) (by omega)).b2 (hok (ix 0 rg ((i + 1) % (rg.length : Int))) (by omega) (by omega)).b2 (by have := (hok (ix 0 rg i) (by omega) (by omega)).l1; omega) (by have h1 := (hok (ix 0 rg i) (by omega) (by omega)).l1; have h2 := (hok (ix 0 rg i) (by omega) (by omega)).l2; omega) (by have h1 := (hok (ix 0 rg i) (by omega) (by omega)).l1; have h2 := (hok (ix 0 rg ((i + 1) % (rg.length : Int))) (by omega) (by omega)).l2; omega))) rfl ?_
              refine Wx.rd (v := .bool (betterS (((ix ([], []) l (ix 0 rg i)).1), ((ix ([], []) l (ix 0 rg i)).2)) (((ix ([], []) l (ix 0 rg ((i + 1) % (rg.length : Int)))).1), ((ix ([], []) l (ix 0 rg ((i + 1) % (rg.length : Int)))).2)))) (rd_pickF (congrArg Value.bool g_88) rfl) rfl ?_
              refine Wx.nilQ (fun _ _ => ⟨(), trivial, ⟨?_, trivial⟩, Out.look rfl Out.refl⟩)
              show Value.bool (betterS (((ix ([], []) l (ix 0 rg i)).1), ((ix ([], []) l (ix 0 rg i)).2)) (((ix ([], []) l (ix 0 rg ((i + 1) % (rg.length : Int)))).1), ((ix ([], []) l (ix 0 rg ((i + 1) % (rg.length : Int)))).2))) = Value.bool (bt || betterS (((ix ([], []) l (ix 0 rg i)).1), ((ix ([], []) l (ix 0 rg i)).2)) (((ix ([], []) l (ix 0 rg ((i + 1) % (rg.length : Int)))).1), ((ix ([], []) l (ix 0 rg ((i + 1) % (rg.length : Int)))).2)))
              first | rw [g_88, Bool.false_or] | (rw [g_88]; rfl)
          rintro ⟨⟩ u_110 -
          refine Wx.rd (v := .bool (bt || betterS (((ix ([], []) l (ix 0 rg i)).1), ((ix ([], []) l (ix 0 rg i)).2)) (((ix ([], []) l (ix 0 rg ((i + 1) % (rg.length : Int)))).1), ((ix ([], []) l (ix 0 rg ((i + 1) % (rg.length : Int)))).2)))) (rd_assign rfl) rfl ?_
          refine Wx.nilQ (fun w_111 hx_112 => ?_)
          have hS := hS.ext hx_112
          refine W.reg ?_
          refine Wx.rd (v := .int .i64 (i + 1)) (rd_add rfl rfl (in_i64 (by omega) (by omega))) rfl ?_
          refine Wx.rd (v := .int .i64 (i + 1)) (rd_move rfl) rfl ?_
          refine Wx.nil ?_
          refine ⟨((bt || betterS (((ix ([], []) l (ix 0 rg i)).1), ((ix ([], []) l (ix 0 rg i)).2)) (((ix ([], []) l (ix 0 rg ((i + 1) % (rg.length : Int)))).1), ((ix ([], []) l (ix 0 rg ((i + 1) % (rg.length : Int)))).2))), i + 1), (by show (rg.length - (i + 1)).toNat < (rg.length - i).toNat; omega), ?_, ?_, Out.look rfl (Out.hav rfl (Out.look rfl (Out.hav rfl (Out.look rfl Out.self))))⟩
          · exact ⟨St.tl (St.tl (St.tl (St.tl (St.tl (hS.tl))))), (by first | omega | assumption), (by first | omega | assumption), (fun k q0 k1 => by by_cases hk : k = i; (subst hk; exact ⟨c5.1, by omega⟩); exact k2 k q0 (by omega)), (by rw [rng_snoc k0, List.any_append, ← k3]; simp only [List.any_cons, List.any_nil, Bool.or_false]; rfl)⟩
          · exact ⟨rfl, rfl, trivial⟩
      · -- no
        refine W.exit rfl ?_
        refine W.seq ?_
        refine W.seq ?_
        refine W.reg ?_
        refine Wx.rd (v := .bool bt) (rd_move rfl) rfl ?_
        refine Wx.rd (v := .bool (!bt)) (rd_not rfl) rfl ?_
        refine Wx.nil ?_
        refine W.cond rfl (fun c6 => ?_) (fun c6 => ?_)
        · -- yes
          try simp only [Bool.and_eq_true, Bool.or_eq_true, Bool.not_eq_true', Bool.and_eq_false_iff, Bool.or_eq_false_iff, Bool.not_eq_false', decide_eq_true_eq, decide_eq_false_iff_not, not_or, Bool.false_eq_true, Bool.true_eq_false, false_or, or_false, not_false_eq_true] at c6
          refine W.seq ?_
          refine W.reg ?_
          refine Wx.rd (v := .int .i64 14) (rd_assign rfl) rfl ?_
          refine Wx.nil ?_
          have e4_0 : (provesE g l rg) = (14 : Int) := by exact prv_no hfin.1 (by rw [← closes_yes (B := bS l) (by omega) k2, ← k3]; exact c6)
          exact W.ret ⟨.int .i64 14, ResIs.one, hS.bel, (by rw [e4_0])⟩
        · -- no
          try simp only [Bool.and_eq_true, Bool.or_eq_true, Bool.not_eq_true', Bool.and_eq_false_iff, Bool.or_eq_false_iff, Bool.not_eq_false', decide_eq_true_eq, decide_eq_false_iff_not, not_or, Bool.false_eq_true, Bool.true_eq_false, false_or, or_false, not_false_eq_true] at c6
          refine W.skip ?_
          refine W.seq ?_
          refine W.reg ?_
          refine Wx.rd (v := .int .i64 0) (rd_assign rfl) rfl ?_
          refine Wx.nil ?_
          have e5_0 : (provesE g l rg) = (0 : Int) := by exact prv_yes hfin.1 (by rw [← closes_yes (B := bS l) (by omega) k2, ← k3]; exact c6)
          exact W.ret ⟨.int .i64 0, ResIs.one, hS.bel, (by rw [e5_0])⟩
end Go.Proofs.Ytjbcpggikaeleaa

namespace Go.Proofs.Ytjbcpggikaeleaa
open Go.Wk Go.RowKit Go.Lib
set_option linter.unusedVariables false
set_option linter.unusedSimpArgs false
theorem elLe_39 : ElemI Try.prog 39 3 (.int .i64 0) 1 8 := ElemI.of Try.underlying39 (by kernel_rfl) (by first | rfl | kernel_rfl) (by decide)

theorem F27 {g : Int} {v : Value} {l : List ((List Int) × (List Int))} {a : Int} {b : Int} {O : List (Option Nat)} {w : World} (i_g : InK .i64 g) (h_v : V (tSl (tP (tSl (tI .i64)) (tSl (tI .i64)))) l v O w) (i_a : InK .i64 a) (i_b : InK .i64 b) (hO : ∀ b, some b ∈ O → b < w.heap.size) : Calls Try.prog 27 #[.int .i64 g, v, .int .i64 a, .int .i64 b] w (Ret w (fun r w' => ∃ rv, r = .tuple #[rv, .int .i64 (leastX g l a b)] ∧ V (tSl (tI .i64)) (leastL g l a b) rv O w')) := by
  have b_b := bd_i64 i_b
  have b_a := bd_i64 i_a
  have b_g := bd_i64 i_g
  have a_v := h_v
  have l_v := h_v.len63
  have hS := St.start w O hO
  refine enterR Try.func27 rfl Try.ntmps27 Try.results27 rfl ?_
  refine W.seq ?_
  refine W.reg ?_
  refine Wx.rd (v := (.slice none 0 0)) (rd_assign rfl) rfl ?_
  refine Wx.rd (v := .int .i64 0) (rd_assign rfl) rfl ?_
  refine Wx.nil ?_
  refine W.seq ?_
  refine W.reg ?_
  refine Wx.rd (v := .int .i64 g) (rd_move rfl) rfl ?_
  refine Wx.rd (v := v) (rd_move rfl) rfl ?_
  refine Wx.rd (v := .int .i64 a) (rd_move rfl) rfl ?_
  refine Wx.rd (v := .int .i64 b) (rd_move rfl) rfl ?_
  refine Wx.lit (t := (tI .i64)) (ys := [a, b]) (vs := [.int .i64 a, .int .i64 b]) elLe_39 hS rfl rfl ⟨(V.mkInt (in_i64 (by omega) (by omega))), ⟨(V.mkInt (in_i64 (by omega) (by omega))), trivial⟩⟩ (by decide) rfl (fun v_1 w_2 hx_3 hS => ?_)
  have hS := hS.freeze 0 rfl
  refine Wx.callF (run_callF Try.call62 rfl) (F62 i_g (hS.arg a_v) (hS.v 0 rfl) hS.fb_lt) rfl ?_
  rintro r_5 w_6 hx_7 ⟨v_8, rfl, hv_9⟩
  have hS := hS.ext hx_7
  have hS := hS.add hv_9
  refine Wx.rd (v := .tuple #[v_8, .int .i64 (openE g l [a, b])]) (rd_move rfl) rfl ?_
  refine Wx.rd (v := v_8) (rd_extract rfl rfl) rfl ?_
  refine Wx.rd (v := .int .i64 (openE g l [a, b])) (rd_extract rfl rfl) rfl ?_
  refine Wx.rd (v := v_8) (rd_assign rfl) rfl ?_
  refine Wx.rd (v := .int .i64 (openE g l [a, b])) (rd_assign rfl) rfl ?_
  refine Wx.nil ?_
  refine W.seq ?_
  refine W.seq ?_
  refine W.reg ?_
  refine Wx.rd (v := .int .i64 (openE g l [a, b])) (rd_move rfl) rfl ?_
  refine Wx.rd (v := .bool (decide ((openE g l [a, b]) ≠ 0))) (rd_neq rfl rfl) rfl ?_
  refine Wx.nil ?_
  refine W.condD rfl (fun c0 => ?_) (fun c0 => ?_)
  · -- yes
    refine W.seq ?_
    refine W.reg ?_
    refine Wx.rd (v := .int .i64 (openE g l [a, b])) (rd_move rfl) rfl ?_
    refine Wx.rd (v := (.slice none 0 0)) (rd_assign rfl) rfl ?_
    refine Wx.rd (v := .int .i64 (openE g l [a, b])) (rd_assign rfl) rfl ?_
    refine Wx.nil ?_
    have e0_0 : leastL g l a b = [] := by rw [leastL, if_neg (by rw [← openE_two]; exact c0)]
    have e0_1 : (leastX g l a b) = (openE g l [a, b] : Int) := by rw [leastX, if_neg (by rw [← openE_two]; exact c0)]; exact openE_two.symm
    exact W.ret ⟨.tuple #[(.slice none 0 0), .int .i64 (openE g l [a, b])], ResIs.two, hS.bel, ⟨(.slice none 0 0), (by rw [e0_1]), (by rw [e0_0]; exact (V.nil (t := (tI .i64))))⟩⟩
  · -- no
    have h0 : twoE g l a b = 0 := by rw [← openE_two]; omega
    obtain ⟨h1, h2, h3⟩ := twoE_ok h0
    have hsok := SalesOK.of h1
    obtain ⟨g_11, rfl, hm_12⟩ := V.mkOpen (hS.v 0 rfl) (decide_eq_true (by omega))
    have ok_g_11 := V.mkOK hm_12
    have hS := hS.add hm_12
    refine W.skip ?_
    refine W.seq ?_
    refine W.reg ?_
    refine Wx.rd (v := (.pointer (some ⟨g_11, 0, none⟩))) (rd_move rfl) rfl ?_
    refine Wx.rd (v := .int .i64 a) (rd_move rfl) rfl ?_
    refine Wx.rd (v := .int .i64 b) (rd_move rfl) rfl ?_
    refine Wx.callF (run_callF Try.call74 rfl) (F74 (hS.v 0 rfl) i_a i_b h2 h3 hS.fb_lt) rfl ?_
    rintro r_14 w_15 hx_16 ⟨_, rfl, ⟨hv_17, hn_18⟩⟩
    have ln_20 := hv_17.len63
    have hS := hS.ext hx_16
    have hS := hS.add hv_17
    refine Wx.rd (v := r_14) (rd_assign rfl) rfl ?_
    refine Wx.nil ?_
    refine W.seq ?_
    refine W.seq ?_
    refine W.reg ?_
    refine Wx.rd (v := r_14) (rd_move rfl) rfl ?_
    refine Wx.rd (v := .bool (decide ((shortL l a b) = []))) (rd_eqlNilI (hS.v 0 rfl) rfl rfl Try.underlying39 hn_18) rfl ?_
    refine Wx.nil ?_
    refine W.condD rfl (fun c1 => ?_) (fun c1 => ?_)
    · -- yes
      refine W.seq ?_
      refine W.reg ?_
      refine Wx.rd (v := (.slice none 0 0)) (rd_assign rfl) rfl ?_
      refine Wx.rd (v := .int .i64 12) (rd_assign rfl) rfl ?_
      refine Wx.nil ?_
      have hln := (short_nil h2).1 c1
      have e1_0 : leastL g l a b = [] := by rw [leastL, if_pos h0, hln]; rfl
      have e1_1 : (leastX g l a b) = (12 : Int) := by rw [leastX, if_pos h0, hln]
      exact W.ret ⟨.tuple #[(.slice none 0 0), .int .i64 12], ResIs.two, hS.bel, ⟨(.slice none 0 0), (by rw [e1_1]), (by rw [e1_0]; exact (V.nil (t := (tI .i64))))⟩⟩
    · -- no
      refine W.skip ?_
      refine W.seq ?_
      refine W.reg ?_
      refine Wx.rd (v := r_14) (rd_move rfl) rfl ?_
      refine Wx.rd (v := r_14) (rd_assign rfl) rfl ?_
      refine Wx.rd (v := .int .i64 0) (rd_assign rfl) rfl ?_
      refine Wx.nil ?_
      obtain ⟨r0, hr0⟩ := Option.ne_none_iff_exists.1 (fun e => c1 ((short_nil (b := b) h2).2 e))
      have e2_0 : leastL g l a b = shortL l a b := by rw [leastL, if_pos h0]; rfl
      have e2_1 : (leastX g l a b) = (0 : Int) := by rw [leastX, if_pos h0, ← hr0]
      exact W.ret ⟨.tuple #[r_14, .int .i64 0], ResIs.two, hS.bel, ⟨r_14, (by rw [e2_1]), (by rw [e2_0]; exact (V.mv (hS.v 0 rfl) (.less (fun _ h => List.mem_append.2 (.inr h)))))⟩⟩
end Go.Proofs.Ytjbcpggikaeleaa

namespace Go.Proofs.Ytjbcpggikaeleaa
open Go.Wk Go.RowKit Go.Lib
set_option linter.unusedVariables false
set_option linter.unusedSimpArgs false
theorem elLg_39 : ElemI Try.prog 39 3 (.int .i64 0) 1 8 := ElemI.of Try.underlying39 (by kernel_rfl) (by first | rfl | kernel_rfl) (by decide)
theorem elLg_22 : ElemI Try.prog 22 62 (.agg #[(.slice none 0 0), (.slice none 0 0)]) 2 48 := ElemI.of Try.underlying22 (by kernel_rfl) (by first | rfl | kernel_rfl) (by decide)

set_option maxHeartbeats 4000000 in
theorem F39 {g : Int} {v : Value} {l : List ((List Int) × (List Int))} {O : List (Option Nat)} {w : World} (i_g : InK .i64 g) (h_v : V (tSl (tP (tSl (tI .i64)) (tSl (tI .i64)))) l v O w) (hO : ∀ b, some b ∈ O → b < w.heap.size) : Calls Try.prog 39 #[.int .i64 g, v] w (Ret w (fun r w' => ∃ rv, r = .tuple #[rv, .int .i64 (checkE g l)] ∧ V (tSl (tI .i64)) (wrongE g l) rv O w')) := by
  have b_g := bd_i64 i_g
  have a_v := h_v
  have l_v := h_v.len63
  have hS := St.start w O hO
  refine enterR Try.func39 rfl Try.ntmps39 Try.results39 rfl ?_
  refine W.seq ?_
  refine W.reg ?_
  refine Wx.rd (v := (.slice none 0 0)) (rd_assign rfl) rfl ?_
  refine Wx.rd (v := .int .i64 0) (rd_assign rfl) rfl ?_
  refine Wx.nil ?_
  refine W.seq ?_
  refine W.seq ?_
  refine W.reg ?_
  refine Wx.rd (v := .int .i64 g) (rd_move rfl) rfl ?_
  refine Wx.rd (v := v) (rd_move rfl) rfl ?_
  refine Wx.callF (run_callF Try.call25 rfl) (F25 i_g (hS.arg a_v)) rfl ?_
  rintro r_1 w_2 hx_3 rfl
  have hS := hS.ext hx_3
  refine Wx.rd (v := .int .i64 (checkE g l)) (rd_assign rfl) rfl ?_
  refine Wx.nil ?_
  refine W.seq ?_
  refine W.reg ?_
  refine Wx.rd (v := .int .i64 (checkE g l)) (rd_move rfl) rfl ?_
  refine Wx.rd (v := .bool (decide ((checkE g l) ≠ 0))) (rd_neq rfl rfl) rfl ?_
  refine Wx.nil ?_
  refine W.condD rfl (fun c0 => ?_) (fun c0 => ?_)
  · -- yes
    refine W.seq ?_
    refine W.reg ?_
    refine Wx.rd (v := .int .i64 (checkE g l)) (rd_move rfl) rfl ?_
    refine Wx.rd (v := (.slice none 0 0)) (rd_assign rfl) rfl ?_
    refine Wx.rd (v := .int .i64 (checkE g l)) (rd_assign rfl) rfl ?_
    refine Wx.nil ?_
    have e0_0 : wrongE g l = [] := by rw [wrongE, if_neg c0]
    exact W.ret ⟨.tuple #[(.slice none 0 0), .int .i64 (checkE g l)], ResIs.two, hS.bel, ⟨(.slice none 0 0), rfl, (by rw [e0_0]; exact (V.nil (t := (tI .i64))))⟩⟩
  · -- no
    have h0c : checkE g l = 0 := by omega
    have hsok := SalesOK.of h0c
    have hl6 := hsok.1
    obtain ⟨hpw, hp1, hp2⟩ := pow_len hl6
    refine W.skip ?_
    refine W.seq ?_
    refine W.reg ?_
    refine Wx.rd (v := (.slice none 0 0)) (rd_assign rfl) rfl ?_
    refine Wx.nil ?_
    refine W.seq ?_
    refine W.reg ?_
    refine Wx.rd (v := .bool false) (rd_assign rfl) rfl ?_
    refine Wx.nil ?_
    refine W.seq ?_
    refine W.seq ?_
    refine W.reg ?_
    refine Wx.rd (v := v) (rd_move rfl) rfl ?_
    refine Wx.rd (v := .int .i64 (l.length : Int)) (rd_lenV rfl (hS.arg a_v) Try.underlying22) rfl ?_
    refine Wx.rd (v := .int .i64 (2 ^ l.length)) (Rd.to (v := .int .i64 (IntKind.i64.wrap (1 * 2 ^ min (l.length : Int).toNat (IntKind.i64).bits))) (rd_shl rfl rfl (by omega)) (congrArg (Value.int .i64) (show (2 ^ l.length : Int) = (IntKind.i64.wrap (1 * 2 ^ min (l.length : Int).toNat (IntKind.i64).bits) : Int) from hpw.symm).symm)) rfl ?_
    have bd_4 := bd_i64 (wrap_inK .i64 (1 * 2 ^ min (l.length : Int).toNat (IntKind.i64).bits))
    refine Wx.rd (v := .int .i64 0) (rd_move rfl) rfl ?_
    refine Wx.nil ?_
    refine W.block ?_
    have hS := hS.add ((V.nil (t := (tI .i64))))
    refine W.loop [7, 8, 9, 10, 11, 12, 13, 14, 15, 25, 26, 27, 28, 29, 30, 31, 32, 33, 34, 35, 36, 37, 38, 39, 40, 41, 42, 43, 44, 45, 46, 47, 48, 49, 50, 51, 52, 53, 54, 55, 56, 57, 58, 59, 60, 61, 62, 63, 64, 65, 66, 67, 68, 69, 70, 71, 72, 73, 74, 75, 76, 77, 78, 79, 80] (fun x : Value × (List Int) × Bool × Int => match x with | (bv, best, fd, s) => [(7, bv), (8, .bool fd), (25, .int .i64 s)]) (fun (x : Value × (List Int) × Bool × Int) w' => match x with | (bv, best, fd, s) => St w O w' [Ob.v (tSl (tI .i64)) best bv] ∧ 0 ≤ s ∧ s ≤ 2 ^ l.length ∧ ((rng s (2 ^ l.length)).foldl (stepW l) (best, fd)).1 = wrgV l) (fun x : Value × (List Int) × Bool × Int => match x with | (bv, best, fd, s) => (2 ^ l.length - s).toNat) ((.slice none 0 0), [], false, 0) ⟨rfl, rfl, rfl, trivial⟩ ⟨hS, (by first | omega | simp), (by first | omega | simp), (rfl)⟩ ?_
    rintro ⟨bv, best, fd, s⟩ u_8 w_7 ⟨hS, h0, h1, h2⟩
    refine W.seq ?_
    refine W.reg ?_
    refine Wx.rd (v := .bool (decide (s < (2 ^ l.length)))) (rd_lss rfl rfl) rfl ?_
    refine Wx.nil ?_
    refine W.seq ?_
    refine W.condD rfl (fun c1 => ?_) (fun c1 => ?_)
    · -- yes
      refine W.skip ?_
      refine W.seq ?_
      refine W.block ?_
      refine W.seq ?_
      refine W.reg ?_
      refine Wx.rd (v := .int .i64 s) (rd_move rfl) rfl ?_
      refine Wx.rd (v := .int .i64 s) (rd_assign rfl) rfl ?_
      refine Wx.nil ?_
      refine W.seq ?_
      refine W.reg ?_
      refine Wx.rd (v := (.slice none 0 0)) (rd_assign rfl) rfl ?_
      refine Wx.nil ?_
      refine W.seq ?_
      refine W.reg ?_
      refine Wx.rd (v := (.slice none 0 0)) (rd_assign rfl) rfl ?_
      refine Wx.nil ?_
      refine W.seq ?_
      refine W.seq ?_
      refine W.reg ?_
      refine Wx.rd (v := v) (rd_move rfl) rfl ?_
      refine Wx.rd (v := .int .i64 (l.length : Int)) (rd_lenV rfl (hS.arg a_v) Try.underlying22) rfl ?_
      refine Wx.rd (v := .int .i64 0) (rd_move rfl) rfl ?_
      refine Wx.nil ?_
      refine W.block ?_
      have hS := hS.addNil (tI .i64) 3
      have hS := hS.addNil (tP (tSl (tI .i64)) (tSl (tI .i64))) 62
      refine W.loop [10, 11, 12, 13, 30, 31, 32, 33, 34, 35, 36, 37, 38, 39, 40, 41, 42, 43, 44, 45, 46, 47, 48] (fun x : Int × Value × (List Int) × Value × (List ((List Int) × (List Int))) => match x with | (i, ov, out, lv, left) => [(30, .int .i64 i), (10, ov), (11, lv)]) (fun (x : Int × Value × (List Int) × Value × (List ((List Int) × (List Int)))) w' => match x with | (i, ov, out, lv, left) => St w O w' [.row (tP (tSl (tI .i64)) (tSl (tI .i64))) 62 lv left, .row (tI .i64) 3 ov out, Ob.v (tSl (tI .i64)) best bv] ∧ 0 ≤ i ∧ i ≤ l.length ∧ out = otP s i ∧ left = lfP l (bitB s) i ∧ (out.length : Int) ≤ i ∧ (left.length : Int) ≤ i) (fun x : Int × Value × (List Int) × Value × (List ((List Int) × (List Int))) => match x with | (i, ov, out, lv, left) => (l.length - i).toNat) (0, (.slice none 0 0), [], (.slice none 0 0), []) ⟨rfl, rfl, rfl, trivial⟩ ⟨hS, (by first | omega | simp), (by first | omega | simp), (rfl), (rfl), (by decide), (by decide)⟩ ?_
      rintro ⟨i, ov, out, lv, left⟩ u_10 w_9 ⟨hS, g0, g1, g2, g3, g4, g5⟩
      refine W.seq ?_
      refine W.reg ?_
      refine Wx.rd (v := .bool (decide (i < (l.length : Int)))) (rd_lss rfl rfl) rfl ?_
      refine Wx.nil ?_
      refine W.seq ?_
      refine W.condD rfl (fun c2 => ?_) (fun c2 => ?_)
      · -- yes
        refine W.skip ?_
        refine W.seq ?_
        refine W.block ?_
        refine W.seq ?_
        refine W.reg ?_
        refine Wx.rd (v := .int .i64 i) (rd_move rfl) rfl ?_
        refine Wx.ex (rd_index ([], []) (hS.arg a_v) rfl rfl Try.underlying22 Try.sizeOf62 (by first | omega | (simp only [List.length_set, List.length_append, List.length_cons, List.length_nil, List.length_replicate]; omega)) (by first | omega | (simp only [List.length_set, List.length_append, List.length_cons, List.length_nil, List.length_replicate]; omega))) rfl (fun p_11 hp_12 => ?_)
        refine Wx.ex (rd_load hp_12 rfl Try.isAgg62 Try.sizeOf62) rfl (fun v_13 hv_14 => ?_)
        obtain ⟨v_15, v_16, rfl, hv_17, hv_18⟩ := hv_14.s2
        have hS := hS.add (hv_17)
        have ln_20 := (hS.v 0 rfl).len63
        have hS := hS.add (V.upF (hv_18))
        have ln_22 := (hS.v 0 rfl).len63
        refine Wx.alloc (cs := [(.slice none 0 0), (.slice none 0 0)]) hS Try.zeroValue62 rfl rfl (fun g_23 w_24 hx_26 hb_25 hS => ?_)
        refine Wx.rd (v := .int .i64 i) (rd_assign rfl) rfl ?_
        refine Wx.storeX (cs' := [v_15, v_16]) (ds := [v_15, v_16]) hS 0 rfl rfl rfl rfl Try.sizeOf62 (Nat.le_of_ble_eq_true rfl) (one_cons (V.oneC (hS.v 2 rfl)) (one_cons (V.oneC (hS.v 1 rfl)) one_nil)) rfl (fun w_27 hz_28 hS => ?_)
        refine Wx.nil ?_
        refine W.seq ?_
        refine W.reg ?_
        refine Wx.rd (v := .int .i64 s) (rd_move rfl) rfl ?_
        refine Wx.rd (v := .int .i64 i) (rd_move rfl) rfl ?_
        refine Wx.rd (v := .int .i64 (s / 2 ^ min i.toNat (IntKind.i64).bits)) (rd_shr rfl rfl (by omega)) rfl ?_
        refine Wx.rd (v := .int .i64 (s / 2 ^ i.toNat % 2)) (Rd.to (v := .int .i64 (bits .and .i64 (s / 2 ^ min i.toNat (IntKind.i64).bits) 1)) (rd_and rfl rfl) (congrArg (Value.int .i64) (show (s / 2 ^ i.toNat % 2 : Int) = (bits .and .i64 (s / 2 ^ min i.toNat (IntKind.i64).bits) 1 : Int) from (bit_and h0 (by omega) g0 (by omega)).symm).symm)) rfl ?_
        have bd_29 := bd_i64 (bits_in .and .i64 (s / 2 ^ min i.toNat (IntKind.i64).bits) 1)
        refine Wx.rd (v := .bool (decide ((s / 2 ^ i.toNat % 2) = 1))) (rd_eql rfl rfl) rfl ?_
        refine Wx.nil ?_
        refine W.condD rfl (fun c3 => ?_) (fun c3 => ?_)
        · -- yes
          refine W.reg ?_
          refine Wx.rd (v := ov) (rd_move rfl) rfl ?_
          refine Wx.rd (v := .int .i64 i) (rd_move rfl) rfl ?_
          refine Wx.lit (t := (tI .i64)) (ys := [i]) (vs := [.int .i64 i]) elLg_39 hS rfl rfl ⟨(V.mkInt (in_i64 (by omega) (by omega))), trivial⟩ (by decide) rfl (fun v_30 w_31 hx_32 hS => ?_)
          refine Wx.append elLg_39 hS 5 rfl rfl rfl (Src.ofR hS 0 rfl) (by simp only [maxLen]; simp; omega) (by simp; omega) rfl (fun v_33 w_34 hz_35 hS => ?_)
          refine Wx.rd (v := v_33) (rd_assign rfl) rfl ?_
          refine Wx.nil ?_
          refine W.reg ?_
          refine Wx.rd (v := .int .i64 (i + 1)) (rd_add rfl rfl (in_i64 (by omega) (by omega))) rfl ?_
          refine Wx.rd (v := .int .i64 (i + 1)) (rd_move rfl) rfl ?_
          refine Wx.nil ?_
          refine ⟨(i + 1, v_33, out ++ [i], lv, left), (by show (l.length - (i + 1)).toNat < (l.length - i).toNat; omega), ?_, ?_, Out.look rfl Out.self⟩
          · exact ⟨St.tl (St.tl (St.tl (hS.tl))), (by first | omega | assumption), (by first | omega | assumption), (by rw [g2, otP_yes g0 (decide_eq_true c3)]), (by rw [g3, lfP_no g0 (decide_eq_true c3)]), (by simp only [List.length_append, List.length_cons, List.length_nil]; omega), (by first | omega | assumption)⟩
          · exact ⟨rfl, rfl, rfl, trivial⟩
        · -- no
          refine W.reg ?_
          refine Wx.rd (v := lv) (rd_move rfl) rfl ?_
          refine Wx.rd (v := .agg #[v_15, v_16]) (rd_loadXs (ds := [v_15, v_16]) hS 0 rfl rfl rfl rfl Try.isAgg62 Try.sizeOf62) rfl ?_
          refine Wx.lit (t := (tP (tSl (tI .i64)) (tSl (tI .i64)))) (ys := [(ix ([], []) l i)]) (vs := [.agg #[v_15, v_16]]) elLg_22 hS rfl rfl ⟨(V.mkS2 (z := (ix ([], []) l i)) (hS.v 2 rfl) (hS.v 1 rfl)), trivial⟩ (by decide) rfl (fun v_36 w_37 hx_38 hS => ?_)
          refine Wx.append elLg_22 hS 4 rfl rfl rfl (Src.ofR hS 0 rfl) (by simp only [maxLen]; simp; omega) (by simp; omega) rfl (fun v_39 w_40 hz_41 hS => ?_)
          refine Wx.rd (v := v_39) (rd_assign rfl) rfl ?_
          refine Wx.nil ?_
          refine W.reg ?_
          refine Wx.rd (v := .int .i64 (i + 1)) (rd_add rfl rfl (in_i64 (by omega) (by omega))) rfl ?_
          refine Wx.rd (v := .int .i64 (i + 1)) (rd_move rfl) rfl ?_
          refine Wx.nil ?_
          refine ⟨(i + 1, ov, out, v_39, left ++ [(ix ([], []) l i)]), (by show (l.length - (i + 1)).toNat < (l.length - i).toNat; omega), ?_, ?_, Out.look rfl Out.self⟩
          · exact ⟨St.tl (St.tl (St.tl (hS.tl))), (by first | omega | assumption), (by first | omega | assumption), (by rw [g2, otP_no g0 (decide_eq_false c3)]), (by rw [g3, lfP_yes g0 (decide_eq_false c3)]), (by first | omega | assumption), (by simp only [List.length_append, List.length_cons, List.length_nil]; omega)⟩
          · exact ⟨rfl, rfl, rfl, trivial⟩
      · -- no
        have hle : left = leftS l s := by rw [g3, show i = l.length by omega]; rfl
        have hoe : out = outS l.length s := by rw [g2, show i = l.length by omega]; rfl
        refine W.exit rfl ?_
        refine W.seq ?_
        refine W.seq ?_
        refine W.reg ?_
        refine Wx.rd (v := .bool fd) (rd_move rfl) rfl ?_
        refine Wx.rd (v := .bool fd) (rd_move rfl) rfl ?_
        refine Wx.cut (X := Unit) 19 [51, 52, 53, 54, 55, 56, 57, 58, 59, 60, 61, 62, 63, 64, 65, 66, 67, 68, 69] (fun _ => [(69, .bool (fd && (decide ((best.length : Int) < (out.length : Int)) || (decide ((out.length : Int) = (best.length : Int)) && decide (0 < (cmpL out best))))))]) (fun _ w' => St w O w' [.row (tP (tSl (tI .i64)) (tSl (tI .i64))) 62 lv left, .row (tI .i64) 3 ov out, Ob.v (tSl (tI .i64)) best bv]) ?_ ?_
        · rcases Bool.eq_false_or_eq_true fd with g_42 | g_42
          · -- True
            have gp_43 := g_42
            try simp only [Bool.and_eq_true, Bool.or_eq_true, Bool.not_eq_true', Bool.and_eq_false_iff, Bool.or_eq_false_iff, Bool.not_eq_false', decide_eq_true_eq, decide_eq_false_iff_not, not_or, Bool.false_eq_true, Bool.true_eq_false, false_or, or_false, not_false_eq_true] at gp_43
            refine Wx.gyes rfl rfl (congrArg Value.bool g_42) ?_
            refine Wx.rd (v := ov) (rd_move rfl) rfl ?_
            refine Wx.gyes rfl rfl (congrArg Value.bool g_42) ?_
            refine Wx.rd (v := .int .i64 (out.length : Int)) (rd_lenR hS 1 rfl rfl Try.underlying39) rfl ?_
            refine Wx.gyes rfl rfl (congrArg Value.bool g_42) ?_
            refine Wx.rd (v := bv) (rd_move rfl) rfl ?_
            refine Wx.gyes rfl rfl (congrArg Value.bool g_42) ?_
            refine Wx.rd (v := .int .i64 (best.length : Int)) (rd_lenV rfl (hS.v 2 rfl) Try.underlying39) rfl ?_
            refine Wx.gyes rfl rfl (congrArg Value.bool g_42) ?_
            refine Wx.rd (v := .bool (decide ((best.length : Int) < (out.length : Int)))) (rd_gtr rfl rfl) rfl ?_
            refine Wx.gyes rfl rfl (congrArg Value.bool g_42) ?_
            refine Wx.rd (v := .bool (decide ((best.length : Int) < (out.length : Int)))) (rd_move rfl) rfl ?_
            refine Wx.cut (X := Unit) 12 [57, 58, 59, 60, 61, 62, 63, 64, 65, 66, 67, 68] (fun _ => [(68, .bool (decide ((best.length : Int) < (out.length : Int)) || (decide ((out.length : Int) = (best.length : Int)) && decide (0 < (cmpL out best)))))]) (fun _ w' => St w O w' [.row (tP (tSl (tI .i64)) (tSl (tI .i64))) 62 lv left, .row (tI .i64) 3 ov out, Ob.v (tSl (tI .i64)) best bv]) ?_ ?_
            · rcases Bool.eq_false_or_eq_true (decide ((best.length : Int) < (out.length : Int))) with g_44 | g_44
              · -- True
                have gp_45 := of_decide_eq_true g_44
                refine Wx.gnoB rfl rfl (congrArg Value.bool g_44) rfl rfl ?_
                refine Wx.gnoB rfl rfl (congrArg Value.bool g_44) rfl rfl ?_
                refine Wx.gnoB rfl rfl (congrArg Value.bool g_44) rfl rfl ?_
                refine Wx.gnoB rfl rfl (congrArg Value.bool g_44) rfl rfl ?_
                refine Wx.gnoB rfl rfl (congrArg Value.bool g_44) rfl rfl ?_
                refine Wx.gnoB rfl rfl (congrArg Value.bool g_44) rfl rfl ?_
                refine Wx.gno rfl rfl rfl rfl ?_
                refine Wx.gno rfl rfl rfl rfl ?_
                refine Wx.gno rfl rfl rfl rfl ?_
                refine Wx.gno rfl rfl rfl rfl ?_
                refine Wx.gnoB rfl rfl (congrArg Value.bool g_44) rfl rfl ?_
                refine Wx.gyes rfl rfl (congrArg Value.bool g_42) ?_
                refine Wx.rd (v := .bool true) (rd_pickT (congrArg Value.bool g_44) rfl) rfl ?_
                refine Wx.nil ⟨(), hS, ⟨?_, trivial⟩, Out.look rfl Out.refl⟩
                show Value.bool true = Value.bool (decide ((best.length : Int) < (out.length : Int)) || (decide ((out.length : Int) = (best.length : Int)) && decide (0 < (cmpL out best))))
                first | rw [g_44, Bool.true_or] | (rw [g_44]; rfl)
              · -- False
                have gp_46 := of_decide_eq_false g_44
                refine Wx.gyes rfl rfl (congrArg Value.bool g_44) ?_
                refine Wx.rd (v := ov) (rd_move rfl) rfl ?_
                refine Wx.gyes rfl rfl (congrArg Value.bool g_44) ?_
                refine Wx.rd (v := .int .i64 (out.length : Int)) (rd_lenR hS 1 rfl rfl Try.underlying39) rfl ?_
                refine Wx.gyes rfl rfl (congrArg Value.bool g_44) ?_
                refine Wx.rd (v := bv) (rd_move rfl) rfl ?_
                refine Wx.gyes rfl rfl (congrArg Value.bool g_44) ?_
                refine Wx.rd (v := .int .i64 (best.length : Int)) (rd_lenV rfl (hS.v 2 rfl) Try.underlying39) rfl ?_
                refine Wx.gyes rfl rfl (congrArg Value.bool g_44) ?_
                refine Wx.rd (v := .bool (decide ((out.length : Int) = (best.length : Int)))) (rd_eql rfl rfl) rfl ?_
                refine Wx.gyes rfl rfl (congrArg Value.bool g_44) ?_
                refine Wx.rd (v := .bool (decide ((out.length : Int) = (best.length : Int)))) (rd_move rfl) rfl ?_
                refine Wx.cut (X := Unit) 5 [63, 64, 65, 66, 67] (fun _ => [(67, .bool (decide ((out.length : Int) = (best.length : Int)) && decide (0 < (cmpL out best))))]) (fun _ w' => St w O w' [.row (tP (tSl (tI .i64)) (tSl (tI .i64))) 62 lv left, .row (tI .i64) 3 ov out, Ob.v (tSl (tI .i64)) best bv]) ?_ ?_
                · rcases Bool.eq_false_or_eq_true (decide ((out.length : Int) = (best.length : Int))) with g_47 | g_47
                  · -- True
                    have gp_48 := of_decide_eq_true g_47
                    refine Wx.gyes rfl rfl (congrArg Value.bool g_47) ?_
                    refine Wx.rd (v := ov) (rd_move rfl) rfl ?_
                    refine Wx.gyes rfl rfl (congrArg Value.bool g_47) ?_
                    refine Wx.rd (v := bv) (rd_move rfl) rfl ?_
                    refine Wx.gyes rfl rfl (congrArg Value.bool g_47) ?_
                    refine Wx.callF (run_callF Try.call52 rfl) (F52 (hS.lend 1 rfl) (hS.v 2 rfl)) rfl ?_
                    rintro r_49 w_50 hx_51 rfl
                    have hS := hS.ext hx_51
                    refine Wx.gyes rfl rfl (congrArg Value.bool g_47) ?_
                    refine Wx.rd (v := .bool (decide (0 < (cmpL out best)))) (rd_gtr rfl rfl) rfl ?_
                    refine Wx.gyes rfl rfl (congrArg Value.bool g_44) ?_
                    refine Wx.rd (v := .bool (decide (0 < (cmpL out best)))) (rd_pickT (congrArg Value.bool g_47) rfl) rfl ?_
                    refine Wx.nil ⟨(), hS, ⟨?_, trivial⟩, Out.look rfl Out.refl⟩
                    show Value.bool (decide (0 < (cmpL out best))) = Value.bool (decide ((out.length : Int) = (best.length : Int)) && decide (0 < (cmpL out best)))
                    first | rw [g_47, Bool.true_and] | (rw [g_47]; rfl)
                  · -- False
                    have gp_52 := of_decide_eq_false g_47
                    refine Wx.gnoB rfl rfl (congrArg Value.bool g_47) rfl rfl ?_
                    refine Wx.gnoB rfl rfl (congrArg Value.bool g_47) rfl rfl ?_
                    refine Wx.gnoB rfl rfl (congrArg Value.bool g_47) rfl rfl ?_
                    refine Wx.gnoB rfl rfl (congrArg Value.bool g_47) rfl rfl ?_
                    refine Wx.gyes rfl rfl (congrArg Value.bool g_44) ?_
                    refine Wx.rd (v := .bool false) (rd_pickF (congrArg Value.bool g_47) rfl) rfl ?_
                    refine Wx.nil ⟨(), hS, ⟨?_, trivial⟩, Out.look rfl Out.refl⟩
                    show Value.bool false = Value.bool (decide ((out.length : Int) = (best.length : Int)) && decide (0 < (cmpL out best)))
                    first | rw [g_47, Bool.false_and] | (rw [g_47]; rfl)
                rintro ⟨⟩ u_54 w_53 hS
                refine Wx.gyes rfl rfl (congrArg Value.bool g_42) ?_
                refine Wx.rd (v := .bool (decide ((out.length : Int) = (best.length : Int)) && decide (0 < (cmpL out best)))) (rd_pickF (congrArg Value.bool g_44) rfl) rfl ?_
                refine Wx.nil ⟨(), hS, ⟨?_, trivial⟩, Out.look rfl (Out.hav rfl (Out.look rfl Out.refl))⟩
                show Value.bool (decide ((out.length : Int) = (best.length : Int)) && decide (0 < (cmpL out best))) = Value.bool (decide ((best.length : Int) < (out.length : Int)) || (decide ((out.length : Int) = (best.length : Int)) && decide (0 < (cmpL out best))))
                first | rw [g_44, Bool.false_or] | (rw [g_44]; rfl)
            rintro ⟨⟩ u_56 w_55 hS
            refine Wx.rd (v := .bool (decide ((best.length : Int) < (out.length : Int)) || (decide ((out.length : Int) = (best.length : Int)) && decide (0 < (cmpL out best))))) (rd_pickT (congrArg Value.bool g_42) rfl) rfl ?_
            refine Wx.nil ⟨(), hS, ⟨?_, trivial⟩, Out.look rfl (Out.hav rfl (Out.look rfl Out.refl))⟩
            show Value.bool (decide ((best.length : Int) < (out.length : Int)) || (decide ((out.length : Int) = (best.length : Int)) && decide (0 < (cmpL out best)))) = Value.bool (fd && (decide ((best.length : Int) < (out.length : Int)) || (decide ((out.length : Int) = (best.length : Int)) && decide (0 < (cmpL out best)))))
            first | rw [g_42, Bool.true_and] | (rw [g_42]; rfl)
          · -- False
            have gp_57 := g_42
            try simp only [Bool.and_eq_true, Bool.or_eq_true, Bool.not_eq_true', Bool.and_eq_false_iff, Bool.or_eq_false_iff, Bool.not_eq_false', decide_eq_true_eq, decide_eq_false_iff_not, not_or, Bool.false_eq_true, Bool.true_eq_false, false_or, or_false, not_false_eq_true] at gp_57
            refine Wx.gnoB rfl rfl (congrArg Value.bool g_42) rfl rfl ?_
            refine Wx.gnoB rfl rfl (congrArg Value.bool g_42) rfl rfl ?_
            refine Wx.gnoB rfl rfl (congrArg Value.bool g_42) rfl rfl ?_
            refine Wx.gnoB rfl rfl (congrArg Value.bool g_42) rfl rfl ?_
            refine Wx.gnoB rfl rfl (congrArg Value.bool g_42) rfl rfl ?_
            refine Wx.gnoB rfl rfl (congrArg Value.bool g_42) rfl rfl ?_
            refine Wx.gno rfl rfl rfl rfl ?_
            refine Wx.gno rfl rfl rfl rfl ?_
            refine Wx.gno rfl rfl rfl rfl ?_
            refine Wx.gno rfl rfl rfl rfl ?_
            refine Wx.gno rfl rfl rfl rfl ?_
            refine Wx.gno rfl rfl rfl rfl ?_
            refine Wx.gno rfl rfl rfl rfl ?_
            refine Wx.gno rfl rfl rfl rfl ?_
            refine Wx.gno rfl rfl rfl rfl ?_
            refine Wx.gno rfl rfl rfl rfl ?_
            refine Wx.gno rfl rfl rfl rfl ?_
            refine Wx.gnoB rfl rfl (congrArg Value.bool g_42) rfl rfl ?_
            refine Wx.rd (v := .bool false) (rd_pickF (congrArg Value.bool g_42) rfl) rfl ?_
            refine Wx.nil ⟨(), hS, ⟨?_, trivial⟩, Out.look rfl Out.refl⟩
            show Value.bool false = Value.bool (fd && (decide ((best.length : Int) < (out.length : Int)) || (decide ((out.length : Int) = (best.length : Int)) && decide (0 < (cmpL out best)))))
            first | rw [g_42, Bool.false_and] | (rw [g_42]; rfl)
        rintro ⟨⟩ u_59 w_58 hS
        refine Wx.nil ?_
        refine W.cond rfl (fun c4 => ?_) (fun c4 => ?_)
        · -- yes
          try simp only [Bool.and_eq_true, Bool.or_eq_true, Bool.not_eq_true', Bool.and_eq_false_iff, Bool.or_eq_false_iff, Bool.not_eq_false', decide_eq_true_eq, decide_eq_false_iff_not, not_or, Bool.false_eq_true, Bool.true_eq_false, false_or, or_false, not_false_eq_true] at c4
          refine W.exit rfl ?_
          refine W.reg ?_
          refine Wx.rd (v := .int .i64 (s + 1)) (rd_add rfl rfl (in_i64 (by omega) (by omega))) rfl ?_
          refine Wx.rd (v := .int .i64 (s + 1)) (rd_move rfl) rfl ?_
          refine Wx.nil ?_
          have hv_60 : V (tSl (tI .i64)) best bv _ _ := (hS.v 2 rfl)
          refine ⟨(bv, best, fd, s + 1), (by show (2 ^ l.length - (s + 1)).toNat < (2 ^ l.length - s).toNat; omega), ?_, ?_, Out.look rfl (Out.hav rfl (Out.look rfl (Out.hav rfl (Out.look rfl Out.self))))⟩
          · exact ⟨(St.add (St.tl (St.tl (St.tl (hS)))) (V.tlF (V.tlF (V.tlF (hv_60))))), (by first | omega | assumption), (by first | omega | assumption), (by rw [← h2, rng_cons c1, List.foldl_cons, step_skip (by rw [← hoe]; exact c4)])⟩
          · exact ⟨rfl, rfl, rfl, trivial⟩
        · -- no
          try simp only [Bool.and_eq_true, Bool.or_eq_true, Bool.not_eq_true', Bool.and_eq_false_iff, Bool.or_eq_false_iff, Bool.not_eq_false', decide_eq_true_eq, decide_eq_false_iff_not, not_or, Bool.false_eq_true, Bool.true_eq_false, false_or, or_false, not_false_eq_true] at c4
          refine W.skip ?_
          refine W.seq ?_
          refine W.reg ?_
          refine Wx.rd (v := .int .i64 g) (rd_move rfl) rfl ?_
          refine Wx.rd (v := lv) (rd_move rfl) rfl ?_
          have hS := hS.freeze 0 rfl
          refine Wx.callF (run_callF Try.call62 rfl) (F62 i_g (hS.v 0 rfl) (V.nil (t := (tI .i64))) hS.fb_lt) rfl ?_
          rintro r_62 w_63 hx_64 ⟨v_65, rfl, hv_66⟩
          have hS := hS.ext hx_64
          have hS := hS.add hv_66
          refine Wx.rd (v := .tuple #[v_65, .int .i64 (openE g left ([] : List Int))]) (rd_move rfl) rfl ?_
          refine Wx.rd (v := v_65) (rd_extract rfl rfl) rfl ?_
          refine Wx.rd (v := .int .i64 (openE g left ([] : List Int))) (rd_extract rfl rfl) rfl ?_
          refine Wx.rd (v := v_65) (rd_assign rfl) rfl ?_
          refine Wx.rd (v := .int .i64 (openE g left ([] : List Int))) (rd_assign rfl) rfl ?_
          refine Wx.nil ?_
          refine W.seq ?_
          refine W.reg ?_
          refine Wx.rd (v := v_65) (rd_move rfl) rfl ?_
          obtain ⟨g_68, rfl, hm_69⟩ := V.mkOpen (hS.v 0 rfl) (decide_eq_true (by rw [openE_nil, hle]; exact check_left h0c _))
          have ok_g_68 := V.mkOK hm_69
          have hS := hS.add hm_69
          refine Wx.callF (run_callF Try.call76 rfl) (F76 (hS.v 0 rfl) hS.fb_lt) rfl ?_
          rintro r_71 w_72 hx_73 ⟨_, rfl, hv_74⟩
          have hS := hS.ext hx_73
          have hS := hS.add hv_74
          rcases V.rep (hS.v 0 rfl) with ⟨hjdg, u_76, rfl, hu_77⟩ | ⟨hjdg, u_76, rfl, hu_77⟩
          · -- classes
            have hS := hS.add hu_77
            have ln_79 := (hS.v 0 rfl).len63
            refine Wx.callF (run_invoke (told115 _) rfl) (F143 (hS.v 0 rfl)) rfl ?_
            rintro r_80 w_81 hx_82 rfl
            have hS := hS.ext hx_82
            refine Wx.nil ?_
            refine W.condT rfl rfl ?_
            refine W.reg ?_
            refine Wx.rd (v := ov) (rd_move rfl) rfl ?_
            refine Wx.rd (v := ov) (rd_assign rfl) rfl ?_
            refine Wx.rd (v := .bool true) (rd_assign rfl) rfl ?_
            refine Wx.nil ?_
            refine W.reg ?_
            refine Wx.rd (v := .int .i64 (s + 1)) (rd_add rfl rfl (in_i64 (by omega) (by omega))) rfl ?_
            refine Wx.rd (v := .int .i64 (s + 1)) (rd_move rfl) rfl ?_
            refine Wx.nil ?_
            have hS := hS.freeze 5 rfl
            have hv_84 : V (tSl (tI .i64)) out ov _ _ := (hS.v 0 rfl)
            refine ⟨(ov, out, true, s + 1), (by show (2 ^ l.length - (s + 1)).toNat < (2 ^ l.length - s).toNat; omega), ?_, ?_, Out.look rfl (Out.hav rfl (Out.look rfl (Out.hav rfl (Out.look rfl Out.self))))⟩
            · exact ⟨(St.add (St.tl (St.tl (St.tl (St.tl (St.tl (St.tl (St.tl (hS)))))))) (V.tlF (V.tlF (V.tlF (V.tlF (V.tlF (V.tlF (V.tlF (hv_84))))))))), (by first | omega | assumption), (by first | omega | assumption), (by rw [← h2, rng_cons c1, List.foldl_cons, step_yes (by rw [← hoe]; exact wr_cond c4) (by rw [← hle]; exact hjdg), ← hoe])⟩
            · exact ⟨rfl, rfl, rfl, trivial⟩
          · -- a ring
            have hS := hS.add hu_77
            have ln_86 := (hS.v 0 rfl).len63
            refine Wx.callF (run_invoke (told111 _) rfl) (F142 (hS.v 0 rfl)) rfl ?_
            rintro r_87 w_88 hx_89 rfl
            have hS := hS.ext hx_89
            refine Wx.nil ?_
            refine W.condF rfl rfl ?_
            refine W.skip ?_
            refine W.reg ?_
            refine Wx.rd (v := .int .i64 (s + 1)) (rd_add rfl rfl (in_i64 (by omega) (by omega))) rfl ?_
            refine Wx.rd (v := .int .i64 (s + 1)) (rd_move rfl) rfl ?_
            refine Wx.nil ?_
            have hv_90 : V (tSl (tI .i64)) best bv _ _ := (hS.v 6 rfl)
            refine ⟨(bv, best, fd, s + 1), (by show (2 ^ l.length - (s + 1)).toNat < (2 ^ l.length - s).toNat; omega), ?_, ?_, Out.look rfl (Out.hav rfl (Out.look rfl (Out.hav rfl (Out.look rfl Out.self))))⟩
            · exact ⟨(St.add (St.tl (St.tl (St.tl (St.tl (St.tl (St.tl (St.tl (hS)))))))) (V.tlF (V.tlF (V.tlF (V.tlF (V.tlF (V.tlF (V.tlF (hv_90))))))))), (by first | omega | assumption), (by first | omega | assumption), (by rw [← h2, rng_cons c1, List.foldl_cons, step_no (by rw [← hle]; exact hjdg)])⟩
            · exact ⟨rfl, rfl, rfl, trivial⟩
    · -- no
      refine W.exit rfl ?_
      refine W.seq ?_
      refine W.reg ?_
      refine Wx.rd (v := bv) (rd_move rfl) rfl ?_
      refine Wx.rd (v := bv) (rd_assign rfl) rfl ?_
      refine Wx.rd (v := .int .i64 0) (rd_assign rfl) rfl ?_
      refine Wx.nil ?_
      have e1_0 : wrongE g l = best := by rw [wrongE, if_pos h0c, ← h2, rng_nil (by omega)]; rfl
      have e1_1 : (checkE g l) = (0 : Int) := by exact h0c
      exact W.ret ⟨.tuple #[bv, .int .i64 0], ResIs.two, hS.bel, ⟨bv, (by rw [e1_1]), (by rw [e1_0]; exact (V.mv (hS.v 0 rfl) (.less (fun _ h => List.mem_append.2 (.inr h)))))⟩⟩
end Go.Proofs.Ytjbcpggikaeleaa

namespace Go.Proofs.Ytjbcpggikaeleaa
open Go.Wk Go.RowKit Go.Lib
set_option linter.unusedVariables false
set_option linter.unusedSimpArgs false
theorem elLi_31 : ElemI Try.prog 31 59 (.agg #[.int .i64 0, .int .i64 0]) 2 16 := ElemI.of Try.underlying31 (by kernel_rfl) (by first | rfl | kernel_rfl) (by decide)
theorem elLi_39 : ElemI Try.prog 39 3 (.int .i64 0) 1 8 := ElemI.of Try.underlying39 (by kernel_rfl) (by first | rfl | kernel_rfl) (by decide)

set_option maxHeartbeats 4000000 in
set_option maxRecDepth 10000 in
theorem F16 {O : List (Option Nat)} {w : World} (hO : ∀ b, some b ∈ O → b < w.heap.size) : Calls Try.prog 16 #[] w (Ret w (fun r _ => r = .bool true)) := by
  have hS := St.start w O hO
  refine enterR Try.func16 rfl Try.ntmps16 Try.results16 rfl ?_
  refine W.seq ?_
  refine W.reg ?_
  refine Wx.rd (v := .bool false) (rd_assign rfl) rfl ?_
  refine Wx.nil ?_
  refine W.seq ?_
  refine W.reg ?_
  refine Wx.callF (run_callF Try.call43 rfl) (F43 hS.fb_lt) rfl ?_
  rintro r_1 w_2 hx_3 ⟨_, rfl, hv_4⟩
  have ln_6 := hv_4.len63
  have hS := hS.ext hx_3
  have hS := hS.add hv_4
  refine Wx.callF (run_callF Try.call18 rfl) (F18 (in_i64 (by omega) (by omega)) (hS.v 0 rfl) (in_i64 (by omega) (by omega)) (in_i64 (by omega) (by omega)) hS.fb_lt) rfl ?_
  rintro r_7 w_8 hx_9 rfl
  have hS := hS.ext hx_9
  refine Wx.rd (v := .tuple #[.int .i64 (costE 2 sS 0 1), .int .i64 (twoE 2 sS 0 1)]) (rd_move rfl) rfl ?_
  refine Wx.rd (v := .int .i64 (costE 2 sS 0 1)) (rd_extract rfl rfl) rfl ?_
  refine Wx.rd (v := .int .i64 (twoE 2 sS 0 1)) (rd_extract rfl rfl) rfl ?_
  refine Wx.rd (v := .int .i64 5) (Rd.to (v := .int .i64 (costE 2 sS 0 1)) (rd_assign rfl) (congrArg (Value.int .i64) (show (5 : Int) = (costE 2 sS 0 1 : Int) from (by decide +kernel)).symm)) rfl ?_
  refine Wx.rd (v := .int .i64 0) (Rd.to (v := .int .i64 (twoE 2 sS 0 1)) (rd_assign rfl) (congrArg (Value.int .i64) (show (0 : Int) = (twoE 2 sS 0 1 : Int) from (by decide +kernel)).symm)) rfl ?_
  refine Wx.nil ?_
  refine W.seq ?_
  refine W.reg ?_
  refine Wx.callF (run_callF Try.call43 rfl) (F43 hS.fb_lt) rfl ?_
  rintro r_10 w_11 hx_12 ⟨_, rfl, hv_13⟩
  have ln_15 := hv_13.len63
  have hS := hS.ext hx_12
  have hS := hS.add hv_13
  refine Wx.callF (run_callF Try.call20 rfl) (F20 (in_i64 (by omega) (by omega)) (hS.v 0 rfl) hS.fb_lt) rfl ?_
  rintro r_16 w_17 hx_18 ⟨v_19, rfl, hv_20⟩
  have hS := hS.pushFr hx_18 hv_20
  refine Wx.rd (v := .tuple #[v_19, .int .i64 (checkE 2 sS)]) (rd_move rfl) rfl ?_
  refine Wx.rd (v := v_19) (rd_extract rfl rfl) rfl ?_
  refine Wx.rd (v := .int .i64 (checkE 2 sS)) (rd_extract rfl rfl) rfl ?_
  refine Wx.rd (v := v_19) (rd_assign rfl) rfl ?_
  refine Wx.rd (v := .int .i64 0) (Rd.to (v := .int .i64 (checkE 2 sS)) (rd_assign rfl) (congrArg (Value.int .i64) (show (0 : Int) = (checkE 2 sS : Int) from (by decide +kernel)).symm)) rfl ?_
  refine Wx.nil ?_
  refine W.seq ?_
  refine W.reg ?_
  refine Wx.callF (run_callF Try.call45 rfl) (F45 hS.fb_lt) rfl ?_
  rintro r_22 w_23 hx_24 ⟨_, rfl, hv_25⟩
  have ln_27 := hv_25.len63
  have hS := hS.ext hx_24
  have hS := hS.add hv_25
  refine Wx.callF (run_callF Try.call22 rfl) (F22 (in_i64 (by omega) (by omega)) (hS.v 0 rfl) hS.fb_lt) rfl ?_
  rintro r_28 w_29 hx_30 ⟨v_31, rfl, hv_32⟩
  have hS := hS.pushFr hx_30 hv_32
  refine Wx.rd (v := .tuple #[v_31, .int .i64 (checkE 2 sT)]) (rd_move rfl) rfl ?_
  refine Wx.rd (v := v_31) (rd_extract rfl rfl) rfl ?_
  refine Wx.rd (v := .int .i64 (checkE 2 sT)) (rd_extract rfl rfl) rfl ?_
  refine Wx.rd (v := v_31) (rd_assign rfl) rfl ?_
  refine Wx.rd (v := .int .i64 0) (Rd.to (v := .int .i64 (checkE 2 sT)) (rd_assign rfl) (congrArg (Value.int .i64) (show (0 : Int) = (checkE 2 sT : Int) from (by decide +kernel)).symm)) rfl ?_
  refine Wx.nil ?_
  refine W.seq ?_
  refine W.reg ?_
  refine Wx.callF (run_callF Try.call43 rfl) (F43 hS.fb_lt) rfl ?_
  rintro r_34 w_35 hx_36 ⟨_, rfl, hv_37⟩
  have ln_39 := hv_37.len63
  have hS := hS.ext hx_36
  have hS := hS.add hv_37
  refine Wx.callF (run_callF Try.call27 rfl) (F27 (in_i64 (by omega) (by omega)) (hS.v 0 rfl) (in_i64 (by omega) (by omega)) (in_i64 (by omega) (by omega)) hS.fb_lt) rfl ?_
  rintro r_40 w_41 hx_42 ⟨v_43, rfl, hv_44⟩
  have ln_46 := hv_44.len63
  have hS := hS.ext hx_42
  have hS := hS.add hv_44
  refine Wx.rd (v := .tuple #[v_43, .int .i64 (leastX 2 sS 2 0)]) (rd_move rfl) rfl ?_
  refine Wx.rd (v := v_43) (rd_extract rfl rfl) rfl ?_
  refine Wx.rd (v := .int .i64 (leastX 2 sS 2 0)) (rd_extract rfl rfl) rfl ?_
  refine Wx.rd (v := v_43) (rd_assign rfl) rfl ?_
  refine Wx.rd (v := .int .i64 0) (Rd.to (v := .int .i64 (leastX 2 sS 2 0)) (rd_assign rfl) (congrArg (Value.int .i64) (show (0 : Int) = (leastX 2 sS 2 0 : Int) from (by decide +kernel)).symm)) rfl ?_
  refine Wx.nil ?_
  refine W.seq ?_
  refine W.reg ?_
  refine Wx.callF (run_callF Try.call43 rfl) (F43 hS.fb_lt) rfl ?_
  rintro r_47 w_48 hx_49 ⟨_, rfl, hv_50⟩
  have ln_52 := hv_50.len63
  have hS := hS.ext hx_49
  have hS := hS.add hv_50
  refine Wx.callF (run_callF Try.call29 rfl) (F29 (in_i64 (by omega) (by omega)) (hS.v 0 rfl) hS.fb_lt) rfl ?_
  rintro r_53 w_54 hx_55 rfl
  have hS := hS.ext hx_55
  refine Wx.rd (v := .tuple #[.bool (tasteE 2 sS), .int .i64 (checkE 2 sS)]) (rd_move rfl) rfl ?_
  refine Wx.rd (v := .bool (tasteE 2 sS)) (rd_extract rfl rfl) rfl ?_
  refine Wx.rd (v := .int .i64 (checkE 2 sS)) (rd_extract rfl rfl) rfl ?_
  refine Wx.rd (v := .bool true) (Rd.to (v := .bool (tasteE 2 sS)) (rd_assign rfl) (congrArg (Value.bool) (show (true : Bool) = (tasteE 2 sS : Bool) from (by decide +kernel)).symm)) rfl ?_
  refine Wx.rd (v := .int .i64 0) (Rd.to (v := .int .i64 (checkE 2 sS)) (rd_assign rfl) (congrArg (Value.int .i64) (show (0 : Int) = (checkE 2 sS : Int) from (by decide +kernel)).symm)) rfl ?_
  refine Wx.nil ?_
  refine W.seq ?_
  refine W.reg ?_
  refine Wx.callF (run_callF Try.call45 rfl) (F45 hS.fb_lt) rfl ?_
  rintro r_56 w_57 hx_58 ⟨_, rfl, hv_59⟩
  have ln_61 := hv_59.len63
  have hS := hS.ext hx_58
  have hS := hS.add hv_59
  refine Wx.callF (run_callF Try.call29 rfl) (F29 (in_i64 (by omega) (by omega)) (hS.v 0 rfl) hS.fb_lt) rfl ?_
  rintro r_62 w_63 hx_64 rfl
  have hS := hS.ext hx_64
  refine Wx.rd (v := .tuple #[.bool (tasteE 2 sT), .int .i64 (checkE 2 sT)]) (rd_move rfl) rfl ?_
  refine Wx.rd (v := .bool (tasteE 2 sT)) (rd_extract rfl rfl) rfl ?_
  refine Wx.rd (v := .int .i64 (checkE 2 sT)) (rd_extract rfl rfl) rfl ?_
  refine Wx.rd (v := .bool false) (Rd.to (v := .bool (tasteE 2 sT)) (rd_assign rfl) (congrArg (Value.bool) (show (false : Bool) = (tasteE 2 sT : Bool) from (by decide +kernel)).symm)) rfl ?_
  refine Wx.rd (v := .int .i64 0) (Rd.to (v := .int .i64 (checkE 2 sT)) (rd_assign rfl) (congrArg (Value.int .i64) (show (0 : Int) = (checkE 2 sT : Int) from (by decide +kernel)).symm)) rfl ?_
  refine Wx.nil ?_
  refine W.seq ?_
  refine W.seq ?_
  refine W.reg ?_
  refine Wx.rd (v := .int .i64 0) (rd_move rfl) rfl ?_
  refine Wx.rd (v := .bool false) (Rd.to (v := .bool (decide ((0 : Int) ≠ 0))) (rd_neq rfl rfl) rfl) rfl ?_
  refine Wx.rd (v := .bool false) (rd_move rfl) rfl ?_
  refine Wx.gyes rfl rfl rfl ?_
  refine Wx.rd (v := .int .i64 0) (rd_move rfl) rfl ?_
  refine Wx.gyes rfl rfl rfl ?_
  refine Wx.rd (v := .bool false) (Rd.to (v := .bool (decide ((0 : Int) ≠ 0))) (rd_neq rfl rfl) rfl) rfl ?_
  refine Wx.rd (v := .bool false) (rd_pickF rfl rfl) rfl ?_
  refine Wx.rd (v := .bool false) (rd_move rfl) rfl ?_
  refine Wx.gyes rfl rfl rfl ?_
  refine Wx.rd (v := .int .i64 0) (rd_move rfl) rfl ?_
  refine Wx.gyes rfl rfl rfl ?_
  refine Wx.rd (v := .bool false) (Rd.to (v := .bool (decide ((0 : Int) ≠ 0))) (rd_neq rfl rfl) rfl) rfl ?_
  refine Wx.rd (v := .bool false) (rd_pickF rfl rfl) rfl ?_
  refine Wx.rd (v := .bool false) (rd_move rfl) rfl ?_
  refine Wx.gyes rfl rfl rfl ?_
  refine Wx.rd (v := .int .i64 0) (rd_move rfl) rfl ?_
  refine Wx.gyes rfl rfl rfl ?_
  refine Wx.rd (v := .bool false) (Rd.to (v := .bool (decide ((0 : Int) ≠ 0))) (rd_neq rfl rfl) rfl) rfl ?_
  refine Wx.rd (v := .bool false) (rd_pickF rfl rfl) rfl ?_
  refine Wx.rd (v := .bool false) (rd_move rfl) rfl ?_
  refine Wx.gyes rfl rfl rfl ?_
  refine Wx.rd (v := .int .i64 0) (rd_move rfl) rfl ?_
  refine Wx.gyes rfl rfl rfl ?_
  refine Wx.rd (v := .bool false) (Rd.to (v := .bool (decide ((0 : Int) ≠ 0))) (rd_neq rfl rfl) rfl) rfl ?_
  refine Wx.rd (v := .bool false) (rd_pickF rfl rfl) rfl ?_
  refine Wx.rd (v := .bool false) (rd_move rfl) rfl ?_
  refine Wx.gyes rfl rfl rfl ?_
  refine Wx.rd (v := .int .i64 0) (rd_move rfl) rfl ?_
  refine Wx.gyes rfl rfl rfl ?_
  refine Wx.rd (v := .bool false) (Rd.to (v := .bool (decide ((0 : Int) ≠ 0))) (rd_neq rfl rfl) rfl) rfl ?_
  refine Wx.rd (v := .bool false) (rd_pickF rfl rfl) rfl ?_
  refine Wx.nil ?_
  refine W.condF rfl rfl ?_
  refine W.skip ?_
  refine W.seq ?_
  refine W.reg ?_
  refine Wx.callF (run_callF Try.call45 rfl) (F45 hS.fb_lt) rfl ?_
  rintro r_65 w_66 hx_67 ⟨_, rfl, hv_68⟩
  have ln_70 := hv_68.len63
  have hS := hS.ext hx_67
  have hS := hS.add hv_68
  refine Wx.callF (run_callF Try.call31 rfl) (F31 (in_i64 (by omega) (by omega)) (hS.v 0 rfl) hS.fb_lt) rfl ?_
  rintro r_71 w_72 hx_73 ⟨v_74, rfl, hv_75⟩
  have ln_77 := hv_75.len63
  have hS := hS.ext hx_73
  have hS := hS.add hv_75
  refine Wx.rd (v := .tuple #[v_74, .int .i64 (ringX 2 sT)]) (rd_move rfl) rfl ?_
  refine Wx.rd (v := v_74) (rd_extract rfl rfl) rfl ?_
  refine Wx.rd (v := .int .i64 (ringX 2 sT)) (rd_extract rfl rfl) rfl ?_
  refine Wx.rd (v := v_74) (rd_assign rfl) rfl ?_
  refine Wx.rd (v := .int .i64 0) (Rd.to (v := .int .i64 (ringX 2 sT)) (rd_assign rfl) (congrArg (Value.int .i64) (show (0 : Int) = (ringX 2 sT : Int) from (by decide +kernel)).symm)) rfl ?_
  refine Wx.nil ?_
  refine W.seq ?_
  refine W.reg ?_
  refine Wx.callF (run_callF Try.call45 rfl) (F45 hS.fb_lt) rfl ?_
  rintro r_78 w_79 hx_80 ⟨_, rfl, hv_81⟩
  have ln_83 := hv_81.len63
  have hS := hS.ext hx_80
  have hS := hS.add hv_81
  refine Wx.callF (run_callF Try.call39 rfl) (F39 (in_i64 (by omega) (by omega)) (hS.v 0 rfl) hS.fb_lt) rfl ?_
  rintro r_84 w_85 hx_86 ⟨v_87, rfl, hv_88⟩
  have ln_90 := hv_88.len63
  have hS := hS.ext hx_86
  have hS := hS.add hv_88
  refine Wx.rd (v := .tuple #[v_87, .int .i64 (checkE 2 sT)]) (rd_move rfl) rfl ?_
  refine Wx.rd (v := v_87) (rd_extract rfl rfl) rfl ?_
  refine Wx.rd (v := .int .i64 (checkE 2 sT)) (rd_extract rfl rfl) rfl ?_
  refine Wx.rd (v := v_87) (rd_assign rfl) rfl ?_
  refine Wx.rd (v := .int .i64 0) (Rd.to (v := .int .i64 (checkE 2 sT)) (rd_assign rfl) (congrArg (Value.int .i64) (show (0 : Int) = (checkE 2 sT : Int) from (by decide +kernel)).symm)) rfl ?_
  refine Wx.nil ?_
  refine W.seq ?_
  refine W.reg ?_
  refine Wx.callF (run_callF Try.call43 rfl) (F43 hS.fb_lt) rfl ?_
  rintro r_91 w_92 hx_93 ⟨_, rfl, hv_94⟩
  have ln_96 := hv_94.len63
  have hS := hS.ext hx_93
  have hS := hS.add hv_94
  refine Wx.callF (run_callF Try.call41 rfl) (F41 (in_i64 (by omega) (by omega)) (hS.v 0 rfl) hS.fb_lt) rfl ?_
  rintro r_97 w_98 hx_99 ⟨v_100, rfl, hv_101⟩
  have hS := hS.pushFr hx_99 hv_101
  refine Wx.rd (v := .tuple #[v_100, .int .i64 (ranksX 2 sS)]) (rd_move rfl) rfl ?_
  refine Wx.rd (v := v_100) (rd_extract rfl rfl) rfl ?_
  refine Wx.rd (v := .int .i64 (ranksX 2 sS)) (rd_extract rfl rfl) rfl ?_
  refine Wx.rd (v := v_100) (rd_assign rfl) rfl ?_
  refine Wx.rd (v := .int .i64 0) (Rd.to (v := .int .i64 (ranksX 2 sS)) (rd_assign rfl) (congrArg (Value.int .i64) (show (0 : Int) = (ranksX 2 sS : Int) from (by decide +kernel)).symm)) rfl ?_
  refine Wx.nil ?_
  refine W.seq ?_
  refine W.reg ?_
  refine Wx.callF (run_callF Try.call43 rfl) (F43 hS.fb_lt) rfl ?_
  rintro r_103 w_104 hx_105 ⟨_, rfl, hv_106⟩
  have ln_108 := hv_106.len63
  have hS := hS.ext hx_105
  have hS := hS.add hv_106
  refine Wx.callF (run_callF Try.call36 rfl) (F36 (in_i64 (by omega) (by omega)) (hS.v 0 rfl) hS.fb_lt) rfl ?_
  rintro r_109 w_110 hx_111 ⟨v_112, v_113, rfl, hv_114, hv_115⟩
  have ln_117 := hv_114.len63
  have ln_119 := hv_115.len63
  have hS := hS.ext hx_111
  have hS := hS.add hv_114
  have hS := hS.add (hv_115.mv (.less (by simp [fb, Ob.blk])))
  refine Wx.rd (v := .tuple #[v_112, v_113, .int .i64 (numX 2 sS)]) (rd_move rfl) rfl ?_
  refine Wx.rd (v := v_112) (rd_extract rfl rfl) rfl ?_
  refine Wx.rd (v := v_113) (rd_extract rfl rfl) rfl ?_
  refine Wx.rd (v := .int .i64 (numX 2 sS)) (rd_extract rfl rfl) rfl ?_
  refine Wx.rd (v := v_112) (rd_assign rfl) rfl ?_
  refine Wx.rd (v := v_113) (rd_assign rfl) rfl ?_
  refine Wx.rd (v := .int .i64 0) (Rd.to (v := .int .i64 (numX 2 sS)) (rd_assign rfl) (congrArg (Value.int .i64) (show (0 : Int) = (numX 2 sS : Int) from (by decide +kernel)).symm)) rfl ?_
  refine Wx.nil ?_
  refine W.seq ?_
  refine W.reg ?_
  refine Wx.callF (run_callF Try.call43 rfl) (F43 hS.fb_lt) rfl ?_
  rintro r_120 w_121 hx_122 ⟨_, rfl, hv_123⟩
  have ln_125 := hv_123.len63
  have hS := hS.ext hx_122
  have hS := hS.add hv_123
  refine Wx.callF (run_callF Try.call31 rfl) (F31 (in_i64 (by omega) (by omega)) (hS.v 0 rfl) hS.fb_lt) rfl ?_
  rintro r_126 w_127 hx_128 ⟨v_129, rfl, hv_130⟩
  have ln_132 := hv_130.len63
  have hS := hS.ext hx_128
  have hS := hS.add hv_130
  refine Wx.rd (v := .tuple #[v_129, .int .i64 (ringX 2 sS)]) (rd_move rfl) rfl ?_
  refine Wx.rd (v := v_129) (rd_extract rfl rfl) rfl ?_
  refine Wx.rd (v := .int .i64 (ringX 2 sS)) (rd_extract rfl rfl) rfl ?_
  refine Wx.rd (v := .int .i64 13) (Rd.to (v := .int .i64 (ringX 2 sS)) (rd_assign rfl) (congrArg (Value.int .i64) (show (13 : Int) = (ringX 2 sS : Int) from (by decide +kernel)).symm)) rfl ?_
  refine Wx.nil ?_
  refine W.seq ?_
  refine W.reg ?_
  refine Wx.callF (run_callF Try.call45 rfl) (F45 hS.fb_lt) rfl ?_
  rintro r_133 w_134 hx_135 ⟨_, rfl, hv_136⟩
  have ln_138 := hv_136.len63
  have hS := hS.ext hx_135
  have hS := hS.add hv_136
  refine Wx.callF (run_callF Try.call36 rfl) (F36 (in_i64 (by omega) (by omega)) (hS.v 0 rfl) hS.fb_lt) rfl ?_
  rintro r_139 w_140 hx_141 ⟨v_142, v_143, rfl, hv_144, hv_145⟩
  have ln_147 := hv_144.len63
  have ln_149 := hv_145.len63
  have hS := hS.ext hx_141
  have hS := hS.add hv_144
  have hS := hS.add (hv_145.mv (.less (by simp [fb, Ob.blk])))
  refine Wx.rd (v := .tuple #[v_142, v_143, .int .i64 (numX 2 sT)]) (rd_move rfl) rfl ?_
  refine Wx.rd (v := v_142) (rd_extract rfl rfl) rfl ?_
  refine Wx.rd (v := v_143) (rd_extract rfl rfl) rfl ?_
  refine Wx.rd (v := .int .i64 (numX 2 sT)) (rd_extract rfl rfl) rfl ?_
  refine Wx.rd (v := .int .i64 13) (Rd.to (v := .int .i64 (numX 2 sT)) (rd_assign rfl) (congrArg (Value.int .i64) (show (13 : Int) = (numX 2 sT : Int) from (by decide +kernel)).symm)) rfl ?_
  refine Wx.nil ?_
  refine W.seq ?_
  refine W.reg ?_
  refine Wx.callF (run_callF Try.call43 rfl) (F43 hS.fb_lt) rfl ?_
  rintro r_150 w_151 hx_152 ⟨_, rfl, hv_153⟩
  have ln_155 := hv_153.len63
  have hS := hS.ext hx_152
  have hS := hS.add hv_153
  refine Wx.callF (run_callF Try.call27 rfl) (F27 (in_i64 (by omega) (by omega)) (hS.v 0 rfl) (in_i64 (by omega) (by omega)) (in_i64 (by omega) (by omega)) hS.fb_lt) rfl ?_
  rintro r_156 w_157 hx_158 ⟨v_159, rfl, hv_160⟩
  have ln_162 := hv_160.len63
  have hS := hS.ext hx_158
  have hS := hS.add hv_160
  refine Wx.rd (v := .tuple #[v_159, .int .i64 (leastX 2 sS 0 1)]) (rd_move rfl) rfl ?_
  refine Wx.rd (v := v_159) (rd_extract rfl rfl) rfl ?_
  refine Wx.rd (v := .int .i64 (leastX 2 sS 0 1)) (rd_extract rfl rfl) rfl ?_
  refine Wx.rd (v := v_159) (rd_assign rfl) rfl ?_
  refine Wx.rd (v := .int .i64 12) (Rd.to (v := .int .i64 (leastX 2 sS 0 1)) (rd_assign rfl) (congrArg (Value.int .i64) (show (12 : Int) = (leastX 2 sS 0 1 : Int) from (by decide +kernel)).symm)) rfl ?_
  refine Wx.nil ?_
  refine W.seq ?_
  refine W.reg ?_
  refine Wx.rd (v := .int .i64 0) (rd_move rfl) rfl ?_
  refine Wx.rd (v := .bool true) (Rd.to (v := .bool (decide ((0 : Int) = 0))) (rd_eql rfl rfl) rfl) rfl ?_
  refine Wx.rd (v := .bool true) (rd_move rfl) rfl ?_
  refine Wx.gyes rfl rfl rfl ?_
  refine Wx.rd (v := .int .i64 0) (rd_move rfl) rfl ?_
  refine Wx.gyes rfl rfl rfl ?_
  refine Wx.rd (v := .bool true) (Rd.to (v := .bool (decide ((0 : Int) = 0))) (rd_eql rfl rfl) rfl) rfl ?_
  refine Wx.rd (v := .bool true) (rd_pickT rfl rfl) rfl ?_
  refine Wx.rd (v := .bool true) (rd_move rfl) rfl ?_
  refine Wx.gyes rfl rfl rfl ?_
  refine Wx.rd (v := .int .i64 0) (rd_move rfl) rfl ?_
  refine Wx.gyes rfl rfl rfl ?_
  refine Wx.rd (v := .bool true) (Rd.to (v := .bool (decide ((0 : Int) = 0))) (rd_eql rfl rfl) rfl) rfl ?_
  refine Wx.rd (v := .bool true) (rd_pickT rfl rfl) rfl ?_
  refine Wx.rd (v := .bool true) (rd_move rfl) rfl ?_
  refine Wx.gyes rfl rfl rfl ?_
  refine Wx.rd (v := .int .i64 0) (rd_move rfl) rfl ?_
  refine Wx.gyes rfl rfl rfl ?_
  refine Wx.rd (v := .bool true) (Rd.to (v := .bool (decide ((0 : Int) = 0))) (rd_eql rfl rfl) rfl) rfl ?_
  refine Wx.rd (v := .bool true) (rd_pickT rfl rfl) rfl ?_
  refine Wx.rd (v := .bool true) (rd_move rfl) rfl ?_
  refine Wx.gyes rfl rfl rfl ?_
  refine Wx.rd (v := .int .i64 13) (rd_move rfl) rfl ?_
  refine Wx.gyes rfl rfl rfl ?_
  refine Wx.rd (v := .bool true) (Rd.to (v := .bool (decide ((13 : Int) = 13))) (rd_eql rfl rfl) rfl) rfl ?_
  refine Wx.rd (v := .bool true) (rd_pickT rfl rfl) rfl ?_
  refine Wx.rd (v := .bool true) (rd_move rfl) rfl ?_
  refine Wx.gyes rfl rfl rfl ?_
  refine Wx.rd (v := .int .i64 13) (rd_move rfl) rfl ?_
  refine Wx.gyes rfl rfl rfl ?_
  refine Wx.rd (v := .bool true) (Rd.to (v := .bool (decide ((13 : Int) = 13))) (rd_eql rfl rfl) rfl) rfl ?_
  refine Wx.rd (v := .bool true) (rd_pickT rfl rfl) rfl ?_
  refine Wx.rd (v := .bool true) (rd_move rfl) rfl ?_
  refine Wx.gyes rfl rfl rfl ?_
  refine Wx.rd (v := .int .i64 12) (rd_move rfl) rfl ?_
  refine Wx.gyes rfl rfl rfl ?_
  refine Wx.rd (v := .bool true) (Rd.to (v := .bool (decide ((12 : Int) = 12))) (rd_eql rfl rfl) rfl) rfl ?_
  refine Wx.rd (v := .bool true) (rd_pickT rfl rfl) rfl ?_
  refine Wx.rd (v := .bool true) (rd_move rfl) rfl ?_
  refine Wx.gyes rfl rfl rfl ?_
  refine Wx.rd (v := .int .i64 5) (rd_move rfl) rfl ?_
  refine Wx.gyes rfl rfl rfl ?_
  refine Wx.rd (v := .bool true) (Rd.to (v := .bool (decide ((5 : Int) = 5))) (rd_eql rfl rfl) rfl) rfl ?_
  refine Wx.rd (v := .bool true) (rd_pickT rfl rfl) rfl ?_
  refine Wx.rd (v := .bool true) (rd_move rfl) rfl ?_
  refine Wx.gyes rfl rfl rfl ?_
  refine Wx.rd (v := v_19) (rd_move rfl) rfl ?_
  refine Wx.gyes rfl rfl rfl ?_
  refine Wx.rd (v := .agg #[.int .i64 2, .int .i64 0]) (rd_build (vs := [(0, .int .i64 2), (1, .int .i64 0)]) rfl (by kernel_rfl)) rfl ?_
  refine Wx.gyes rfl rfl rfl ?_
  refine Wx.rd (v := .agg #[.int .i64 2, .int .i64 1]) (rd_build (vs := [(0, .int .i64 2), (1, .int .i64 1)]) rfl (by kernel_rfl)) rfl ?_
  refine Wx.gyes rfl rfl rfl ?_
  refine Wx.lit (t := (tP (tI .i64) (tI .i64))) (ys := [(2, 0), (2, 1)]) (vs := [.agg #[.int .i64 2, .int .i64 0], .agg #[.int .i64 2, .int .i64 1]]) elLi_31 hS rfl rfl ⟨(V.mk2 (in_i64 (by omega) (by omega)) (in_i64 (by omega) (by omega))), ⟨(V.mk2 (in_i64 (by omega) (by omega)) (in_i64 (by omega) (by omega))), trivial⟩⟩ (by decide) rfl (fun v_163 w_164 hx_165 hS => ?_)
  refine Wx.gyes rfl rfl rfl ?_
  refine Wx.callF (run_callF Try.call24 rfl) (F24 (hS.lend 23 rfl) (hS.lend 0 rfl)) rfl ?_
  rintro r_166 w_167 hx_168 rfl
  have hS := hS.ext hx_168
  rw [show (decide ((pairsE (gS sS) 2 sS) = [(2, 0), (2, 1)]) : Bool) = true from (by decide +kernel)]
  refine Wx.rd (v := .bool true) (rd_pickT rfl rfl) rfl ?_
  refine Wx.rd (v := .bool true) (rd_move rfl) rfl ?_
  refine Wx.gyes rfl rfl rfl ?_
  refine Wx.rd (v := v_31) (rd_move rfl) rfl ?_
  refine Wx.gyes rfl rfl rfl ?_
  refine Wx.rd (v := .agg #[.int .i64 0, .int .i64 1]) (rd_build (vs := [(0, .int .i64 0), (1, .int .i64 1)]) rfl (by kernel_rfl)) rfl ?_
  refine Wx.gyes rfl rfl rfl ?_
  refine Wx.rd (v := .agg #[.int .i64 1, .int .i64 0]) (rd_build (vs := [(0, .int .i64 1), (1, .int .i64 0)]) rfl (by kernel_rfl)) rfl ?_
  refine Wx.gyes rfl rfl rfl ?_
  refine Wx.lit (t := (tP (tI .i64) (tI .i64))) (ys := [(0, 1), (1, 0)]) (vs := [.agg #[.int .i64 0, .int .i64 1], .agg #[.int .i64 1, .int .i64 0]]) elLi_31 hS rfl rfl ⟨(V.mk2 (in_i64 (by omega) (by omega)) (in_i64 (by omega) (by omega))), ⟨(V.mk2 (in_i64 (by omega) (by omega)) (in_i64 (by omega) (by omega))), trivial⟩⟩ (by decide) rfl (fun v_169 w_170 hx_171 hS => ?_)
  refine Wx.gyes rfl rfl rfl ?_
  refine Wx.callF (run_callF Try.call24 rfl) (F24 (hS.lend 22 rfl) (hS.lend 0 rfl)) rfl ?_
  rintro r_172 w_173 hx_174 rfl
  have hS := hS.ext hx_174
  rw [show (decide ((pairsE (bS sT) 2 sT) = [(0, 1), (1, 0)]) : Bool) = true from (by decide +kernel)]
  refine Wx.rd (v := .bool true) (rd_pickT rfl rfl) rfl ?_
  refine Wx.rd (v := .bool true) (rd_move rfl) rfl ?_
  refine Wx.gyes rfl rfl rfl ?_
  refine Wx.rd (v := v_43) (rd_move rfl) rfl ?_
  refine Wx.gyes rfl rfl rfl ?_
  refine Wx.lit (t := (tI .i64)) (ys := [2, 0]) (vs := [.int .i64 2, .int .i64 0]) elLi_39 hS rfl rfl ⟨(V.mkInt (in_i64 (by omega) (by omega))), ⟨(V.mkInt (in_i64 (by omega) (by omega))), trivial⟩⟩ (by decide) rfl (fun v_175 w_176 hx_177 hS => ?_)
  refine Wx.gyes rfl rfl rfl ?_
  have hS := hS.freeze 0 rfl
  refine Wx.callF (run_callF Try.call44 rfl) (F44 (hS.v 0 rfl) hS.fb_lt) rfl ?_
  rintro r_179 w_180 hx_181 ⟨_, rfl, hv_182⟩
  have ln_184 := hv_182.len63
  have hS := hS.ext hx_181
  have hS := hS.add hv_182
  refine Wx.gyes rfl rfl rfl ?_
  refine Wx.callF (run_callF Try.call33 rfl) (F33 (hS.v 22 rfl) (hS.v 0 rfl)) rfl ?_
  rintro r_185 w_186 hx_187 rfl
  have hS := hS.ext hx_187
  rw [show (decide ((leastL 2 sS 2 0) = [2, 0]) : Bool) = true from (by decide +kernel)]
  refine Wx.rd (v := .bool true) (rd_pickT rfl rfl) rfl ?_
  refine Wx.rd (v := .bool true) (rd_move rfl) rfl ?_
  refine Wx.gyes rfl rfl rfl ?_
  refine Wx.rd (v := .bool true) (rd_move rfl) rfl ?_
  refine Wx.rd (v := .bool true) (rd_pickT rfl rfl) rfl ?_
  refine Wx.rd (v := .bool true) (rd_move rfl) rfl ?_
  refine Wx.gyes rfl rfl rfl ?_
  refine Wx.rd (v := .bool false) (rd_move rfl) rfl ?_
  refine Wx.gyes rfl rfl rfl ?_
  refine Wx.rd (v := .bool true) (rd_not (c := false) rfl) rfl ?_
  refine Wx.rd (v := .bool true) (rd_pickT rfl rfl) rfl ?_
  refine Wx.rd (v := .bool true) (rd_move rfl) rfl ?_
  refine Wx.gyes rfl rfl rfl ?_
  refine Wx.rd (v := v_74) (rd_move rfl) rfl ?_
  refine Wx.gyes rfl rfl rfl ?_
  refine Wx.lit (t := (tI .i64)) (ys := [0, 1]) (vs := [.int .i64 0, .int .i64 1]) elLi_39 hS rfl rfl ⟨(V.mkInt (in_i64 (by omega) (by omega))), ⟨(V.mkInt (in_i64 (by omega) (by omega))), trivial⟩⟩ (by decide) rfl (fun v_188 w_189 hx_190 hS => ?_)
  refine Wx.gyes rfl rfl rfl ?_
  have hS := hS.freeze 0 rfl
  refine Wx.callF (run_callF Try.call44 rfl) (F44 (hS.v 0 rfl) hS.fb_lt) rfl ?_
  rintro r_192 w_193 hx_194 ⟨_, rfl, hv_195⟩
  have ln_197 := hv_195.len63
  have hS := hS.ext hx_194
  have hS := hS.add hv_195
  refine Wx.gyes rfl rfl rfl ?_
  refine Wx.callF (run_callF Try.call33 rfl) (F33 (hS.v 20 rfl) (hS.v 0 rfl)) rfl ?_
  rintro r_198 w_199 hx_200 rfl
  have hS := hS.ext hx_200
  rw [show (decide ((ringE 2 sT) = [0, 1]) : Bool) = true from (by decide +kernel)]
  refine Wx.rd (v := .bool true) (rd_pickT rfl rfl) rfl ?_
  refine Wx.rd (v := .bool true) (rd_move rfl) rfl ?_
  refine Wx.gyes rfl rfl rfl ?_
  refine Wx.rd (v := v_87) (rd_move rfl) rfl ?_
  refine Wx.gyes rfl rfl rfl ?_
  refine Wx.lit (t := (tI .i64)) (ys := [0]) (vs := [.int .i64 0]) elLi_39 hS rfl rfl ⟨(V.mkInt (in_i64 (by omega) (by omega))), trivial⟩ (by decide) rfl (fun v_201 w_202 hx_203 hS => ?_)
  refine Wx.gyes rfl rfl rfl ?_
  have hS := hS.freeze 0 rfl
  refine Wx.callF (run_callF Try.call44 rfl) (F44 (hS.v 0 rfl) hS.fb_lt) rfl ?_
  rintro r_205 w_206 hx_207 ⟨_, rfl, hv_208⟩
  have ln_210 := hv_208.len63
  have hS := hS.ext hx_207
  have hS := hS.add hv_208
  refine Wx.gyes rfl rfl rfl ?_
  refine Wx.callF (run_callF Try.call33 rfl) (F33 (hS.v 20 rfl) (hS.v 0 rfl)) rfl ?_
  rintro r_211 w_212 hx_213 rfl
  have hS := hS.ext hx_213
  rw [show (decide ((wrongE 2 sT) = [0]) : Bool) = true from (by decide +kernel)]
  refine Wx.rd (v := .bool true) (rd_pickT rfl rfl) rfl ?_
  refine Wx.rd (v := .bool true) (rd_move rfl) rfl ?_
  refine Wx.gyes rfl rfl rfl ?_
  refine Wx.rd (v := v_100) (rd_move rfl) rfl ?_
  refine Wx.gyes rfl rfl rfl ?_
  refine Wx.lit (t := (tI .i64)) (ys := [0, 0, 2]) (vs := [.int .i64 0, .int .i64 0, .int .i64 2]) elLi_39 hS rfl rfl ⟨(V.mkInt (in_i64 (by omega) (by omega))), ⟨(V.mkInt (in_i64 (by omega) (by omega))), ⟨(V.mkInt (in_i64 (by omega) (by omega))), trivial⟩⟩⟩ (by decide) rfl (fun v_214 w_215 hx_216 hS => ?_)
  refine Wx.gyes rfl rfl rfl ?_
  have hS := hS.freeze 0 rfl
  refine Wx.callF (run_callF Try.call44 rfl) (F44 (hS.v 0 rfl) hS.fb_lt) rfl ?_
  rintro r_218 w_219 hx_220 ⟨_, rfl, hv_221⟩
  have ln_223 := hv_221.len63
  have hS := hS.ext hx_220
  have hS := hS.add hv_221
  refine Wx.gyes rfl rfl rfl ?_
  refine Wx.callF (run_callF Try.call33 rfl) (F33 (hS.lend 20 rfl) (hS.v 0 rfl)) rfl ?_
  rintro r_224 w_225 hx_226 rfl
  have hS := hS.ext hx_226
  rw [show (decide ((ranksL 2 sS) = [0, 0, 2]) : Bool) = true from (by decide +kernel)]
  refine Wx.rd (v := .bool true) (rd_pickT rfl rfl) rfl ?_
  refine Wx.rd (v := .bool true) (rd_move rfl) rfl ?_
  refine Wx.gyes rfl rfl rfl ?_
  refine Wx.callF (run_callF Try.call43 rfl) (F43 hS.fb_lt) rfl ?_
  rintro r_227 w_228 hx_229 ⟨_, rfl, hv_230⟩
  have ln_232 := hv_230.len63
  have hS := hS.ext hx_229
  have hS := hS.add hv_230
  refine Wx.gyes rfl rfl rfl ?_
  refine Wx.rd (v := v_112) (rd_move rfl) rfl ?_
  refine Wx.gyes rfl rfl rfl ?_
  refine Wx.rd (v := v_113) (rd_move rfl) rfl ?_
  refine Wx.gyes rfl rfl rfl ?_
  refine Wx.callF (run_callF Try.call37 rfl) (F37 (in_i64 (by omega) (by omega)) (hS.v 0 rfl) (hS.v 19 rfl) (hS.v 18 rfl) hS.fb_lt) rfl ?_
  rintro r_233 w_234 hx_235 rfl
  have hS := hS.ext hx_235
  rw [show (agreesE 2 sS (numW 2 sS) (numU 2 sS) : Int) = 0 from (by rw [agrC_eq]; decide +kernel)]
  refine Wx.gyes rfl rfl rfl ?_
  refine Wx.rd (v := .bool true) (Rd.to (v := .bool (decide ((0 : Int) = 0))) (rd_eql rfl rfl) rfl) rfl ?_
  refine Wx.rd (v := .bool true) (rd_pickT rfl rfl) rfl ?_
  refine Wx.rd (v := .bool true) (rd_move rfl) rfl ?_
  refine Wx.gyes rfl rfl rfl ?_
  refine Wx.callF (run_callF Try.call43 rfl) (F43 hS.fb_lt) rfl ?_
  rintro r_236 w_237 hx_238 ⟨_, rfl, hv_239⟩
  have ln_241 := hv_239.len63
  have hS := hS.ext hx_238
  have hS := hS.add hv_239
  refine Wx.gyes rfl rfl rfl ?_
  refine Wx.lit (t := (tI .i64)) (ys := [0, 0, 2]) (vs := [.int .i64 0, .int .i64 0, .int .i64 2]) elLi_39 hS rfl rfl ⟨(V.mkInt (in_i64 (by omega) (by omega))), ⟨(V.mkInt (in_i64 (by omega) (by omega))), ⟨(V.mkInt (in_i64 (by omega) (by omega))), trivial⟩⟩⟩ (by decide) rfl (fun v_242 w_243 hx_244 hS => ?_)
  refine Wx.gyes rfl rfl rfl ?_
  have hS := hS.freeze 0 rfl
  refine Wx.callF (run_callF Try.call44 rfl) (F44 (hS.v 0 rfl) hS.fb_lt) rfl ?_
  rintro r_246 w_247 hx_248 ⟨_, rfl, hv_249⟩
  have ln_251 := hv_249.len63
  have hS := hS.ext hx_248
  have hS := hS.add hv_249
  refine Wx.gyes rfl rfl rfl ?_
  refine Wx.lit (t := (tI .i64)) (ys := [1, 1, 1]) (vs := [.int .i64 1, .int .i64 1, .int .i64 1]) elLi_39 hS rfl rfl ⟨(V.mkInt (in_i64 (by omega) (by omega))), ⟨(V.mkInt (in_i64 (by omega) (by omega))), ⟨(V.mkInt (in_i64 (by omega) (by omega))), trivial⟩⟩⟩ (by decide) rfl (fun v_252 w_253 hx_254 hS => ?_)
  refine Wx.gyes rfl rfl rfl ?_
  have hS := hS.freeze 0 rfl
  refine Wx.callF (run_callF Try.call44 rfl) (F44 (hS.v 0 rfl) hS.fb_lt) rfl ?_
  rintro r_256 w_257 hx_258 ⟨_, rfl, hv_259⟩
  have ln_261 := hv_259.len63
  have hS := hS.ext hx_258
  have hS := hS.add hv_259
  refine Wx.gyes rfl rfl rfl ?_
  refine Wx.callF (run_callF Try.call37 rfl) (F37 (in_i64 (by omega) (by omega)) (hS.v 4 rfl) (hS.v 2 rfl) (hS.v 0 rfl) hS.fb_lt) rfl ?_
  rintro r_262 w_263 hx_264 rfl
  have hS := hS.ext hx_264
  rw [show (agreesE 2 sS [0, 0, 2] [1, 1, 1] : Int) = 0 from (by rw [agrC_eq]; decide +kernel)]
  refine Wx.gyes rfl rfl rfl ?_
  refine Wx.rd (v := .bool true) (Rd.to (v := .bool (decide ((0 : Int) = 0))) (rd_eql rfl rfl) rfl) rfl ?_
  refine Wx.rd (v := .bool true) (rd_pickT rfl rfl) rfl ?_
  refine Wx.rd (v := .bool true) (rd_move rfl) rfl ?_
  refine Wx.gyes rfl rfl rfl ?_
  refine Wx.callF (run_callF Try.call43 rfl) (F43 hS.fb_lt) rfl ?_
  rintro r_265 w_266 hx_267 ⟨_, rfl, hv_268⟩
  have ln_270 := hv_268.len63
  have hS := hS.ext hx_267
  have hS := hS.add hv_268
  refine Wx.gyes rfl rfl rfl ?_
  refine Wx.lit (t := (tI .i64)) (ys := [0, 0, 0]) (vs := [.int .i64 0, .int .i64 0, .int .i64 0]) elLi_39 hS rfl rfl ⟨(V.mkInt (in_i64 (by omega) (by omega))), ⟨(V.mkInt (in_i64 (by omega) (by omega))), ⟨(V.mkInt (in_i64 (by omega) (by omega))), trivial⟩⟩⟩ (by decide) rfl (fun v_271 w_272 hx_273 hS => ?_)
  refine Wx.gyes rfl rfl rfl ?_
  have hS := hS.freeze 0 rfl
  refine Wx.callF (run_callF Try.call44 rfl) (F44 (hS.v 0 rfl) hS.fb_lt) rfl ?_
  rintro r_275 w_276 hx_277 ⟨_, rfl, hv_278⟩
  have ln_280 := hv_278.len63
  have hS := hS.ext hx_277
  have hS := hS.add hv_278
  refine Wx.gyes rfl rfl rfl ?_
  refine Wx.lit (t := (tI .i64)) (ys := [1, 1, 1]) (vs := [.int .i64 1, .int .i64 1, .int .i64 1]) elLi_39 hS rfl rfl ⟨(V.mkInt (in_i64 (by omega) (by omega))), ⟨(V.mkInt (in_i64 (by omega) (by omega))), ⟨(V.mkInt (in_i64 (by omega) (by omega))), trivial⟩⟩⟩ (by decide) rfl (fun v_281 w_282 hx_283 hS => ?_)
  refine Wx.gyes rfl rfl rfl ?_
  have hS := hS.freeze 0 rfl
  refine Wx.callF (run_callF Try.call44 rfl) (F44 (hS.v 0 rfl) hS.fb_lt) rfl ?_
  rintro r_285 w_286 hx_287 ⟨_, rfl, hv_288⟩
  have ln_290 := hv_288.len63
  have hS := hS.ext hx_287
  have hS := hS.add hv_288
  refine Wx.gyes rfl rfl rfl ?_
  refine Wx.callF (run_callF Try.call37 rfl) (F37 (in_i64 (by omega) (by omega)) (hS.v 4 rfl) (hS.v 2 rfl) (hS.v 0 rfl) hS.fb_lt) rfl ?_
  rintro r_291 w_292 hx_293 rfl
  have hS := hS.ext hx_293
  rw [show (agreesE 2 sS [0, 0, 0] [1, 1, 1] : Int) = 14 from (by rw [agrC_eq]; decide +kernel)]
  refine Wx.gyes rfl rfl rfl ?_
  refine Wx.rd (v := .bool true) (Rd.to (v := .bool (decide ((14 : Int) = 14))) (rd_eql rfl rfl) rfl) rfl ?_
  refine Wx.rd (v := .bool true) (rd_pickT rfl rfl) rfl ?_
  refine Wx.rd (v := .bool true) (rd_move rfl) rfl ?_
  refine Wx.gyes rfl rfl rfl ?_
  refine Wx.callF (run_callF Try.call45 rfl) (F45 hS.fb_lt) rfl ?_
  rintro r_294 w_295 hx_296 ⟨_, rfl, hv_297⟩
  have ln_299 := hv_297.len63
  have hS := hS.ext hx_296
  have hS := hS.add hv_297
  refine Wx.gyes rfl rfl rfl ?_
  refine Wx.lit (t := (tI .i64)) (ys := [0, 1]) (vs := [.int .i64 0, .int .i64 1]) elLi_39 hS rfl rfl ⟨(V.mkInt (in_i64 (by omega) (by omega))), ⟨(V.mkInt (in_i64 (by omega) (by omega))), trivial⟩⟩ (by decide) rfl (fun v_300 w_301 hx_302 hS => ?_)
  refine Wx.gyes rfl rfl rfl ?_
  have hS := hS.freeze 0 rfl
  refine Wx.callF (run_callF Try.call44 rfl) (F44 (hS.v 0 rfl) hS.fb_lt) rfl ?_
  rintro r_304 w_305 hx_306 ⟨_, rfl, hv_307⟩
  have ln_309 := hv_307.len63
  have hS := hS.ext hx_306
  have hS := hS.add hv_307
  refine Wx.gyes rfl rfl rfl ?_
  refine Wx.callF (run_callF Try.call34 rfl) (F34 (in_i64 (by omega) (by omega)) (hS.v 2 rfl) (hS.v 0 rfl) (by decide) hS.fb_lt) rfl ?_
  rintro r_310 w_311 hx_312 rfl
  have hS := hS.ext hx_312
  rw [show (provesE 2 sT [0, 1] : Int) = 0 from (by decide +kernel)]
  refine Wx.gyes rfl rfl rfl ?_
  refine Wx.rd (v := .bool true) (Rd.to (v := .bool (decide ((0 : Int) = 0))) (rd_eql rfl rfl) rfl) rfl ?_
  refine Wx.rd (v := .bool true) (rd_pickT rfl rfl) rfl ?_
  refine Wx.rd (v := .bool true) (rd_move rfl) rfl ?_
  refine Wx.gyes rfl rfl rfl ?_
  refine Wx.callF (run_callF Try.call45 rfl) (F45 hS.fb_lt) rfl ?_
  rintro r_313 w_314 hx_315 ⟨_, rfl, hv_316⟩
  have ln_318 := hv_316.len63
  have hS := hS.ext hx_315
  have hS := hS.add hv_316
  refine Wx.gyes rfl rfl rfl ?_
  refine Wx.lit (t := (tI .i64)) (ys := [1, 0]) (vs := [.int .i64 1, .int .i64 0]) elLi_39 hS rfl rfl ⟨(V.mkInt (in_i64 (by omega) (by omega))), ⟨(V.mkInt (in_i64 (by omega) (by omega))), trivial⟩⟩ (by decide) rfl (fun v_319 w_320 hx_321 hS => ?_)
  refine Wx.gyes rfl rfl rfl ?_
  have hS := hS.freeze 0 rfl
  refine Wx.callF (run_callF Try.call44 rfl) (F44 (hS.v 0 rfl) hS.fb_lt) rfl ?_
  rintro r_323 w_324 hx_325 ⟨_, rfl, hv_326⟩
  have ln_328 := hv_326.len63
  have hS := hS.ext hx_325
  have hS := hS.add hv_326
  refine Wx.gyes rfl rfl rfl ?_
  refine Wx.callF (run_callF Try.call34 rfl) (F34 (in_i64 (by omega) (by omega)) (hS.v 2 rfl) (hS.v 0 rfl) (by decide) hS.fb_lt) rfl ?_
  rintro r_329 w_330 hx_331 rfl
  have hS := hS.ext hx_331
  rw [show (provesE 2 sT [1, 0] : Int) = 14 from (by decide +kernel)]
  refine Wx.gyes rfl rfl rfl ?_
  refine Wx.rd (v := .bool true) (Rd.to (v := .bool (decide ((14 : Int) = 14))) (rd_eql rfl rfl) rfl) rfl ?_
  refine Wx.rd (v := .bool true) (rd_pickT rfl rfl) rfl ?_
  refine Wx.rd (v := .bool true) (rd_assign rfl) rfl ?_
  refine Wx.nil ?_
  exact W.ret ⟨.bool true, ResIs.one, hS.bel, rfl⟩
end Go.Proofs.Ytjbcpggikaeleaa

namespace Go.Proofs.Ytjbcpggikaeleaa
open Go.Wk Go.RowKit Go.Lib
set_option linter.unusedVariables false
set_option linter.unusedSimpArgs false
end Go.Proofs.Ytjbcpggikaeleaa

namespace Go.Proofs.Ytjbcpggikaeleaa
open Go.Wk Go.RowKit Go.Lib
set_option linter.unusedVariables false
set_option linter.unusedSimpArgs false
end Go.Proofs.Ytjbcpggikaeleaa

namespace Go.Proofs.Ytjbcpggikaeleaa
open Go.Wk Go.RowKit Go.Lib
set_option linter.unusedVariables false
set_option linter.unusedSimpArgs false
end Go.Proofs.Ytjbcpggikaeleaa

namespace Go.Proofs.Ytjbcpggikaeleaa
open Go.Wk Go.RowKit Go.Lib
set_option linter.unusedVariables false
set_option linter.unusedSimpArgs false
end Go.Proofs.Ytjbcpggikaeleaa

namespace Go.Proofs.Ytjbcpggikaeleaa
open Go.Wk Go.RowKit Go.Lib
set_option linter.unusedVariables false
set_option linter.unusedSimpArgs false
end Go.Proofs.Ytjbcpggikaeleaa

namespace Go.Proofs.Ytjbcpggikaeleaa
open Go.Wk Go.RowKit Go.Lib
set_option linter.unusedVariables false
set_option linter.unusedSimpArgs false
end Go.Proofs.Ytjbcpggikaeleaa

namespace Go.Proofs.Ytjbcpggikaeleaa
open Go.Wk Go.RowKit Go.Lib
set_option linter.unusedVariables false
set_option linter.unusedSimpArgs false
end Go.Proofs.Ytjbcpggikaeleaa

namespace Go.Proofs.Ytjbcpggikaeleaa
open Go.Wk Go.RowKit Go.Lib
set_option linter.unusedVariables false
set_option linter.unusedSimpArgs false
end Go.Proofs.Ytjbcpggikaeleaa

namespace Go.Proofs.Ytjbcpggikaeleaa
open Go.Wk Go.RowKit Go.Lib
set_option linter.unusedVariables false
set_option linter.unusedSimpArgs false
end Go.Proofs.Ytjbcpggikaeleaa

namespace Go.Proofs.Ytjbcpggikaeleaa
open Go.Wk Go.RowKit Go.Lib
set_option linter.unusedVariables false
set_option linter.unusedSimpArgs false
end Go.Proofs.Ytjbcpggikaeleaa

namespace Go.Proofs.Ytjbcpggikaeleaa
open Go.Wk Go.RowKit Go.Lib
set_option linter.unusedVariables false
set_option linter.unusedSimpArgs false


end Go.Proofs.Ytjbcpggikaeleaa
