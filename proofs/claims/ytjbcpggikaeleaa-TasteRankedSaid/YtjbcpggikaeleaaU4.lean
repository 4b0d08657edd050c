/-
  WHAT IS PROVED HERE, TEXT BY TEXT (several texts of one prover, joined to one file; the conditions stand in each statement):
  * WHAT IS PROVED HERE: what functions of layer 10 hand back, each out of its own code; the conditions stand in each statement.
  * WHAT IS PROVED HERE: what functions of layer 10 hand back, each out of its own code; the conditions stand in each statement.
  * WHAT IS PROVED HERE: what functions of layer 10 hand back, each out of its own code; the conditions stand in each statement.
  * WHAT IS PROVED HERE: what functions of layer 10 hand back, each out of its own code; the conditions stand in each statement.
  * WHAT IS PROVED HERE: what functions of layer 10 hand back, each out of its own code; the conditions stand in each statement.
  * WHAT IS PROVED HERE: what functions of layer 10 hand back, each out of its own code; the conditions stand in each statement.
-/
import Derived.Test.YtjbcpggikaeleaaProg
import Derived.Test.YtjbcpggikaeleaaU2
import Derived.Test.YtjbcpggikaeleaaU3

set_option linter.unusedVariables false
set_option linter.unusedSimpArgs false

namespace Go.Proofs.Ytjbcpggikaeleaa
open Go.Wk Go.RowKit Go.Lib
set_option linter.unusedVariables false
set_option linter.unusedSimpArgs false
theorem elKs_39 : ElemI Try.prog 39 3 (.int .i64 0) 1 8 := ElemI.of Try.underlying39 (by kernel_rfl) (by first | rfl | kernel_rfl) (by decide)
theorem foKs_93_0 : fldOff Try.prog 93 0 = some 0 := by kernel_rfl
theorem mixedKs_ : Try.prog.follows .mixedOrders = true := by kernel_rfl

set_option maxHeartbeats 2000000 in
theorem F74 {mv : Value} {l : List Sale} {a : Int} {b : Int} {O : List (Option Nat)} {w : World} (h_mv : V (tMk true) l mv O w) (i_a : InK .i64 a) (i_b : InK .i64 b) (p_a : 0 ≤ a ∧ a < (l.length : Int)) (p_b : 0 ≤ b ∧ b < (l.length : Int)) (hO : ∀ b, some b ∈ O → b < w.heap.size) : Calls Try.prog 74 #[mv, .int .i64 a, .int .i64 b] w (Ret w (fun r w' => ∃ rv, r = rv ∧ (V (tSl (tI .i64)) (shortL l a b) rv O w' ∧ (shortL l a b = [] → rv = .slice none 0 0)))) := by
  have b_b := bd_i64 i_b
  have b_a := bd_i64 i_a
  obtain ⟨g_mv, rfl⟩ := V.mkPtr h_mv
  have ok_mv := V.mkOK h_mv
  obtain ⟨gd, hgd, hok⟩ := ok_mv.at
  have hl6 := ok_mv.1
  have a_mv := h_mv
  have hS := St.start w O hO
  refine enterR Try.func74 rfl Try.ntmps74 Try.results74 rfl ?_
  refine W.seq ?_
  refine W.reg ?_
  refine Wx.rd (v := (.slice none 0 0)) (rd_assign rfl) rfl ?_
  refine Wx.nil ?_
  refine W.seq ?_
  refine W.reg ?_
  refine Wx.lit (t := (tI .i64)) (ys := [-1]) (vs := [.int .i64 (-1)]) elKs_39 hS rfl rfl ⟨(V.mkInt (in_i64 (by omega) (by omega))), trivial⟩ (by decide) rfl (fun v_1 w_2 hx_3 hS => ?_)
  refine Wx.rd (v := (.pointer (some ⟨g_mv, 0, none⟩))) (rd_move rfl) rfl ?_
  refine Wx.rd (v := (.pointer (some ⟨g_mv, 0, none⟩))) (rd_nilCheck rfl rfl) rfl ?_
  refine Wx.rd (v := .pointer (some ⟨g_mv, 0, none⟩)) (rd_fieldAddr rfl foKs_93_0) rfl ?_
  refine Wx.ex (rd_mkS (hS.arg a_mv) rfl Try.isAgg22) rfl (fun v_4 hv_5 => ?_)
  have ln_6 := hv_5.len63
  have hS := hS.add hv_5
  refine Wx.rd (v := .int .i64 (l.length : Int)) (rd_lenV rfl (hS.v 0 rfl) Try.underlying22) rfl ?_
  refine Wx.callF (run_callF Try.call91 rfl) (F91 (a := -1) (hS.lend 1 rfl) (in_i64 (by omega) (by omega)) (by omega) (by omega)) rfl ?_
  rintro r_8 w_9 hx_10 ⟨_, rfl, hv_11⟩
  have hS := hS.pushFr hx_10 hv_11
  refine Wx.rd (v := r_8) (rd_assign rfl) rfl ?_
  refine Wx.nil ?_
  refine W.seq ?_
  refine W.reg ?_
  refine Wx.rd (v := r_8) (rd_move rfl) rfl ?_
  refine Wx.rd (v := .int .i64 b) (rd_move rfl) rfl ?_
  refine Wx.indexR hS 0 rfl rfl rfl Try.underlying39 Try.sizeOf3 (by first | omega | (simp only [List.length_set, List.length_append, List.length_cons, List.length_nil, List.length_replicate]; omega)) (by simp; omega) rfl (fun g_13 hg_14 => ?_)
  refine Wx.storeR (j := b.toNat) (z := 1) hS 0 rfl hg_14 rfl (by first | omega | (simp only [List.length_set, List.length_append, List.length_cons, List.length_nil, List.length_replicate]; omega)) rfl (V.mkInt (in_i64 (by omega) (by omega))) Try.sizeOf3 (fun w_15 hz_16 hS => ?_)
  refine Wx.nil ?_
  refine W.seq ?_
  refine W.seq ?_
  refine W.reg ?_
  refine Wx.rd (v := .int .i64 1) (rd_assign rfl) rfl ?_
  refine Wx.nil ?_
  refine W.block ?_
  refine W.loop [8, 9, 10, 11, 12, 27, 28, 29, 30, 31, 32, 33, 34, 35, 36, 37, 38, 39, 40, 41, 42, 43, 44, 45, 46, 47, 48, 49, 50, 51, 52, 53, 54, 55, 56, 57, 58, 59, 60, 61, 62, 63, 64, 65, 66, 67, 68, 69, 70, 71, 72, 73, 74, 75, 76, 77, 78, 79, 80] (fun x : Int × (List Int) => match x with | (s, far) => [(8, .int .i64 s)]) (fun (x : Int × (List Int)) w' => match x with | (s, far) => St w O w' [.row (tI .i64) 3 r_8 far, Ob.v (tSl (tP (tSl (tI .i64)) (tSl (tI .i64)))) l v_4, .row (tI .i64) 3 v_1 [-1]] ∧ 1 ≤ s ∧ s ≤ l.length ∧ FarI (gS l) l.length b far s ∧ (far.length : Int) = l.length) (fun x : Int × (List Int) => match x with | (s, far) => (l.length - s).toNat) (1, List.set (List.replicate (l.length : Int).toNat (-1)) b.toNat 1) ⟨rfl, trivial⟩ ⟨hS, (by first | omega | simp), (by first | omega | simp), (far_start p_b), (by simp)⟩ ?_
  rintro ⟨s, far⟩ u_18 w_17 ⟨hS, h0, h1, h2, h3⟩
  refine W.seq ?_
  refine W.seq ?_
  refine W.reg ?_
  refine Wx.rd (v := .int .i64 s) (rd_move rfl) rfl ?_
  refine Wx.rd (v := (.pointer (some ⟨g_mv, 0, none⟩))) (rd_move rfl) rfl ?_
  refine Wx.rd (v := (.pointer (some ⟨g_mv, 0, none⟩))) (rd_nilCheck rfl rfl) rfl ?_
  refine Wx.rd (v := .pointer (some ⟨g_mv, 0, none⟩)) (rd_fieldAddr rfl foKs_93_0) rfl ?_
  refine Wx.ex (rd_mkS (hS.arg a_mv) rfl Try.isAgg22) rfl (fun v_19 hv_20 => ?_)
  have ln_21 := hv_20.len63
  have hS := hS.add hv_20
  refine Wx.rd (v := .int .i64 (l.length : Int)) (rd_lenV rfl (hS.v 0 rfl) Try.underlying22) rfl ?_
  refine Wx.rd (v := .bool (decide (s < (l.length : Int)))) (rd_lss rfl rfl) rfl ?_
  refine Wx.nil ?_
  refine W.condD rfl (fun c0 => ?_) (fun c0 => ?_)
  · -- yes
    refine W.skip ?_
    refine W.seq ?_
    refine W.block ?_
    refine W.seq ?_
    refine W.reg ?_
    refine Wx.rd (v := (.pointer (some ⟨g_mv, 0, none⟩))) (rd_move rfl) rfl ?_
    refine Wx.rd (v := (.pointer (some ⟨g_mv, 0, none⟩))) (rd_nilCheck rfl rfl) rfl ?_
    refine Wx.rd (v := .pointer (some ⟨g_mv, 0, none⟩)) (rd_fieldAddr rfl foKs_93_0) rfl ?_
    refine Wx.ex (rd_mkS (hS.arg a_mv) rfl Try.isAgg22) rfl (fun v_23 hv_24 => ?_)
    have ln_25 := hv_24.len63
    have hS := hS.add hv_24
    refine Wx.rd (v := .int .i64 (l.length : Int)) (rd_lenV rfl (hS.v 0 rfl) Try.underlying22) rfl ?_
    refine Wx.rd (v := .int .i64 0) (rd_move rfl) rfl ?_
    refine Wx.nil ?_
    refine W.block ?_
    refine W.loop [9, 10, 11, 12, 41, 42, 43, 44, 45, 46, 47, 48, 49, 50, 51, 52, 53, 54, 55, 56, 57, 58, 59, 60, 61, 62, 63, 64, 65, 66, 67, 68, 69, 70, 71, 72, 73, 74, 75, 76, 77, 78, 79, 80] (fun x : Int × (List Int) => match x with | (i, far2) => [(41, .int .i64 i)]) (fun (x : Int × (List Int)) w' => match x with | (i, far2) => St w O w' [Ob.v (tSl (tP (tSl (tI .i64)) (tSl (tI .i64)))) l v_23, Ob.v (tSl (tP (tSl (tI .i64)) (tSl (tI .i64)))) l v_19, .row (tI .i64) 3 r_8 far2, Ob.v (tSl (tP (tSl (tI .i64)) (tSl (tI .i64)))) l v_4, .row (tI .i64) 3 v_1 [-1]] ∧ 0 ≤ i ∧ i ≤ l.length ∧ FarR (gS l) l.length b s i 0 far2 ∧ (far2.length : Int) = l.length) (fun x : Int × (List Int) => match x with | (i, far2) => (l.length - i).toNat) (0, far) ⟨rfl, trivial⟩ ⟨hS, (by first | omega | simp), (by first | omega | simp), (farR_start h2), (h3)⟩ ?_
    rintro ⟨i, far2⟩ u_28 w_27 ⟨hS, g0, g1, g2, g3⟩
    refine W.seq ?_
    refine W.reg ?_
    refine Wx.rd (v := .bool (decide (i < (l.length : Int)))) (rd_lss rfl rfl) rfl ?_
    refine Wx.nil ?_
    refine W.seq ?_
    refine W.condD rfl (fun c1 => ?_) (fun c1 => ?_)
    · -- yes
      refine W.skip ?_
      refine W.seq ?_
      refine W.block ?_
      refine W.seq ?_
      refine W.reg ?_
      refine Wx.rd (v := .int .i64 i) (rd_move rfl) rfl ?_
      refine Wx.ex (rd_index ([], []) (hS.v 0 rfl) rfl rfl Try.underlying22 Try.sizeOf62 (by first | omega | (simp only [List.length_set, List.length_append, List.length_cons, List.length_nil, List.length_replicate]; omega)) (by first | omega | (simp only [List.length_set, List.length_append, List.length_cons, List.length_nil, List.length_replicate]; omega))) rfl (fun p_29 hp_30 => ?_)
      refine Wx.ex (rd_load hp_30 rfl Try.isAgg62 Try.sizeOf62) rfl (fun v_31 hv_32 => ?_)
      obtain ⟨v_33, v_34, rfl, hv_35, hv_36⟩ := hv_32.s2
      have hS := hS.add (hv_35)
      have ln_38 := (hS.v 0 rfl).len63
      have hS := hS.add (V.upF (hv_36))
      have ln_40 := (hS.v 0 rfl).len63
      refine Wx.alloc (cs := [(.slice none 0 0), (.slice none 0 0)]) hS Try.zeroValue62 rfl rfl (fun g_41 w_42 hx_44 hb_43 hS => ?_)
      refine Wx.rd (v := .int .i64 i) (rd_assign rfl) rfl ?_
      refine Wx.storeX (cs' := [v_33, v_34]) (ds := [v_33, v_34]) hS 0 rfl rfl rfl rfl Try.sizeOf62 (Nat.le_of_ble_eq_true rfl) (one_cons (V.oneC (hS.v 2 rfl)) (one_cons (V.oneC (hS.v 1 rfl)) one_nil)) rfl (fun w_45 hz_46 hS => ?_)
      refine Wx.nil ?_
      refine W.seq ?_
      refine W.reg ?_
      refine Wx.rd (v := (.pointer (some ⟨g_mv, 0, none⟩))) (rd_move rfl) rfl ?_
      refine Wx.rd (v := (.pointer (some ⟨g_mv, 0, none⟩))) (rd_nilCheck rfl rfl) rfl ?_
      refine Wx.rd (v := .pointer (some ⟨g_mv, 0, none⟩)) (rd_fieldAddr rfl foKs_93_0) rfl ?_
      refine Wx.ex (rd_mkS (hS.arg a_mv) rfl Try.isAgg22) rfl (fun v_47 hv_48 => ?_)
      have ln_49 := hv_48.len63
      have hS := hS.add hv_48
      refine Wx.rd (v := .int .i64 (l.length : Int)) (rd_lenV rfl (hS.v 0 rfl) Try.underlying22) rfl ?_
      refine Wx.rd (v := .int .i64 0) (rd_move rfl) rfl ?_
      refine Wx.nil ?_
      refine W.block ?_
      refine W.loop [11, 12, 51, 52, 53, 54, 55, 56, 57, 58, 59, 60, 61, 62, 63, 64, 65, 66, 67, 68, 69, 70, 71, 72, 73, 74, 75, 76, 77, 78, 79] (fun x : Int × (List Int) => match x with | (k, far3) => [(51, .int .i64 k)]) (fun (x : Int × (List Int)) w' => match x with | (k, far3) => St w O w' [Ob.v (tSl (tP (tSl (tI .i64)) (tSl (tI .i64)))) l v_47, .box g_41 62 [v_33, v_34], Ob.v (tSl (tI .i64)) ((ix ([], []) l i).2) v_34, Ob.v (tSl (tI .i64)) ((ix ([], []) l i).1) v_33, Ob.v (tSl (tP (tSl (tI .i64)) (tSl (tI .i64)))) l v_23, Ob.v (tSl (tP (tSl (tI .i64)) (tSl (tI .i64)))) l v_19, .row (tI .i64) 3 r_8 far3, Ob.v (tSl (tP (tSl (tI .i64)) (tSl (tI .i64)))) l v_4, .row (tI .i64) 3 v_1 [-1]] ∧ 0 ≤ k ∧ k ≤ l.length ∧ FarR (gS l) l.length b s i k far3 ∧ (far3.length : Int) = l.length) (fun x : Int × (List Int) => match x with | (k, far3) => (l.length - k).toNat) (0, far2) ⟨rfl, trivial⟩ ⟨hS, (by first | omega | simp), (by first | omega | simp), (g2), (g3)⟩ ?_
      rintro ⟨k, far3⟩ u_52 w_51 ⟨hS, k0, k1, k2, k3⟩
      refine W.seq ?_
      refine W.reg ?_
      refine Wx.rd (v := .bool (decide (k < (l.length : Int)))) (rd_lss rfl rfl) rfl ?_
      refine Wx.nil ?_
      refine W.seq ?_
      refine W.condD rfl (fun c2 => ?_) (fun c2 => ?_)
      · -- yes
        refine W.skip ?_
        refine W.seq ?_
        refine W.block ?_
        refine W.seq ?_
        refine W.reg ?_
        refine Wx.rd (v := .int .i64 k) (rd_move rfl) rfl ?_
        refine Wx.ex (rd_index ([], []) (hS.v 0 rfl) rfl rfl Try.underlying22 Try.sizeOf62 (by first | omega | (simp only [List.length_set, List.length_append, List.length_cons, List.length_nil, List.length_replicate]; omega)) (by first | omega | (simp only [List.length_set, List.length_append, List.length_cons, List.length_nil, List.length_replicate]; omega))) rfl (fun p_53 hp_54 => ?_)
        refine Wx.ex (rd_load hp_54 rfl Try.isAgg62 Try.sizeOf62) rfl (fun v_55 hv_56 => ?_)
        obtain ⟨v_57, v_58, rfl, hv_59, hv_60⟩ := hv_56.s2
        have hS := hS.add (hv_59)
        have ln_62 := (hS.v 0 rfl).len63
        have hS := hS.add (V.upF (hv_60))
        have ln_64 := (hS.v 0 rfl).len63
        refine Wx.alloc (cs := [(.slice none 0 0), (.slice none 0 0)]) hS Try.zeroValue62 rfl rfl (fun g_65 w_66 hx_68 hb_67 hS => ?_)
        refine Wx.rd (v := .int .i64 k) (rd_assign rfl) rfl ?_
        refine Wx.storeX (cs' := [v_57, v_58]) (ds := [v_57, v_58]) hS 0 rfl rfl rfl rfl Try.sizeOf62 (Nat.le_of_ble_eq_true rfl) (one_cons (V.oneC (hS.v 2 rfl)) (one_cons (V.oneC (hS.v 1 rfl)) one_nil)) rfl (fun w_69 hz_70 hS => ?_)
        refine Wx.nil ?_
        refine W.seq ?_
        refine W.reg ?_
        refine Wx.rd (v := r_8) (rd_move rfl) rfl ?_
        refine Wx.rd (v := .int .i64 i) (rd_move rfl) rfl ?_
        refine Wx.indexR hS 9 rfl rfl rfl Try.underlying39 Try.sizeOf3 (by first | omega | (simp only [List.length_set, List.length_append, List.length_cons, List.length_nil, List.length_replicate]; omega)) (by first | omega | (simp only [List.length_set, List.length_append, List.length_cons, List.length_nil, List.length_replicate]; omega)) rfl (fun g_71 hg_72 => ?_)
        refine Wx.rd (v := .int .i64 (ix 0 far3 i)) (rd_loadRI' hS 9 rfl hg_72 rfl (by first | omega | (simp only [List.length_set, List.length_append, List.length_cons, List.length_nil, List.length_replicate]; omega)) (by first | omega | (simp only [List.length_set, List.length_append, List.length_cons, List.length_nil, List.length_replicate]; omega)) Try.isAgg3 Try.sizeOf3) rfl ?_
        have bd_73 := bd_i64 (hS.rowInK' 9 rfl (by first | omega | (simp only [List.length_set, List.length_append, List.length_cons, List.length_nil, List.length_replicate]; omega)) (by first | omega | (simp only [List.length_set, List.length_append, List.length_cons, List.length_nil, List.length_replicate]; omega)) : InK .i64 (ix 0 far3 i))
        refine Wx.rd (v := .bool (decide ((ix 0 far3 i) < 0))) (rd_lss rfl rfl) rfl ?_
        refine Wx.rd (v := .bool (decide ((ix 0 far3 i) < 0))) (rd_move rfl) rfl ?_
        refine Wx.cut (X := Unit) 7 [62, 63, 64, 65, 66, 67, 68] (fun _ => [(68, .bool (decide ((ix 0 far3 i) < 0) && decide ((ix 0 far3 k) = s)))]) (fun _ w' => St w O w' [.box g_65 62 [v_57, v_58], Ob.v (tSl (tI .i64)) ((ix ([], []) l k).2) v_58, Ob.v (tSl (tI .i64)) ((ix ([], []) l k).1) v_57, Ob.v (tSl (tP (tSl (tI .i64)) (tSl (tI .i64)))) l v_47, .box g_41 62 [v_33, v_34], Ob.v (tSl (tI .i64)) ((ix ([], []) l i).2) v_34, Ob.v (tSl (tI .i64)) ((ix ([], []) l i).1) v_33, Ob.v (tSl (tP (tSl (tI .i64)) (tSl (tI .i64)))) l v_23, Ob.v (tSl (tP (tSl (tI .i64)) (tSl (tI .i64)))) l v_19, .row (tI .i64) 3 r_8 far3, Ob.v (tSl (tP (tSl (tI .i64)) (tSl (tI .i64)))) l v_4, .row (tI .i64) 3 v_1 [-1]]) ?_ ?_
        · rcases Bool.eq_false_or_eq_true (decide ((ix 0 far3 i) < 0)) with g_74 | g_74
          · -- True
            have gp_75 := of_decide_eq_true g_74
            refine Wx.gyes rfl rfl (congrArg Value.bool g_74) ?_
            refine Wx.rd (v := r_8) (rd_move rfl) rfl ?_
            refine Wx.gyes rfl rfl (congrArg Value.bool g_74) ?_
            refine Wx.rd (v := .int .i64 k) (rd_move rfl) rfl ?_
            refine Wx.gyes rfl rfl (congrArg Value.bool g_74) ?_
            refine Wx.indexR hS 9 rfl rfl rfl Try.underlying39 Try.sizeOf3 (by first | omega | (simp only [List.length_set, List.length_append, List.length_cons, List.length_nil, List.length_replicate]; omega)) (by first | omega | (simp only [List.length_set, List.length_append, List.length_cons, List.length_nil, List.length_replicate]; omega)) rfl (fun g_76 hg_77 => ?_)
            refine Wx.gyes rfl rfl (congrArg Value.bool g_74) ?_
            refine Wx.rd (v := .int .i64 (ix 0 far3 k)) (rd_loadRI' hS 9 rfl hg_77 rfl (by first | omega | (simp only [List.length_set, List.length_append, List.length_cons, List.length_nil, List.length_replicate]; omega)) (by first | omega | (simp only [List.length_set, List.length_append, List.length_cons, List.length_nil, List.length_replicate]; omega)) Try.isAgg3 Try.sizeOf3) rfl ?_
            have bd_78 := bd_i64 (hS.rowInK' 9 rfl (by first | omega | (simp only [List.length_set, List.length_append, List.length_cons, List.length_nil, List.length_replicate]; omega)) (by first | omega | (simp only [List.length_set, List.length_append, List.length_cons, List.length_nil, List.length_replicate]; omega)) : InK .i64 (ix 0 far3 k))
            refine Wx.gyes rfl rfl (congrArg Value.bool g_74) ?_
            refine Wx.rd (v := .int .i64 s) (rd_move rfl) rfl ?_
            refine Wx.gyes rfl rfl (congrArg Value.bool g_74) ?_
            refine Wx.rd (v := .bool (decide ((ix 0 far3 k) = s))) (rd_eql rfl rfl) rfl ?_
            refine Wx.rd (v := .bool (decide ((ix 0 far3 k) = s))) (rd_pickT (congrArg Value.bool g_74) rfl) rfl ?_
            refine Wx.nil ⟨(), hS, ⟨?_, trivial⟩, Out.look rfl Out.refl⟩
            show Value.bool (decide ((ix 0 far3 k) = s)) = Value.bool (decide ((ix 0 far3 i) < 0) && decide ((ix 0 far3 k) = s))
            first | rw [g_74, Bool.true_and] | (rw [g_74]; rfl)
          · -- False
            have gp_79 := of_decide_eq_false g_74
            refine Wx.gnoB rfl rfl (congrArg Value.bool g_74) rfl rfl ?_
            refine Wx.gnoB rfl rfl (congrArg Value.bool g_74) rfl rfl ?_
            refine Wx.gnoB rfl rfl (congrArg Value.bool g_74) rfl rfl ?_
            refine Wx.gnoB rfl rfl (congrArg Value.bool g_74) rfl rfl ?_
            refine Wx.gnoB rfl rfl (congrArg Value.bool g_74) rfl rfl ?_
            refine Wx.gnoB rfl rfl (congrArg Value.bool g_74) rfl rfl ?_
            refine Wx.rd (v := .bool false) (rd_pickF (congrArg Value.bool g_74) rfl) rfl ?_
            refine Wx.nil ⟨(), hS, ⟨?_, trivial⟩, Out.look rfl Out.refl⟩
            show Value.bool false = Value.bool (decide ((ix 0 far3 i) < 0) && decide ((ix 0 far3 k) = s))
            first | rw [g_74, Bool.false_and] | (rw [g_74]; rfl)
        rintro ⟨⟩ u_81 w_80 hS
        refine Wx.rd (v := .bool (decide ((ix 0 far3 i) < 0) && decide ((ix 0 far3 k) = s))) (rd_move rfl) rfl ?_
        refine Wx.cut (X := Unit) 4 [70, 71, 72, 73] (fun _ => [(73, .bool ((decide ((ix 0 far3 i) < 0) && decide ((ix 0 far3 k) = s)) && goodS (((ix ([], []) l i).1), ((ix ([], []) l i).2)) (((ix ([], []) l k).1), ((ix ([], []) l k).2))))]) (fun _ w' => St w O w' [.box g_65 62 [v_57, v_58], Ob.v (tSl (tI .i64)) ((ix ([], []) l k).2) v_58, Ob.v (tSl (tI .i64)) ((ix ([], []) l k).1) v_57, Ob.v (tSl (tP (tSl (tI .i64)) (tSl (tI .i64)))) l v_47, .box g_41 62 [v_33, v_34], Ob.v (tSl (tI .i64)) ((ix ([], []) l i).2) v_34, Ob.v (tSl (tI .i64)) ((ix ([], []) l i).1) v_33, Ob.v (tSl (tP (tSl (tI .i64)) (tSl (tI .i64)))) l v_23, Ob.v (tSl (tP (tSl (tI .i64)) (tSl (tI .i64)))) l v_19, .row (tI .i64) 3 r_8 far3, Ob.v (tSl (tP (tSl (tI .i64)) (tSl (tI .i64)))) l v_4, .row (tI .i64) 3 v_1 [-1]]) ?_ ?_
        · rcases Bool.eq_false_or_eq_true (decide ((ix 0 far3 i) < 0) && decide ((ix 0 far3 k) = s)) with g_82 | g_82
          · -- True
            have gp_83 := g_82
            try simp only [Bool.and_eq_true, Bool.or_eq_true, Bool.not_eq_true', Bool.and_eq_false_iff, Bool.or_eq_false_iff, Bool.not_eq_false', decide_eq_true_eq, decide_eq_false_iff_not, not_or, Bool.false_eq_true, Bool.true_eq_false, false_or, or_false, not_false_eq_true] at gp_83
            refine Wx.gyes rfl rfl (congrArg Value.bool g_82) ?_
            refine Wx.rd (v := .agg #[v_33, v_34]) (rd_loadXs (ds := [v_33, v_34]) hS 4 rfl rfl rfl rfl Try.isAgg62 Try.sizeOf62) rfl ?_
            refine Wx.gyes rfl rfl (congrArg Value.bool g_82) ?_
            refine Wx.rd (v := .agg #[v_57, v_58]) (rd_loadXs (ds := [v_57, v_58]) hS 0 rfl rfl rfl rfl Try.isAgg62 Try.sizeOf62) rfl ?_
            refine Wx.gyes rfl rfl (congrArg Value.bool g_82) ?_
            refine Wx.callF (run_callF Try.call67 rfl) (F67 (hS.v 6 rfl) (hS.v 5 rfl) (hS.v 2 rfl) (hS.v 1 rfl) (hok i (by omega) (by omega)).b1 (hok i (by omega) (by omega)).b2 (hok k (by omega) (by omega)).b2 (by have := (hok i (by omega) (by omega)).l1; omega) (by have h1 := (hok i (by omega) (by omega)).l1; have h2 := (hok i (by omega) (by omega)).l2; omega) (by have h1 := (hok i (by omega) (by omega)).l1; have h2 := (hok k (by omega) (by omega)).l2; omega)) rfl ?_
            rintro r_84 w_85 hx_86 rfl
            have hS := hS.ext hx_86
            refine Wx.rd (v := .bool (goodS (((ix ([], []) l i).1), ((ix ([], []) l i).2)) (((ix ([], []) l k).1), ((ix ([], []) l k).2)))) (rd_pickT (congrArg Value.bool g_82) rfl) rfl ?_
            refine Wx.nil ⟨(), hS, ⟨?_, trivial⟩, Out.look rfl Out.refl⟩
            show Value.bool (goodS (((ix ([], []) l i).1), ((ix ([], []) l i).2)) (((ix ([], []) l k).1), ((ix ([], []) l k).2))) = Value.bool ((decide ((ix 0 far3 i) < 0) && decide ((ix 0 far3 k) = s)) && goodS (((ix ([], []) l i).1), ((ix ([], []) l i).2)) (((ix ([], []) l k).1), ((ix ([], []) l k).2)))
            first | rw [g_82, Bool.true_and] | (rw [g_82]; rfl)
          · -- False
            have gp_87 := g_82
            try simp only [Bool.and_eq_true, Bool.or_eq_true, Bool.not_eq_true', Bool.and_eq_false_iff, Bool.or_eq_false_iff, Bool.not_eq_false', decide_eq_true_eq, decide_eq_false_iff_not, not_or, Bool.false_eq_true, Bool.true_eq_false, false_or, or_false, not_false_eq_true] at gp_87
            refine Wx.gnoB rfl rfl (congrArg Value.bool g_82) rfl rfl ?_
            refine Wx.gnoB rfl rfl (congrArg Value.bool g_82) rfl rfl ?_
            refine Wx.gnoB rfl rfl (congrArg Value.bool g_82) rfl rfl ?_
            refine Wx.rd (v := .bool false) (rd_pickF (congrArg Value.bool g_82) rfl) rfl ?_
            refine Wx.nil ⟨(), hS, ⟨?_, trivial⟩, Out.look rfl Out.refl⟩
            show Value.bool false = Value.bool ((decide ((ix 0 far3 i) < 0) && decide ((ix 0 far3 k) = s)) && goodS (((ix ([], []) l i).1), ((ix ([], []) l i).2)) (((ix ([], []) l k).1), ((ix ([], []) l k).2)))
            first | rw [g_82, Bool.false_and] | (rw [g_82]; rfl)
        rintro ⟨⟩ u_89 w_88 hS
        refine Wx.nil ?_
        refine W.cond rfl (fun c3 => ?_) (fun c3 => ?_)
        · -- yes
          try simp only [Bool.and_eq_true, Bool.or_eq_true, Bool.not_eq_true', Bool.and_eq_false_iff, Bool.or_eq_false_iff, Bool.not_eq_false', decide_eq_true_eq, decide_eq_false_iff_not, not_or, Bool.false_eq_true, Bool.true_eq_false, false_or, or_false, not_false_eq_true] at c3
          refine W.reg ?_
          refine Wx.rd (v := r_8) (rd_move rfl) rfl ?_
          refine Wx.rd (v := .int .i64 i) (rd_move rfl) rfl ?_
          refine Wx.rd (v := .int .i64 s) (rd_move rfl) rfl ?_
          refine Wx.rd (v := .int .i64 (s + 1)) (rd_add rfl rfl (in_i64 (by omega) (by omega))) rfl ?_
          refine Wx.indexR hS 9 rfl rfl rfl Try.underlying39 Try.sizeOf3 (by first | omega | (simp only [List.length_set, List.length_append, List.length_cons, List.length_nil, List.length_replicate]; omega)) (by first | omega | (simp only [List.length_set, List.length_append, List.length_cons, List.length_nil, List.length_replicate]; omega)) rfl (fun g_90 hg_91 => ?_)
          refine Wx.storeR (j := i.toNat) (z := s + 1) hS 9 rfl hg_91 rfl (by first | omega | (simp only [List.length_set, List.length_append, List.length_cons, List.length_nil, List.length_replicate]; omega)) rfl (V.mkInt (in_i64 (by omega) (by omega))) Try.sizeOf3 (fun w_92 hz_93 hS => ?_)
          refine Wx.nil ?_
          refine W.reg ?_
          refine Wx.rd (v := .int .i64 (k + 1)) (rd_add rfl rfl (in_i64 (by omega) (by omega))) rfl ?_
          refine Wx.rd (v := .int .i64 (k + 1)) (rd_move rfl) rfl ?_
          refine Wx.nil ?_
          refine ⟨(k + 1, List.set far3 i.toNat (s + 1)), (by show (l.length - (k + 1)).toNat < (l.length - k).toNat; omega), ?_, ?_, Out.look rfl (Out.hav rfl (Out.look rfl (Out.hav rfl (Out.look rfl Out.self))))⟩
          · exact ⟨St.tl (St.tl (hS.tl)), (by first | omega | assumption), (by first | omega | assumption), (farR_yes k2 h0 (by omega) (by omega) c3.1.1 c3.1.2 c3.2), (by rw [List.length_set]; exact k3)⟩
          · exact ⟨rfl, trivial⟩
        · -- no
          try simp only [Bool.and_eq_true, Bool.or_eq_true, Bool.not_eq_true', Bool.and_eq_false_iff, Bool.or_eq_false_iff, Bool.not_eq_false', decide_eq_true_eq, decide_eq_false_iff_not, not_or, Bool.false_eq_true, Bool.true_eq_false, false_or, or_false, not_false_eq_true] at c3
          refine W.skip ?_
          refine W.reg ?_
          refine Wx.rd (v := .int .i64 (k + 1)) (rd_add rfl rfl (in_i64 (by omega) (by omega))) rfl ?_
          refine Wx.rd (v := .int .i64 (k + 1)) (rd_move rfl) rfl ?_
          refine Wx.nil ?_
          refine ⟨(k + 1, far3), (by show (l.length - (k + 1)).toNat < (l.length - k).toNat; omega), ?_, ?_, Out.look rfl (Out.hav rfl (Out.look rfl (Out.hav rfl (Out.look rfl Out.self))))⟩
          · exact ⟨St.tl (St.tl (hS.tl)), (by first | omega | assumption), (by first | omega | assumption), (farR_no k2 h0 (by omega) (by omega) (fun hh => by rcases c3 with (q | q) | q; exact q hh.1; exact q hh.2.1; (have hz := hh.2.2; rw [gS, q] at hz; cases hz))), (k3)⟩
          · exact ⟨rfl, trivial⟩
      · -- no
        refine W.exit rfl ?_
        refine W.reg ?_
        refine Wx.rd (v := .int .i64 (i + 1)) (rd_add rfl rfl (in_i64 (by omega) (by omega))) rfl ?_
        refine Wx.rd (v := .int .i64 (i + 1)) (rd_move rfl) rfl ?_
        refine Wx.nil ?_
        refine ⟨(i + 1, far3), (by show (l.length - (i + 1)).toNat < (l.length - i).toNat; omega), ?_, ?_, Out.look rfl (Out.hav rfl (Out.look rfl Out.self))⟩
        · exact ⟨St.tl (St.tl (St.tl (hS.tl))), (by first | omega | assumption), (by first | omega | assumption), (farR_row k2 p_b h0 (by omega) (by omega)), (k3)⟩
        · exact ⟨rfl, trivial⟩
    · -- no
      refine W.exit rfl ?_
      refine W.reg ?_
      refine Wx.rd (v := .int .i64 s) (rd_move rfl) rfl ?_
      refine Wx.rd (v := .int .i64 (s + 1)) (rd_add rfl rfl (in_i64 (by omega) (by omega))) rfl ?_
      refine Wx.rd (v := .int .i64 (s + 1)) (rd_assign rfl) rfl ?_
      refine Wx.nil ?_
      refine ⟨(s + 1, far2), (by show (l.length - (s + 1)).toNat < (l.length - s).toNat; omega), ?_, ?_, Out.look rfl (Out.hav rfl (Out.look rfl Out.self))⟩
      · exact ⟨St.tl (hS.tl), (by first | omega | assumption), (by first | omega | assumption), (farR_end g2 (by omega)), (g3)⟩
      · exact ⟨rfl, trivial⟩
  · -- no
    refine W.exit rfl ?_
    refine W.seq ?_
    refine W.seq ?_
    refine W.reg ?_
    refine Wx.rd (v := r_8) (rd_move rfl) rfl ?_
    refine Wx.rd (v := .int .i64 a) (rd_move rfl) rfl ?_
    refine Wx.indexR hS 1 rfl rfl rfl Try.underlying39 Try.sizeOf3 (by first | omega | (simp only [List.length_set, List.length_append, List.length_cons, List.length_nil, List.length_replicate]; omega)) (by first | omega | (simp only [List.length_set, List.length_append, List.length_cons, List.length_nil, List.length_replicate]; omega)) rfl (fun g_94 hg_95 => ?_)
    refine Wx.rd (v := .int .i64 (ix 0 far a)) (rd_loadRI' hS 1 rfl hg_95 rfl (by first | omega | (simp only [List.length_set, List.length_append, List.length_cons, List.length_nil, List.length_replicate]; omega)) (by first | omega | (simp only [List.length_set, List.length_append, List.length_cons, List.length_nil, List.length_replicate]; omega)) Try.isAgg3 Try.sizeOf3) rfl ?_
    have bd_96 := bd_i64 (hS.rowInK' 1 rfl (by first | omega | (simp only [List.length_set, List.length_append, List.length_cons, List.length_nil, List.length_replicate]; omega)) (by first | omega | (simp only [List.length_set, List.length_append, List.length_cons, List.length_nil, List.length_replicate]; omega)) : InK .i64 (ix 0 far a))
    refine Wx.rd (v := .bool (decide ((ix 0 far a) < 0))) (rd_lss rfl rfl) rfl ?_
    refine Wx.nil ?_
    refine W.condD rfl (fun c4 => ?_) (fun c4 => ?_)
    · -- yes
      refine W.seq ?_
      refine W.reg ?_
      refine Wx.rd (v := (.slice none 0 0)) (rd_assign rfl) rfl ?_
      refine Wx.nil ?_
      have e0_0 : shortL l a b = [] := by rw [shortL, short_none p_b p_a h2 (by omega) c4]; rfl
      exact W.ret ⟨(.slice none 0 0), ResIs.one, hS.bel, ⟨(.slice none 0 0), rfl, ⟨(by rw [e0_0]; exact (V.nil (t := (tI .i64)))), (fun _ => rfl)⟩⟩⟩
    · -- no
      refine W.skip ?_
      refine W.seq ?_
      refine W.reg ?_
      refine Wx.rd (v := .int .i64 a) (rd_move rfl) rfl ?_
      refine Wx.lit (t := (tI .i64)) (ys := [a]) (vs := [.int .i64 a]) elKs_39 hS rfl rfl ⟨(V.mkInt (in_i64 (by omega) (by omega))), trivial⟩ (by decide) rfl (fun v_97 w_98 hx_99 hS => ?_)
      refine Wx.rd (v := v_97) (rd_assign rfl) rfl ?_
      refine Wx.nil ?_
      refine W.seq ?_
      refine W.seq ?_
      refine W.reg ?_
      refine Wx.rd (v := .int .i64 a) (rd_move rfl) rfl ?_
      refine Wx.rd (v := .int .i64 a) (rd_assign rfl) rfl ?_
      refine Wx.nil ?_
      refine W.block ?_
      have hs : s = l.length := by omega
      subst hs
      have hfa := (farI_bd h2 p_a.1 p_a.2).2 (by omega)
      have hfn := far_le p_b p_a hfa.1
      refine W.loop [13, 14, 15, 16, 89, 90, 91, 92, 93, 94, 95, 96, 97, 98, 99, 100, 101, 102, 103, 104, 105, 106, 107, 108, 109, 110, 111, 112, 113, 114, 115, 116, 117, 118, 119, 120, 121, 122, 123, 124, 125, 126, 127, 128] (fun x : Int × Value × (List Int) => match x with | (at_, ov, out) => [(14, .int .i64 at_), (13, ov)]) (fun (x : Int × Value × (List Int)) w' => match x with | (at_, ov, out) => St w O w' [.row (tI .i64) 3 ov out, Ob.v (tSl (tP (tSl (tI .i64)) (tSl (tI .i64)))) l v_19, .row (tI .i64) 3 r_8 far, Ob.v (tSl (tP (tSl (tI .i64)) (tSl (tI .i64)))) l v_4, .row (tI .i64) 3 v_1 [-1]] ∧ 0 ≤ at_ ∧ at_ < l.length ∧ 0 ≤ ix 0 far at_ ∧ out ++ walkF (gS l) l.length far (ix 0 far at_ - 1).toNat at_ = a :: walkF (gS l) l.length far (ix 0 far a - 1).toNat a ∧ (out.length : Int) + ix 0 far at_ ≤ 7) (fun x : Int × Value × (List Int) => match x with | (at_, ov, out) => (ix 0 far at_).toNat) (a, v_97, [a]) ⟨rfl, rfl, trivial⟩ ⟨hS, (by first | omega | simp), (by first | omega | simp), (by first | omega | simp), (rfl), (by simp; omega)⟩ ?_
      rintro ⟨at_, ov, out⟩ u_101 w_100 ⟨hS, m0, m1, m2, m3, m4⟩
      refine W.seq ?_
      refine W.seq ?_
      refine W.reg ?_
      refine Wx.rd (v := .int .i64 at_) (rd_move rfl) rfl ?_
      refine Wx.rd (v := .int .i64 b) (rd_move rfl) rfl ?_
      refine Wx.rd (v := .bool (decide (at_ ≠ b))) (rd_neq rfl rfl) rfl ?_
      refine Wx.nil ?_
      refine W.condD rfl (fun c5 => ?_) (fun c5 => ?_)
      · -- yes
        refine W.skip ?_
        refine W.block ?_
        refine W.seq ?_
        refine W.reg ?_
        refine Wx.rd (v := (.pointer (some ⟨g_mv, 0, none⟩))) (rd_move rfl) rfl ?_
        refine Wx.rd (v := (.pointer (some ⟨g_mv, 0, none⟩))) (rd_nilCheck rfl rfl) rfl ?_
        refine Wx.rd (v := .pointer (some ⟨g_mv, 0, none⟩)) (rd_fieldAddr rfl foKs_93_0) rfl ?_
        refine Wx.ex (rd_mkS (hS.arg a_mv) rfl Try.isAgg22) rfl (fun v_102 hv_103 => ?_)
        have ln_104 := hv_103.len63
        have hS := hS.add hv_103
        refine Wx.rd (v := .int .i64 (l.length : Int)) (rd_lenV rfl (hS.v 0 rfl) Try.underlying22) rfl ?_
        refine Wx.rd (v := .int .i64 0) (rd_move rfl) rfl ?_
        refine Wx.nil ?_
        refine W.block ?_
        refine W.loop [13, 14, 15, 16, 97, 98, 99, 100, 101, 102, 103, 104, 105, 106, 107, 108, 109, 110, 111, 112, 113, 114, 115, 116, 117, 118, 119, 120, 121, 122, 123, 124, 125, 126, 127, 128] (fun (k : Int) => [(14, .int .i64 at_), (97, .int .i64 k), (13, ov)]) (fun (k : Int) w' => St w O w' [Ob.v (tSl (tP (tSl (tI .i64)) (tSl (tI .i64)))) l v_102, .row (tI .i64) 3 ov out, Ob.v (tSl (tP (tSl (tI .i64)) (tSl (tI .i64)))) l v_19, .row (tI .i64) 3 r_8 far, Ob.v (tSl (tP (tSl (tI .i64)) (tSl (tI .i64)))) l v_4, .row (tI .i64) 3 v_1 [-1]] ∧ 0 ≤ k ∧ k ≤ l.length ∧ (∀ q, 0 ≤ q → q < k → ¬ (ix 0 far q = ix 0 far at_ - 1 ∧ gS l at_ q = true))) (fun (k : Int) => (l.length - k).toNat) 0 ⟨rfl, rfl, rfl, trivial⟩ ⟨hS, (by first | omega | simp), (by first | omega | simp), (fun q q0 q1 => by omega)⟩ ?_
        rintro k u_107 w_106 ⟨hS, n0, n1, n2⟩
        refine W.seq ?_
        refine W.reg ?_
        refine Wx.rd (v := .bool (decide (k < (l.length : Int)))) (rd_lss rfl rfl) rfl ?_
        refine Wx.nil ?_
        refine W.seq ?_
        refine W.condD rfl (fun c6 => ?_) (fun c6 => ?_)
        · -- yes
          refine W.skip ?_
          refine W.seq ?_
          refine W.block ?_
          refine W.seq ?_
          refine W.reg ?_
          refine Wx.rd (v := .int .i64 k) (rd_move rfl) rfl ?_
          refine Wx.ex (rd_index ([], []) (hS.v 0 rfl) rfl rfl Try.underlying22 Try.sizeOf62 (by first | omega | (simp only [List.length_set, List.length_append, List.length_cons, List.length_nil, List.length_replicate]; omega)) (by first | omega | (simp only [List.length_set, List.length_append, List.length_cons, List.length_nil, List.length_replicate]; omega))) rfl (fun p_108 hp_109 => ?_)
          refine Wx.ex (rd_load hp_109 rfl Try.isAgg62 Try.sizeOf62) rfl (fun v_110 hv_111 => ?_)
          obtain ⟨v_112, v_113, rfl, hv_114, hv_115⟩ := hv_111.s2
          have hS := hS.add (hv_114)
          have ln_117 := (hS.v 0 rfl).len63
          have hS := hS.add (V.upF (hv_115))
          have ln_119 := (hS.v 0 rfl).len63
          refine Wx.alloc (cs := [(.slice none 0 0), (.slice none 0 0)]) hS Try.zeroValue62 rfl rfl (fun g_120 w_121 hx_123 hb_122 hS => ?_)
          refine Wx.rd (v := .int .i64 k) (rd_assign rfl) rfl ?_
          refine Wx.storeX (cs' := [v_112, v_113]) (ds := [v_112, v_113]) hS 0 rfl rfl rfl rfl Try.sizeOf62 (Nat.le_of_ble_eq_true rfl) (one_cons (V.oneC (hS.v 2 rfl)) (one_cons (V.oneC (hS.v 1 rfl)) one_nil)) rfl (fun w_124 hz_125 hS => ?_)
          refine Wx.nil ?_
          refine W.seq ?_
          refine W.regQ mixedKs_ (by kernel_rfl) ?_
          refine Wx.rd (v := r_8) (rd_move rfl) rfl ?_
          refine Wx.rd (v := .int .i64 k) (rd_move rfl) rfl ?_
          refine Wx.indexR hS 6 rfl rfl rfl Try.underlying39 Try.sizeOf3 (by first | omega | (simp only [List.length_set, List.length_append, List.length_cons, List.length_nil, List.length_replicate]; omega)) (by first | omega | (simp only [List.length_set, List.length_append, List.length_cons, List.length_nil, List.length_replicate]; omega)) rfl (fun g_126 hg_127 => ?_)
          refine Wx.rd (v := .int .i64 (ix 0 far k)) (rd_loadRI' hS 6 rfl hg_127 rfl (by first | omega | (simp only [List.length_set, List.length_append, List.length_cons, List.length_nil, List.length_replicate]; omega)) (by first | omega | (simp only [List.length_set, List.length_append, List.length_cons, List.length_nil, List.length_replicate]; omega)) Try.isAgg3 Try.sizeOf3) rfl ?_
          have bd_128 := bd_i64 (hS.rowInK' 6 rfl (by first | omega | (simp only [List.length_set, List.length_append, List.length_cons, List.length_nil, List.length_replicate]; omega)) (by first | omega | (simp only [List.length_set, List.length_append, List.length_cons, List.length_nil, List.length_replicate]; omega)) : InK .i64 (ix 0 far k))
          refine Wx.rd (v := r_8) (rd_move rfl) rfl ?_
          refine Wx.rd (v := .int .i64 at_) (rd_move rfl) rfl ?_
          refine Wx.indexR hS 6 rfl rfl rfl Try.underlying39 Try.sizeOf3 (by first | omega | (simp only [List.length_set, List.length_append, List.length_cons, List.length_nil, List.length_replicate]; omega)) (by first | omega | (simp only [List.length_set, List.length_append, List.length_cons, List.length_nil, List.length_replicate]; omega)) rfl (fun g_129 hg_130 => ?_)
          refine Wx.rd (v := .int .i64 (ix 0 far at_)) (rd_loadRI' hS 6 rfl hg_130 rfl (by first | omega | (simp only [List.length_set, List.length_append, List.length_cons, List.length_nil, List.length_replicate]; omega)) (by first | omega | (simp only [List.length_set, List.length_append, List.length_cons, List.length_nil, List.length_replicate]; omega)) Try.isAgg3 Try.sizeOf3) rfl ?_
          have bd_131 := bd_i64 (hS.rowInK' 6 rfl (by first | omega | (simp only [List.length_set, List.length_append, List.length_cons, List.length_nil, List.length_replicate]; omega)) (by first | omega | (simp only [List.length_set, List.length_append, List.length_cons, List.length_nil, List.length_replicate]; omega)) : InK .i64 (ix 0 far at_))
          refine Wx.rd (v := .int .i64 ((ix 0 far at_) - 1)) (rd_sub rfl rfl (in_i64 (by omega) (by omega))) rfl ?_
          refine Wx.rd (v := .bool (decide ((ix 0 far k) = ((ix 0 far at_) - 1)))) (rd_eql rfl rfl) rfl ?_
          refine Wx.rd (v := .bool (decide ((ix 0 far k) = ((ix 0 far at_) - 1)))) (rd_move rfl) rfl ?_
          refine Wx.cutQ (X := Unit) 10 [113, 114, 115, 116, 117, 118, 119, 120, 121, 122] (fun _ => [(122, .bool (decide ((ix 0 far k) = ((ix 0 far at_) - 1)) && goodS (((ix ([], []) l at_).1), ((ix ([], []) l at_).2)) (((ix ([], []) l k).1), ((ix ([], []) l k).2))))]) (fun _ => True) ?_ ?_
          · rcases Bool.eq_false_or_eq_true (decide ((ix 0 far k) = ((ix 0 far at_) - 1))) with g_132 | g_132
            · -- True
              have gp_133 := of_decide_eq_true g_132
              refine Wx.gyes rfl rfl (congrArg Value.bool g_132) ?_
              refine Wx.rd (v := (.pointer (some ⟨g_mv, 0, none⟩))) (rd_move rfl) rfl ?_
              refine Wx.gyes rfl rfl (congrArg Value.bool g_132) ?_
              refine Wx.rd (v := (.pointer (some ⟨g_mv, 0, none⟩))) (rd_nilCheck rfl rfl) rfl ?_
              refine Wx.gyes rfl rfl (congrArg Value.bool g_132) ?_
              refine Wx.rd (v := .pointer (some ⟨g_mv, 0, none⟩)) (rd_fieldAddr rfl foKs_93_0) rfl ?_
              refine Wx.gyes rfl rfl (congrArg Value.bool g_132) ?_
              refine Wx.ex (rd_mkS (hS.arg a_mv) rfl Try.isAgg22) rfl (fun v_134 hv_135 => ?_)
              have ln_136 := hv_135.len63
              have hS := hS.add hv_135
              refine Wx.gyes rfl rfl (congrArg Value.bool g_132) ?_
              refine Wx.rd (v := .int .i64 at_) (rd_move rfl) rfl ?_
              refine Wx.gyes rfl rfl (congrArg Value.bool g_132) ?_
              refine Wx.ex (rd_index ([], []) (hS.v 0 rfl) rfl rfl Try.underlying22 Try.sizeOf62 (by first | omega | (simp only [List.length_set, List.length_append, List.length_cons, List.length_nil, List.length_replicate]; omega)) (by first | omega | (simp only [List.length_set, List.length_append, List.length_cons, List.length_nil, List.length_replicate]; omega))) rfl (fun p_138 hp_139 => ?_)
              refine Wx.gyes rfl rfl (congrArg Value.bool g_132) ?_
              refine Wx.ex (rd_load hp_139 rfl Try.isAgg62 Try.sizeOf62) rfl (fun v_140 hv_141 => ?_)
              obtain ⟨v_142, v_143, rfl, hv_144, hv_145⟩ := hv_141.s2
              have hS := hS.add (hv_144)
              have ln_147 := (hS.v 0 rfl).len63
              have hS := hS.add (V.upF (hv_145))
              have ln_149 := (hS.v 0 rfl).len63
              refine Wx.gyes rfl rfl (congrArg Value.bool g_132) ?_
              refine Wx.rd (v := .agg #[v_112, v_113]) (rd_loadXs (ds := [v_112, v_113]) hS 3 rfl rfl rfl rfl Try.isAgg62 Try.sizeOf62) rfl ?_
              refine Wx.gyes rfl rfl (congrArg Value.bool g_132) ?_
              refine Wx.callV (v := .bool (goodS (((ix ([], []) l at_).1), ((ix ([], []) l at_).2)) (((ix ([], []) l k).1), ((ix ([], []) l k).2)))) (run_callF Try.call67 rfl) (fun w_150 hw_151 => (F67 ((hS.v 1 rfl).ext hw_151) ((hS.v 0 rfl).ext hw_151) ((hS.v 5 rfl).ext hw_151) ((hS.v 4 rfl).ext hw_151) (hok at_ (by omega) (by omega)).b1 (hok at_ (by omega) (by omega)).b2 (hok k (by omega) (by omega)).b2 (by have := (hok at_ (by omega) (by omega)).l1; omega) (by have h1 := (hok at_ (by omega) (by omega)).l1; have h2 := (hok at_ (by omega) (by omega)).l2; omega) (by have h1 := (hok at_ (by omega) (by omega)).l1; have h2 := (hok k (by omega) (by omega)).l2; omega))) rfl ?_
              refine Wx.rd (v := .bool (goodS (((ix ([], []) l at_).1), ((ix ([], []) l at_).2)) (((ix ([], []) l k).1), ((ix ([], []) l k).2)))) (rd_pickT (congrArg Value.bool g_132) rfl) rfl ?_
              refine Wx.nilQ (fun _ _ => ⟨(), trivial, ⟨?_, trivial⟩, Out.look rfl Out.refl⟩)
              show Value.bool (goodS (((ix ([], []) l at_).1), ((ix ([], []) l at_).2)) (((ix ([], []) l k).1), ((ix ([], []) l k).2))) = Value.bool (decide ((ix 0 far k) = ((ix 0 far at_) - 1)) && goodS (((ix ([], []) l at_).1), ((ix ([], []) l at_).2)) (((ix ([], []) l k).1), ((ix ([], []) l k).2)))
              first | rw [g_132, Bool.true_and] | (rw [g_132]; rfl)
            · -- False
              have gp_152 := of_decide_eq_false g_132
              refine Wx.gnoB rfl rfl (congrArg Value.bool g_132) rfl rfl ?_
              refine Wx.gnoB rfl rfl (congrArg Value.bool g_132) rfl rfl ?_
              refine Wx.gnoB rfl rfl (congrArg Value.bool g_132) rfl rfl ?_
              refine Wx.gnoB rfl rfl (congrArg Value.bool g_132) rfl rfl ?_
              refine Wx.gnoB rfl rfl (congrArg Value.bool g_132) rfl rfl ?_
              refine Wx.gnoB rfl rfl (congrArg Value.bool g_132) rfl rfl ?_
              refine Wx.gnoB rfl rfl (congrArg Value.bool g_132) rfl rfl ?_
              refine Wx.gnoB rfl rfl (congrArg Value.bool g_132) rfl rfl ?_
              refine Wx.gnoB rfl rfl (congrArg Value.bool g_132) rfl rfl ?_
              refine Wx.rd (v := .bool false) (rd_pickF (congrArg Value.bool g_132) rfl) rfl ?_
              refine Wx.nilQ (fun _ _ => ⟨(), trivial, ⟨?_, trivial⟩, Out.look rfl Out.refl⟩)
              show Value.bool false = Value.bool (decide ((ix 0 far k) = ((ix 0 far at_) - 1)) && goodS (((ix ([], []) l at_).1), ((ix ([], []) l at_).2)) (((ix ([], []) l k).1), ((ix ([], []) l k).2)))
              first | rw [g_132, Bool.false_and] | (rw [g_132]; rfl)
          rintro ⟨⟩ u_154 -
          refine Wx.nilQ (fun w_155 hx_156 => ?_)
          have hS := hS.ext hx_156
          refine W.cond rfl (fun c7 => ?_) (fun c7 => ?_)
          · -- yes
            try simp only [Bool.and_eq_true, Bool.or_eq_true, Bool.not_eq_true', Bool.and_eq_false_iff, Bool.or_eq_false_iff, Bool.not_eq_false', decide_eq_true_eq, decide_eq_false_iff_not, not_or, Bool.false_eq_true, Bool.true_eq_false, false_or, or_false, not_false_eq_true] at c7
            refine W.seq ?_
            refine W.reg ?_
            refine Wx.rd (v := ov) (rd_move rfl) rfl ?_
            refine Wx.rd (v := .int .i64 k) (rd_move rfl) rfl ?_
            refine Wx.lit (t := (tI .i64)) (ys := [k]) (vs := [.int .i64 k]) elKs_39 hS rfl rfl ⟨(V.mkInt (in_i64 (by omega) (by omega))), trivial⟩ (by decide) rfl (fun v_157 w_158 hx_159 hS => ?_)
            refine Wx.append elKs_39 hS 5 rfl rfl rfl (Src.ofR hS 0 rfl) (by simp only [maxLen]; simp; omega) (by simp; omega) rfl (fun v_160 w_161 hz_162 hS => ?_)
            refine Wx.rd (v := .int .i64 k) (rd_move rfl) rfl ?_
            refine Wx.rd (v := v_160) (rd_assign rfl) rfl ?_
            refine Wx.rd (v := .int .i64 k) (rd_assign rfl) rfl ?_
            refine Wx.nil ?_
            refine W.exit rfl ?_
            obtain ⟨hw1, hw2⟩ := walk_step p_b h2 ⟨m0, m1⟩ c5 m2 n0 (by omega) c7.1 c7.2 n2
            refine ⟨(k, v_160, out ++ [k]), (by show (ix 0 far k).toNat < (ix 0 far at_).toNat; omega), ?_, ?_, Out.look rfl (Out.hav rfl (Out.look rfl (Out.hav rfl (Out.look rfl Out.self))))⟩
            · exact ⟨St.tl (St.tl (St.tl (St.tl (hS.tl)))), (by first | omega | assumption), (by first | omega | assumption), (hw2), (by rw [← m3, hw1, List.append_assoc]; rfl), (by simp only [List.length_append, List.length_cons, List.length_nil]; omega)⟩
            · exact ⟨rfl, rfl, trivial⟩
          · -- no
            try simp only [Bool.and_eq_true, Bool.or_eq_true, Bool.not_eq_true', Bool.and_eq_false_iff, Bool.or_eq_false_iff, Bool.not_eq_false', decide_eq_true_eq, decide_eq_false_iff_not, not_or, Bool.false_eq_true, Bool.true_eq_false, false_or, or_false, not_false_eq_true] at c7
            refine W.skip ?_
            refine W.reg ?_
            refine Wx.rd (v := .int .i64 (k + 1)) (rd_add rfl rfl (in_i64 (by omega) (by omega))) rfl ?_
            refine Wx.rd (v := .int .i64 (k + 1)) (rd_move rfl) rfl ?_
            refine Wx.nil ?_
            refine ⟨k + 1, (by show (l.length - (k + 1)).toNat < (l.length - k).toNat; omega), ?_, ?_, Out.look rfl (Out.hav rfl (Out.look rfl Out.self))⟩
            · exact ⟨St.tl (St.tl (hS.tl)), (by first | omega | assumption), (by first | omega | assumption), (fun q q0 q1 => by by_cases hq : q = k; (subst hq; intro hh; rcases c7 with z | z; exact z hh.1; (have hz := hh.2; rw [gS, z] at hz; cases hz)); exact n2 q q0 (by omega))⟩
            · exact ⟨rfl, rfl, rfl, trivial⟩
        · -- no
          refine W.exit rfl ?_
          have hF : False := walk_stuck p_b h2 ⟨m0, m1⟩ c5 m2 (fun q q0 q1 => n2 q q0 (by omega))
          refine ⟨(at_, ov, out), (hF.elim), ?_, ?_, Out.look rfl (Out.hav rfl (Out.look rfl Out.self))⟩
          · exact ⟨hS.tl, (by first | omega | assumption), (by first | omega | assumption), (by first | omega | assumption), (by first | omega | assumption), (by first | omega | assumption)⟩
          · exact ⟨rfl, rfl, trivial⟩
      · -- no
        refine W.exit rfl ?_
        refine W.seq ?_
        refine W.reg ?_
        refine Wx.rd (v := ov) (rd_move rfl) rfl ?_
        refine Wx.rd (v := ov) (rd_assign rfl) rfl ?_
        refine Wx.nil ?_
        have e1_0 : shortL l a b = out := by rw [shortL, short_some p_b p_a h2 rfl c4]; show a :: _ = out; rw [← m3, walk_done h2 ⟨m0, m1⟩ (by omega) m2, List.append_nil]
        exact W.ret ⟨ov, ResIs.one, hS.bel, ⟨ov, rfl, ⟨(by rw [e1_0]; exact ((hS.lend 0 rfl).mv (.less (fun _ h => List.mem_append.2 (.inr h))))), (fun hh => by rw [shortL, short_some p_b p_a h2 rfl c4] at hh; cases hh)⟩⟩⟩
end Go.Proofs.Ytjbcpggikaeleaa

namespace Go.Proofs.Ytjbcpggikaeleaa
open Go.Wk Go.RowKit Go.Lib
set_option linter.unusedVariables false
set_option linter.unusedSimpArgs false
theorem mixedKu_ : Try.prog.follows .mixedOrders = true := by kernel_rfl
theorem elKu_104 : ElemI Try.prog 104 39 ((.slice none 0 0)) 1 24 := ElemI.of Try.underlying104 (by kernel_rfl) (by first | rfl | kernel_rfl) (by decide)
theorem foKu_93_0 : fldOff Try.prog 93 0 = some 0 := by kernel_rfl
theorem elKu_39 : ElemI Try.prog 39 3 (.int .i64 0) 1 8 := ElemI.of Try.underlying39 (by kernel_rfl) (by first | rfl | kernel_rfl) (by decide)

set_option maxHeartbeats 4000000 in
theorem F99  : ∀ (fuel : Nat) {l : List Sale} {q best : List Int} {lv bv : Value} {a size : Int} {gs ga gb gm gw g0 : Nat} {ob : List Ob} {w0 w : World} {O : List (Option Nat)} (p_ok : SalesOK l) (p_a : InK .i64 a) (p_n : InK .i64 size) (p_1 : 1 ≤ (q.length : Int)) (p_m : (q.length : Int) ≤ size) (p_6 : size ≤ 6) (p_b : ∀ x ∈ q, 0 ≤ x ∧ x < (l.length : Int)) (p_nz : best = [] → bv = .slice none 0 0) (hS : St w0 O w (Ob.v (tSl (tI .i64)) best bv :: .box gs 3 [.int .i64 size] :: .box ga 3 [.int .i64 a] :: .box gb 39 [bv] :: Ob.v (tMk true) l (.pointer (some ⟨g0, 0, none⟩)) :: .box gm 89 [(.pointer (some ⟨g0, 0, none⟩))] :: .box gw 76 [.func (.func 99) #[] #[(.pointer (some ⟨gs, 0, none⟩)), (.pointer (some ⟨ga, 0, none⟩)), (.pointer (some ⟨gb, 0, none⟩)), (.pointer (some ⟨gm, 0, none⟩)), (.pointer (some ⟨gw, 0, none⟩))]] :: ob)) (hv : V (tSl tInt) q lv (fb (Ob.v (tSl (tI .i64)) best bv :: .box gs 3 [.int .i64 size] :: .box ga 3 [.int .i64 a] :: .box gb 39 [bv] :: Ob.v (tMk true) l (.pointer (some ⟨g0, 0, none⟩)) :: .box gm 89 [(.pointer (some ⟨g0, 0, none⟩))] :: .box gw 76 [.func (.func 99) #[] #[(.pointer (some ⟨gs, 0, none⟩)), (.pointer (some ⟨ga, 0, none⟩)), (.pointer (some ⟨gb, 0, none⟩)), (.pointer (some ⟨gm, 0, none⟩)), (.pointer (some ⟨gw, 0, none⟩))]] :: ob) O) w) (hfuel : (size - q.length).toNat < fuel), Calls Try.prog 99 #[lv, (.pointer (some ⟨gs, 0, none⟩)), (.pointer (some ⟨ga, 0, none⟩)), (.pointer (some ⟨gb, 0, none⟩)), (.pointer (some ⟨gm, 0, none⟩)), (.pointer (some ⟨gw, 0, none⟩))] w (Bk fun r w' => r = .tuple #[] ∧ ∃ bv' best', St w0 O w' (Ob.v (tSl (tI .i64)) best' bv' :: .box gs 3 [.int .i64 size] :: .box ga 3 [.int .i64 a] :: .box gb 39 [bv'] :: Ob.v (tMk true) l (.pointer (some ⟨g0, 0, none⟩)) :: .box gm 89 [(.pointer (some ⟨g0, 0, none⟩))] :: .box gw 76 [.func (.func 99) #[] #[(.pointer (some ⟨gs, 0, none⟩)), (.pointer (some ⟨ga, 0, none⟩)), (.pointer (some ⟨gb, 0, none⟩)), (.pointer (some ⟨gm, 0, none⟩)), (.pointer (some ⟨gw, 0, none⟩))]] :: ob) ∧ best' = foldR a best (pathsV (gS l) l.length size q) ∧ (best' = [] → bv' = .slice none 0 0)) := by
  intro fuel
  induction fuel with
  | zero => intros; omega
  | succ fuel IH =>
  intro l q best lv bv a size gs ga gb gm gw g0 ob w0 w O p_ok p_a p_n p_1 p_m p_6 p_b p_nz hS hv hfuel
  obtain ⟨gd, hgd, hok⟩ := p_ok.at
  have hl6 := p_ok.1
  have htp := top_in p_1 p_b
  obtain ⟨⟨hk0, hk1⟩, hrot⟩ := idx_min p_1
  have hmn := p_b _ (min_mem (l := q) (by rintro rfl; simp at p_1)).1
  have hS := hS.add (hv)
  have ln_2 := (hS.v 0 rfl).len63
  refine enterB Try.func99 rfl Try.ntmps99 Try.results99 rfl ?_
  refine W.seq ?_
  refine W.reg ?_
  refine Wx.rd (v := lv) (rd_move rfl) rfl ?_
  refine Wx.rd (v := lv) (rd_move rfl) rfl ?_
  refine Wx.rd (v := .int .i64 (q.length : Int)) (rd_lenV rfl (hS.v 0 rfl) Try.underlying39) rfl ?_
  refine Wx.rd (v := .int .i64 ((q.length : Int) - 1)) (rd_sub rfl rfl (in_i64 (by omega) (by omega))) rfl ?_
  refine Wx.ex (rd_index 0 (hS.v 0 rfl) rfl rfl Try.underlying39 Try.sizeOf3 (by first | omega | (simp only [List.length_set, List.length_append, List.length_cons, List.length_nil, List.length_replicate]; omega)) (by first | omega | (simp only [List.length_set, List.length_append, List.length_cons, List.length_nil, List.length_replicate]; omega))) rfl (fun p_3 hp_4 => ?_)
  refine Wx.rd (v := .int .i64 (ix 0 q ((q.length : Int) - 1))) (rd_loadI hp_4 rfl Try.isAgg3 Try.sizeOf3) rfl ?_
  have bd_5 := bd_i64 hp_4.inK
  refine Wx.rd (v := .int .i64 (ix 0 q ((q.length : Int) - 1))) (rd_assign rfl) rfl ?_
  refine Wx.nil ?_
  refine W.seq ?_
  refine W.seq ?_
  refine W.reg ?_
  refine Wx.rd (v := lv) (rd_move rfl) rfl ?_
  refine Wx.rd (v := .int .i64 (q.length : Int)) (rd_lenV rfl (hS.v 0 rfl) Try.underlying39) rfl ?_
  refine Wx.rd (v := .int .i64 size) (rd_loadX hS 2 rfl rfl rfl Try.isAgg3) rfl ?_
  refine Wx.rd (v := .bool (decide ((q.length : Int) = size))) (rd_eql rfl rfl) rfl ?_
  refine Wx.nil ?_
  refine W.condD rfl (fun c0 => ?_) (fun c0 => ?_)
  · -- yes
    refine W.seq ?_
    refine W.seq ?_
    refine W.reg ?_
    refine Wx.rd (v := .int .i64 (ix 0 q ((q.length : Int) - 1))) (rd_move rfl) rfl ?_
    refine Wx.rd (v := .int .i64 a) (rd_loadX hS 3 rfl rfl rfl Try.isAgg3) rfl ?_
    refine Wx.rd (v := .bool (decide ((ix 0 q ((q.length : Int) - 1)) ≠ a))) (rd_neq rfl rfl) rfl ?_
    refine Wx.nil ?_
    refine W.condD rfl (fun c1 => ?_) (fun c1 => ?_)
    · -- yes
      exact W.ret ⟨.tuple #[], ResIs.zero, rfl, _, _, (St.tl hS), by rw [paths_done c0, foldR_no c1], p_nz⟩
    · -- no
      refine W.skip ?_
      refine W.seq ?_
      refine W.reg ?_
      refine Wx.rd (v := lv) (rd_move rfl) rfl ?_
      refine Wx.rd (v := lv) (rd_move rfl) rfl ?_
      refine Wx.callF (run_callF Try.call71 rfl) (F71 (hS.v 0 rfl) p_1) rfl ?_
      rintro r_6 w_7 hx_8 rfl
      have hS := hS.ext hx_8
      refine Wx.callF (run_callF Try.call90 rfl) (F90 (hS.v 0 rfl) (in_i64 (by omega) (by omega))) rfl ?_
      rintro r_9 w_10 hx_11 rfl
      have hS := hS.ext hx_11
      refine Wx.rd (v := .int .i64 (idxI (minL q) 0 q)) (rd_assign rfl) rfl ?_
      refine Wx.nil ?_
      refine W.seq ?_
      refine W.seq ?_
      refine W.regH mixedKu_ (fun w_12 hx_13 => ?_)
      have h0 := hS
      have hS := (St.start _ _ h0.fb_lt).ext hx_13
      refine Wh.rd (v := lv) 0 rfl (by kernel_rfl) hS.bel (rd_move rfl) rfl ?_
      refine Wh.rd (v := .int .i64 (idxI (minL q) 0 q)) 1 rfl (by kernel_rfl) hS.bel (rd_move rfl) rfl ?_
      refine Wh.ex 2 rfl (by kernel_rfl) hS.bel (rd_sliceL (h0.v 0 rfl) Try.underlying39 Try.sizeOf3 rfl rfl (by omega) (by omega)) rfl (fun u_14 hu_15 => ?_)
      have ln_16 := hu_15.len63
      refine Wh.rd (v := lv) 3 rfl (by kernel_rfl) hS.bel (rd_move rfl) rfl ?_
      refine Wh.rd (v := .int .i64 (idxI (minL q) 0 q)) 4 rfl (by kernel_rfl) hS.bel (rd_move rfl) rfl ?_
      refine Wh.ex 5 rfl (by kernel_rfl) hS.bel (rd_sliceH (h0.v 0 rfl) Try.underlying39 Try.sizeOf3 rfl rfl (by omega) (by omega)) rfl (fun u_17 hu_18 => ?_)
      have ln_19 := hu_18.len63
      refine Wh.br [6] (by kernel_rfl) (by decide) ⟨⟨_, rfl, ?_⟩, trivial⟩
      refine Wx.lit (t := (tSl (tI .i64))) (ys := [q.drop (idxI (minL q) 0 q).toNat, q.take (idxI (minL q) 0 q).toNat]) (vs := [u_14, u_17]) elKu_104 hS rfl rfl ⟨(hS.arg hu_15), ⟨(hS.arg hu_18), trivial⟩⟩ (by decide) rfl (fun v_20 w_21 hx_22 hS => ?_)
      refine Wx.nil ⟨hS.bel, ?_⟩
      refine Wh.br [7] (by kernel_rfl) (by decide) ⟨⟨_, rfl, ?_⟩, trivial⟩
      have hS := hS.freeze 0 rfl
      refine Wx.callF (run_callF Try.call100 rfl) (F100 (hS.v 0 rfl) (by rw [flat_two]; omega) hS.fb_lt) rfl ?_
      rintro r_24 w_25 hx_26 ⟨_, rfl, hv_27⟩
      have hS := hS.pushFr hx_26 hv_27
      refine Wx.nil ⟨hS.bel, ?_⟩
      refine Wh.rd (v := r_24) 8 rfl (by kernel_rfl) hS.bel (rd_assign rfl) rfl ?_
      refine Wh.done (by kernel_rfl) ?_
      have hS := h0.merge hS
      refine W.seq ?_
      refine W.reg ?_
      refine Wx.rd (v := bv) (rd_loadX hS 6 rfl rfl rfl Try.isAgg39) rfl ?_
      refine Wx.rd (v := .bool (decide (best = []))) (rd_eqlNilI (hS.v 3 rfl) rfl rfl Try.underlying39 p_nz) rfl ?_
      refine Wx.rd (v := .bool (decide (best = []))) (rd_move rfl) rfl ?_
      refine Wx.cut (X := Unit) 5 [40, 41, 42, 43, 44] (fun _ => [(44, .bool (decide (best = []) || decide ((cmpL ([q.drop (idxI (minL q) 0 q).toNat, q.take (idxI (minL q) 0 q).toNat].flatten) best) < 0)))]) (fun _ w' => St w0 O w' (.row (tI .i64) 3 r_24 ([q.drop (idxI (minL q) 0 q).toNat, q.take (idxI (minL q) 0 q).toNat].flatten) :: Ob.v (tSl (tSl (tI .i64))) [q.drop (idxI (minL q) 0 q).toNat, q.take (idxI (minL q) 0 q).toNat] v_20 :: Ob.v (tSl (tI .i64)) q lv :: Ob.v (tSl (tI .i64)) best bv :: .box gs 3 [.int .i64 size] :: .box ga 3 [.int .i64 a] :: .box gb 39 [bv] :: Ob.v (tMk true) l (.pointer (some ⟨g0, 0, none⟩)) :: .box gm 89 [(.pointer (some ⟨g0, 0, none⟩))] :: .box gw 76 [.func (.func 99) #[] #[(.pointer (some ⟨gs, 0, none⟩)), (.pointer (some ⟨ga, 0, none⟩)), (.pointer (some ⟨gb, 0, none⟩)), (.pointer (some ⟨gm, 0, none⟩)), (.pointer (some ⟨gw, 0, none⟩))]] :: ob)) ?_ ?_
      · rcases Bool.eq_false_or_eq_true (decide (best = [])) with g_29 | g_29
        · -- True
          have gp_30 := of_decide_eq_true g_29
          refine Wx.gnoB rfl rfl (congrArg Value.bool g_29) rfl rfl ?_
          refine Wx.gnoB rfl rfl (congrArg Value.bool g_29) rfl rfl ?_
          refine Wx.gnoB rfl rfl (congrArg Value.bool g_29) rfl rfl ?_
          refine Wx.gnoB rfl rfl (congrArg Value.bool g_29) rfl rfl ?_
          refine Wx.rd (v := .bool true) (rd_pickT (congrArg Value.bool g_29) rfl) rfl ?_
          refine Wx.nil ⟨(), hS, ⟨?_, trivial⟩, Out.look rfl Out.refl⟩
          show Value.bool true = Value.bool (decide (best = []) || decide ((cmpL ([q.drop (idxI (minL q) 0 q).toNat, q.take (idxI (minL q) 0 q).toNat].flatten) best) < 0))
          first | rw [g_29, Bool.true_or] | (rw [g_29]; rfl)
        · -- False
          have gp_31 := of_decide_eq_false g_29
          refine Wx.gyes rfl rfl (congrArg Value.bool g_29) ?_
          refine Wx.rd (v := r_24) (rd_move rfl) rfl ?_
          refine Wx.gyes rfl rfl (congrArg Value.bool g_29) ?_
          refine Wx.rd (v := bv) (rd_loadX hS 6 rfl rfl rfl Try.isAgg39) rfl ?_
          refine Wx.gyes rfl rfl (congrArg Value.bool g_29) ?_
          refine Wx.callF (run_callF Try.call52 rfl) (F52 (hS.lend 0 rfl) (hS.v 3 rfl)) rfl ?_
          rintro r_32 w_33 hx_34 rfl
          have hS := hS.ext hx_34
          refine Wx.gyes rfl rfl (congrArg Value.bool g_29) ?_
          refine Wx.rd (v := .bool (decide ((cmpL ([q.drop (idxI (minL q) 0 q).toNat, q.take (idxI (minL q) 0 q).toNat].flatten) best) < 0))) (rd_lss rfl rfl) rfl ?_
          refine Wx.rd (v := .bool (decide ((cmpL ([q.drop (idxI (minL q) 0 q).toNat, q.take (idxI (minL q) 0 q).toNat].flatten) best) < 0))) (rd_pickF (congrArg Value.bool g_29) rfl) rfl ?_
          refine Wx.nil ⟨(), hS, ⟨?_, trivial⟩, Out.look rfl Out.refl⟩
          show Value.bool (decide ((cmpL ([q.drop (idxI (minL q) 0 q).toNat, q.take (idxI (minL q) 0 q).toNat].flatten) best) < 0)) = Value.bool (decide (best = []) || decide ((cmpL ([q.drop (idxI (minL q) 0 q).toNat, q.take (idxI (minL q) 0 q).toNat].flatten) best) < 0))
          first | rw [g_29, Bool.false_or] | (rw [g_29]; rfl)
      rintro ⟨⟩ u_36 w_35 hS
      refine Wx.nil ?_
      refine W.cond rfl (fun c2 => ?_) (fun c2 => ?_)
      · -- yes
        try simp only [Bool.and_eq_true, Bool.or_eq_true, Bool.not_eq_true', Bool.and_eq_false_iff, Bool.or_eq_false_iff, Bool.not_eq_false', decide_eq_true_eq, decide_eq_false_iff_not, not_or, Bool.false_eq_true, Bool.true_eq_false, false_or, or_false, not_false_eq_true] at c2
        refine W.reg ?_
        refine Wx.rd (v := r_24) (rd_move rfl) rfl ?_
        refine Wx.storeX (cs' := [r_24]) (ds := [r_24]) hS 6 rfl rfl rfl (Go.Wk.cells_one (hS.rowOne 0 rfl)) Try.sizeOf39 (Nat.le_of_ble_eq_true rfl) (one_cons (hS.rowOne 0 rfl) one_nil) rfl (fun w_37 hz_38 hS => ?_)
        refine Wx.nil ?_
        have hS := hS.freeze 0 rfl
        have hS := hS.drop 3
        have hS := hS.drop 2
        have hS := hS.drop 1
        have hS := hS.front 6 rfl
        have hS := hS.front 6 rfl
        have hS := hS.front 6 rfl
        have hS := hS.front 6 rfl
        have hS := hS.front 6 rfl
        have hS := hS.front 6 rfl
        have hS := hS.front 6 rfl
        have hS : St _ _ w_37 (Ob.v (tSl (tI .i64)) ([q.drop (idxI (minL q) 0 q).toNat, q.take (idxI (minL q) 0 q).toNat].flatten) r_24 :: .box gs 3 [.int .i64 size] :: .box ga 3 [.int .i64 a] :: .box gb 39 [r_24] :: Ob.v (tMk true) l (.pointer (some ⟨g0, 0, none⟩)) :: .box gm 89 [(.pointer (some ⟨g0, 0, none⟩))] :: .box gw 76 [.func (.func 99) #[] #[(.pointer (some ⟨gs, 0, none⟩)), (.pointer (some ⟨ga, 0, none⟩)), (.pointer (some ⟨gb, 0, none⟩)), (.pointer (some ⟨gm, 0, none⟩)), (.pointer (some ⟨gw, 0, none⟩))]] :: ob) := hS
        exact W.ret ⟨.tuple #[], ResIs.zero, rfl, _, _, hS, by rw [paths_done c0, hrot]; exact round_kept (Decidable.not_not.1 c1) (by rw [← hrot]; exact c2), fun hh => absurd (by rw [← hrot]; exact hh) (rot_ne (l := q) (by rintro rfl; simp at p_1))⟩
      · -- no
        try simp only [Bool.and_eq_true, Bool.or_eq_true, Bool.not_eq_true', Bool.and_eq_false_iff, Bool.or_eq_false_iff, Bool.not_eq_false', decide_eq_true_eq, decide_eq_false_iff_not, not_or, Bool.false_eq_true, Bool.true_eq_false, false_or, or_false, not_false_eq_true] at c2
        refine W.skip ?_
        exact W.ret ⟨.tuple #[], ResIs.zero, rfl, _, _, (St.tl (St.tl (St.tl hS))), by rw [paths_done c0]; exact round_left (Decidable.not_not.1 c1) (by rw [← hrot]; exact c2), p_nz⟩
  · -- no
    refine W.skip ?_
    refine W.seq ?_
    refine W.reg ?_
    refine Wx.rd (v := (.pointer (some ⟨g0, 0, none⟩))) (rd_loadX hS 6 rfl rfl rfl Try.isAgg89) rfl ?_
    refine Wx.rd (v := (.pointer (some ⟨g0, 0, none⟩))) (rd_nilCheck rfl rfl) rfl ?_
    refine Wx.rd (v := .pointer (some ⟨g0, 0, none⟩)) (rd_fieldAddr rfl foKu_93_0) rfl ?_
    refine Wx.ex (rd_mkS (hS.v 5 rfl) rfl Try.isAgg22) rfl (fun v_40 hv_41 => ?_)
    have ln_42 := hv_41.len63
    have hS := hS.add hv_41
    refine Wx.rd (v := .int .i64 (l.length : Int)) (rd_lenV rfl (hS.v 0 rfl) Try.underlying22) rfl ?_
    refine Wx.rd (v := .int .i64 0) (rd_move rfl) rfl ?_
    refine Wx.nil ?_
    refine W.block ?_
    refine W.loop [10, 11, 51, 52, 53, 54, 55, 56, 57, 58, 59, 60, 61, 62, 63, 64, 65, 66, 67, 68, 69, 70, 71, 72, 73, 74, 75, 76, 77, 78] (fun x : Int × Value × (List Int) => match x with | (i, bv2, best2) => [(51, .int .i64 i)]) (fun (x : Int × Value × (List Int)) w' => match x with | (i, bv2, best2) => St w0 O w' (Ob.v (tSl (tP (tSl (tI .i64)) (tSl (tI .i64)))) l v_40 :: Ob.v (tSl (tI .i64)) q lv :: Ob.v (tSl (tI .i64)) best2 bv2 :: .box gs 3 [.int .i64 size] :: .box ga 3 [.int .i64 a] :: .box gb 39 [bv2] :: Ob.v (tMk true) l (.pointer (some ⟨g0, 0, none⟩)) :: .box gm 89 [(.pointer (some ⟨g0, 0, none⟩))] :: .box gw 76 [.func (.func 99) #[] #[(.pointer (some ⟨gs, 0, none⟩)), (.pointer (some ⟨ga, 0, none⟩)), (.pointer (some ⟨gb, 0, none⟩)), (.pointer (some ⟨gm, 0, none⟩)), (.pointer (some ⟨gw, 0, none⟩))]] :: ob) ∧ 0 ≤ i ∧ i ≤ l.length ∧ foldR a best2 (pathsQ (gS l) l.length size q i) = foldR a best (pathsV (gS l) l.length size q) ∧ (best2 = [] → bv2 = .slice none 0 0)) (fun x : Int × Value × (List Int) => match x with | (i, bv2, best2) => (l.length - i).toNat) (0, bv, best) ⟨rfl, trivial⟩ ⟨hS, (by first | omega | simp), (by first | omega | simp), (by rw [paths_more (by omega)]), (p_nz)⟩ ?_
    rintro ⟨i, bv2, best2⟩ u_45 w_44 ⟨hS, h0, h1, h2, h3⟩
    refine W.seq ?_
    refine W.reg ?_
    refine Wx.rd (v := .bool (decide (i < (l.length : Int)))) (rd_lss rfl rfl) rfl ?_
    refine Wx.nil ?_
    refine W.seq ?_
    refine W.condD rfl (fun c3 => ?_) (fun c3 => ?_)
    · -- yes
      refine W.skip ?_
      refine W.seq ?_
      refine W.block ?_
      refine W.seq ?_
      refine W.reg ?_
      refine Wx.rd (v := .int .i64 i) (rd_move rfl) rfl ?_
      refine Wx.ex (rd_index ([], []) (hS.v 0 rfl) rfl rfl Try.underlying22 Try.sizeOf62 (by first | omega | (simp only [List.length_set, List.length_append, List.length_cons, List.length_nil, List.length_replicate]; omega)) (by first | omega | (simp only [List.length_set, List.length_append, List.length_cons, List.length_nil, List.length_replicate]; omega))) rfl (fun p_46 hp_47 => ?_)
      refine Wx.ex (rd_load hp_47 rfl Try.isAgg62 Try.sizeOf62) rfl (fun v_48 hv_49 => ?_)
      obtain ⟨v_50, v_51, rfl, hv_52, hv_53⟩ := hv_49.s2
      have hS := hS.add (hv_52)
      have ln_55 := (hS.v 0 rfl).len63
      have hS := hS.add (V.upF (hv_53))
      have ln_57 := (hS.v 0 rfl).len63
      refine Wx.alloc (cs := [(.slice none 0 0), (.slice none 0 0)]) hS Try.zeroValue62 rfl rfl (fun g_58 w_59 hx_61 hb_60 hS => ?_)
      refine Wx.rd (v := .int .i64 i) (rd_assign rfl) rfl ?_
      refine Wx.storeX (cs' := [v_50, v_51]) (ds := [v_50, v_51]) hS 0 rfl rfl rfl rfl Try.sizeOf62 (Nat.le_of_ble_eq_true rfl) (one_cons (V.oneC (hS.v 2 rfl)) (one_cons (V.oneC (hS.v 1 rfl)) one_nil)) rfl (fun w_62 hz_63 hS => ?_)
      refine Wx.nil ?_
      refine W.seq ?_
      refine W.regQ mixedKu_ (by kernel_rfl) ?_
      refine Wx.rd (v := lv) (rd_move rfl) rfl ?_
      refine Wx.rd (v := .int .i64 i) (rd_move rfl) rfl ?_
      refine Wx.callV (v := .bool (hasL q i)) (run_callF Try.call55 rfl) (fun w_64 hw_65 => (F55 ((hS.v 4 rfl).ext hw_65) (in_i64 (by omega) (by omega)))) rfl ?_
      refine Wx.rd (v := .bool (!(hasL q i))) (rd_not rfl) rfl ?_
      refine Wx.rd (v := .bool (!(hasL q i))) (rd_move rfl) rfl ?_
      refine Wx.cutQ (X := Unit) 10 [61, 62, 63, 64, 65, 66, 67, 68, 69, 70] (fun _ => [(70, .bool (!(hasL q i) && goodS (((ix ([], []) l (ix 0 q ((q.length : Int) - 1))).1), ((ix ([], []) l (ix 0 q ((q.length : Int) - 1))).2)) (((ix ([], []) l i).1), ((ix ([], []) l i).2))))]) (fun _ => True) ?_ ?_
      · rcases Bool.eq_false_or_eq_true (!(hasL q i)) with g_66 | g_66
        · -- True
          have gp_67 := g_66
          try simp only [Bool.and_eq_true, Bool.or_eq_true, Bool.not_eq_true', Bool.and_eq_false_iff, Bool.or_eq_false_iff, Bool.not_eq_false', decide_eq_true_eq, decide_eq_false_iff_not, not_or, Bool.false_eq_true, Bool.true_eq_false, false_or, or_false, not_false_eq_true] at gp_67
          refine Wx.gyes rfl rfl (congrArg Value.bool g_66) ?_
          refine Wx.rd (v := (.pointer (some ⟨g0, 0, none⟩))) (rd_loadX hS 10 rfl rfl rfl Try.isAgg89) rfl ?_
          refine Wx.gyes rfl rfl (congrArg Value.bool g_66) ?_
          refine Wx.rd (v := (.pointer (some ⟨g0, 0, none⟩))) (rd_nilCheck rfl rfl) rfl ?_
          refine Wx.gyes rfl rfl (congrArg Value.bool g_66) ?_
          refine Wx.rd (v := .pointer (some ⟨g0, 0, none⟩)) (rd_fieldAddr rfl foKu_93_0) rfl ?_
          refine Wx.gyes rfl rfl (congrArg Value.bool g_66) ?_
          refine Wx.ex (rd_mkS (hS.v 9 rfl) rfl Try.isAgg22) rfl (fun v_68 hv_69 => ?_)
          have ln_70 := hv_69.len63
          have hS := hS.add hv_69
          refine Wx.gyes rfl rfl (congrArg Value.bool g_66) ?_
          refine Wx.rd (v := .int .i64 (ix 0 q ((q.length : Int) - 1))) (rd_move rfl) rfl ?_
          refine Wx.gyes rfl rfl (congrArg Value.bool g_66) ?_
          refine Wx.ex (rd_index ([], []) (hS.v 0 rfl) rfl rfl Try.underlying22 Try.sizeOf62 (by first | omega | (simp only [List.length_set, List.length_append, List.length_cons, List.length_nil, List.length_replicate]; omega)) (by first | omega | (simp only [List.length_set, List.length_append, List.length_cons, List.length_nil, List.length_replicate]; omega))) rfl (fun p_72 hp_73 => ?_)
          refine Wx.gyes rfl rfl (congrArg Value.bool g_66) ?_
          refine Wx.ex (rd_load hp_73 rfl Try.isAgg62 Try.sizeOf62) rfl (fun v_74 hv_75 => ?_)
          obtain ⟨v_76, v_77, rfl, hv_78, hv_79⟩ := hv_75.s2
          have hS := hS.add (hv_78)
          have ln_81 := (hS.v 0 rfl).len63
          have hS := hS.add (V.upF (hv_79))
          have ln_83 := (hS.v 0 rfl).len63
          refine Wx.gyes rfl rfl (congrArg Value.bool g_66) ?_
          refine Wx.rd (v := .agg #[v_50, v_51]) (rd_loadXs (ds := [v_50, v_51]) hS 3 rfl rfl rfl rfl Try.isAgg62 Try.sizeOf62) rfl ?_
          refine Wx.gyes rfl rfl (congrArg Value.bool g_66) ?_
          refine Wx.callV (v := .bool (goodS (((ix ([], []) l (ix 0 q ((q.length : Int) - 1))).1), ((ix ([], []) l (ix 0 q ((q.length : Int) - 1))).2)) (((ix ([], []) l i).1), ((ix ([], []) l i).2)))) (run_callF Try.call67 rfl) (fun w_84 hw_85 => (F67 ((hS.v 1 rfl).ext hw_85) ((hS.v 0 rfl).ext hw_85) ((hS.v 5 rfl).ext hw_85) ((hS.v 4 rfl).ext hw_85) (hok (ix 0 q ((q.length : Int) - 1)) (by omega) (by omega)).b1 (hok (ix 0 q ((q.length : Int) - 1)) (by omega) (by omega)).b2 (hok i (by omega) (by omega)).b2 (by have := (hok (ix 0 q ((q.length : Int) - 1)) (by omega) (by omega)).l1; omega) (by have h1 := (hok (ix 0 q ((q.length : Int) - 1)) (by omega) (by omega)).l1; have h2 := (hok (ix 0 q ((q.length : Int) - 1)) (by omega) (by omega)).l2; omega) (by have h1 := (hok (ix 0 q ((q.length : Int) - 1)) (by omega) (by omega)).l1; have h2 := (hok i (by omega) (by omega)).l2; omega))) rfl ?_
          refine Wx.rd (v := .bool (goodS (((ix ([], []) l (ix 0 q ((q.length : Int) - 1))).1), ((ix ([], []) l (ix 0 q ((q.length : Int) - 1))).2)) (((ix ([], []) l i).1), ((ix ([], []) l i).2)))) (rd_pickT (congrArg Value.bool g_66) rfl) rfl ?_
          refine Wx.nilQ (fun _ _ => ⟨(), trivial, ⟨?_, trivial⟩, Out.look rfl Out.refl⟩)
          show Value.bool (goodS (((ix ([], []) l (ix 0 q ((q.length : Int) - 1))).1), ((ix ([], []) l (ix 0 q ((q.length : Int) - 1))).2)) (((ix ([], []) l i).1), ((ix ([], []) l i).2))) = Value.bool (!(hasL q i) && goodS (((ix ([], []) l (ix 0 q ((q.length : Int) - 1))).1), ((ix ([], []) l (ix 0 q ((q.length : Int) - 1))).2)) (((ix ([], []) l i).1), ((ix ([], []) l i).2)))
          first | rw [g_66, Bool.true_and] | (rw [g_66]; rfl)
        · -- False
          have gp_86 := g_66
          try simp only [Bool.and_eq_true, Bool.or_eq_true, Bool.not_eq_true', Bool.and_eq_false_iff, Bool.or_eq_false_iff, Bool.not_eq_false', decide_eq_true_eq, decide_eq_false_iff_not, not_or, Bool.false_eq_true, Bool.true_eq_false, false_or, or_false, not_false_eq_true] at gp_86
          refine Wx.gnoB rfl rfl (congrArg Value.bool g_66) rfl rfl ?_
          refine Wx.gnoB rfl rfl (congrArg Value.bool g_66) rfl rfl ?_
          refine Wx.gnoB rfl rfl (congrArg Value.bool g_66) rfl rfl ?_
          refine Wx.gnoB rfl rfl (congrArg Value.bool g_66) rfl rfl ?_
          refine Wx.gnoB rfl rfl (congrArg Value.bool g_66) rfl rfl ?_
          refine Wx.gnoB rfl rfl (congrArg Value.bool g_66) rfl rfl ?_
          refine Wx.gnoB rfl rfl (congrArg Value.bool g_66) rfl rfl ?_
          refine Wx.gnoB rfl rfl (congrArg Value.bool g_66) rfl rfl ?_
          refine Wx.gnoB rfl rfl (congrArg Value.bool g_66) rfl rfl ?_
          refine Wx.rd (v := .bool false) (rd_pickF (congrArg Value.bool g_66) rfl) rfl ?_
          refine Wx.nilQ (fun _ _ => ⟨(), trivial, ⟨?_, trivial⟩, Out.look rfl Out.refl⟩)
          show Value.bool false = Value.bool (!(hasL q i) && goodS (((ix ([], []) l (ix 0 q ((q.length : Int) - 1))).1), ((ix ([], []) l (ix 0 q ((q.length : Int) - 1))).2)) (((ix ([], []) l i).1), ((ix ([], []) l i).2)))
          first | rw [g_66, Bool.false_and] | (rw [g_66]; rfl)
      rintro ⟨⟩ u_88 -
      refine Wx.nilQ (fun w_89 hx_90 => ?_)
      have hS := hS.ext hx_90
      refine W.cond rfl (fun c4 => ?_) (fun c4 => ?_)
      · -- yes
        try simp only [Bool.and_eq_true, Bool.or_eq_true, Bool.not_eq_true', Bool.and_eq_false_iff, Bool.or_eq_false_iff, Bool.not_eq_false', decide_eq_true_eq, decide_eq_false_iff_not, not_or, Bool.false_eq_true, Bool.true_eq_false, false_or, or_false, not_false_eq_true] at c4
        refine W.regP mixedKu_ (fun w_91 hx_92 => ?_)
        have hS := hS.ext hx_92
        refine Wp.rd (v := lv) 1 rfl (by kernel_rfl) (fun _ => (rd_move rfl)) rfl ?_
        refine Wp.rd (v := .int .i64 i) 3 rfl (by kernel_rfl) (fun _ => (rd_move rfl)) rfl ?_
        refine Wp.br [0, 2, 4] (by kernel_rfl) (by decide) ⟨⟨_, rfl, ?_⟩, ⟨_, rfl, ?_⟩, ⟨_, rfl, ?_⟩, trivial⟩
        · -- operation 0
          refine Wx.rd (v := .func (.func 99) #[] #[(.pointer (some ⟨gs, 0, none⟩)), (.pointer (some ⟨ga, 0, none⟩)), (.pointer (some ⟨gb, 0, none⟩)), (.pointer (some ⟨gm, 0, none⟩)), (.pointer (some ⟨gw, 0, none⟩))]) (rd_loadX hS 11 rfl rfl rfl Try.isAgg76) rfl ?_
          refine Wx.nil ?_
          refine Wp.br [2, 4] (by kernel_rfl) (by decide) ⟨⟨_, rfl, ?_⟩, ⟨_, rfl, ?_⟩, trivial⟩
          · -- operation 2
            refine Wx.callF (run_callF Try.call88 rfl) (F88 (hS.v 4 rfl) hS.fb_lt) rfl ?_
            rintro r_93 w_94 hx_95 ⟨_, rfl, ⟨⟨ad_97, rfl⟩, hv_96⟩⟩
            have ln_99 := hv_96.len63
            have hS := hS.ext hx_95
            have hS := hS.add hv_96
            refine Wx.nil ?_
            refine Wp.br [4] (by kernel_rfl) (by decide) ⟨⟨_, rfl, ?_⟩, trivial⟩
            refine Wx.lit (t := (tI .i64)) (ys := [i]) (vs := [.int .i64 i]) elKu_39 hS rfl rfl ⟨(V.mkInt (in_i64 (by omega) (by omega))), trivial⟩ (by decide) rfl (fun v_100 w_101 hx_102 hS => ?_)
            refine Wx.nil ?_
            refine Wp.br [5] (by kernel_rfl) (by decide) ⟨⟨_, rfl, ?_⟩, trivial⟩
            refine Wx.appendNew elKu_39 hS rfl (hS.v 1 rfl) rfl (Src.ofR hS 0 rfl) (by simp) (by simp only [maxLen]; simp; omega) (by simp; omega) rfl (fun v_103 w_104 hz_105 hS => ?_)
            refine Wx.nil ?_
            refine Wp.br [6] (by kernel_rfl) (by decide) ⟨⟨_, rfl, ?_⟩, trivial⟩
            have hS := hS.freeze 0 rfl
            have hL := V.pull (pre := [Ob.v (tSl (tI .i64)) (q ++ [i]) v_103, .row (tI .i64) 3 v_100 [i], Ob.v (tSl (tI .i64)) q (.slice ad_97 q.length q.length), .box g_58 62 [v_50, v_51], Ob.v (tSl (tI .i64)) ((ix ([], []) l i).2) v_51, Ob.v (tSl (tI .i64)) ((ix ([], []) l i).1) v_50, Ob.v (tSl (tP (tSl (tI .i64)) (tSl (tI .i64)))) l v_40, Ob.v (tSl (tI .i64)) q lv]) (A := [Ob.v (tSl (tI .i64)) best2 bv2, .box gs 3 [.int .i64 size], .box ga 3 [.int .i64 a], .box gb 39 [bv2], Ob.v (tMk true) l (.pointer (some ⟨g0, 0, none⟩)), .box gm 89 [(.pointer (some ⟨g0, 0, none⟩))], .box gw 76 [.func (.func 99) #[] #[(.pointer (some ⟨gs, 0, none⟩)), (.pointer (some ⟨ga, 0, none⟩)), (.pointer (some ⟨gb, 0, none⟩)), (.pointer (some ⟨gm, 0, none⟩)), (.pointer (some ⟨gw, 0, none⟩))]]]) (R := ob) (hS.v 0 rfl)
            have hP := St.pull (pre := [Ob.v (tSl (tI .i64)) (q ++ [i]) v_103, .row (tI .i64) 3 v_100 [i], Ob.v (tSl (tI .i64)) q (.slice ad_97 q.length q.length), .box g_58 62 [v_50, v_51], Ob.v (tSl (tI .i64)) ((ix ([], []) l i).2) v_51, Ob.v (tSl (tI .i64)) ((ix ([], []) l i).1) v_50, Ob.v (tSl (tP (tSl (tI .i64)) (tSl (tI .i64)))) l v_40, Ob.v (tSl (tI .i64)) q lv]) (A := [Ob.v (tSl (tI .i64)) best2 bv2, .box gs 3 [.int .i64 size], .box ga 3 [.int .i64 a], .box gb 39 [bv2], Ob.v (tMk true) l (.pointer (some ⟨g0, 0, none⟩)), .box gm 89 [(.pointer (some ⟨g0, 0, none⟩))], .box gw 76 [.func (.func 99) #[] #[(.pointer (some ⟨gs, 0, none⟩)), (.pointer (some ⟨ga, 0, none⟩)), (.pointer (some ⟨gb, 0, none⟩)), (.pointer (some ⟨gm, 0, none⟩)), (.pointer (some ⟨gw, 0, none⟩))]]]) (R := ob) hS
            refine Wx.callB (run_callC (fs := []) (cs := [(.pointer (some ⟨gs, 0, none⟩)), (.pointer (some ⟨ga, 0, none⟩)), (.pointer (some ⟨gb, 0, none⟩)), (.pointer (some ⟨gm, 0, none⟩)), (.pointer (some ⟨gw, 0, none⟩))]) (vs := [v_103, (.pointer (some ⟨gs, 0, none⟩)), (.pointer (some ⟨ga, 0, none⟩)), (.pointer (some ⟨gb, 0, none⟩)), (.pointer (some ⟨gm, 0, none⟩)), (.pointer (some ⟨gw, 0, none⟩))]) Try.call99 rfl rfl) (IH (q := (q ++ [i])) (lv := v_103) (best := best2) (bv := bv2) (ob := [Ob.v (tSl (tI .i64)) (q ++ [i]) v_103, .row (tI .i64) 3 v_100 [i], Ob.v (tSl (tI .i64)) q (.slice ad_97 q.length q.length), .box g_58 62 [v_50, v_51], Ob.v (tSl (tI .i64)) ((ix ([], []) l i).2) v_51, Ob.v (tSl (tI .i64)) ((ix ([], []) l i).1) v_50, Ob.v (tSl (tP (tSl (tI .i64)) (tSl (tI .i64)))) l v_40, Ob.v (tSl (tI .i64)) q lv] ++ ob) p_ok p_a p_n (by simp; omega) (by simp; omega) p_6 (snoc_in p_b h0 (by omega)) h3 hP hL (by simp; omega)) rfl ?_
            rintro r_107 w_108 ⟨rfl, bv_109, best_111, hS, rfl, hn_110⟩
            have hS : St w0 O w_108 (Ob.v (tSl (tI .i64)) (q ++ [i]) v_103 :: .row (tI .i64) 3 v_100 [i] :: Ob.v (tSl (tI .i64)) q (.slice ad_97 q.length q.length) :: .box g_58 62 [v_50, v_51] :: Ob.v (tSl (tI .i64)) ((ix ([], []) l i).2) v_51 :: Ob.v (tSl (tI .i64)) ((ix ([], []) l i).1) v_50 :: Ob.v (tSl (tP (tSl (tI .i64)) (tSl (tI .i64)))) l v_40 :: Ob.v (tSl (tI .i64)) q lv :: Ob.v (tSl (tI .i64)) (foldR a best2 (pathsV (gS l) l.length size (q ++ [i]))) bv_109 :: .box gs 3 [.int .i64 size] :: .box ga 3 [.int .i64 a] :: .box gb 39 [bv_109] :: Ob.v (tMk true) l (.pointer (some ⟨g0, 0, none⟩)) :: .box gm 89 [(.pointer (some ⟨g0, 0, none⟩))] :: .box gw 76 [.func (.func 99) #[] #[(.pointer (some ⟨gs, 0, none⟩)), (.pointer (some ⟨ga, 0, none⟩)), (.pointer (some ⟨gb, 0, none⟩)), (.pointer (some ⟨gm, 0, none⟩)), (.pointer (some ⟨gw, 0, none⟩))]] :: ob) := St.pull (pre := [Ob.v (tSl (tI .i64)) (foldR a best2 (pathsV (gS l) l.length size (q ++ [i]))) bv_109, .box gs 3 [.int .i64 size], .box ga 3 [.int .i64 a], .box gb 39 [bv_109], Ob.v (tMk true) l (.pointer (some ⟨g0, 0, none⟩)), .box gm 89 [(.pointer (some ⟨g0, 0, none⟩))], .box gw 76 [.func (.func 99) #[] #[(.pointer (some ⟨gs, 0, none⟩)), (.pointer (some ⟨ga, 0, none⟩)), (.pointer (some ⟨gb, 0, none⟩)), (.pointer (some ⟨gm, 0, none⟩)), (.pointer (some ⟨gw, 0, none⟩))]]]) (A := [Ob.v (tSl (tI .i64)) (q ++ [i]) v_103, .row (tI .i64) 3 v_100 [i], Ob.v (tSl (tI .i64)) q (.slice ad_97 q.length q.length), .box g_58 62 [v_50, v_51], Ob.v (tSl (tI .i64)) ((ix ([], []) l i).2) v_51, Ob.v (tSl (tI .i64)) ((ix ([], []) l i).1) v_50, Ob.v (tSl (tP (tSl (tI .i64)) (tSl (tI .i64)))) l v_40, Ob.v (tSl (tI .i64)) q lv]) (R := ob) hS
            refine Wx.nil ?_
            refine Wp.done (by kernel_rfl) ?_
            refine W.reg ?_
            refine Wx.rd (v := .int .i64 (i + 1)) (rd_add rfl rfl (in_i64 (by omega) (by omega))) rfl ?_
            refine Wx.rd (v := .int .i64 (i + 1)) (rd_move rfl) rfl ?_
            refine Wx.nil ?_
            refine ⟨(i + 1, bv_109, foldR a best2 (pathsV (gS l) l.length size (q ++ [i]))), (by show (l.length - (i + 1)).toNat < (l.length - i).toNat; omega), ?_, ?_, Out.look rfl (Out.hav rfl (Out.look rfl Out.self))⟩
            · exact ⟨St.tl (St.tl (St.tl (St.tl (St.tl (hS.tl))))), (by first | omega | assumption), (by first | omega | assumption), (by first | rw [← h2, pathsQ_next c3, if_pos (goes_of c4), foldR_app] | rw [← h2, pathsQ_next c3, if_neg (goes_not c4), List.nil_append]), (by assumption)⟩
            · exact ⟨rfl, trivial⟩
          · -- operation 4
            refine Wx.lit (t := (tI .i64)) (ys := [i]) (vs := [.int .i64 i]) elKu_39 hS rfl rfl ⟨(V.mkInt (in_i64 (by omega) (by omega))), trivial⟩ (by decide) rfl (fun v_112 w_113 hx_114 hS => ?_)
            refine Wx.nil ?_
            refine Wp.br [2] (by kernel_rfl) (by decide) ⟨⟨_, rfl, ?_⟩, trivial⟩
            refine Wx.callF (run_callF Try.call88 rfl) (F88 (hS.v 5 rfl) hS.fb_lt) rfl ?_
            rintro r_115 w_116 hx_117 ⟨_, rfl, ⟨⟨ad_119, rfl⟩, hv_118⟩⟩
            have ln_121 := hv_118.len63
            have hS := hS.ext hx_117
            have hS := hS.add hv_118
            refine Wx.nil ?_
            refine Wp.br [5] (by kernel_rfl) (by decide) ⟨⟨_, rfl, ?_⟩, trivial⟩
            refine Wx.appendNew elKu_39 hS rfl (hS.v 0 rfl) rfl (Src.ofR hS 1 rfl) (by simp) (by simp only [maxLen]; simp; omega) (by simp; omega) rfl (fun v_122 w_123 hz_124 hS => ?_)
            refine Wx.nil ?_
            refine Wp.br [6] (by kernel_rfl) (by decide) ⟨⟨_, rfl, ?_⟩, trivial⟩
            have hS := hS.freeze 0 rfl
            have hL := V.pull (pre := [Ob.v (tSl (tI .i64)) (q ++ [i]) v_122, Ob.v (tSl (tI .i64)) q (.slice ad_119 q.length q.length), .row (tI .i64) 3 v_112 [i], .box g_58 62 [v_50, v_51], Ob.v (tSl (tI .i64)) ((ix ([], []) l i).2) v_51, Ob.v (tSl (tI .i64)) ((ix ([], []) l i).1) v_50, Ob.v (tSl (tP (tSl (tI .i64)) (tSl (tI .i64)))) l v_40, Ob.v (tSl (tI .i64)) q lv]) (A := [Ob.v (tSl (tI .i64)) best2 bv2, .box gs 3 [.int .i64 size], .box ga 3 [.int .i64 a], .box gb 39 [bv2], Ob.v (tMk true) l (.pointer (some ⟨g0, 0, none⟩)), .box gm 89 [(.pointer (some ⟨g0, 0, none⟩))], .box gw 76 [.func (.func 99) #[] #[(.pointer (some ⟨gs, 0, none⟩)), (.pointer (some ⟨ga, 0, none⟩)), (.pointer (some ⟨gb, 0, none⟩)), (.pointer (some ⟨gm, 0, none⟩)), (.pointer (some ⟨gw, 0, none⟩))]]]) (R := ob) (hS.v 0 rfl)
            have hP := St.pull (pre := [Ob.v (tSl (tI .i64)) (q ++ [i]) v_122, Ob.v (tSl (tI .i64)) q (.slice ad_119 q.length q.length), .row (tI .i64) 3 v_112 [i], .box g_58 62 [v_50, v_51], Ob.v (tSl (tI .i64)) ((ix ([], []) l i).2) v_51, Ob.v (tSl (tI .i64)) ((ix ([], []) l i).1) v_50, Ob.v (tSl (tP (tSl (tI .i64)) (tSl (tI .i64)))) l v_40, Ob.v (tSl (tI .i64)) q lv]) (A := [Ob.v (tSl (tI .i64)) best2 bv2, .box gs 3 [.int .i64 size], .box ga 3 [.int .i64 a], .box gb 39 [bv2], Ob.v (tMk true) l (.pointer (some ⟨g0, 0, none⟩)), .box gm 89 [(.pointer (some ⟨g0, 0, none⟩))], .box gw 76 [.func (.func 99) #[] #[(.pointer (some ⟨gs, 0, none⟩)), (.pointer (some ⟨ga, 0, none⟩)), (.pointer (some ⟨gb, 0, none⟩)), (.pointer (some ⟨gm, 0, none⟩)), (.pointer (some ⟨gw, 0, none⟩))]]]) (R := ob) hS
            refine Wx.callB (run_callC (fs := []) (cs := [(.pointer (some ⟨gs, 0, none⟩)), (.pointer (some ⟨ga, 0, none⟩)), (.pointer (some ⟨gb, 0, none⟩)), (.pointer (some ⟨gm, 0, none⟩)), (.pointer (some ⟨gw, 0, none⟩))]) (vs := [v_122, (.pointer (some ⟨gs, 0, none⟩)), (.pointer (some ⟨ga, 0, none⟩)), (.pointer (some ⟨gb, 0, none⟩)), (.pointer (some ⟨gm, 0, none⟩)), (.pointer (some ⟨gw, 0, none⟩))]) Try.call99 rfl rfl) (IH (q := (q ++ [i])) (lv := v_122) (best := best2) (bv := bv2) (ob := [Ob.v (tSl (tI .i64)) (q ++ [i]) v_122, Ob.v (tSl (tI .i64)) q (.slice ad_119 q.length q.length), .row (tI .i64) 3 v_112 [i], .box g_58 62 [v_50, v_51], Ob.v (tSl (tI .i64)) ((ix ([], []) l i).2) v_51, Ob.v (tSl (tI .i64)) ((ix ([], []) l i).1) v_50, Ob.v (tSl (tP (tSl (tI .i64)) (tSl (tI .i64)))) l v_40, Ob.v (tSl (tI .i64)) q lv] ++ ob) p_ok p_a p_n (by simp; omega) (by simp; omega) p_6 (snoc_in p_b h0 (by omega)) h3 hP hL (by simp; omega)) rfl ?_
            rintro r_126 w_127 ⟨rfl, bv_128, best_130, hS, rfl, hn_129⟩
            have hS : St w0 O w_127 (Ob.v (tSl (tI .i64)) (q ++ [i]) v_122 :: Ob.v (tSl (tI .i64)) q (.slice ad_119 q.length q.length) :: .row (tI .i64) 3 v_112 [i] :: .box g_58 62 [v_50, v_51] :: Ob.v (tSl (tI .i64)) ((ix ([], []) l i).2) v_51 :: Ob.v (tSl (tI .i64)) ((ix ([], []) l i).1) v_50 :: Ob.v (tSl (tP (tSl (tI .i64)) (tSl (tI .i64)))) l v_40 :: Ob.v (tSl (tI .i64)) q lv :: Ob.v (tSl (tI .i64)) (foldR a best2 (pathsV (gS l) l.length size (q ++ [i]))) bv_128 :: .box gs 3 [.int .i64 size] :: .box ga 3 [.int .i64 a] :: .box gb 39 [bv_128] :: Ob.v (tMk true) l (.pointer (some ⟨g0, 0, none⟩)) :: .box gm 89 [(.pointer (some ⟨g0, 0, none⟩))] :: .box gw 76 [.func (.func 99) #[] #[(.pointer (some ⟨gs, 0, none⟩)), (.pointer (some ⟨ga, 0, none⟩)), (.pointer (some ⟨gb, 0, none⟩)), (.pointer (some ⟨gm, 0, none⟩)), (.pointer (some ⟨gw, 0, none⟩))]] :: ob) := St.pull (pre := [Ob.v (tSl (tI .i64)) (foldR a best2 (pathsV (gS l) l.length size (q ++ [i]))) bv_128, .box gs 3 [.int .i64 size], .box ga 3 [.int .i64 a], .box gb 39 [bv_128], Ob.v (tMk true) l (.pointer (some ⟨g0, 0, none⟩)), .box gm 89 [(.pointer (some ⟨g0, 0, none⟩))], .box gw 76 [.func (.func 99) #[] #[(.pointer (some ⟨gs, 0, none⟩)), (.pointer (some ⟨ga, 0, none⟩)), (.pointer (some ⟨gb, 0, none⟩)), (.pointer (some ⟨gm, 0, none⟩)), (.pointer (some ⟨gw, 0, none⟩))]]]) (A := [Ob.v (tSl (tI .i64)) (q ++ [i]) v_122, Ob.v (tSl (tI .i64)) q (.slice ad_119 q.length q.length), .row (tI .i64) 3 v_112 [i], .box g_58 62 [v_50, v_51], Ob.v (tSl (tI .i64)) ((ix ([], []) l i).2) v_51, Ob.v (tSl (tI .i64)) ((ix ([], []) l i).1) v_50, Ob.v (tSl (tP (tSl (tI .i64)) (tSl (tI .i64)))) l v_40, Ob.v (tSl (tI .i64)) q lv]) (R := ob) hS
            refine Wx.nil ?_
            refine Wp.done (by kernel_rfl) ?_
            refine W.reg ?_
            refine Wx.rd (v := .int .i64 (i + 1)) (rd_add rfl rfl (in_i64 (by omega) (by omega))) rfl ?_
            refine Wx.rd (v := .int .i64 (i + 1)) (rd_move rfl) rfl ?_
            refine Wx.nil ?_
            refine ⟨(i + 1, bv_128, foldR a best2 (pathsV (gS l) l.length size (q ++ [i]))), (by show (l.length - (i + 1)).toNat < (l.length - i).toNat; omega), ?_, ?_, Out.look rfl (Out.hav rfl (Out.look rfl Out.self))⟩
            · exact ⟨St.tl (St.tl (St.tl (St.tl (St.tl (hS.tl))))), (by first | omega | assumption), (by first | omega | assumption), (by first | rw [← h2, pathsQ_next c3, if_pos (goes_of c4), foldR_app] | rw [← h2, pathsQ_next c3, if_neg (goes_not c4), List.nil_append]), (by assumption)⟩
            · exact ⟨rfl, trivial⟩
        · -- operation 2
          refine Wx.callF (run_callF Try.call88 rfl) (F88 (hS.v 4 rfl) hS.fb_lt) rfl ?_
          rintro r_131 w_132 hx_133 ⟨_, rfl, ⟨⟨ad_135, rfl⟩, hv_134⟩⟩
          have ln_137 := hv_134.len63
          have hS := hS.ext hx_133
          have hS := hS.add hv_134
          refine Wx.nil ?_
          refine Wp.br [0, 4] (by kernel_rfl) (by decide) ⟨⟨_, rfl, ?_⟩, ⟨_, rfl, ?_⟩, trivial⟩
          · -- operation 0
            refine Wx.rd (v := .func (.func 99) #[] #[(.pointer (some ⟨gs, 0, none⟩)), (.pointer (some ⟨ga, 0, none⟩)), (.pointer (some ⟨gb, 0, none⟩)), (.pointer (some ⟨gm, 0, none⟩)), (.pointer (some ⟨gw, 0, none⟩))]) (rd_loadX hS 12 rfl rfl rfl Try.isAgg76) rfl ?_
            refine Wx.nil ?_
            refine Wp.br [4] (by kernel_rfl) (by decide) ⟨⟨_, rfl, ?_⟩, trivial⟩
            refine Wx.lit (t := (tI .i64)) (ys := [i]) (vs := [.int .i64 i]) elKu_39 hS rfl rfl ⟨(V.mkInt (in_i64 (by omega) (by omega))), trivial⟩ (by decide) rfl (fun v_138 w_139 hx_140 hS => ?_)
            refine Wx.nil ?_
            refine Wp.br [5] (by kernel_rfl) (by decide) ⟨⟨_, rfl, ?_⟩, trivial⟩
            refine Wx.appendNew elKu_39 hS rfl (hS.v 1 rfl) rfl (Src.ofR hS 0 rfl) (by simp) (by simp only [maxLen]; simp; omega) (by simp; omega) rfl (fun v_141 w_142 hz_143 hS => ?_)
            refine Wx.nil ?_
            refine Wp.br [6] (by kernel_rfl) (by decide) ⟨⟨_, rfl, ?_⟩, trivial⟩
            have hS := hS.freeze 0 rfl
            have hL := V.pull (pre := [Ob.v (tSl (tI .i64)) (q ++ [i]) v_141, .row (tI .i64) 3 v_138 [i], Ob.v (tSl (tI .i64)) q (.slice ad_135 q.length q.length), .box g_58 62 [v_50, v_51], Ob.v (tSl (tI .i64)) ((ix ([], []) l i).2) v_51, Ob.v (tSl (tI .i64)) ((ix ([], []) l i).1) v_50, Ob.v (tSl (tP (tSl (tI .i64)) (tSl (tI .i64)))) l v_40, Ob.v (tSl (tI .i64)) q lv]) (A := [Ob.v (tSl (tI .i64)) best2 bv2, .box gs 3 [.int .i64 size], .box ga 3 [.int .i64 a], .box gb 39 [bv2], Ob.v (tMk true) l (.pointer (some ⟨g0, 0, none⟩)), .box gm 89 [(.pointer (some ⟨g0, 0, none⟩))], .box gw 76 [.func (.func 99) #[] #[(.pointer (some ⟨gs, 0, none⟩)), (.pointer (some ⟨ga, 0, none⟩)), (.pointer (some ⟨gb, 0, none⟩)), (.pointer (some ⟨gm, 0, none⟩)), (.pointer (some ⟨gw, 0, none⟩))]]]) (R := ob) (hS.v 0 rfl)
            have hP := St.pull (pre := [Ob.v (tSl (tI .i64)) (q ++ [i]) v_141, .row (tI .i64) 3 v_138 [i], Ob.v (tSl (tI .i64)) q (.slice ad_135 q.length q.length), .box g_58 62 [v_50, v_51], Ob.v (tSl (tI .i64)) ((ix ([], []) l i).2) v_51, Ob.v (tSl (tI .i64)) ((ix ([], []) l i).1) v_50, Ob.v (tSl (tP (tSl (tI .i64)) (tSl (tI .i64)))) l v_40, Ob.v (tSl (tI .i64)) q lv]) (A := [Ob.v (tSl (tI .i64)) best2 bv2, .box gs 3 [.int .i64 size], .box ga 3 [.int .i64 a], .box gb 39 [bv2], Ob.v (tMk true) l (.pointer (some ⟨g0, 0, none⟩)), .box gm 89 [(.pointer (some ⟨g0, 0, none⟩))], .box gw 76 [.func (.func 99) #[] #[(.pointer (some ⟨gs, 0, none⟩)), (.pointer (some ⟨ga, 0, none⟩)), (.pointer (some ⟨gb, 0, none⟩)), (.pointer (some ⟨gm, 0, none⟩)), (.pointer (some ⟨gw, 0, none⟩))]]]) (R := ob) hS
            refine Wx.callB (run_callC (fs := []) (cs := [(.pointer (some ⟨gs, 0, none⟩)), (.pointer (some ⟨ga, 0, none⟩)), (.pointer (some ⟨gb, 0, none⟩)), (.pointer (some ⟨gm, 0, none⟩)), (.pointer (some ⟨gw, 0, none⟩))]) (vs := [v_141, (.pointer (some ⟨gs, 0, none⟩)), (.pointer (some ⟨ga, 0, none⟩)), (.pointer (some ⟨gb, 0, none⟩)), (.pointer (some ⟨gm, 0, none⟩)), (.pointer (some ⟨gw, 0, none⟩))]) Try.call99 rfl rfl) (IH (q := (q ++ [i])) (lv := v_141) (best := best2) (bv := bv2) (ob := [Ob.v (tSl (tI .i64)) (q ++ [i]) v_141, .row (tI .i64) 3 v_138 [i], Ob.v (tSl (tI .i64)) q (.slice ad_135 q.length q.length), .box g_58 62 [v_50, v_51], Ob.v (tSl (tI .i64)) ((ix ([], []) l i).2) v_51, Ob.v (tSl (tI .i64)) ((ix ([], []) l i).1) v_50, Ob.v (tSl (tP (tSl (tI .i64)) (tSl (tI .i64)))) l v_40, Ob.v (tSl (tI .i64)) q lv] ++ ob) p_ok p_a p_n (by simp; omega) (by simp; omega) p_6 (snoc_in p_b h0 (by omega)) h3 hP hL (by simp; omega)) rfl ?_
            rintro r_145 w_146 ⟨rfl, bv_147, best_149, hS, rfl, hn_148⟩
            have hS : St w0 O w_146 (Ob.v (tSl (tI .i64)) (q ++ [i]) v_141 :: .row (tI .i64) 3 v_138 [i] :: Ob.v (tSl (tI .i64)) q (.slice ad_135 q.length q.length) :: .box g_58 62 [v_50, v_51] :: Ob.v (tSl (tI .i64)) ((ix ([], []) l i).2) v_51 :: Ob.v (tSl (tI .i64)) ((ix ([], []) l i).1) v_50 :: Ob.v (tSl (tP (tSl (tI .i64)) (tSl (tI .i64)))) l v_40 :: Ob.v (tSl (tI .i64)) q lv :: Ob.v (tSl (tI .i64)) (foldR a best2 (pathsV (gS l) l.length size (q ++ [i]))) bv_147 :: .box gs 3 [.int .i64 size] :: .box ga 3 [.int .i64 a] :: .box gb 39 [bv_147] :: Ob.v (tMk true) l (.pointer (some ⟨g0, 0, none⟩)) :: .box gm 89 [(.pointer (some ⟨g0, 0, none⟩))] :: .box gw 76 [.func (.func 99) #[] #[(.pointer (some ⟨gs, 0, none⟩)), (.pointer (some ⟨ga, 0, none⟩)), (.pointer (some ⟨gb, 0, none⟩)), (.pointer (some ⟨gm, 0, none⟩)), (.pointer (some ⟨gw, 0, none⟩))]] :: ob) := St.pull (pre := [Ob.v (tSl (tI .i64)) (foldR a best2 (pathsV (gS l) l.length size (q ++ [i]))) bv_147, .box gs 3 [.int .i64 size], .box ga 3 [.int .i64 a], .box gb 39 [bv_147], Ob.v (tMk true) l (.pointer (some ⟨g0, 0, none⟩)), .box gm 89 [(.pointer (some ⟨g0, 0, none⟩))], .box gw 76 [.func (.func 99) #[] #[(.pointer (some ⟨gs, 0, none⟩)), (.pointer (some ⟨ga, 0, none⟩)), (.pointer (some ⟨gb, 0, none⟩)), (.pointer (some ⟨gm, 0, none⟩)), (.pointer (some ⟨gw, 0, none⟩))]]]) (A := [Ob.v (tSl (tI .i64)) (q ++ [i]) v_141, .row (tI .i64) 3 v_138 [i], Ob.v (tSl (tI .i64)) q (.slice ad_135 q.length q.length), .box g_58 62 [v_50, v_51], Ob.v (tSl (tI .i64)) ((ix ([], []) l i).2) v_51, Ob.v (tSl (tI .i64)) ((ix ([], []) l i).1) v_50, Ob.v (tSl (tP (tSl (tI .i64)) (tSl (tI .i64)))) l v_40, Ob.v (tSl (tI .i64)) q lv]) (R := ob) hS
            refine Wx.nil ?_
            refine Wp.done (by kernel_rfl) ?_
            refine W.reg ?_
            refine Wx.rd (v := .int .i64 (i + 1)) (rd_add rfl rfl (in_i64 (by omega) (by omega))) rfl ?_
            refine Wx.rd (v := .int .i64 (i + 1)) (rd_move rfl) rfl ?_
            refine Wx.nil ?_
            refine ⟨(i + 1, bv_147, foldR a best2 (pathsV (gS l) l.length size (q ++ [i]))), (by show (l.length - (i + 1)).toNat < (l.length - i).toNat; omega), ?_, ?_, Out.look rfl (Out.hav rfl (Out.look rfl Out.self))⟩
            · exact ⟨St.tl (St.tl (St.tl (St.tl (St.tl (hS.tl))))), (by first | omega | assumption), (by first | omega | assumption), (by first | rw [← h2, pathsQ_next c3, if_pos (goes_of c4), foldR_app] | rw [← h2, pathsQ_next c3, if_neg (goes_not c4), List.nil_append]), (by assumption)⟩
            · exact ⟨rfl, trivial⟩
          · -- operation 4
            refine Wx.lit (t := (tI .i64)) (ys := [i]) (vs := [.int .i64 i]) elKu_39 hS rfl rfl ⟨(V.mkInt (in_i64 (by omega) (by omega))), trivial⟩ (by decide) rfl (fun v_150 w_151 hx_152 hS => ?_)
            refine Wx.nil ?_
            refine Wp.br [0, 5] (by kernel_rfl) (by decide) ⟨⟨_, rfl, ?_⟩, ⟨_, rfl, ?_⟩, trivial⟩
            · -- operation 0
              refine Wx.rd (v := .func (.func 99) #[] #[(.pointer (some ⟨gs, 0, none⟩)), (.pointer (some ⟨ga, 0, none⟩)), (.pointer (some ⟨gb, 0, none⟩)), (.pointer (some ⟨gm, 0, none⟩)), (.pointer (some ⟨gw, 0, none⟩))]) (rd_loadX hS 13 rfl rfl rfl Try.isAgg76) rfl ?_
              refine Wx.nil ?_
              refine Wp.br [5] (by kernel_rfl) (by decide) ⟨⟨_, rfl, ?_⟩, trivial⟩
              refine Wx.appendNew elKu_39 hS rfl (hS.v 1 rfl) rfl (Src.ofR hS 0 rfl) (by simp) (by simp only [maxLen]; simp; omega) (by simp; omega) rfl (fun v_153 w_154 hz_155 hS => ?_)
              refine Wx.nil ?_
              refine Wp.br [6] (by kernel_rfl) (by decide) ⟨⟨_, rfl, ?_⟩, trivial⟩
              have hS := hS.freeze 0 rfl
              have hL := V.pull (pre := [Ob.v (tSl (tI .i64)) (q ++ [i]) v_153, .row (tI .i64) 3 v_150 [i], Ob.v (tSl (tI .i64)) q (.slice ad_135 q.length q.length), .box g_58 62 [v_50, v_51], Ob.v (tSl (tI .i64)) ((ix ([], []) l i).2) v_51, Ob.v (tSl (tI .i64)) ((ix ([], []) l i).1) v_50, Ob.v (tSl (tP (tSl (tI .i64)) (tSl (tI .i64)))) l v_40, Ob.v (tSl (tI .i64)) q lv]) (A := [Ob.v (tSl (tI .i64)) best2 bv2, .box gs 3 [.int .i64 size], .box ga 3 [.int .i64 a], .box gb 39 [bv2], Ob.v (tMk true) l (.pointer (some ⟨g0, 0, none⟩)), .box gm 89 [(.pointer (some ⟨g0, 0, none⟩))], .box gw 76 [.func (.func 99) #[] #[(.pointer (some ⟨gs, 0, none⟩)), (.pointer (some ⟨ga, 0, none⟩)), (.pointer (some ⟨gb, 0, none⟩)), (.pointer (some ⟨gm, 0, none⟩)), (.pointer (some ⟨gw, 0, none⟩))]]]) (R := ob) (hS.v 0 rfl)
              have hP := St.pull (pre := [Ob.v (tSl (tI .i64)) (q ++ [i]) v_153, .row (tI .i64) 3 v_150 [i], Ob.v (tSl (tI .i64)) q (.slice ad_135 q.length q.length), .box g_58 62 [v_50, v_51], Ob.v (tSl (tI .i64)) ((ix ([], []) l i).2) v_51, Ob.v (tSl (tI .i64)) ((ix ([], []) l i).1) v_50, Ob.v (tSl (tP (tSl (tI .i64)) (tSl (tI .i64)))) l v_40, Ob.v (tSl (tI .i64)) q lv]) (A := [Ob.v (tSl (tI .i64)) best2 bv2, .box gs 3 [.int .i64 size], .box ga 3 [.int .i64 a], .box gb 39 [bv2], Ob.v (tMk true) l (.pointer (some ⟨g0, 0, none⟩)), .box gm 89 [(.pointer (some ⟨g0, 0, none⟩))], .box gw 76 [.func (.func 99) #[] #[(.pointer (some ⟨gs, 0, none⟩)), (.pointer (some ⟨ga, 0, none⟩)), (.pointer (some ⟨gb, 0, none⟩)), (.pointer (some ⟨gm, 0, none⟩)), (.pointer (some ⟨gw, 0, none⟩))]]]) (R := ob) hS
              refine Wx.callB (run_callC (fs := []) (cs := [(.pointer (some ⟨gs, 0, none⟩)), (.pointer (some ⟨ga, 0, none⟩)), (.pointer (some ⟨gb, 0, none⟩)), (.pointer (some ⟨gm, 0, none⟩)), (.pointer (some ⟨gw, 0, none⟩))]) (vs := [v_153, (.pointer (some ⟨gs, 0, none⟩)), (.pointer (some ⟨ga, 0, none⟩)), (.pointer (some ⟨gb, 0, none⟩)), (.pointer (some ⟨gm, 0, none⟩)), (.pointer (some ⟨gw, 0, none⟩))]) Try.call99 rfl rfl) (IH (q := (q ++ [i])) (lv := v_153) (best := best2) (bv := bv2) (ob := [Ob.v (tSl (tI .i64)) (q ++ [i]) v_153, .row (tI .i64) 3 v_150 [i], Ob.v (tSl (tI .i64)) q (.slice ad_135 q.length q.length), .box g_58 62 [v_50, v_51], Ob.v (tSl (tI .i64)) ((ix ([], []) l i).2) v_51, Ob.v (tSl (tI .i64)) ((ix ([], []) l i).1) v_50, Ob.v (tSl (tP (tSl (tI .i64)) (tSl (tI .i64)))) l v_40, Ob.v (tSl (tI .i64)) q lv] ++ ob) p_ok p_a p_n (by simp; omega) (by simp; omega) p_6 (snoc_in p_b h0 (by omega)) h3 hP hL (by simp; omega)) rfl ?_
              rintro r_157 w_158 ⟨rfl, bv_159, best_161, hS, rfl, hn_160⟩
              have hS : St w0 O w_158 (Ob.v (tSl (tI .i64)) (q ++ [i]) v_153 :: .row (tI .i64) 3 v_150 [i] :: Ob.v (tSl (tI .i64)) q (.slice ad_135 q.length q.length) :: .box g_58 62 [v_50, v_51] :: Ob.v (tSl (tI .i64)) ((ix ([], []) l i).2) v_51 :: Ob.v (tSl (tI .i64)) ((ix ([], []) l i).1) v_50 :: Ob.v (tSl (tP (tSl (tI .i64)) (tSl (tI .i64)))) l v_40 :: Ob.v (tSl (tI .i64)) q lv :: Ob.v (tSl (tI .i64)) (foldR a best2 (pathsV (gS l) l.length size (q ++ [i]))) bv_159 :: .box gs 3 [.int .i64 size] :: .box ga 3 [.int .i64 a] :: .box gb 39 [bv_159] :: Ob.v (tMk true) l (.pointer (some ⟨g0, 0, none⟩)) :: .box gm 89 [(.pointer (some ⟨g0, 0, none⟩))] :: .box gw 76 [.func (.func 99) #[] #[(.pointer (some ⟨gs, 0, none⟩)), (.pointer (some ⟨ga, 0, none⟩)), (.pointer (some ⟨gb, 0, none⟩)), (.pointer (some ⟨gm, 0, none⟩)), (.pointer (some ⟨gw, 0, none⟩))]] :: ob) := St.pull (pre := [Ob.v (tSl (tI .i64)) (foldR a best2 (pathsV (gS l) l.length size (q ++ [i]))) bv_159, .box gs 3 [.int .i64 size], .box ga 3 [.int .i64 a], .box gb 39 [bv_159], Ob.v (tMk true) l (.pointer (some ⟨g0, 0, none⟩)), .box gm 89 [(.pointer (some ⟨g0, 0, none⟩))], .box gw 76 [.func (.func 99) #[] #[(.pointer (some ⟨gs, 0, none⟩)), (.pointer (some ⟨ga, 0, none⟩)), (.pointer (some ⟨gb, 0, none⟩)), (.pointer (some ⟨gm, 0, none⟩)), (.pointer (some ⟨gw, 0, none⟩))]]]) (A := [Ob.v (tSl (tI .i64)) (q ++ [i]) v_153, .row (tI .i64) 3 v_150 [i], Ob.v (tSl (tI .i64)) q (.slice ad_135 q.length q.length), .box g_58 62 [v_50, v_51], Ob.v (tSl (tI .i64)) ((ix ([], []) l i).2) v_51, Ob.v (tSl (tI .i64)) ((ix ([], []) l i).1) v_50, Ob.v (tSl (tP (tSl (tI .i64)) (tSl (tI .i64)))) l v_40, Ob.v (tSl (tI .i64)) q lv]) (R := ob) hS
              refine Wx.nil ?_
              refine Wp.done (by kernel_rfl) ?_
              refine W.reg ?_
              refine Wx.rd (v := .int .i64 (i + 1)) (rd_add rfl rfl (in_i64 (by omega) (by omega))) rfl ?_
              refine Wx.rd (v := .int .i64 (i + 1)) (rd_move rfl) rfl ?_
              refine Wx.nil ?_
              refine ⟨(i + 1, bv_159, foldR a best2 (pathsV (gS l) l.length size (q ++ [i]))), (by show (l.length - (i + 1)).toNat < (l.length - i).toNat; omega), ?_, ?_, Out.look rfl (Out.hav rfl (Out.look rfl Out.self))⟩
              · exact ⟨St.tl (St.tl (St.tl (St.tl (St.tl (hS.tl))))), (by first | omega | assumption), (by first | omega | assumption), (by first | rw [← h2, pathsQ_next c3, if_pos (goes_of c4), foldR_app] | rw [← h2, pathsQ_next c3, if_neg (goes_not c4), List.nil_append]), (by assumption)⟩
              · exact ⟨rfl, trivial⟩
            · -- operation 5
              refine Wx.appendNew elKu_39 hS rfl (hS.v 1 rfl) rfl (Src.ofR hS 0 rfl) (by simp) (by simp only [maxLen]; simp; omega) (by simp; omega) rfl (fun v_162 w_163 hz_164 hS => ?_)
              refine Wx.nil ?_
              refine Wp.br [0] (by kernel_rfl) (by decide) ⟨⟨_, rfl, ?_⟩, trivial⟩
              refine Wx.rd (v := .func (.func 99) #[] #[(.pointer (some ⟨gs, 0, none⟩)), (.pointer (some ⟨ga, 0, none⟩)), (.pointer (some ⟨gb, 0, none⟩)), (.pointer (some ⟨gm, 0, none⟩)), (.pointer (some ⟨gw, 0, none⟩))]) (rd_loadX hS 14 rfl rfl rfl Try.isAgg76) rfl ?_
              refine Wx.nil ?_
              refine Wp.br [6] (by kernel_rfl) (by decide) ⟨⟨_, rfl, ?_⟩, trivial⟩
              have hS := hS.freeze 0 rfl
              have hL := V.pull (pre := [Ob.v (tSl (tI .i64)) (q ++ [i]) v_162, .row (tI .i64) 3 v_150 [i], Ob.v (tSl (tI .i64)) q (.slice ad_135 q.length q.length), .box g_58 62 [v_50, v_51], Ob.v (tSl (tI .i64)) ((ix ([], []) l i).2) v_51, Ob.v (tSl (tI .i64)) ((ix ([], []) l i).1) v_50, Ob.v (tSl (tP (tSl (tI .i64)) (tSl (tI .i64)))) l v_40, Ob.v (tSl (tI .i64)) q lv]) (A := [Ob.v (tSl (tI .i64)) best2 bv2, .box gs 3 [.int .i64 size], .box ga 3 [.int .i64 a], .box gb 39 [bv2], Ob.v (tMk true) l (.pointer (some ⟨g0, 0, none⟩)), .box gm 89 [(.pointer (some ⟨g0, 0, none⟩))], .box gw 76 [.func (.func 99) #[] #[(.pointer (some ⟨gs, 0, none⟩)), (.pointer (some ⟨ga, 0, none⟩)), (.pointer (some ⟨gb, 0, none⟩)), (.pointer (some ⟨gm, 0, none⟩)), (.pointer (some ⟨gw, 0, none⟩))]]]) (R := ob) (hS.v 0 rfl)
              have hP := St.pull (pre := [Ob.v (tSl (tI .i64)) (q ++ [i]) v_162, .row (tI .i64) 3 v_150 [i], Ob.v (tSl (tI .i64)) q (.slice ad_135 q.length q.length), .box g_58 62 [v_50, v_51], Ob.v (tSl (tI .i64)) ((ix ([], []) l i).2) v_51, Ob.v (tSl (tI .i64)) ((ix ([], []) l i).1) v_50, Ob.v (tSl (tP (tSl (tI .i64)) (tSl (tI .i64)))) l v_40, Ob.v (tSl (tI .i64)) q lv]) (A := [Ob.v (tSl (tI .i64)) best2 bv2, .box gs 3 [.int .i64 size], .box ga 3 [.int .i64 a], .box gb 39 [bv2], Ob.v (tMk true) l (.pointer (some ⟨g0, 0, none⟩)), .box gm 89 [(.pointer (some ⟨g0, 0, none⟩))], .box gw 76 [.func (.func 99) #[] #[(.pointer (some ⟨gs, 0, none⟩)), (.pointer (some ⟨ga, 0, none⟩)), (.pointer (some ⟨gb, 0, none⟩)), (.pointer (some ⟨gm, 0, none⟩)), (.pointer (some ⟨gw, 0, none⟩))]]]) (R := ob) hS
              refine Wx.callB (run_callC (fs := []) (cs := [(.pointer (some ⟨gs, 0, none⟩)), (.pointer (some ⟨ga, 0, none⟩)), (.pointer (some ⟨gb, 0, none⟩)), (.pointer (some ⟨gm, 0, none⟩)), (.pointer (some ⟨gw, 0, none⟩))]) (vs := [v_162, (.pointer (some ⟨gs, 0, none⟩)), (.pointer (some ⟨ga, 0, none⟩)), (.pointer (some ⟨gb, 0, none⟩)), (.pointer (some ⟨gm, 0, none⟩)), (.pointer (some ⟨gw, 0, none⟩))]) Try.call99 rfl rfl) (IH (q := (q ++ [i])) (lv := v_162) (best := best2) (bv := bv2) (ob := [Ob.v (tSl (tI .i64)) (q ++ [i]) v_162, .row (tI .i64) 3 v_150 [i], Ob.v (tSl (tI .i64)) q (.slice ad_135 q.length q.length), .box g_58 62 [v_50, v_51], Ob.v (tSl (tI .i64)) ((ix ([], []) l i).2) v_51, Ob.v (tSl (tI .i64)) ((ix ([], []) l i).1) v_50, Ob.v (tSl (tP (tSl (tI .i64)) (tSl (tI .i64)))) l v_40, Ob.v (tSl (tI .i64)) q lv] ++ ob) p_ok p_a p_n (by simp; omega) (by simp; omega) p_6 (snoc_in p_b h0 (by omega)) h3 hP hL (by simp; omega)) rfl ?_
              rintro r_166 w_167 ⟨rfl, bv_168, best_170, hS, rfl, hn_169⟩
              have hS : St w0 O w_167 (Ob.v (tSl (tI .i64)) (q ++ [i]) v_162 :: .row (tI .i64) 3 v_150 [i] :: Ob.v (tSl (tI .i64)) q (.slice ad_135 q.length q.length) :: .box g_58 62 [v_50, v_51] :: Ob.v (tSl (tI .i64)) ((ix ([], []) l i).2) v_51 :: Ob.v (tSl (tI .i64)) ((ix ([], []) l i).1) v_50 :: Ob.v (tSl (tP (tSl (tI .i64)) (tSl (tI .i64)))) l v_40 :: Ob.v (tSl (tI .i64)) q lv :: Ob.v (tSl (tI .i64)) (foldR a best2 (pathsV (gS l) l.length size (q ++ [i]))) bv_168 :: .box gs 3 [.int .i64 size] :: .box ga 3 [.int .i64 a] :: .box gb 39 [bv_168] :: Ob.v (tMk true) l (.pointer (some ⟨g0, 0, none⟩)) :: .box gm 89 [(.pointer (some ⟨g0, 0, none⟩))] :: .box gw 76 [.func (.func 99) #[] #[(.pointer (some ⟨gs, 0, none⟩)), (.pointer (some ⟨ga, 0, none⟩)), (.pointer (some ⟨gb, 0, none⟩)), (.pointer (some ⟨gm, 0, none⟩)), (.pointer (some ⟨gw, 0, none⟩))]] :: ob) := St.pull (pre := [Ob.v (tSl (tI .i64)) (foldR a best2 (pathsV (gS l) l.length size (q ++ [i]))) bv_168, .box gs 3 [.int .i64 size], .box ga 3 [.int .i64 a], .box gb 39 [bv_168], Ob.v (tMk true) l (.pointer (some ⟨g0, 0, none⟩)), .box gm 89 [(.pointer (some ⟨g0, 0, none⟩))], .box gw 76 [.func (.func 99) #[] #[(.pointer (some ⟨gs, 0, none⟩)), (.pointer (some ⟨ga, 0, none⟩)), (.pointer (some ⟨gb, 0, none⟩)), (.pointer (some ⟨gm, 0, none⟩)), (.pointer (some ⟨gw, 0, none⟩))]]]) (A := [Ob.v (tSl (tI .i64)) (q ++ [i]) v_162, .row (tI .i64) 3 v_150 [i], Ob.v (tSl (tI .i64)) q (.slice ad_135 q.length q.length), .box g_58 62 [v_50, v_51], Ob.v (tSl (tI .i64)) ((ix ([], []) l i).2) v_51, Ob.v (tSl (tI .i64)) ((ix ([], []) l i).1) v_50, Ob.v (tSl (tP (tSl (tI .i64)) (tSl (tI .i64)))) l v_40, Ob.v (tSl (tI .i64)) q lv]) (R := ob) hS
              refine Wx.nil ?_
              refine Wp.done (by kernel_rfl) ?_
              refine W.reg ?_
              refine Wx.rd (v := .int .i64 (i + 1)) (rd_add rfl rfl (in_i64 (by omega) (by omega))) rfl ?_
              refine Wx.rd (v := .int .i64 (i + 1)) (rd_move rfl) rfl ?_
              refine Wx.nil ?_
              refine ⟨(i + 1, bv_168, foldR a best2 (pathsV (gS l) l.length size (q ++ [i]))), (by show (l.length - (i + 1)).toNat < (l.length - i).toNat; omega), ?_, ?_, Out.look rfl (Out.hav rfl (Out.look rfl Out.self))⟩
              · exact ⟨St.tl (St.tl (St.tl (St.tl (St.tl (hS.tl))))), (by first | omega | assumption), (by first | omega | assumption), (by first | rw [← h2, pathsQ_next c3, if_pos (goes_of c4), foldR_app] | rw [← h2, pathsQ_next c3, if_neg (goes_not c4), List.nil_append]), (by assumption)⟩
              · exact ⟨rfl, trivial⟩
        · -- operation 4
          refine Wx.lit (t := (tI .i64)) (ys := [i]) (vs := [.int .i64 i]) elKu_39 hS rfl rfl ⟨(V.mkInt (in_i64 (by omega) (by omega))), trivial⟩ (by decide) rfl (fun v_171 w_172 hx_173 hS => ?_)
          refine Wx.nil ?_
          refine Wp.br [0, 2] (by kernel_rfl) (by decide) ⟨⟨_, rfl, ?_⟩, ⟨_, rfl, ?_⟩, trivial⟩
          · -- operation 0
            refine Wx.rd (v := .func (.func 99) #[] #[(.pointer (some ⟨gs, 0, none⟩)), (.pointer (some ⟨ga, 0, none⟩)), (.pointer (some ⟨gb, 0, none⟩)), (.pointer (some ⟨gm, 0, none⟩)), (.pointer (some ⟨gw, 0, none⟩))]) (rd_loadX hS 12 rfl rfl rfl Try.isAgg76) rfl ?_
            refine Wx.nil ?_
            refine Wp.br [2] (by kernel_rfl) (by decide) ⟨⟨_, rfl, ?_⟩, trivial⟩
            refine Wx.callF (run_callF Try.call88 rfl) (F88 (hS.v 5 rfl) hS.fb_lt) rfl ?_
            rintro r_174 w_175 hx_176 ⟨_, rfl, ⟨⟨ad_178, rfl⟩, hv_177⟩⟩
            have ln_180 := hv_177.len63
            have hS := hS.ext hx_176
            have hS := hS.add hv_177
            refine Wx.nil ?_
            refine Wp.br [5] (by kernel_rfl) (by decide) ⟨⟨_, rfl, ?_⟩, trivial⟩
            refine Wx.appendNew elKu_39 hS rfl (hS.v 0 rfl) rfl (Src.ofR hS 1 rfl) (by simp) (by simp only [maxLen]; simp; omega) (by simp; omega) rfl (fun v_181 w_182 hz_183 hS => ?_)
            refine Wx.nil ?_
            refine Wp.br [6] (by kernel_rfl) (by decide) ⟨⟨_, rfl, ?_⟩, trivial⟩
            have hS := hS.freeze 0 rfl
            have hL := V.pull (pre := [Ob.v (tSl (tI .i64)) (q ++ [i]) v_181, Ob.v (tSl (tI .i64)) q (.slice ad_178 q.length q.length), .row (tI .i64) 3 v_171 [i], .box g_58 62 [v_50, v_51], Ob.v (tSl (tI .i64)) ((ix ([], []) l i).2) v_51, Ob.v (tSl (tI .i64)) ((ix ([], []) l i).1) v_50, Ob.v (tSl (tP (tSl (tI .i64)) (tSl (tI .i64)))) l v_40, Ob.v (tSl (tI .i64)) q lv]) (A := [Ob.v (tSl (tI .i64)) best2 bv2, .box gs 3 [.int .i64 size], .box ga 3 [.int .i64 a], .box gb 39 [bv2], Ob.v (tMk true) l (.pointer (some ⟨g0, 0, none⟩)), .box gm 89 [(.pointer (some ⟨g0, 0, none⟩))], .box gw 76 [.func (.func 99) #[] #[(.pointer (some ⟨gs, 0, none⟩)), (.pointer (some ⟨ga, 0, none⟩)), (.pointer (some ⟨gb, 0, none⟩)), (.pointer (some ⟨gm, 0, none⟩)), (.pointer (some ⟨gw, 0, none⟩))]]]) (R := ob) (hS.v 0 rfl)
            have hP := St.pull (pre := [Ob.v (tSl (tI .i64)) (q ++ [i]) v_181, Ob.v (tSl (tI .i64)) q (.slice ad_178 q.length q.length), .row (tI .i64) 3 v_171 [i], .box g_58 62 [v_50, v_51], Ob.v (tSl (tI .i64)) ((ix ([], []) l i).2) v_51, Ob.v (tSl (tI .i64)) ((ix ([], []) l i).1) v_50, Ob.v (tSl (tP (tSl (tI .i64)) (tSl (tI .i64)))) l v_40, Ob.v (tSl (tI .i64)) q lv]) (A := [Ob.v (tSl (tI .i64)) best2 bv2, .box gs 3 [.int .i64 size], .box ga 3 [.int .i64 a], .box gb 39 [bv2], Ob.v (tMk true) l (.pointer (some ⟨g0, 0, none⟩)), .box gm 89 [(.pointer (some ⟨g0, 0, none⟩))], .box gw 76 [.func (.func 99) #[] #[(.pointer (some ⟨gs, 0, none⟩)), (.pointer (some ⟨ga, 0, none⟩)), (.pointer (some ⟨gb, 0, none⟩)), (.pointer (some ⟨gm, 0, none⟩)), (.pointer (some ⟨gw, 0, none⟩))]]]) (R := ob) hS
            refine Wx.callB (run_callC (fs := []) (cs := [(.pointer (some ⟨gs, 0, none⟩)), (.pointer (some ⟨ga, 0, none⟩)), (.pointer (some ⟨gb, 0, none⟩)), (.pointer (some ⟨gm, 0, none⟩)), (.pointer (some ⟨gw, 0, none⟩))]) (vs := [v_181, (.pointer (some ⟨gs, 0, none⟩)), (.pointer (some ⟨ga, 0, none⟩)), (.pointer (some ⟨gb, 0, none⟩)), (.pointer (some ⟨gm, 0, none⟩)), (.pointer (some ⟨gw, 0, none⟩))]) Try.call99 rfl rfl) (IH (q := (q ++ [i])) (lv := v_181) (best := best2) (bv := bv2) (ob := [Ob.v (tSl (tI .i64)) (q ++ [i]) v_181, Ob.v (tSl (tI .i64)) q (.slice ad_178 q.length q.length), .row (tI .i64) 3 v_171 [i], .box g_58 62 [v_50, v_51], Ob.v (tSl (tI .i64)) ((ix ([], []) l i).2) v_51, Ob.v (tSl (tI .i64)) ((ix ([], []) l i).1) v_50, Ob.v (tSl (tP (tSl (tI .i64)) (tSl (tI .i64)))) l v_40, Ob.v (tSl (tI .i64)) q lv] ++ ob) p_ok p_a p_n (by simp; omega) (by simp; omega) p_6 (snoc_in p_b h0 (by omega)) h3 hP hL (by simp; omega)) rfl ?_
            rintro r_185 w_186 ⟨rfl, bv_187, best_189, hS, rfl, hn_188⟩
            have hS : St w0 O w_186 (Ob.v (tSl (tI .i64)) (q ++ [i]) v_181 :: Ob.v (tSl (tI .i64)) q (.slice ad_178 q.length q.length) :: .row (tI .i64) 3 v_171 [i] :: .box g_58 62 [v_50, v_51] :: Ob.v (tSl (tI .i64)) ((ix ([], []) l i).2) v_51 :: Ob.v (tSl (tI .i64)) ((ix ([], []) l i).1) v_50 :: Ob.v (tSl (tP (tSl (tI .i64)) (tSl (tI .i64)))) l v_40 :: Ob.v (tSl (tI .i64)) q lv :: Ob.v (tSl (tI .i64)) (foldR a best2 (pathsV (gS l) l.length size (q ++ [i]))) bv_187 :: .box gs 3 [.int .i64 size] :: .box ga 3 [.int .i64 a] :: .box gb 39 [bv_187] :: Ob.v (tMk true) l (.pointer (some ⟨g0, 0, none⟩)) :: .box gm 89 [(.pointer (some ⟨g0, 0, none⟩))] :: .box gw 76 [.func (.func 99) #[] #[(.pointer (some ⟨gs, 0, none⟩)), (.pointer (some ⟨ga, 0, none⟩)), (.pointer (some ⟨gb, 0, none⟩)), (.pointer (some ⟨gm, 0, none⟩)), (.pointer (some ⟨gw, 0, none⟩))]] :: ob) := St.pull (pre := [Ob.v (tSl (tI .i64)) (foldR a best2 (pathsV (gS l) l.length size (q ++ [i]))) bv_187, .box gs 3 [.int .i64 size], .box ga 3 [.int .i64 a], .box gb 39 [bv_187], Ob.v (tMk true) l (.pointer (some ⟨g0, 0, none⟩)), .box gm 89 [(.pointer (some ⟨g0, 0, none⟩))], .box gw 76 [.func (.func 99) #[] #[(.pointer (some ⟨gs, 0, none⟩)), (.pointer (some ⟨ga, 0, none⟩)), (.pointer (some ⟨gb, 0, none⟩)), (.pointer (some ⟨gm, 0, none⟩)), (.pointer (some ⟨gw, 0, none⟩))]]]) (A := [Ob.v (tSl (tI .i64)) (q ++ [i]) v_181, Ob.v (tSl (tI .i64)) q (.slice ad_178 q.length q.length), .row (tI .i64) 3 v_171 [i], .box g_58 62 [v_50, v_51], Ob.v (tSl (tI .i64)) ((ix ([], []) l i).2) v_51, Ob.v (tSl (tI .i64)) ((ix ([], []) l i).1) v_50, Ob.v (tSl (tP (tSl (tI .i64)) (tSl (tI .i64)))) l v_40, Ob.v (tSl (tI .i64)) q lv]) (R := ob) hS
            refine Wx.nil ?_
            refine Wp.done (by kernel_rfl) ?_
            refine W.reg ?_
            refine Wx.rd (v := .int .i64 (i + 1)) (rd_add rfl rfl (in_i64 (by omega) (by omega))) rfl ?_
            refine Wx.rd (v := .int .i64 (i + 1)) (rd_move rfl) rfl ?_
            refine Wx.nil ?_
            refine ⟨(i + 1, bv_187, foldR a best2 (pathsV (gS l) l.length size (q ++ [i]))), (by show (l.length - (i + 1)).toNat < (l.length - i).toNat; omega), ?_, ?_, Out.look rfl (Out.hav rfl (Out.look rfl Out.self))⟩
            · exact ⟨St.tl (St.tl (St.tl (St.tl (St.tl (hS.tl))))), (by first | omega | assumption), (by first | omega | assumption), (by first | rw [← h2, pathsQ_next c3, if_pos (goes_of c4), foldR_app] | rw [← h2, pathsQ_next c3, if_neg (goes_not c4), List.nil_append]), (by assumption)⟩
            · exact ⟨rfl, trivial⟩
          · -- operation 2
            refine Wx.callF (run_callF Try.call88 rfl) (F88 (hS.v 5 rfl) hS.fb_lt) rfl ?_
            rintro r_190 w_191 hx_192 ⟨_, rfl, ⟨⟨ad_194, rfl⟩, hv_193⟩⟩
            have ln_196 := hv_193.len63
            have hS := hS.ext hx_192
            have hS := hS.add hv_193
            refine Wx.nil ?_
            refine Wp.br [0, 5] (by kernel_rfl) (by decide) ⟨⟨_, rfl, ?_⟩, ⟨_, rfl, ?_⟩, trivial⟩
            · -- operation 0
              refine Wx.rd (v := .func (.func 99) #[] #[(.pointer (some ⟨gs, 0, none⟩)), (.pointer (some ⟨ga, 0, none⟩)), (.pointer (some ⟨gb, 0, none⟩)), (.pointer (some ⟨gm, 0, none⟩)), (.pointer (some ⟨gw, 0, none⟩))]) (rd_loadX hS 13 rfl rfl rfl Try.isAgg76) rfl ?_
              refine Wx.nil ?_
              refine Wp.br [5] (by kernel_rfl) (by decide) ⟨⟨_, rfl, ?_⟩, trivial⟩
              refine Wx.appendNew elKu_39 hS rfl (hS.v 0 rfl) rfl (Src.ofR hS 1 rfl) (by simp) (by simp only [maxLen]; simp; omega) (by simp; omega) rfl (fun v_197 w_198 hz_199 hS => ?_)
              refine Wx.nil ?_
              refine Wp.br [6] (by kernel_rfl) (by decide) ⟨⟨_, rfl, ?_⟩, trivial⟩
              have hS := hS.freeze 0 rfl
              have hL := V.pull (pre := [Ob.v (tSl (tI .i64)) (q ++ [i]) v_197, Ob.v (tSl (tI .i64)) q (.slice ad_194 q.length q.length), .row (tI .i64) 3 v_171 [i], .box g_58 62 [v_50, v_51], Ob.v (tSl (tI .i64)) ((ix ([], []) l i).2) v_51, Ob.v (tSl (tI .i64)) ((ix ([], []) l i).1) v_50, Ob.v (tSl (tP (tSl (tI .i64)) (tSl (tI .i64)))) l v_40, Ob.v (tSl (tI .i64)) q lv]) (A := [Ob.v (tSl (tI .i64)) best2 bv2, .box gs 3 [.int .i64 size], .box ga 3 [.int .i64 a], .box gb 39 [bv2], Ob.v (tMk true) l (.pointer (some ⟨g0, 0, none⟩)), .box gm 89 [(.pointer (some ⟨g0, 0, none⟩))], .box gw 76 [.func (.func 99) #[] #[(.pointer (some ⟨gs, 0, none⟩)), (.pointer (some ⟨ga, 0, none⟩)), (.pointer (some ⟨gb, 0, none⟩)), (.pointer (some ⟨gm, 0, none⟩)), (.pointer (some ⟨gw, 0, none⟩))]]]) (R := ob) (hS.v 0 rfl)
              have hP := St.pull (pre := [Ob.v (tSl (tI .i64)) (q ++ [i]) v_197, Ob.v (tSl (tI .i64)) q (.slice ad_194 q.length q.length), .row (tI .i64) 3 v_171 [i], .box g_58 62 [v_50, v_51], Ob.v (tSl (tI .i64)) ((ix ([], []) l i).2) v_51, Ob.v (tSl (tI .i64)) ((ix ([], []) l i).1) v_50, Ob.v (tSl (tP (tSl (tI .i64)) (tSl (tI .i64)))) l v_40, Ob.v (tSl (tI .i64)) q lv]) (A := [Ob.v (tSl (tI .i64)) best2 bv2, .box gs 3 [.int .i64 size], .box ga 3 [.int .i64 a], .box gb 39 [bv2], Ob.v (tMk true) l (.pointer (some ⟨g0, 0, none⟩)), .box gm 89 [(.pointer (some ⟨g0, 0, none⟩))], .box gw 76 [.func (.func 99) #[] #[(.pointer (some ⟨gs, 0, none⟩)), (.pointer (some ⟨ga, 0, none⟩)), (.pointer (some ⟨gb, 0, none⟩)), (.pointer (some ⟨gm, 0, none⟩)), (.pointer (some ⟨gw, 0, none⟩))]]]) (R := ob) hS
              refine Wx.callB (run_callC (fs := []) (cs := [(.pointer (some ⟨gs, 0, none⟩)), (.pointer (some ⟨ga, 0, none⟩)), (.pointer (some ⟨gb, 0, none⟩)), (.pointer (some ⟨gm, 0, none⟩)), (.pointer (some ⟨gw, 0, none⟩))]) (vs := [v_197, (.pointer (some ⟨gs, 0, none⟩)), (.pointer (some ⟨ga, 0, none⟩)), (.pointer (some ⟨gb, 0, none⟩)), (.pointer (some ⟨gm, 0, none⟩)), (.pointer (some ⟨gw, 0, none⟩))]) Try.call99 rfl rfl) (IH (q := (q ++ [i])) (lv := v_197) (best := best2) (bv := bv2) (ob := [Ob.v (tSl (tI .i64)) (q ++ [i]) v_197, Ob.v (tSl (tI .i64)) q (.slice ad_194 q.length q.length), .row (tI .i64) 3 v_171 [i], .box g_58 62 [v_50, v_51], Ob.v (tSl (tI .i64)) ((ix ([], []) l i).2) v_51, Ob.v (tSl (tI .i64)) ((ix ([], []) l i).1) v_50, Ob.v (tSl (tP (tSl (tI .i64)) (tSl (tI .i64)))) l v_40, Ob.v (tSl (tI .i64)) q lv] ++ ob) p_ok p_a p_n (by simp; omega) (by simp; omega) p_6 (snoc_in p_b h0 (by omega)) h3 hP hL (by simp; omega)) rfl ?_
              rintro r_201 w_202 ⟨rfl, bv_203, best_205, hS, rfl, hn_204⟩
              have hS : St w0 O w_202 (Ob.v (tSl (tI .i64)) (q ++ [i]) v_197 :: Ob.v (tSl (tI .i64)) q (.slice ad_194 q.length q.length) :: .row (tI .i64) 3 v_171 [i] :: .box g_58 62 [v_50, v_51] :: Ob.v (tSl (tI .i64)) ((ix ([], []) l i).2) v_51 :: Ob.v (tSl (tI .i64)) ((ix ([], []) l i).1) v_50 :: Ob.v (tSl (tP (tSl (tI .i64)) (tSl (tI .i64)))) l v_40 :: Ob.v (tSl (tI .i64)) q lv :: Ob.v (tSl (tI .i64)) (foldR a best2 (pathsV (gS l) l.length size (q ++ [i]))) bv_203 :: .box gs 3 [.int .i64 size] :: .box ga 3 [.int .i64 a] :: .box gb 39 [bv_203] :: Ob.v (tMk true) l (.pointer (some ⟨g0, 0, none⟩)) :: .box gm 89 [(.pointer (some ⟨g0, 0, none⟩))] :: .box gw 76 [.func (.func 99) #[] #[(.pointer (some ⟨gs, 0, none⟩)), (.pointer (some ⟨ga, 0, none⟩)), (.pointer (some ⟨gb, 0, none⟩)), (.pointer (some ⟨gm, 0, none⟩)), (.pointer (some ⟨gw, 0, none⟩))]] :: ob) := St.pull (pre := [Ob.v (tSl (tI .i64)) (foldR a best2 (pathsV (gS l) l.length size (q ++ [i]))) bv_203, .box gs 3 [.int .i64 size], .box ga 3 [.int .i64 a], .box gb 39 [bv_203], Ob.v (tMk true) l (.pointer (some ⟨g0, 0, none⟩)), .box gm 89 [(.pointer (some ⟨g0, 0, none⟩))], .box gw 76 [.func (.func 99) #[] #[(.pointer (some ⟨gs, 0, none⟩)), (.pointer (some ⟨ga, 0, none⟩)), (.pointer (some ⟨gb, 0, none⟩)), (.pointer (some ⟨gm, 0, none⟩)), (.pointer (some ⟨gw, 0, none⟩))]]]) (A := [Ob.v (tSl (tI .i64)) (q ++ [i]) v_197, Ob.v (tSl (tI .i64)) q (.slice ad_194 q.length q.length), .row (tI .i64) 3 v_171 [i], .box g_58 62 [v_50, v_51], Ob.v (tSl (tI .i64)) ((ix ([], []) l i).2) v_51, Ob.v (tSl (tI .i64)) ((ix ([], []) l i).1) v_50, Ob.v (tSl (tP (tSl (tI .i64)) (tSl (tI .i64)))) l v_40, Ob.v (tSl (tI .i64)) q lv]) (R := ob) hS
              refine Wx.nil ?_
              refine Wp.done (by kernel_rfl) ?_
              refine W.reg ?_
              refine Wx.rd (v := .int .i64 (i + 1)) (rd_add rfl rfl (in_i64 (by omega) (by omega))) rfl ?_
              refine Wx.rd (v := .int .i64 (i + 1)) (rd_move rfl) rfl ?_
              refine Wx.nil ?_
              refine ⟨(i + 1, bv_203, foldR a best2 (pathsV (gS l) l.length size (q ++ [i]))), (by show (l.length - (i + 1)).toNat < (l.length - i).toNat; omega), ?_, ?_, Out.look rfl (Out.hav rfl (Out.look rfl Out.self))⟩
              · exact ⟨St.tl (St.tl (St.tl (St.tl (St.tl (hS.tl))))), (by first | omega | assumption), (by first | omega | assumption), (by first | rw [← h2, pathsQ_next c3, if_pos (goes_of c4), foldR_app] | rw [← h2, pathsQ_next c3, if_neg (goes_not c4), List.nil_append]), (by assumption)⟩
              · exact ⟨rfl, trivial⟩
            · -- operation 5
              refine Wx.appendNew elKu_39 hS rfl (hS.v 0 rfl) rfl (Src.ofR hS 1 rfl) (by simp) (by simp only [maxLen]; simp; omega) (by simp; omega) rfl (fun v_206 w_207 hz_208 hS => ?_)
              refine Wx.nil ?_
              refine Wp.br [0] (by kernel_rfl) (by decide) ⟨⟨_, rfl, ?_⟩, trivial⟩
              refine Wx.rd (v := .func (.func 99) #[] #[(.pointer (some ⟨gs, 0, none⟩)), (.pointer (some ⟨ga, 0, none⟩)), (.pointer (some ⟨gb, 0, none⟩)), (.pointer (some ⟨gm, 0, none⟩)), (.pointer (some ⟨gw, 0, none⟩))]) (rd_loadX hS 14 rfl rfl rfl Try.isAgg76) rfl ?_
              refine Wx.nil ?_
              refine Wp.br [6] (by kernel_rfl) (by decide) ⟨⟨_, rfl, ?_⟩, trivial⟩
              have hS := hS.freeze 0 rfl
              have hL := V.pull (pre := [Ob.v (tSl (tI .i64)) (q ++ [i]) v_206, Ob.v (tSl (tI .i64)) q (.slice ad_194 q.length q.length), .row (tI .i64) 3 v_171 [i], .box g_58 62 [v_50, v_51], Ob.v (tSl (tI .i64)) ((ix ([], []) l i).2) v_51, Ob.v (tSl (tI .i64)) ((ix ([], []) l i).1) v_50, Ob.v (tSl (tP (tSl (tI .i64)) (tSl (tI .i64)))) l v_40, Ob.v (tSl (tI .i64)) q lv]) (A := [Ob.v (tSl (tI .i64)) best2 bv2, .box gs 3 [.int .i64 size], .box ga 3 [.int .i64 a], .box gb 39 [bv2], Ob.v (tMk true) l (.pointer (some ⟨g0, 0, none⟩)), .box gm 89 [(.pointer (some ⟨g0, 0, none⟩))], .box gw 76 [.func (.func 99) #[] #[(.pointer (some ⟨gs, 0, none⟩)), (.pointer (some ⟨ga, 0, none⟩)), (.pointer (some ⟨gb, 0, none⟩)), (.pointer (some ⟨gm, 0, none⟩)), (.pointer (some ⟨gw, 0, none⟩))]]]) (R := ob) (hS.v 0 rfl)
              have hP := St.pull (pre := [Ob.v (tSl (tI .i64)) (q ++ [i]) v_206, Ob.v (tSl (tI .i64)) q (.slice ad_194 q.length q.length), .row (tI .i64) 3 v_171 [i], .box g_58 62 [v_50, v_51], Ob.v (tSl (tI .i64)) ((ix ([], []) l i).2) v_51, Ob.v (tSl (tI .i64)) ((ix ([], []) l i).1) v_50, Ob.v (tSl (tP (tSl (tI .i64)) (tSl (tI .i64)))) l v_40, Ob.v (tSl (tI .i64)) q lv]) (A := [Ob.v (tSl (tI .i64)) best2 bv2, .box gs 3 [.int .i64 size], .box ga 3 [.int .i64 a], .box gb 39 [bv2], Ob.v (tMk true) l (.pointer (some ⟨g0, 0, none⟩)), .box gm 89 [(.pointer (some ⟨g0, 0, none⟩))], .box gw 76 [.func (.func 99) #[] #[(.pointer (some ⟨gs, 0, none⟩)), (.pointer (some ⟨ga, 0, none⟩)), (.pointer (some ⟨gb, 0, none⟩)), (.pointer (some ⟨gm, 0, none⟩)), (.pointer (some ⟨gw, 0, none⟩))]]]) (R := ob) hS
              refine Wx.callB (run_callC (fs := []) (cs := [(.pointer (some ⟨gs, 0, none⟩)), (.pointer (some ⟨ga, 0, none⟩)), (.pointer (some ⟨gb, 0, none⟩)), (.pointer (some ⟨gm, 0, none⟩)), (.pointer (some ⟨gw, 0, none⟩))]) (vs := [v_206, (.pointer (some ⟨gs, 0, none⟩)), (.pointer (some ⟨ga, 0, none⟩)), (.pointer (some ⟨gb, 0, none⟩)), (.pointer (some ⟨gm, 0, none⟩)), (.pointer (some ⟨gw, 0, none⟩))]) Try.call99 rfl rfl) (IH (q := (q ++ [i])) (lv := v_206) (best := best2) (bv := bv2) (ob := [Ob.v (tSl (tI .i64)) (q ++ [i]) v_206, Ob.v (tSl (tI .i64)) q (.slice ad_194 q.length q.length), .row (tI .i64) 3 v_171 [i], .box g_58 62 [v_50, v_51], Ob.v (tSl (tI .i64)) ((ix ([], []) l i).2) v_51, Ob.v (tSl (tI .i64)) ((ix ([], []) l i).1) v_50, Ob.v (tSl (tP (tSl (tI .i64)) (tSl (tI .i64)))) l v_40, Ob.v (tSl (tI .i64)) q lv] ++ ob) p_ok p_a p_n (by simp; omega) (by simp; omega) p_6 (snoc_in p_b h0 (by omega)) h3 hP hL (by simp; omega)) rfl ?_
              rintro r_210 w_211 ⟨rfl, bv_212, best_214, hS, rfl, hn_213⟩
              have hS : St w0 O w_211 (Ob.v (tSl (tI .i64)) (q ++ [i]) v_206 :: Ob.v (tSl (tI .i64)) q (.slice ad_194 q.length q.length) :: .row (tI .i64) 3 v_171 [i] :: .box g_58 62 [v_50, v_51] :: Ob.v (tSl (tI .i64)) ((ix ([], []) l i).2) v_51 :: Ob.v (tSl (tI .i64)) ((ix ([], []) l i).1) v_50 :: Ob.v (tSl (tP (tSl (tI .i64)) (tSl (tI .i64)))) l v_40 :: Ob.v (tSl (tI .i64)) q lv :: Ob.v (tSl (tI .i64)) (foldR a best2 (pathsV (gS l) l.length size (q ++ [i]))) bv_212 :: .box gs 3 [.int .i64 size] :: .box ga 3 [.int .i64 a] :: .box gb 39 [bv_212] :: Ob.v (tMk true) l (.pointer (some ⟨g0, 0, none⟩)) :: .box gm 89 [(.pointer (some ⟨g0, 0, none⟩))] :: .box gw 76 [.func (.func 99) #[] #[(.pointer (some ⟨gs, 0, none⟩)), (.pointer (some ⟨ga, 0, none⟩)), (.pointer (some ⟨gb, 0, none⟩)), (.pointer (some ⟨gm, 0, none⟩)), (.pointer (some ⟨gw, 0, none⟩))]] :: ob) := St.pull (pre := [Ob.v (tSl (tI .i64)) (foldR a best2 (pathsV (gS l) l.length size (q ++ [i]))) bv_212, .box gs 3 [.int .i64 size], .box ga 3 [.int .i64 a], .box gb 39 [bv_212], Ob.v (tMk true) l (.pointer (some ⟨g0, 0, none⟩)), .box gm 89 [(.pointer (some ⟨g0, 0, none⟩))], .box gw 76 [.func (.func 99) #[] #[(.pointer (some ⟨gs, 0, none⟩)), (.pointer (some ⟨ga, 0, none⟩)), (.pointer (some ⟨gb, 0, none⟩)), (.pointer (some ⟨gm, 0, none⟩)), (.pointer (some ⟨gw, 0, none⟩))]]]) (A := [Ob.v (tSl (tI .i64)) (q ++ [i]) v_206, Ob.v (tSl (tI .i64)) q (.slice ad_194 q.length q.length), .row (tI .i64) 3 v_171 [i], .box g_58 62 [v_50, v_51], Ob.v (tSl (tI .i64)) ((ix ([], []) l i).2) v_51, Ob.v (tSl (tI .i64)) ((ix ([], []) l i).1) v_50, Ob.v (tSl (tP (tSl (tI .i64)) (tSl (tI .i64)))) l v_40, Ob.v (tSl (tI .i64)) q lv]) (R := ob) hS
              refine Wx.nil ?_
              refine Wp.done (by kernel_rfl) ?_
              refine W.reg ?_
              refine Wx.rd (v := .int .i64 (i + 1)) (rd_add rfl rfl (in_i64 (by omega) (by omega))) rfl ?_
              refine Wx.rd (v := .int .i64 (i + 1)) (rd_move rfl) rfl ?_
              refine Wx.nil ?_
              refine ⟨(i + 1, bv_212, foldR a best2 (pathsV (gS l) l.length size (q ++ [i]))), (by show (l.length - (i + 1)).toNat < (l.length - i).toNat; omega), ?_, ?_, Out.look rfl (Out.hav rfl (Out.look rfl Out.self))⟩
              · exact ⟨St.tl (St.tl (St.tl (St.tl (St.tl (hS.tl))))), (by first | omega | assumption), (by first | omega | assumption), (by first | rw [← h2, pathsQ_next c3, if_pos (goes_of c4), foldR_app] | rw [← h2, pathsQ_next c3, if_neg (goes_not c4), List.nil_append]), (by assumption)⟩
              · exact ⟨rfl, trivial⟩
      · -- no
        try simp only [Bool.and_eq_true, Bool.or_eq_true, Bool.not_eq_true', Bool.and_eq_false_iff, Bool.or_eq_false_iff, Bool.not_eq_false', decide_eq_true_eq, decide_eq_false_iff_not, not_or, Bool.false_eq_true, Bool.true_eq_false, false_or, or_false, not_false_eq_true] at c4
        refine W.skip ?_
        refine W.reg ?_
        refine Wx.rd (v := .int .i64 (i + 1)) (rd_add rfl rfl (in_i64 (by omega) (by omega))) rfl ?_
        refine Wx.rd (v := .int .i64 (i + 1)) (rd_move rfl) rfl ?_
        refine Wx.nil ?_
        refine ⟨(i + 1, bv2, best2), (by show (l.length - (i + 1)).toNat < (l.length - i).toNat; omega), ?_, ?_, Out.look rfl (Out.hav rfl (Out.look rfl Out.self))⟩
        · exact ⟨St.tl (St.tl (hS.tl)), (by first | omega | assumption), (by first | omega | assumption), (by first | rw [← h2, pathsQ_next c3, if_pos (goes_of c4), foldR_app] | rw [← h2, pathsQ_next c3, if_neg (goes_not c4), List.nil_append]), (by assumption)⟩
        · exact ⟨rfl, trivial⟩
    · -- no
      refine W.exit rfl ?_
      exact ⟨.tuple #[], ResIs.zero, rfl, _, _, (St.tl (St.tl hS)), by rw [← h2, pathsQ_end (by omega), foldR_nil], h3⟩
end Go.Proofs.Ytjbcpggikaeleaa

namespace Go.Proofs.Ytjbcpggikaeleaa
open Go.Wk Go.RowKit Go.Lib
set_option linter.unusedVariables false
set_option linter.unusedSimpArgs false
theorem elKv_39 : ElemI Try.prog 39 3 (.int .i64 0) 1 8 := ElemI.of Try.underlying39 (by kernel_rfl) (by first | rfl | kernel_rfl) (by decide)

theorem F92 {mv : Value} {l : List Sale} {a : Int} {b : Int} {O : List (Option Nat)} {w : World} (h_mv : V (tMk true) l mv O w) (i_a : InK .i64 a) (i_b : InK .i64 b) (p_a : 0 ≤ a ∧ a < (l.length : Int)) (p_b : 0 ≤ b ∧ b < (l.length : Int)) (p_led : ledB (gS l) l.length b a = true) (hO : ∀ b, some b ∈ O → b < w.heap.size) : Calls Try.prog 92 #[mv, .int .i64 a, .int .i64 b] w (Ret w (fun r w' => ∃ rv, r = rv ∧ (V (tSl (tI .i64)) (roundV (gS l) l.length a b (sizeV (gS l) l.length b a)) rv O w' ∧ (roundV (gS l) l.length a b (sizeV (gS l) l.length b a) = [] → rv = .slice none 0 0)))) := by
  have b_b := bd_i64 i_b
  have b_a := bd_i64 i_a
  obtain ⟨g_mv, rfl⟩ := V.mkPtr h_mv
  have ok_mv := V.mkOK h_mv
  have hl6 := ok_mv.1
  obtain ⟨hz1, hz2, hz3⟩ := size_bd p_a p_b p_led
  have a_mv := h_mv
  have hS := St.start w O hO
  refine enterR Try.func92 rfl Try.ntmps92 Try.results92 rfl ?_
  refine W.seq ?_
  refine W.reg ?_
  have hS := hS.add (hS.arg a_mv)
  refine Wx.box (cs := [(.pointer (some ⟨g_mv, 0, none⟩))]) hS rfl rfl rfl (fun g_1 w_2 hx_4 hb_3 hS => ?_)
  refine Wx.box (cs := [.int .i64 a]) hS rfl rfl rfl (fun g_5 w_6 hx_8 hb_7 hS => ?_)
  refine Wx.rd (v := (.slice none 0 0)) (rd_assign rfl) rfl ?_
  refine Wx.nil ?_
  refine W.seq ?_
  refine W.reg ?_
  refine Wx.alloc (cs := [(.slice none 0 0)]) hS Try.zeroValue39 rfl rfl (fun g_9 w_10 hx_12 hb_11 hS => ?_)
  have hS := hS.add (V.nil (t := tI .i64))
  refine Wx.nil ?_
  refine W.seq ?_
  refine W.reg ?_
  refine Wx.rd (v := (.pointer (some ⟨g_mv, 0, none⟩))) (rd_loadX hS 3 rfl rfl rfl Try.isAgg89) rfl ?_
  refine Wx.rd (v := .int .i64 b) (rd_move rfl) rfl ?_
  refine Wx.rd (v := .int .i64 a) (rd_loadX hS 2 rfl rfl rfl Try.isAgg3) rfl ?_
  refine Wx.callF (run_callF Try.call74 rfl) (F74 (hS.v 4 rfl) i_b i_a p_b p_a hS.fb_lt) rfl ?_
  rintro r_13 w_14 hx_15 ⟨_, rfl, ⟨hv_16, hn_17⟩⟩
  have ln_19 := hv_16.len63
  have hS := hS.ext hx_15
  have hS := hS.add hv_16
  refine Wx.rd (v := .int .i64 (sizeV (gS l) l.length b a)) (Rd.to (v := .int .i64 ((shortL l b a).length : Int)) (rd_lenV rfl (hS.v 0 rfl) Try.underlying39) (congrArg (Value.int .i64) (show (sizeV (gS l) l.length b a : Int) = (((shortL l b a).length : Int) : Int) from hz3.symm).symm)) rfl ?_
  refine Wx.alloc (cs := [.int .i64 0]) hS Try.zeroValue3 rfl rfl (fun g_20 w_21 hx_23 hb_22 hS => ?_)
  refine Wx.storeX (cs' := [.int .i64 (sizeV (gS l) l.length b a)]) (ds := [.int .i64 (sizeV (gS l) l.length b a)]) hS 0 rfl rfl rfl rfl Try.sizeOf3 (Nat.le_of_ble_eq_true rfl) (one_cons rfl one_nil) rfl (fun w_24 hz_25 hS => ?_)
  refine Wx.nil ?_
  refine W.seq ?_
  refine W.reg ?_
  refine Wx.alloc (cs := [.nilFunc]) hS Try.zeroValue76 rfl rfl (fun g_26 w_27 hx_29 hb_28 hS => ?_)
  refine Wx.nil ?_
  refine W.seq ?_
  refine W.reg ?_
  refine Wx.rd (v := .func (.func 99) #[] #[.pointer (some ⟨g_20, 0, none⟩), .pointer (some ⟨g_5, 0, none⟩), .pointer (some ⟨g_9, 0, none⟩), .pointer (some ⟨g_1, 0, none⟩), .pointer (some ⟨g_26, 0, none⟩)]) (rd_makeFunc (vs := []) (us := [.pointer (some ⟨g_20, 0, none⟩), .pointer (some ⟨g_5, 0, none⟩), .pointer (some ⟨g_9, 0, none⟩), .pointer (some ⟨g_1, 0, none⟩), .pointer (some ⟨g_26, 0, none⟩)]) rfl rfl) rfl ?_
  refine Wx.storeX (cs' := [.func (.func 99) #[] #[.pointer (some ⟨g_20, 0, none⟩), .pointer (some ⟨g_5, 0, none⟩), .pointer (some ⟨g_9, 0, none⟩), .pointer (some ⟨g_1, 0, none⟩), .pointer (some ⟨g_26, 0, none⟩)]]) (ds := [.func (.func 99) #[] #[.pointer (some ⟨g_20, 0, none⟩), .pointer (some ⟨g_5, 0, none⟩), .pointer (some ⟨g_9, 0, none⟩), .pointer (some ⟨g_1, 0, none⟩), .pointer (some ⟨g_26, 0, none⟩)]]) hS 0 rfl rfl rfl rfl Try.sizeOf76 (Nat.le_of_ble_eq_true rfl) (one_cons rfl one_nil) rfl (fun w_30 hz_31 hS => ?_)
  refine Wx.nil ?_
  refine W.seq ?_
  refine W.reg ?_
  refine Wx.rd (v := .func (.func 99) #[] #[.pointer (some ⟨g_20, 0, none⟩), .pointer (some ⟨g_5, 0, none⟩), .pointer (some ⟨g_9, 0, none⟩), .pointer (some ⟨g_1, 0, none⟩), .pointer (some ⟨g_26, 0, none⟩)]) (rd_loadX hS 0 rfl rfl rfl Try.isAgg76) rfl ?_
  refine Wx.rd (v := .int .i64 b) (rd_move rfl) rfl ?_
  refine Wx.lit (t := (tI .i64)) (ys := [b]) (vs := [.int .i64 b]) elKv_39 hS rfl rfl ⟨(V.mkInt (in_i64 (by omega) (by omega))), trivial⟩ (by decide) rfl (fun v_32 w_33 hx_34 hS => ?_)
  have hS := hS.freeze 0 rfl
  have hS := hS.front 1 rfl
  have hS := hS.front 7 rfl
  have hS := hS.front 8 rfl
  have hS := hS.front 7 rfl
  have hS := hS.front 8 rfl
  have hS := hS.front 6 rfl
  have hS := hS.front 8 rfl
  have hS := hS.front 8 rfl
  have hS := hS.front 8 rfl
  have hS : St _ _ w_33 [Ob.v (tSl (tI .i64)) [b] v_32, Ob.v (tSl (tI .i64)) (shortL l b a) r_13, Ob.v (tSl (tI .i64)) [] (.slice none 0 0), .box g_20 3 [.int .i64 (sizeV (gS l) l.length b a)], .box g_5 3 [.int .i64 a], .box g_9 39 [(.slice none 0 0)], Ob.v (tMk true) l (.pointer (some ⟨g_mv, 0, none⟩)), .box g_1 89 [(.pointer (some ⟨g_mv, 0, none⟩))], .box g_26 76 [.func (.func 99) #[] #[.pointer (some ⟨g_20, 0, none⟩), .pointer (some ⟨g_5, 0, none⟩), .pointer (some ⟨g_9, 0, none⟩), .pointer (some ⟨g_1, 0, none⟩), .pointer (some ⟨g_26, 0, none⟩)]]] := hS
  have hL := V.pull (pre := [Ob.v (tSl (tI .i64)) [b] v_32, Ob.v (tSl (tI .i64)) (shortL l b a) r_13]) (A := [Ob.v (tSl (tI .i64)) [] (.slice none 0 0), .box g_20 3 [.int .i64 (sizeV (gS l) l.length b a)], .box g_5 3 [.int .i64 a], .box g_9 39 [(.slice none 0 0)], Ob.v (tMk true) l (.pointer (some ⟨g_mv, 0, none⟩)), .box g_1 89 [(.pointer (some ⟨g_mv, 0, none⟩))], .box g_26 76 [.func (.func 99) #[] #[.pointer (some ⟨g_20, 0, none⟩), .pointer (some ⟨g_5, 0, none⟩), .pointer (some ⟨g_9, 0, none⟩), .pointer (some ⟨g_1, 0, none⟩), .pointer (some ⟨g_26, 0, none⟩)]]]) (R := []) (hS.v 0 rfl)
  have hP := St.pull (pre := [Ob.v (tSl (tI .i64)) [b] v_32, Ob.v (tSl (tI .i64)) (shortL l b a) r_13]) (A := [Ob.v (tSl (tI .i64)) [] (.slice none 0 0), .box g_20 3 [.int .i64 (sizeV (gS l) l.length b a)], .box g_5 3 [.int .i64 a], .box g_9 39 [(.slice none 0 0)], Ob.v (tMk true) l (.pointer (some ⟨g_mv, 0, none⟩)), .box g_1 89 [(.pointer (some ⟨g_mv, 0, none⟩))], .box g_26 76 [.func (.func 99) #[] #[.pointer (some ⟨g_20, 0, none⟩), .pointer (some ⟨g_5, 0, none⟩), .pointer (some ⟨g_9, 0, none⟩), .pointer (some ⟨g_1, 0, none⟩), .pointer (some ⟨g_26, 0, none⟩)]]]) (R := []) hS
  refine Wx.callB (run_callC (fs := []) (cs := [(.pointer (some ⟨g_20, 0, none⟩)), (.pointer (some ⟨g_5, 0, none⟩)), (.pointer (some ⟨g_9, 0, none⟩)), (.pointer (some ⟨g_1, 0, none⟩)), (.pointer (some ⟨g_26, 0, none⟩))]) (vs := [v_32, (.pointer (some ⟨g_20, 0, none⟩)), (.pointer (some ⟨g_5, 0, none⟩)), (.pointer (some ⟨g_9, 0, none⟩)), (.pointer (some ⟨g_1, 0, none⟩)), (.pointer (some ⟨g_26, 0, none⟩))]) Try.call99 rfl rfl) (F99 _ (g0 := g_mv) (a := a) (size := sizeV (gS l) l.length b a) (q := [b]) (lv := v_32) (best := []) (bv := (.slice none 0 0)) (ob := [Ob.v (tSl (tI .i64)) [b] v_32, Ob.v (tSl (tI .i64)) (shortL l b a) r_13] ++ []) ok_mv (in_i64 (by omega) (by omega)) (in_i64 (by omega) (by omega)) (by simp) (by simp; omega) (by omega) (by simp; omega) (fun _ => rfl) hP hL (Nat.lt_succ_self _)) rfl ?_
  rintro r_36 w_37 ⟨rfl, bv_38, best_40, hS, rfl, hn_39⟩
  have hS : St _ O w_37 [Ob.v (tSl (tI .i64)) [b] v_32, Ob.v (tSl (tI .i64)) (shortL l b a) r_13, Ob.v (tSl (tI .i64)) (foldR a [] (pathsV (gS l) l.length (sizeV (gS l) l.length b a) [b])) bv_38, .box g_20 3 [.int .i64 (sizeV (gS l) l.length b a)], .box g_5 3 [.int .i64 a], .box g_9 39 [bv_38], Ob.v (tMk true) l (.pointer (some ⟨g_mv, 0, none⟩)), .box g_1 89 [(.pointer (some ⟨g_mv, 0, none⟩))], .box g_26 76 [.func (.func 99) #[] #[.pointer (some ⟨g_20, 0, none⟩), .pointer (some ⟨g_5, 0, none⟩), .pointer (some ⟨g_9, 0, none⟩), .pointer (some ⟨g_1, 0, none⟩), .pointer (some ⟨g_26, 0, none⟩)]]] := St.pull (pre := [Ob.v (tSl (tI .i64)) (foldR a [] (pathsV (gS l) l.length (sizeV (gS l) l.length b a) [b])) bv_38, .box g_20 3 [.int .i64 (sizeV (gS l) l.length b a)], .box g_5 3 [.int .i64 a], .box g_9 39 [bv_38], Ob.v (tMk true) l (.pointer (some ⟨g_mv, 0, none⟩)), .box g_1 89 [(.pointer (some ⟨g_mv, 0, none⟩))], .box g_26 76 [.func (.func 99) #[] #[.pointer (some ⟨g_20, 0, none⟩), .pointer (some ⟨g_5, 0, none⟩), .pointer (some ⟨g_9, 0, none⟩), .pointer (some ⟨g_1, 0, none⟩), .pointer (some ⟨g_26, 0, none⟩)]]]) (A := [Ob.v (tSl (tI .i64)) [b] v_32, Ob.v (tSl (tI .i64)) (shortL l b a) r_13]) (R := []) hS
  refine Wx.nil ?_
  refine W.seq ?_
  refine W.reg ?_
  refine Wx.rd (v := bv_38) (rd_loadX hS 5 rfl rfl rfl Try.isAgg39) rfl ?_
  refine Wx.rd (v := bv_38) (rd_assign rfl) rfl ?_
  refine Wx.nil ?_
  have e0_0 : roundV (gS l) l.length a b (sizeV (gS l) l.length b a) = foldR a [] (pathsV (gS l) l.length (sizeV (gS l) l.length b a) [b]) := by rfl
  exact W.ret ⟨bv_38, ResIs.one, hS.bel, ⟨bv_38, rfl, ⟨(by rw [e0_0]; exact (V.mv (hS.v 2 rfl) (.less (fun _ h => List.mem_append.2 (.inr h))))), (by rw [e0_0]; exact hn_39)⟩⟩⟩
end Go.Proofs.Ytjbcpggikaeleaa

namespace Go.Proofs.Ytjbcpggikaeleaa
open Go.Wk Go.RowKit Go.Lib
set_option linter.unusedVariables false
set_option linter.unusedSimpArgs false
theorem mixedKw_ : Try.prog.follows .mixedOrders = true := by kernel_rfl
theorem elKw_39 : ElemI Try.prog 39 3 (.int .i64 0) 1 8 := ElemI.of Try.underlying39 (by kernel_rfl) (by first | rfl | kernel_rfl) (by decide)

theorem F93 {v : Value} {ys : List Int}  {ob : List Ob} {w0 w : World} {O : List (Option Nat)}  (hS : St w0 O w (.row (tI .i64) 3 v ys :: ob)) : Calls Try.prog 93 #[v] w (Bk fun r w' => ∃ v', r = v' ∧ St w0 O w' (.row (tI .i64) 3 v' (compI ys) :: ob)) := by
  have hyl : (ys.length : Int) ≤ 9223372036854775807 := by have := hS.rowLen 0 rfl; simp only [maxLen] at this; omega
  refine enterB Try.func93 rfl Try.ntmps93 Try.results93 rfl ?_
  refine W.seq ?_
  refine W.reg ?_
  refine Wx.rd (v := (.slice none 0 0)) (rd_assign rfl) rfl ?_
  refine Wx.nil ?_
  refine W.seq ?_
  refine W.seq ?_
  refine W.reg ?_
  refine Wx.rd (v := v) (rd_move rfl) rfl ?_
  refine Wx.rd (v := .int .i64 (ys.length : Int)) (rd_lenR hS 0 rfl rfl Try.underlying39) rfl ?_
  refine Wx.rd (v := .bool (decide ((ys.length : Int) < 2))) (rd_lss rfl rfl) rfl ?_
  refine Wx.nil ?_
  refine W.condD rfl (fun c0 => ?_) (fun c0 => ?_)
  · -- yes
    refine W.seq ?_
    refine W.reg ?_
    refine Wx.rd (v := v) (rd_move rfl) rfl ?_
    refine Wx.rd (v := v) (rd_assign rfl) rfl ?_
    refine Wx.nil ?_
    exact W.ret ⟨v, ResIs.one, _, rfl, hS.spell (ys' := compI ys) 0 rfl (comp_short c0)⟩
  · -- no
    refine W.skip ?_
    refine W.seq ?_
    refine W.seq ?_
    refine W.reg ?_
    obtain ⟨g_1, c_2, rfl, hc_3⟩ := hS.rowForm 0 rfl (by omega)
    refine Wx.rd (v := .int .i64 1) (rd_assign rfl) rfl ?_
    refine Wx.nil ?_
    refine W.block ?_
    refine W.loop [2, 3, 4, 5, 10, 11, 12, 13, 14, 15, 16, 17, 18, 19, 20, 21, 22, 23, 24, 25, 26, 27, 28, 29, 30, 31, 32, 33, 34, 35, 36, 37, 38, 39, 40, 41, 42, 43, 44, 45, 46, 47, 48, 49, 50, 51, 52, 53, 54, 55, 56, 57, 58, 59] (fun (k : Int) => [(3, .int .i64 k)]) (fun (k : Int) w' => St w0 O w' (.row (tI .i64) 3 (.slice (some ⟨g_1, 0, none⟩) ys.length c_2) ys :: ob) ∧ 1 ≤ k ∧ k ≤ ys.length ∧ compI ys = ys.take k.toNat ++ compT (ix 0 ys (k - 1)) (ys.drop k.toNat)) (fun (k : Int) => (ys.length - k).toNat) 1 ⟨rfl, trivial⟩ ⟨hS, (by first | omega | simp), (by omega), (comp_start (by omega))⟩ ?_
    rintro k u_5 w_4 ⟨hS, h0, h1, h2⟩
    refine W.seq ?_
    refine W.seq ?_
    refine W.reg ?_
    refine Wx.rd (v := .int .i64 k) (rd_move rfl) rfl ?_
    refine Wx.rd (v := (.slice (some ⟨g_1, 0, none⟩) ys.length c_2)) (rd_move rfl) rfl ?_
    refine Wx.rd (v := .int .i64 (ys.length : Int)) (rd_lenR hS 0 rfl rfl Try.underlying39) rfl ?_
    refine Wx.rd (v := .bool (decide (k < (ys.length : Int)))) (rd_lss rfl rfl) rfl ?_
    refine Wx.nil ?_
    refine W.condD rfl (fun c1 => ?_) (fun c1 => ?_)
    · -- yes
      refine W.skip ?_
      refine W.seq ?_
      refine W.block ?_
      refine W.seq ?_
      refine W.regQ mixedKw_ (by kernel_rfl) ?_
      refine Wx.rd (v := (.slice (some ⟨g_1, 0, none⟩) ys.length c_2)) (rd_move rfl) rfl ?_
      refine Wx.rd (v := .int .i64 k) (rd_move rfl) rfl ?_
      refine Wx.rd (v := .pointer (some ⟨g_1, k.toNat * 1, none⟩)) (rd_indexO Try.underlying39 Try.sizeOf3 rfl rfl (by first | omega | (simp only [List.length_set, List.length_append, List.length_cons, List.length_nil, List.length_replicate]; omega)) (by first | omega | (simp only [List.length_set, List.length_append, List.length_cons, List.length_nil, List.length_replicate]; omega))) rfl ?_
      refine Wx.rd (v := .int .i64 (ix 0 ys k)) (rd_loadRI' hS 0 rfl rfl rfl (by first | omega | (simp only [List.length_set, List.length_append, List.length_cons, List.length_nil, List.length_replicate]; omega)) (by first | omega | (simp only [List.length_set, List.length_append, List.length_cons, List.length_nil, List.length_replicate]; omega)) Try.isAgg3 Try.sizeOf3) rfl ?_
      have bd_6 := bd_i64 (hS.rowInK' 0 rfl (by first | omega | (simp only [List.length_set, List.length_append, List.length_cons, List.length_nil, List.length_replicate]; omega)) (by first | omega | (simp only [List.length_set, List.length_append, List.length_cons, List.length_nil, List.length_replicate]; omega)) : InK .i64 (ix 0 ys k))
      refine Wx.rd (v := (.slice (some ⟨g_1, 0, none⟩) ys.length c_2)) (rd_move rfl) rfl ?_
      refine Wx.rd (v := .int .i64 k) (rd_move rfl) rfl ?_
      refine Wx.rd (v := .int .i64 (k - 1)) (rd_sub rfl rfl (in_i64 (by omega) (by omega))) rfl ?_
      refine Wx.rd (v := .pointer (some ⟨g_1, (k - 1).toNat * 1, none⟩)) (rd_indexO Try.underlying39 Try.sizeOf3 rfl rfl (by first | omega | (simp only [List.length_set, List.length_append, List.length_cons, List.length_nil, List.length_replicate]; omega)) (by first | omega | (simp only [List.length_set, List.length_append, List.length_cons, List.length_nil, List.length_replicate]; omega))) rfl ?_
      refine Wx.rd (v := .int .i64 (ix 0 ys (k - 1))) (rd_loadRI' hS 0 rfl rfl rfl (by first | omega | (simp only [List.length_set, List.length_append, List.length_cons, List.length_nil, List.length_replicate]; omega)) (by first | omega | (simp only [List.length_set, List.length_append, List.length_cons, List.length_nil, List.length_replicate]; omega)) Try.isAgg3 Try.sizeOf3) rfl ?_
      have bd_7 := bd_i64 (hS.rowInK' 0 rfl (by first | omega | (simp only [List.length_set, List.length_append, List.length_cons, List.length_nil, List.length_replicate]; omega)) (by first | omega | (simp only [List.length_set, List.length_append, List.length_cons, List.length_nil, List.length_replicate]; omega)) : InK .i64 (ix 0 ys (k - 1)))
      refine Wx.rd (v := .bool (decide ((ix 0 ys k) = (ix 0 ys (k - 1))))) (rd_eql rfl rfl) rfl ?_
      refine Wx.nilQ (fun w_8 hx_9 => ?_)
      have hS := hS.ext hx_9
      refine W.condD rfl (fun c2 => ?_) (fun c2 => ?_)
      · -- yes
        refine W.seq ?_
        refine W.reg ?_
        refine Wx.rd (v := (.slice (some ⟨g_1, 0, none⟩) ys.length c_2)) (rd_move rfl) rfl ?_
        refine Wx.rd (v := .int .i64 k) (rd_move rfl) rfl ?_
        refine Wx.rd (v := .slice (some ⟨g_1, k.toNat * 1, none⟩) (ys.length - k.toNat) (c_2 - k.toNat)) (rd_tailP Try.underlying39 Try.sizeOf3 rfl rfl (by omega) (by omega) (by omega)) rfl ?_
        refine Wx.rd (v := .slice (some ⟨g_1, k.toNat * 1, none⟩) (ys.length - k.toNat) (c_2 - k.toNat)) (rd_assign rfl) rfl ?_
        refine Wx.nil ?_
        refine W.seq ?_
        refine W.seq ?_
        refine W.reg ?_
        refine Wx.rd (v := .int .i64 1) (rd_assign rfl) rfl ?_
        refine Wx.nil ?_
        refine W.block ?_
        refine W.loop [3, 5, 29, 30, 31, 32, 33, 34, 35, 36, 37, 38, 39, 40, 41, 42, 43, 44, 45, 46, 47, 48, 49, 50, 51, 52, 53] (fun x : Int × Int × (List Int) => match x with | (p, j, z) => [(3, .int .i64 p), (5, .int .i64 j)]) (fun (x : Int × Int × (List Int)) w' => match x with | (p, j, z) => St w0 O w' (.row (tI .i64) 3 (.slice (some ⟨g_1, 0, none⟩) ys.length c_2) z :: ob) ∧ 1 ≤ j ∧ k + j ≤ ys.length ∧ CmpI ys z k p j ∧ 1 ≤ p ∧ z.length = ys.length ∧ p ≤ k + j - 1) (fun x : Int × Int × (List Int) => match x with | (p, j, z) => ((ys.length : Int) - k - j).toNat) (k, 1, ys) ⟨rfl, rfl, trivial⟩ ⟨hS, (by first | omega | simp), (by first | omega | simp), (cmp_start h0 c1 c2 h2), (by first | omega | simp), (rfl), (by first | omega | simp)⟩ ?_
        rintro ⟨p, j, z⟩ u_11 w_10 ⟨hS, g0, g1, g2, g3, g4, g5⟩
        refine W.seq ?_
        refine W.seq ?_
        refine W.reg ?_
        refine Wx.rd (v := .int .i64 j) (rd_move rfl) rfl ?_
        refine Wx.rd (v := .slice (some ⟨g_1, k.toNat * 1, none⟩) (ys.length - k.toNat) (c_2 - k.toNat)) (rd_move rfl) rfl ?_
        refine Wx.rd (v := .int .i64 ((ys.length - k.toNat : Nat) : Int)) (rd_len rfl Try.underlying39) rfl ?_
        refine Wx.rd (v := .bool (decide (j < ((ys.length - k.toNat : Nat) : Int)))) (rd_lss rfl rfl) rfl ?_
        refine Wx.nil ?_
        refine W.condD rfl (fun c3 => ?_) (fun c3 => ?_)
        · -- yes
          refine W.skip ?_
          refine W.seq ?_
          refine W.block ?_
          refine W.seq ?_
          refine W.regQ mixedKw_ (by kernel_rfl) ?_
          refine Wx.rd (v := .slice (some ⟨g_1, k.toNat * 1, none⟩) (ys.length - k.toNat) (c_2 - k.toNat)) (rd_move rfl) rfl ?_
          refine Wx.rd (v := .int .i64 j) (rd_move rfl) rfl ?_
          refine Wx.rd (v := .pointer (some ⟨g_1, (k + j).toNat * 1, none⟩)) (rd_indexT (lo := k) (m := j) Try.underlying39 Try.sizeOf3 rfl rfl (by omega) (by omega) (by omega)) rfl ?_
          refine Wx.rd (v := .int .i64 (ix 0 z (k + j))) (rd_loadRI' hS 0 rfl rfl rfl (by first | omega | (simp only [List.length_set, List.length_append, List.length_cons, List.length_nil, List.length_replicate]; omega)) (by first | omega | (simp only [List.length_set, List.length_append, List.length_cons, List.length_nil, List.length_replicate]; omega)) Try.isAgg3 Try.sizeOf3) rfl ?_
          have bd_12 := bd_i64 (hS.rowInK' 0 rfl (by first | omega | (simp only [List.length_set, List.length_append, List.length_cons, List.length_nil, List.length_replicate]; omega)) (by first | omega | (simp only [List.length_set, List.length_append, List.length_cons, List.length_nil, List.length_replicate]; omega)) : InK .i64 (ix 0 z (k + j)))
          refine Wx.rd (v := .slice (some ⟨g_1, k.toNat * 1, none⟩) (ys.length - k.toNat) (c_2 - k.toNat)) (rd_move rfl) rfl ?_
          refine Wx.rd (v := .int .i64 j) (rd_move rfl) rfl ?_
          refine Wx.rd (v := .int .i64 (j - 1)) (rd_sub rfl rfl (in_i64 (by omega) (by omega))) rfl ?_
          refine Wx.rd (v := .pointer (some ⟨g_1, (k + (j - 1)).toNat * 1, none⟩)) (rd_indexT (lo := k) (m := j - 1) Try.underlying39 Try.sizeOf3 rfl rfl (by omega) (by omega) (by omega)) rfl ?_
          refine Wx.rd (v := .int .i64 (ix 0 z (k + (j - 1)))) (rd_loadRI' hS 0 rfl rfl rfl (by first | omega | (simp only [List.length_set, List.length_append, List.length_cons, List.length_nil, List.length_replicate]; omega)) (by first | omega | (simp only [List.length_set, List.length_append, List.length_cons, List.length_nil, List.length_replicate]; omega)) Try.isAgg3 Try.sizeOf3) rfl ?_
          have bd_13 := bd_i64 (hS.rowInK' 0 rfl (by first | omega | (simp only [List.length_set, List.length_append, List.length_cons, List.length_nil, List.length_replicate]; omega)) (by first | omega | (simp only [List.length_set, List.length_append, List.length_cons, List.length_nil, List.length_replicate]; omega)) : InK .i64 (ix 0 z (k + (j - 1))))
          refine Wx.rd (v := .bool (decide ((ix 0 z (k + j)) ≠ (ix 0 z (k + (j - 1)))))) (rd_neq rfl rfl) rfl ?_
          refine Wx.nilQ (fun w_14 hx_15 => ?_)
          have hS := hS.ext hx_15
          refine W.condD rfl (fun c4 => ?_) (fun c4 => ?_)
          · -- yes
            refine W.seq ?_
            refine W.reg ?_
            refine Wx.rd (v := (.slice (some ⟨g_1, 0, none⟩) ys.length c_2)) (rd_move rfl) rfl ?_
            refine Wx.rd (v := .int .i64 p) (rd_move rfl) rfl ?_
            refine Wx.rd (v := .slice (some ⟨g_1, k.toNat * 1, none⟩) (ys.length - k.toNat) (c_2 - k.toNat)) (rd_move rfl) rfl ?_
            refine Wx.rd (v := .int .i64 j) (rd_move rfl) rfl ?_
            refine Wx.rd (v := .pointer (some ⟨g_1, (k + j).toNat * 1, none⟩)) (rd_indexT (lo := k) (m := j) Try.underlying39 Try.sizeOf3 rfl rfl (by omega) (by omega) (by omega)) rfl ?_
            refine Wx.rd (v := .int .i64 (ix 0 z (k + j))) (rd_loadRI' hS 0 rfl rfl rfl (by first | omega | (simp only [List.length_set, List.length_append, List.length_cons, List.length_nil, List.length_replicate]; omega)) (by first | omega | (simp only [List.length_set, List.length_append, List.length_cons, List.length_nil, List.length_replicate]; omega)) Try.isAgg3 Try.sizeOf3) rfl ?_
            have bd_16 := bd_i64 (hS.rowInK' 0 rfl (by first | omega | (simp only [List.length_set, List.length_append, List.length_cons, List.length_nil, List.length_replicate]; omega)) (by first | omega | (simp only [List.length_set, List.length_append, List.length_cons, List.length_nil, List.length_replicate]; omega)) : InK .i64 (ix 0 z (k + j)))
            refine Wx.rd (v := .pointer (some ⟨g_1, p.toNat * 1, none⟩)) (rd_indexO Try.underlying39 Try.sizeOf3 rfl rfl (by first | omega | (simp only [List.length_set, List.length_append, List.length_cons, List.length_nil, List.length_replicate]; omega)) (by first | omega | (simp only [List.length_set, List.length_append, List.length_cons, List.length_nil, List.length_replicate]; omega))) rfl ?_
            refine Wx.storeR (j := p.toNat) (z := ix 0 z (k + j)) hS 0 rfl rfl rfl (by first | omega | (simp only [List.length_set, List.length_append, List.length_cons, List.length_nil, List.length_replicate]; omega)) rfl (V.mkInt (in_i64 (by omega) (by omega))) Try.sizeOf3 (fun w_17 hz_18 hS => ?_)
            refine Wx.nil ?_
            refine W.reg ?_
            refine Wx.rd (v := .int .i64 p) (rd_move rfl) rfl ?_
            refine Wx.rd (v := .int .i64 (p + 1)) (rd_add rfl rfl (in_i64 (by omega) (by omega))) rfl ?_
            refine Wx.rd (v := .int .i64 (p + 1)) (rd_assign rfl) rfl ?_
            refine Wx.nil ?_
            refine W.reg ?_
            refine Wx.rd (v := .int .i64 j) (rd_move rfl) rfl ?_
            refine Wx.rd (v := .int .i64 (j + 1)) (rd_add rfl rfl (in_i64 (by omega) (by omega))) rfl ?_
            refine Wx.rd (v := .int .i64 (j + 1)) (rd_assign rfl) rfl ?_
            refine Wx.nil ?_
            refine ⟨(p + 1, j + 1, List.set z p.toNat (ix 0 z (k + j))), (by show ((ys.length : Int) - k - (j + 1)).toNat < ((ys.length : Int) - k - j).toNat; omega), ?_, ?_, Out.look rfl Out.self⟩
            · exact ⟨hS, (by first | omega | assumption), (by first | omega | assumption), (cmp_other h0 g0 g3 g2 (by omega) c4), (by first | omega | assumption), (by rw [List.length_set]; exact g4), (by first | omega | assumption)⟩
            · exact ⟨rfl, rfl, trivial⟩
          · -- no
            refine W.skip ?_
            refine W.reg ?_
            refine Wx.rd (v := .int .i64 j) (rd_move rfl) rfl ?_
            refine Wx.rd (v := .int .i64 (j + 1)) (rd_add rfl rfl (in_i64 (by omega) (by omega))) rfl ?_
            refine Wx.rd (v := .int .i64 (j + 1)) (rd_assign rfl) rfl ?_
            refine Wx.nil ?_
            refine ⟨(p, j + 1, z), (by show ((ys.length : Int) - k - (j + 1)).toNat < ((ys.length : Int) - k - j).toNat; omega), ?_, ?_, Out.look rfl Out.self⟩
            · exact ⟨hS, (by first | omega | assumption), (by first | omega | assumption), (cmp_same h0 g0 g3 g2 (by omega) (Decidable.not_not.1 c4)), (by first | omega | assumption), (by first | omega | assumption), (by first | omega | assumption)⟩
            · exact ⟨rfl, rfl, trivial⟩
        · -- no
          refine W.exit rfl ?_
          refine W.seq ?_
          refine W.reg ?_
          refine Wx.rd (v := (.slice (some ⟨g_1, 0, none⟩) ys.length c_2)) (rd_move rfl) rfl ?_
          refine Wx.rd (v := .int .i64 p) (rd_move rfl) rfl ?_
          have hzl := g2.2.2.2
          have hpj := g2.2.2.1
          refine Wx.rd (v := .slice (some ⟨g_1, p.toNat * 1, none⟩) (ys.length - p.toNat) (c_2 - p.toNat)) (rd_tailP Try.underlying39 Try.sizeOf3 rfl rfl (by omega) (by omega) (by omega)) rfl ?_
          have hS : St _ _ _ (.row (tI .i64) 3 (.slice (some ⟨g_1, 0, none⟩) p.toNat c_2) (List.take p.toNat z) :: ob) := hS.shrink (m := p.toNat) 0 rfl (by omega)
          refine Wx.clearR (o := p.toNat) elKw_39 hS 0 rfl rfl (by omega) (by omega) (by omega) (by simp [Value.cells, Value.oneCell']) (fun w_19 hz_20 hS => ?_)
          refine Wx.nil ?_
          refine W.seq ?_
          refine W.reg ?_
          refine Wx.rd (v := (.slice (some ⟨g_1, 0, none⟩) ys.length c_2)) (rd_move rfl) rfl ?_
          refine Wx.rd (v := .int .i64 p) (rd_move rfl) rfl ?_
          refine Wx.rd (v := (.slice (some ⟨g_1, 0, none⟩) p.toNat c_2)) (rd_headO Try.underlying39 Try.sizeOf3 rfl rfl (by omega) (by omega)) rfl ?_
          refine Wx.rd (v := (.slice (some ⟨g_1, 0, none⟩) p.toNat c_2)) (rd_assign rfl) rfl ?_
          refine Wx.nil ?_
          exact W.ret ⟨(.slice (some ⟨g_1, 0, none⟩) p.toNat c_2), ResIs.one, _, rfl, hS.spell (ys' := compI ys) 0 rfl (cmp_end g2 (by omega))⟩
      · -- no
        refine W.skip ?_
        refine W.reg ?_
        refine Wx.rd (v := .int .i64 k) (rd_move rfl) rfl ?_
        refine Wx.rd (v := .int .i64 (k + 1)) (rd_add rfl rfl (in_i64 (by omega) (by omega))) rfl ?_
        refine Wx.rd (v := .int .i64 (k + 1)) (rd_assign rfl) rfl ?_
        refine Wx.nil ?_
        refine ⟨k + 1, (by show (ys.length - (k + 1)).toNat < (ys.length - k).toNat; omega), ?_, ?_, Out.look rfl Out.self⟩
        · exact ⟨hS, (by first | omega | assumption), (by first | omega | assumption), (comp_step h0 c1 c2 h2)⟩
        · exact ⟨rfl, trivial⟩
    · -- no
      refine W.exit rfl ?_
      refine W.seq ?_
      refine W.reg ?_
      refine Wx.rd (v := (.slice (some ⟨g_1, 0, none⟩) ys.length c_2)) (rd_move rfl) rfl ?_
      refine Wx.rd (v := (.slice (some ⟨g_1, 0, none⟩) ys.length c_2)) (rd_assign rfl) rfl ?_
      refine Wx.nil ?_
      exact W.ret ⟨(.slice (some ⟨g_1, 0, none⟩) ys.length c_2), ResIs.one, _, rfl, hS.spell (ys' := compI ys) 0 rfl (comp_end (by omega) h2)⟩
end Go.Proofs.Ytjbcpggikaeleaa

namespace Go.Proofs.Ytjbcpggikaeleaa
open Go.Wk Go.RowKit Go.Lib
set_option linter.unusedVariables false
set_option linter.unusedSimpArgs false
theorem foKy_93_0 : fldOff Try.prog 93 0 = some 0 := by kernel_rfl
theorem foKy_93_1 : fldOff Try.prog 93 1 = some 1 := by kernel_rfl
theorem elKy_39 : ElemI Try.prog 39 3 (.int .i64 0) 1 8 := ElemI.of Try.underlying39 (by kernel_rfl) (by first | rfl | kernel_rfl) (by decide)

set_option maxHeartbeats 4000000 in
theorem F76 {mv : Value} {l : List Sale} {O : List (Option Nat)} {w : World} (h_mv : V (tMk true) l mv O w) (hO : ∀ b, some b ∈ O → b < w.heap.size) : Calls Try.prog 76 #[mv] w (Ret w (fun r w' => ∃ rv, r = rv ∧ V tRep l rv O w')) := by
  obtain ⟨g_mv, rfl⟩ := V.mkPtr h_mv
  have ok_mv := V.mkOK h_mv
  obtain ⟨gd, hgd, hok⟩ := ok_mv.at
  have hl6 := ok_mv.1
  have a_mv := h_mv
  have hS := St.start w O hO
  refine enterR Try.func76 rfl Try.ntmps76 Try.results76 rfl ?_
  refine W.seq ?_
  refine W.reg ?_
  refine Wx.rd (v := (Go.Value.nilIface)) (rd_assign rfl) rfl ?_
  refine Wx.nil ?_
  refine W.seq ?_
  refine W.reg ?_
  refine Wx.rd (v := (.slice none 0 0)) (rd_assign rfl) rfl ?_
  refine Wx.nil ?_
  refine W.seq ?_
  refine W.seq ?_
  refine W.reg ?_
  refine Wx.rd (v := (.pointer (some ⟨g_mv, 0, none⟩))) (rd_move rfl) rfl ?_
  refine Wx.rd (v := (.pointer (some ⟨g_mv, 0, none⟩))) (rd_nilCheck rfl rfl) rfl ?_
  refine Wx.rd (v := .pointer (some ⟨g_mv, 0, none⟩)) (rd_fieldAddr rfl foKy_93_0) rfl ?_
  refine Wx.ex (rd_mkS (hS.arg a_mv) rfl Try.isAgg22) rfl (fun v_1 hv_2 => ?_)
  have ln_3 := hv_2.len63
  have hS := hS.add hv_2
  refine Wx.rd (v := .int .i64 (l.length : Int)) (rd_lenV rfl (hS.v 0 rfl) Try.underlying22) rfl ?_
  refine Wx.rd (v := .int .i64 0) (rd_move rfl) rfl ?_
  refine Wx.nil ?_
  refine W.block ?_
  have hS := hS.add ((V.nil (t := (tI .i64))))
  refine W.loop [3, 4, 5, 6, 7, 8, 20, 21, 22, 23, 24, 25, 26, 27, 28, 29, 30, 31, 32, 33, 34, 35, 36, 37, 38, 39, 40, 41, 42, 43, 44, 45, 46, 47, 48, 49, 50, 51, 52, 53, 54, 55, 56, 57, 58, 59, 60, 61, 62, 63, 64, 65, 66, 67, 68, 69, 70, 71, 72, 73, 74, 75, 76, 77, 78] (fun x : Value × (List Int) × Int => match x with | (bv, best, a) => [(3, bv), (20, .int .i64 a)]) (fun (x : Value × (List Int) × Int) w' => match x with | (bv, best, a) => St w O w' [Ob.v (tSl (tI .i64)) best bv, Ob.v (tSl (tP (tSl (tI .i64)) (tSl (tI .i64)))) l v_1] ∧ 0 ≤ a ∧ a ≤ l.length ∧ (fndA (gS l) (bS l) l.length (rng a l.length)).foldl (keepM ltRB) best = jdgV l ∧ (best = [] → bv = .slice none 0 0)) (fun x : Value × (List Int) × Int => match x with | (bv, best, a) => (l.length - a).toNat) ((.slice none 0 0), [], 0) ⟨rfl, rfl, trivial⟩ ⟨hS, (by first | omega | simp), (by first | omega | simp), (rfl), (fun _ => rfl)⟩ ?_
  rintro ⟨bv, best, a⟩ u_8 w_7 ⟨hS, h0, h1, h2, h3⟩
  refine W.seq ?_
  refine W.reg ?_
  refine Wx.rd (v := .bool (decide (a < (l.length : Int)))) (rd_lss rfl rfl) rfl ?_
  refine Wx.nil ?_
  refine W.seq ?_
  refine W.condD rfl (fun c0 => ?_) (fun c0 => ?_)
  · -- yes
    refine W.skip ?_
    refine W.seq ?_
    refine W.block ?_
    refine W.seq ?_
    refine W.reg ?_
    refine Wx.rd (v := .int .i64 a) (rd_move rfl) rfl ?_
    refine Wx.ex (rd_index ([], []) (hS.v 1 rfl) rfl rfl Try.underlying22 Try.sizeOf62 (by first | omega | (simp only [List.length_set, List.length_append, List.length_cons, List.length_nil, List.length_replicate]; omega)) (by first | omega | (simp only [List.length_set, List.length_append, List.length_cons, List.length_nil, List.length_replicate]; omega))) rfl (fun p_9 hp_10 => ?_)
    refine Wx.ex (rd_load hp_10 rfl Try.isAgg62 Try.sizeOf62) rfl (fun v_11 hv_12 => ?_)
    obtain ⟨v_13, v_14, rfl, hv_15, hv_16⟩ := hv_12.s2
    have hS := hS.add (hv_15)
    have ln_18 := (hS.v 0 rfl).len63
    have hS := hS.add (V.upF (hv_16))
    have ln_20 := (hS.v 0 rfl).len63
    refine Wx.alloc (cs := [(.slice none 0 0), (.slice none 0 0)]) hS Try.zeroValue62 rfl rfl (fun g_21 w_22 hx_24 hb_23 hS => ?_)
    refine Wx.rd (v := .int .i64 a) (rd_assign rfl) rfl ?_
    refine Wx.storeX (cs' := [v_13, v_14]) (ds := [v_13, v_14]) hS 0 rfl rfl rfl rfl Try.sizeOf62 (Nat.le_of_ble_eq_true rfl) (one_cons (V.oneC (hS.v 2 rfl)) (one_cons (V.oneC (hS.v 1 rfl)) one_nil)) rfl (fun w_25 hz_26 hS => ?_)
    refine Wx.nil ?_
    refine W.seq ?_
    refine W.reg ?_
    refine Wx.rd (v := (.pointer (some ⟨g_mv, 0, none⟩))) (rd_move rfl) rfl ?_
    refine Wx.rd (v := (.pointer (some ⟨g_mv, 0, none⟩))) (rd_nilCheck rfl rfl) rfl ?_
    refine Wx.rd (v := .pointer (some ⟨g_mv, 0, none⟩)) (rd_fieldAddr rfl foKy_93_0) rfl ?_
    refine Wx.ex (rd_mkS (hS.arg a_mv) rfl Try.isAgg22) rfl (fun v_27 hv_28 => ?_)
    have ln_29 := hv_28.len63
    have hS := hS.add hv_28
    refine Wx.rd (v := .int .i64 (l.length : Int)) (rd_lenV rfl (hS.v 0 rfl) Try.underlying22) rfl ?_
    refine Wx.rd (v := .int .i64 0) (rd_move rfl) rfl ?_
    refine Wx.nil ?_
    refine W.block ?_
    have hv_32 : V (tSl (tI .i64)) best bv _ _ := (hS.v 4 rfl)
    have hS := hS.add (hv_32)
    refine W.loop [3, 6, 7, 8, 30, 31, 32, 33, 34, 35, 36, 37, 38, 39, 40, 41, 42, 43, 44, 45, 46, 47, 48, 49, 50, 51, 52, 53, 54, 55, 56, 57, 58, 59, 60, 61, 62, 63, 64, 65, 66, 67, 68, 69, 70, 71, 72, 73, 74, 75, 76, 77] (fun x : Value × (List Int) × Int => match x with | (bv2, best2, b) => [(3, bv2), (30, .int .i64 b)]) (fun (x : Value × (List Int) × Int) w' => match x with | (bv2, best2, b) => St w O w' [Ob.v (tSl (tI .i64)) best2 bv2, Ob.v (tSl (tP (tSl (tI .i64)) (tSl (tI .i64)))) l v_27, .box g_21 62 [v_13, v_14], Ob.v (tSl (tI .i64)) ((ix ([], []) l a).2) v_14, Ob.v (tSl (tI .i64)) ((ix ([], []) l a).1) v_13, Ob.v (tSl (tI .i64)) best bv, Ob.v (tSl (tP (tSl (tI .i64)) (tSl (tI .i64)))) l v_1] ∧ 0 ≤ b ∧ b ≤ l.length ∧ (fndB (gS l) (bS l) l.length a (rng b l.length) ++ fndA (gS l) (bS l) l.length (rng (a + 1) l.length)).foldl (keepM ltRB) best2 = jdgV l ∧ (best2 = [] → bv2 = .slice none 0 0)) (fun x : Value × (List Int) × Int => match x with | (bv2, best2, b) => (l.length - b).toNat) (bv, best, 0) ⟨rfl, rfl, trivial⟩ ⟨hS, (by first | omega | simp), (by first | omega | simp), (by rw [← h2, fndA_next (a := a) (by omega)]), (h3)⟩ ?_
    rintro ⟨bv2, best2, b⟩ u_34 w_33 ⟨hS, g0, g1, g2, g3⟩
    refine W.seq ?_
    refine W.reg ?_
    refine Wx.rd (v := .bool (decide (b < (l.length : Int)))) (rd_lss rfl rfl) rfl ?_
    refine Wx.nil ?_
    refine W.seq ?_
    refine W.condD rfl (fun c1 => ?_) (fun c1 => ?_)
    · -- yes
      refine W.skip ?_
      refine W.seq ?_
      refine W.block ?_
      refine W.seq ?_
      refine W.reg ?_
      refine Wx.rd (v := .int .i64 b) (rd_move rfl) rfl ?_
      refine Wx.ex (rd_index ([], []) (hS.v 1 rfl) rfl rfl Try.underlying22 Try.sizeOf62 (by first | omega | (simp only [List.length_set, List.length_append, List.length_cons, List.length_nil, List.length_replicate]; omega)) (by first | omega | (simp only [List.length_set, List.length_append, List.length_cons, List.length_nil, List.length_replicate]; omega))) rfl (fun p_35 hp_36 => ?_)
      refine Wx.ex (rd_load hp_36 rfl Try.isAgg62 Try.sizeOf62) rfl (fun v_37 hv_38 => ?_)
      obtain ⟨v_39, v_40, rfl, hv_41, hv_42⟩ := hv_38.s2
      have hS := hS.add (hv_41)
      have ln_44 := (hS.v 0 rfl).len63
      have hS := hS.add (V.upF (hv_42))
      have ln_46 := (hS.v 0 rfl).len63
      refine Wx.alloc (cs := [(.slice none 0 0), (.slice none 0 0)]) hS Try.zeroValue62 rfl rfl (fun g_47 w_48 hx_50 hb_49 hS => ?_)
      refine Wx.rd (v := .int .i64 b) (rd_assign rfl) rfl ?_
      refine Wx.storeX (cs' := [v_39, v_40]) (ds := [v_39, v_40]) hS 0 rfl rfl rfl rfl Try.sizeOf62 (Nat.le_of_ble_eq_true rfl) (one_cons (V.oneC (hS.v 2 rfl)) (one_cons (V.oneC (hS.v 1 rfl)) one_nil)) rfl (fun w_51 hz_52 hS => ?_)
      refine Wx.nil ?_
      refine W.seq ?_
      refine W.seq ?_
      refine W.reg ?_
      refine Wx.rd (v := .agg #[v_13, v_14]) (rd_loadXs (ds := [v_13, v_14]) hS 5 rfl rfl rfl rfl Try.isAgg62 Try.sizeOf62) rfl ?_
      refine Wx.rd (v := .agg #[v_39, v_40]) (rd_loadXs (ds := [v_39, v_40]) hS 0 rfl rfl rfl rfl Try.isAgg62 Try.sizeOf62) rfl ?_
      refine Wx.callF (run_callF Try.call69 rfl) (F69 (hS.v 7 rfl) (hS.v 6 rfl) (hS.v 2 rfl) (hS.v 1 rfl) (hok a (by omega) (by omega)).b1 (hok a (by omega) (by omega)).b2 (hok b (by omega) (by omega)).b2 (by have := (hok a (by omega) (by omega)).l1; omega) (by have h1 := (hok a (by omega) (by omega)).l1; have h2 := (hok a (by omega) (by omega)).l2; omega) (by have h1 := (hok a (by omega) (by omega)).l1; have h2 := (hok b (by omega) (by omega)).l2; omega)) rfl ?_
      rintro r_53 w_54 hx_55 rfl
      have hS := hS.ext hx_55
      refine Wx.rd (v := .bool (!(betterS (((ix ([], []) l a).1), ((ix ([], []) l a).2)) (((ix ([], []) l b).1), ((ix ([], []) l b).2))))) (rd_not rfl) rfl ?_
      refine Wx.rd (v := .bool (!(betterS (((ix ([], []) l a).1), ((ix ([], []) l a).2)) (((ix ([], []) l b).1), ((ix ([], []) l b).2))))) (rd_move rfl) rfl ?_
      refine Wx.cut (X := Unit) 10 [40, 41, 42, 43, 44, 45, 46, 47, 48, 49] (fun _ => [(49, .bool (!(betterS (((ix ([], []) l a).1), ((ix ([], []) l a).2)) (((ix ([], []) l b).1), ((ix ([], []) l b).2))) || !(ledB (gS l) l.length b a)))]) (fun _ w' => St w O w' [.box g_47 62 [v_39, v_40], Ob.v (tSl (tI .i64)) ((ix ([], []) l b).2) v_40, Ob.v (tSl (tI .i64)) ((ix ([], []) l b).1) v_39, Ob.v (tSl (tI .i64)) best2 bv2, Ob.v (tSl (tP (tSl (tI .i64)) (tSl (tI .i64)))) l v_27, .box g_21 62 [v_13, v_14], Ob.v (tSl (tI .i64)) ((ix ([], []) l a).2) v_14, Ob.v (tSl (tI .i64)) ((ix ([], []) l a).1) v_13, Ob.v (tSl (tI .i64)) best bv, Ob.v (tSl (tP (tSl (tI .i64)) (tSl (tI .i64)))) l v_1]) ?_ ?_
      · rcases Bool.eq_false_or_eq_true (!(betterS (((ix ([], []) l a).1), ((ix ([], []) l a).2)) (((ix ([], []) l b).1), ((ix ([], []) l b).2)))) with g_56 | g_56
        · -- True
          have gp_57 := g_56
          try simp only [Bool.and_eq_true, Bool.or_eq_true, Bool.not_eq_true', Bool.and_eq_false_iff, Bool.or_eq_false_iff, Bool.not_eq_false', decide_eq_true_eq, decide_eq_false_iff_not, not_or, Bool.false_eq_true, Bool.true_eq_false, false_or, or_false, not_false_eq_true] at gp_57
          refine Wx.gnoB rfl rfl (congrArg Value.bool g_56) rfl rfl ?_
          refine Wx.gnoB rfl rfl (congrArg Value.bool g_56) rfl rfl ?_
          refine Wx.gnoB rfl rfl (congrArg Value.bool g_56) rfl rfl ?_
          refine Wx.gnoB rfl rfl (congrArg Value.bool g_56) rfl rfl ?_
          refine Wx.gnoB rfl rfl (congrArg Value.bool g_56) rfl rfl ?_
          refine Wx.gnoB rfl rfl (congrArg Value.bool g_56) rfl rfl ?_
          refine Wx.gnoB rfl rfl (congrArg Value.bool g_56) rfl rfl ?_
          refine Wx.gnoB rfl rfl (congrArg Value.bool g_56) rfl rfl ?_
          refine Wx.gnoB rfl rfl (congrArg Value.bool g_56) rfl rfl ?_
          refine Wx.rd (v := .bool true) (rd_pickT (congrArg Value.bool g_56) rfl) rfl ?_
          refine Wx.nil ⟨(), hS, ⟨?_, trivial⟩, Out.look rfl Out.refl⟩
          show Value.bool true = Value.bool (!(betterS (((ix ([], []) l a).1), ((ix ([], []) l a).2)) (((ix ([], []) l b).1), ((ix ([], []) l b).2))) || !(ledB (gS l) l.length b a))
          first | rw [g_56, Bool.true_or] | (rw [g_56]; rfl)
        · -- False
          have gp_58 := g_56
          try simp only [Bool.and_eq_true, Bool.or_eq_true, Bool.not_eq_true', Bool.and_eq_false_iff, Bool.or_eq_false_iff, Bool.not_eq_false', decide_eq_true_eq, decide_eq_false_iff_not, not_or, Bool.false_eq_true, Bool.true_eq_false, false_or, or_false, not_false_eq_true] at gp_58
          refine Wx.gyes rfl rfl (congrArg Value.bool g_56) ?_
          refine Wx.rd (v := (.pointer (some ⟨g_mv, 0, none⟩))) (rd_move rfl) rfl ?_
          refine Wx.gyes rfl rfl (congrArg Value.bool g_56) ?_
          refine Wx.rd (v := .int .i64 b) (rd_move rfl) rfl ?_
          refine Wx.gyes rfl rfl (congrArg Value.bool g_56) ?_
          refine Wx.rd (v := .int .i64 a) (rd_move rfl) rfl ?_
          refine Wx.gyes rfl rfl (congrArg Value.bool g_56) ?_
          refine Wx.rd (v := (.pointer (some ⟨g_mv, 0, none⟩))) (rd_nilCheck rfl rfl) rfl ?_
          refine Wx.gyes rfl rfl (congrArg Value.bool g_56) ?_
          refine Wx.rd (v := .pointer (some ⟨g_mv, 1, none⟩)) (rd_fieldAddr rfl foKy_93_1) rfl ?_
          refine Wx.gyes rfl rfl (congrArg Value.bool g_56) ?_
          refine Wx.rd (v := .pointer (some ⟨g_mv, 1 + b.toNat * 6, none⟩)) (rd_indexArr (o := 1) rfl rfl Try.underlying82 Try.sizeOf81 (by omega) (by omega)) rfl ?_
          refine Wx.gyes rfl rfl (congrArg Value.bool g_56) ?_
          refine Wx.rd (v := .pointer (some ⟨g_mv, 1 + b.toNat * 6 + a.toNat * 1, none⟩)) (rd_indexArr (o := 1 + b.toNat * 6) rfl rfl Try.underlying81 Try.sizeOf4 (by omega) (by omega)) rfl ?_
          refine Wx.gyes rfl rfl (congrArg Value.bool g_56) ?_
          refine Wx.rd (v := .bool (ledB (gS l) l.length b a)) (rd_mkB (hS.arg a_mv) rfl (by omega) (by omega) (by omega) (by omega) Try.isAgg4) rfl ?_
          refine Wx.gyes rfl rfl (congrArg Value.bool g_56) ?_
          refine Wx.rd (v := .bool (!(ledB (gS l) l.length b a))) (rd_not rfl) rfl ?_
          refine Wx.rd (v := .bool (!(ledB (gS l) l.length b a))) (rd_pickF (congrArg Value.bool g_56) rfl) rfl ?_
          refine Wx.nil ⟨(), hS, ⟨?_, trivial⟩, Out.look rfl Out.refl⟩
          show Value.bool (!(ledB (gS l) l.length b a)) = Value.bool (!(betterS (((ix ([], []) l a).1), ((ix ([], []) l a).2)) (((ix ([], []) l b).1), ((ix ([], []) l b).2))) || !(ledB (gS l) l.length b a))
          first | rw [g_56, Bool.false_or] | (rw [g_56]; rfl)
      rintro ⟨⟩ u_60 w_59 hS
      refine Wx.nil ?_
      refine W.cond rfl (fun c2 => ?_) (fun c2 => ?_)
      · -- yes
        try simp only [Bool.and_eq_true, Bool.or_eq_true, Bool.not_eq_true', Bool.and_eq_false_iff, Bool.or_eq_false_iff, Bool.not_eq_false', decide_eq_true_eq, decide_eq_false_iff_not, not_or, Bool.false_eq_true, Bool.true_eq_false, false_or, or_false, not_false_eq_true] at c2
        refine W.exit rfl ?_
        refine W.reg ?_
        refine Wx.rd (v := .int .i64 (b + 1)) (rd_add rfl rfl (in_i64 (by omega) (by omega))) rfl ?_
        refine Wx.rd (v := .int .i64 (b + 1)) (rd_move rfl) rfl ?_
        refine Wx.nil ?_
        have hv_61 : V (tSl (tI .i64)) best2 bv2 _ _ := (hS.v 3 rfl)
        refine ⟨(bv2, best2, b + 1), (by show (l.length - (b + 1)).toNat < (l.length - b).toNat; omega), ?_, ?_, Out.look rfl (Out.hav rfl (Out.look rfl Out.self))⟩
        · exact ⟨(St.add (St.tl (St.tl (St.tl (St.tl (hS))))) (V.tlF (V.tlF (V.tlF (V.tlF (hv_61)))))), (by first | omega | assumption), (by first | omega | assumption), (by rw [← g2, fndB_no (a := a) (b := b) (by omega) c2]), (by first | omega | assumption)⟩
        · exact ⟨rfl, rfl, trivial⟩
      · -- no
        try simp only [Bool.and_eq_true, Bool.or_eq_true, Bool.not_eq_true', Bool.and_eq_false_iff, Bool.or_eq_false_iff, Bool.not_eq_false', decide_eq_true_eq, decide_eq_false_iff_not, not_or, Bool.false_eq_true, Bool.true_eq_false, false_or, or_false, not_false_eq_true] at c2
        have hkeep := c2
        refine W.skip ?_
        refine W.seq ?_
        refine W.reg ?_
        refine Wx.rd (v := (.pointer (some ⟨g_mv, 0, none⟩))) (rd_move rfl) rfl ?_
        refine Wx.rd (v := .int .i64 a) (rd_move rfl) rfl ?_
        refine Wx.rd (v := .int .i64 b) (rd_move rfl) rfl ?_
        refine Wx.callF (run_callF Try.call92 rfl) (F92 (hS.arg a_mv) (in_i64 (by omega) (by omega)) (in_i64 (by omega) (by omega)) ⟨h0, by omega⟩ ⟨g0, by omega⟩ hkeep.2 hS.fb_lt) rfl ?_
        rintro r_62 w_63 hx_64 ⟨_, rfl, ⟨hv_65, hn_66⟩⟩
        have ln_68 := hv_65.len63
        have hS := hS.ext hx_64
        have hS := hS.add hv_65
        refine Wx.rd (v := r_62) (rd_assign rfl) rfl ?_
        refine Wx.nil ?_
        refine W.seq ?_
        refine W.reg ?_
        refine Wx.rd (v := bv2) (rd_move rfl) rfl ?_
        refine Wx.rd (v := .bool (decide (best2 = []))) (rd_eqlNilI (hS.v 4 rfl) rfl rfl Try.underlying39 g3) rfl ?_
        refine Wx.rd (v := .bool (decide (best2 = []))) (rd_move rfl) rfl ?_
        refine Wx.cut (X := Unit) 6 [57, 58, 59, 60, 61, 62] (fun _ => [(62, .bool (decide (best2 = []) || decide (((roundV (gS l) l.length a b (sizeV (gS l) l.length b a)).length : Int) < (best2.length : Int))))]) (fun _ w' => St w O w' [Ob.v (tSl (tI .i64)) (roundV (gS l) l.length a b (sizeV (gS l) l.length b a)) r_62, .box g_47 62 [v_39, v_40], Ob.v (tSl (tI .i64)) ((ix ([], []) l b).2) v_40, Ob.v (tSl (tI .i64)) ((ix ([], []) l b).1) v_39, Ob.v (tSl (tI .i64)) best2 bv2, Ob.v (tSl (tP (tSl (tI .i64)) (tSl (tI .i64)))) l v_27, .box g_21 62 [v_13, v_14], Ob.v (tSl (tI .i64)) ((ix ([], []) l a).2) v_14, Ob.v (tSl (tI .i64)) ((ix ([], []) l a).1) v_13, Ob.v (tSl (tI .i64)) best bv, Ob.v (tSl (tP (tSl (tI .i64)) (tSl (tI .i64)))) l v_1]) ?_ ?_
        · rcases Bool.eq_false_or_eq_true (decide (best2 = [])) with g_69 | g_69
          · -- True
            have gp_70 := of_decide_eq_true g_69
            refine Wx.gnoB rfl rfl (congrArg Value.bool g_69) rfl rfl ?_
            refine Wx.gnoB rfl rfl (congrArg Value.bool g_69) rfl rfl ?_
            refine Wx.gnoB rfl rfl (congrArg Value.bool g_69) rfl rfl ?_
            refine Wx.gnoB rfl rfl (congrArg Value.bool g_69) rfl rfl ?_
            refine Wx.gnoB rfl rfl (congrArg Value.bool g_69) rfl rfl ?_
            refine Wx.rd (v := .bool true) (rd_pickT (congrArg Value.bool g_69) rfl) rfl ?_
            refine Wx.nil ⟨(), hS, ⟨?_, trivial⟩, Out.look rfl Out.refl⟩
            show Value.bool true = Value.bool (decide (best2 = []) || decide (((roundV (gS l) l.length a b (sizeV (gS l) l.length b a)).length : Int) < (best2.length : Int)))
            first | rw [g_69, Bool.true_or] | (rw [g_69]; rfl)
          · -- False
            have gp_71 := of_decide_eq_false g_69
            refine Wx.gyes rfl rfl (congrArg Value.bool g_69) ?_
            refine Wx.rd (v := r_62) (rd_move rfl) rfl ?_
            refine Wx.gyes rfl rfl (congrArg Value.bool g_69) ?_
            refine Wx.rd (v := .int .i64 ((roundV (gS l) l.length a b (sizeV (gS l) l.length b a)).length : Int)) (rd_lenV rfl (hS.v 0 rfl) Try.underlying39) rfl ?_
            refine Wx.gyes rfl rfl (congrArg Value.bool g_69) ?_
            refine Wx.rd (v := bv2) (rd_move rfl) rfl ?_
            refine Wx.gyes rfl rfl (congrArg Value.bool g_69) ?_
            refine Wx.rd (v := .int .i64 (best2.length : Int)) (rd_lenV rfl (hS.v 4 rfl) Try.underlying39) rfl ?_
            refine Wx.gyes rfl rfl (congrArg Value.bool g_69) ?_
            refine Wx.rd (v := .bool (decide (((roundV (gS l) l.length a b (sizeV (gS l) l.length b a)).length : Int) < (best2.length : Int)))) (rd_lss rfl rfl) rfl ?_
            refine Wx.rd (v := .bool (decide (((roundV (gS l) l.length a b (sizeV (gS l) l.length b a)).length : Int) < (best2.length : Int)))) (rd_pickF (congrArg Value.bool g_69) rfl) rfl ?_
            refine Wx.nil ⟨(), hS, ⟨?_, trivial⟩, Out.look rfl Out.refl⟩
            show Value.bool (decide (((roundV (gS l) l.length a b (sizeV (gS l) l.length b a)).length : Int) < (best2.length : Int))) = Value.bool (decide (best2 = []) || decide (((roundV (gS l) l.length a b (sizeV (gS l) l.length b a)).length : Int) < (best2.length : Int)))
            first | rw [g_69, Bool.false_or] | (rw [g_69]; rfl)
        rintro ⟨⟩ u_73 w_72 hS
        refine Wx.rd (v := .bool (decide (best2 = []) || decide (((roundV (gS l) l.length a b (sizeV (gS l) l.length b a)).length : Int) < (best2.length : Int)))) (rd_move rfl) rfl ?_
        refine Wx.cut (X := Unit) 12 [64, 65, 66, 67, 68, 69, 70, 71, 72, 73, 74, 75] (fun _ => [(75, .bool ((decide (best2 = []) || decide (((roundV (gS l) l.length a b (sizeV (gS l) l.length b a)).length : Int) < (best2.length : Int))) || (decide (((roundV (gS l) l.length a b (sizeV (gS l) l.length b a)).length : Int) = (best2.length : Int)) && decide ((cmpL (roundV (gS l) l.length a b (sizeV (gS l) l.length b a)) best2) < 0))))]) (fun _ w' => St w O w' [Ob.v (tSl (tI .i64)) (roundV (gS l) l.length a b (sizeV (gS l) l.length b a)) r_62, .box g_47 62 [v_39, v_40], Ob.v (tSl (tI .i64)) ((ix ([], []) l b).2) v_40, Ob.v (tSl (tI .i64)) ((ix ([], []) l b).1) v_39, Ob.v (tSl (tI .i64)) best2 bv2, Ob.v (tSl (tP (tSl (tI .i64)) (tSl (tI .i64)))) l v_27, .box g_21 62 [v_13, v_14], Ob.v (tSl (tI .i64)) ((ix ([], []) l a).2) v_14, Ob.v (tSl (tI .i64)) ((ix ([], []) l a).1) v_13, Ob.v (tSl (tI .i64)) best bv, Ob.v (tSl (tP (tSl (tI .i64)) (tSl (tI .i64)))) l v_1]) ?_ ?_
        · rcases Bool.eq_false_or_eq_true (decide (best2 = []) || decide (((roundV (gS l) l.length a b (sizeV (gS l) l.length b a)).length : Int) < (best2.length : Int))) with g_74 | g_74
          · -- True
            have gp_75 := g_74
            try simp only [Bool.and_eq_true, Bool.or_eq_true, Bool.not_eq_true', Bool.and_eq_false_iff, Bool.or_eq_false_iff, Bool.not_eq_false', decide_eq_true_eq, decide_eq_false_iff_not, not_or, Bool.false_eq_true, Bool.true_eq_false, false_or, or_false, not_false_eq_true] at gp_75
            refine Wx.gnoB rfl rfl (congrArg Value.bool g_74) rfl rfl ?_
            refine Wx.gnoB rfl rfl (congrArg Value.bool g_74) rfl rfl ?_
            refine Wx.gnoB rfl rfl (congrArg Value.bool g_74) rfl rfl ?_
            refine Wx.gnoB rfl rfl (congrArg Value.bool g_74) rfl rfl ?_
            refine Wx.gnoB rfl rfl (congrArg Value.bool g_74) rfl rfl ?_
            refine Wx.gnoB rfl rfl (congrArg Value.bool g_74) rfl rfl ?_
            refine Wx.gno rfl rfl rfl rfl ?_
            refine Wx.gno rfl rfl rfl rfl ?_
            refine Wx.gno rfl rfl rfl rfl ?_
            refine Wx.gno rfl rfl rfl rfl ?_
            refine Wx.gnoB rfl rfl (congrArg Value.bool g_74) rfl rfl ?_
            refine Wx.rd (v := .bool true) (rd_pickT (congrArg Value.bool g_74) rfl) rfl ?_
            refine Wx.nil ⟨(), hS, ⟨?_, trivial⟩, Out.look rfl Out.refl⟩
            show Value.bool true = Value.bool ((decide (best2 = []) || decide (((roundV (gS l) l.length a b (sizeV (gS l) l.length b a)).length : Int) < (best2.length : Int))) || (decide (((roundV (gS l) l.length a b (sizeV (gS l) l.length b a)).length : Int) = (best2.length : Int)) && decide ((cmpL (roundV (gS l) l.length a b (sizeV (gS l) l.length b a)) best2) < 0)))
            first | rw [g_74, Bool.true_or] | (rw [g_74]; rfl)
          · -- False
            have gp_76 := g_74
            try simp only [Bool.and_eq_true, Bool.or_eq_true, Bool.not_eq_true', Bool.and_eq_false_iff, Bool.or_eq_false_iff, Bool.not_eq_false', decide_eq_true_eq, decide_eq_false_iff_not, not_or, Bool.false_eq_true, Bool.true_eq_false, false_or, or_false, not_false_eq_true] at gp_76
            refine Wx.gyes rfl rfl (congrArg Value.bool g_74) ?_
            refine Wx.rd (v := r_62) (rd_move rfl) rfl ?_
            refine Wx.gyes rfl rfl (congrArg Value.bool g_74) ?_
            refine Wx.rd (v := .int .i64 ((roundV (gS l) l.length a b (sizeV (gS l) l.length b a)).length : Int)) (rd_lenV rfl (hS.v 0 rfl) Try.underlying39) rfl ?_
            refine Wx.gyes rfl rfl (congrArg Value.bool g_74) ?_
            refine Wx.rd (v := bv2) (rd_move rfl) rfl ?_
            refine Wx.gyes rfl rfl (congrArg Value.bool g_74) ?_
            refine Wx.rd (v := .int .i64 (best2.length : Int)) (rd_lenV rfl (hS.v 4 rfl) Try.underlying39) rfl ?_
            refine Wx.gyes rfl rfl (congrArg Value.bool g_74) ?_
            refine Wx.rd (v := .bool (decide (((roundV (gS l) l.length a b (sizeV (gS l) l.length b a)).length : Int) = (best2.length : Int)))) (rd_eql rfl rfl) rfl ?_
            refine Wx.gyes rfl rfl (congrArg Value.bool g_74) ?_
            refine Wx.rd (v := .bool (decide (((roundV (gS l) l.length a b (sizeV (gS l) l.length b a)).length : Int) = (best2.length : Int)))) (rd_move rfl) rfl ?_
            refine Wx.cut (X := Unit) 5 [70, 71, 72, 73, 74] (fun _ => [(74, .bool (decide (((roundV (gS l) l.length a b (sizeV (gS l) l.length b a)).length : Int) = (best2.length : Int)) && decide ((cmpL (roundV (gS l) l.length a b (sizeV (gS l) l.length b a)) best2) < 0)))]) (fun _ w' => St w O w' [Ob.v (tSl (tI .i64)) (roundV (gS l) l.length a b (sizeV (gS l) l.length b a)) r_62, .box g_47 62 [v_39, v_40], Ob.v (tSl (tI .i64)) ((ix ([], []) l b).2) v_40, Ob.v (tSl (tI .i64)) ((ix ([], []) l b).1) v_39, Ob.v (tSl (tI .i64)) best2 bv2, Ob.v (tSl (tP (tSl (tI .i64)) (tSl (tI .i64)))) l v_27, .box g_21 62 [v_13, v_14], Ob.v (tSl (tI .i64)) ((ix ([], []) l a).2) v_14, Ob.v (tSl (tI .i64)) ((ix ([], []) l a).1) v_13, Ob.v (tSl (tI .i64)) best bv, Ob.v (tSl (tP (tSl (tI .i64)) (tSl (tI .i64)))) l v_1]) ?_ ?_
            · rcases Bool.eq_false_or_eq_true (decide (((roundV (gS l) l.length a b (sizeV (gS l) l.length b a)).length : Int) = (best2.length : Int))) with g_77 | g_77
              · -- True
                have gp_78 := of_decide_eq_true g_77
                refine Wx.gyes rfl rfl (congrArg Value.bool g_77) ?_
                refine Wx.rd (v := r_62) (rd_move rfl) rfl ?_
                refine Wx.gyes rfl rfl (congrArg Value.bool g_77) ?_
                refine Wx.rd (v := bv2) (rd_move rfl) rfl ?_
                refine Wx.gyes rfl rfl (congrArg Value.bool g_77) ?_
                refine Wx.callF (run_callF Try.call52 rfl) (F52 (hS.v 0 rfl) (hS.v 4 rfl)) rfl ?_
                rintro r_79 w_80 hx_81 rfl
                have hS := hS.ext hx_81
                refine Wx.gyes rfl rfl (congrArg Value.bool g_77) ?_
                refine Wx.rd (v := .bool (decide ((cmpL (roundV (gS l) l.length a b (sizeV (gS l) l.length b a)) best2) < 0))) (rd_lss rfl rfl) rfl ?_
                refine Wx.gyes rfl rfl (congrArg Value.bool g_74) ?_
                refine Wx.rd (v := .bool (decide ((cmpL (roundV (gS l) l.length a b (sizeV (gS l) l.length b a)) best2) < 0))) (rd_pickT (congrArg Value.bool g_77) rfl) rfl ?_
                refine Wx.nil ⟨(), hS, ⟨?_, trivial⟩, Out.look rfl Out.refl⟩
                show Value.bool (decide ((cmpL (roundV (gS l) l.length a b (sizeV (gS l) l.length b a)) best2) < 0)) = Value.bool (decide (((roundV (gS l) l.length a b (sizeV (gS l) l.length b a)).length : Int) = (best2.length : Int)) && decide ((cmpL (roundV (gS l) l.length a b (sizeV (gS l) l.length b a)) best2) < 0))
                first | rw [g_77, Bool.true_and] | (rw [g_77]; rfl)
              · -- False
                have gp_82 := of_decide_eq_false g_77
                refine Wx.gnoB rfl rfl (congrArg Value.bool g_77) rfl rfl ?_
                refine Wx.gnoB rfl rfl (congrArg Value.bool g_77) rfl rfl ?_
                refine Wx.gnoB rfl rfl (congrArg Value.bool g_77) rfl rfl ?_
                refine Wx.gnoB rfl rfl (congrArg Value.bool g_77) rfl rfl ?_
                refine Wx.gyes rfl rfl (congrArg Value.bool g_74) ?_
                refine Wx.rd (v := .bool false) (rd_pickF (congrArg Value.bool g_77) rfl) rfl ?_
                refine Wx.nil ⟨(), hS, ⟨?_, trivial⟩, Out.look rfl Out.refl⟩
                show Value.bool false = Value.bool (decide (((roundV (gS l) l.length a b (sizeV (gS l) l.length b a)).length : Int) = (best2.length : Int)) && decide ((cmpL (roundV (gS l) l.length a b (sizeV (gS l) l.length b a)) best2) < 0))
                first | rw [g_77, Bool.false_and] | (rw [g_77]; rfl)
            rintro ⟨⟩ u_84 w_83 hS
            refine Wx.rd (v := .bool (decide (((roundV (gS l) l.length a b (sizeV (gS l) l.length b a)).length : Int) = (best2.length : Int)) && decide ((cmpL (roundV (gS l) l.length a b (sizeV (gS l) l.length b a)) best2) < 0))) (rd_pickF (congrArg Value.bool g_74) rfl) rfl ?_
            refine Wx.nil ⟨(), hS, ⟨?_, trivial⟩, Out.look rfl (Out.hav rfl (Out.look rfl Out.refl))⟩
            show Value.bool (decide (((roundV (gS l) l.length a b (sizeV (gS l) l.length b a)).length : Int) = (best2.length : Int)) && decide ((cmpL (roundV (gS l) l.length a b (sizeV (gS l) l.length b a)) best2) < 0)) = Value.bool ((decide (best2 = []) || decide (((roundV (gS l) l.length a b (sizeV (gS l) l.length b a)).length : Int) < (best2.length : Int))) || (decide (((roundV (gS l) l.length a b (sizeV (gS l) l.length b a)).length : Int) = (best2.length : Int)) && decide ((cmpL (roundV (gS l) l.length a b (sizeV (gS l) l.length b a)) best2) < 0)))
            first | rw [g_74, Bool.false_or] | (rw [g_74]; rfl)
        rintro ⟨⟩ u_86 w_85 hS
        refine Wx.nil ?_
        refine W.cond rfl (fun c3 => ?_) (fun c3 => ?_)
        · -- yes
          try simp only [Bool.and_eq_true, Bool.or_eq_true, Bool.not_eq_true', Bool.and_eq_false_iff, Bool.or_eq_false_iff, Bool.not_eq_false', decide_eq_true_eq, decide_eq_false_iff_not, not_or, Bool.false_eq_true, Bool.true_eq_false, false_or, or_false, not_false_eq_true] at c3
          refine W.reg ?_
          refine Wx.rd (v := r_62) (rd_move rfl) rfl ?_
          refine Wx.rd (v := r_62) (rd_assign rfl) rfl ?_
          refine Wx.nil ?_
          refine W.reg ?_
          refine Wx.rd (v := .int .i64 (b + 1)) (rd_add rfl rfl (in_i64 (by omega) (by omega))) rfl ?_
          refine Wx.rd (v := .int .i64 (b + 1)) (rd_move rfl) rfl ?_
          refine Wx.nil ?_
          have hv_87 : V (tSl (tI .i64)) (roundV (gS l) l.length a b (sizeV (gS l) l.length b a)) r_62 _ _ := (hS.v 0 rfl)
          refine ⟨(r_62, roundV (gS l) l.length a b (sizeV (gS l) l.length b a), b + 1), (by show (l.length - (b + 1)).toNat < (l.length - b).toNat; omega), ?_, ?_, Out.look rfl (Out.hav rfl (Out.look rfl (Out.hav rfl (Out.look rfl (Out.hav rfl (Out.look rfl Out.self))))))⟩
          · exact ⟨(St.add (St.tl (St.tl (St.tl (St.tl (St.tl (hS)))))) (V.tlF (V.tlF (V.tlF (V.tlF (V.tlF (hv_87))))))), (by first | omega | assumption), (by first | omega | assumption), (by rw [← g2, fndB_yes (a := a) (b := b) (by omega) hkeep, List.cons_append, List.foldl_cons, keep_yes c3]), (by first | omega | assumption)⟩
          · exact ⟨rfl, rfl, trivial⟩
        · -- no
          try simp only [Bool.and_eq_true, Bool.or_eq_true, Bool.not_eq_true', Bool.and_eq_false_iff, Bool.or_eq_false_iff, Bool.not_eq_false', decide_eq_true_eq, decide_eq_false_iff_not, not_or, Bool.false_eq_true, Bool.true_eq_false, false_or, or_false, not_false_eq_true] at c3
          refine W.skip ?_
          refine W.reg ?_
          refine Wx.rd (v := .int .i64 (b + 1)) (rd_add rfl rfl (in_i64 (by omega) (by omega))) rfl ?_
          refine Wx.rd (v := .int .i64 (b + 1)) (rd_move rfl) rfl ?_
          refine Wx.nil ?_
          have hv_88 : V (tSl (tI .i64)) best2 bv2 _ _ := (hS.v 4 rfl)
          refine ⟨(bv2, best2, b + 1), (by show (l.length - (b + 1)).toNat < (l.length - b).toNat; omega), ?_, ?_, Out.look rfl (Out.hav rfl (Out.look rfl (Out.hav rfl (Out.look rfl (Out.hav rfl (Out.look rfl Out.self))))))⟩
          · exact ⟨(St.add (St.tl (St.tl (St.tl (St.tl (St.tl (hS)))))) (V.tlF (V.tlF (V.tlF (V.tlF (V.tlF (hv_88))))))), (by first | omega | assumption), (by first | omega | assumption), (by rw [← g2, fndB_yes (a := a) (b := b) (by omega) hkeep, List.cons_append, List.foldl_cons, keep_no c3]), (by first | omega | assumption)⟩
          · exact ⟨rfl, rfl, trivial⟩
    · -- no
      refine W.exit rfl ?_
      refine W.reg ?_
      refine Wx.rd (v := .int .i64 (a + 1)) (rd_add rfl rfl (in_i64 (by omega) (by omega))) rfl ?_
      refine Wx.rd (v := .int .i64 (a + 1)) (rd_move rfl) rfl ?_
      refine Wx.nil ?_
      have hv_89 : V (tSl (tI .i64)) best2 bv2 _ _ := (hS.v 0 rfl)
      refine ⟨(bv2, best2, a + 1), (by show (l.length - (a + 1)).toNat < (l.length - a).toNat; omega), ?_, ?_, Out.look rfl (Out.hav rfl (Out.look rfl Out.self))⟩
      · exact ⟨(St.add (St.tl (St.tl (St.tl (St.tl (St.tl (St.tl (hS))))))) (V.tlF (V.tlF (V.tlF (V.tlF (V.tlF (V.tlF (hv_89)))))))), (by first | omega | assumption), (by first | omega | assumption), (by rw [← g2, fndB_end (by omega), List.nil_append]), (by first | omega | assumption)⟩
      · exact ⟨rfl, rfl, trivial⟩
  · -- no
    refine W.exit rfl ?_
    refine W.seq ?_
    refine W.seq ?_
    refine W.reg ?_
    refine Wx.rd (v := bv) (rd_move rfl) rfl ?_
    refine Wx.rd (v := .bool (!(decide (best = [])))) (rd_neqlNilI (hS.v 0 rfl) rfl rfl Try.underlying39 h3) rfl ?_
    refine Wx.nil ?_
    refine W.cond rfl (fun c4 => ?_) (fun c4 => ?_)
    · -- yes
      try simp only [Bool.and_eq_true, Bool.or_eq_true, Bool.not_eq_true', Bool.and_eq_false_iff, Bool.or_eq_false_iff, Bool.not_eq_false', decide_eq_true_eq, decide_eq_false_iff_not, not_or, Bool.false_eq_true, Bool.true_eq_false, false_or, or_false, not_false_eq_true] at c4
      refine W.seq ?_
      refine W.reg ?_
      refine Wx.rd (v := bv) (rd_move rfl) rfl ?_
      refine Wx.rd (v := .agg #[bv]) (rd_buildC (vs := [(0, bv)]) (us := [(0, .agg #[bv])]) rfl (parts_cons (Go.Wk.cells_one (V.oneC (hS.v 0 rfl))) parts_nil) (by kernel_rfl)) rfl ?_
      refine Wx.rd (v := .iface 111 (.agg #[bv])) (rd_mkI rfl (by kernel_rfl)) rfl ?_
      refine Wx.rd (v := .iface 111 (.agg #[bv])) (rd_assign rfl) rfl ?_
      refine Wx.nil ?_
      exact W.ret ⟨.iface 111 (.agg #[bv]), ResIs.one, hS.bel, ⟨(.iface 111 (.agg #[bv])), rfl, (by exact V.repR (by rw [← h2, fndA_end (by omega)]; exact c4) (by rw [← h2, fndA_end (by omega)]; exact (V.mv (hS.v 0 rfl) (.less (fun _ h => List.mem_append.2 (.inr h))))))⟩⟩
    · -- no
      try simp only [Bool.and_eq_true, Bool.or_eq_true, Bool.not_eq_true', Bool.and_eq_false_iff, Bool.or_eq_false_iff, Bool.not_eq_false', decide_eq_true_eq, decide_eq_false_iff_not, not_or, Bool.false_eq_true, Bool.true_eq_false, false_or, or_false, not_false_eq_true] at c4
      refine W.skip ?_
      refine W.seq ?_
      refine W.reg ?_
      refine Wx.rd (v := (.pointer (some ⟨g_mv, 0, none⟩))) (rd_move rfl) rfl ?_
      refine Wx.rd (v := (.pointer (some ⟨g_mv, 0, none⟩))) (rd_nilCheck rfl rfl) rfl ?_
      refine Wx.rd (v := .pointer (some ⟨g_mv, 0, none⟩)) (rd_fieldAddr rfl foKy_93_0) rfl ?_
      refine Wx.ex (rd_mkS (hS.arg a_mv) rfl Try.isAgg22) rfl (fun v_90 hv_91 => ?_)
      have ln_92 := hv_91.len63
      have hS := hS.add hv_91
      refine Wx.rd (v := .int .i64 (l.length : Int)) (rd_lenV rfl (hS.v 0 rfl) Try.underlying22) rfl ?_
      refine Wx.make (t := (tI .i64)) (zy := 0) (m := l.length) elKy_39 rfl rfl (fun _ _ => ⟨rfl, by decide, by decide⟩) hS (congrArg (Value.int .i64) rfl) (congrArg (Value.int .i64) rfl) (by omega) (by simp only [maxLen]; omega) rfl (fun v_94 w_95 hx_96 hS => ?_)
      refine Wx.rd (v := v_94) (rd_assign rfl) rfl ?_
      refine Wx.nil ?_
      refine W.seq ?_
      refine W.seq ?_
      refine W.reg ?_
      refine Wx.rd (v := (.pointer (some ⟨g_mv, 0, none⟩))) (rd_move rfl) rfl ?_
      refine Wx.rd (v := (.pointer (some ⟨g_mv, 0, none⟩))) (rd_nilCheck rfl rfl) rfl ?_
      refine Wx.rd (v := .pointer (some ⟨g_mv, 0, none⟩)) (rd_fieldAddr rfl foKy_93_0) rfl ?_
      refine Wx.ex (rd_mkS (hS.arg a_mv) rfl Try.isAgg22) rfl (fun v_99 hv_100 => ?_)
      have ln_101 := hv_100.len63
      have hS := hS.add hv_100
      refine Wx.rd (v := .int .i64 (l.length : Int)) (rd_lenV rfl (hS.v 0 rfl) Try.underlying22) rfl ?_
      refine Wx.rd (v := .int .i64 0) (rd_move rfl) rfl ?_
      refine Wx.nil ?_
      refine W.block ?_
      have hj : jdgV l = [] := by rw [← h2, fndA_end (by omega)]; exact c4
      refine W.loop [10, 11, 95, 96, 97, 98, 99, 100, 101, 102, 103, 104, 105, 106, 107, 108, 109, 110, 111, 112, 113, 114, 115, 116, 117, 118, 119, 120, 121, 122, 123, 124, 125, 126, 127, 128, 129, 130, 131, 132] (fun x : Int × (List Int) => match x with | (ca, cl) => [(95, .int .i64 ca)]) (fun (x : Int × (List Int)) w' => match x with | (ca, cl) => St w O w' [Ob.v (tSl (tP (tSl (tI .i64)) (tSl (tI .i64)))) l v_99, .row (tI .i64) 3 v_94 cl, Ob.v (tSl (tP (tSl (tI .i64)) (tSl (tI .i64)))) l v_90, Ob.v (tSl (tI .i64)) best bv, Ob.v (tSl (tP (tSl (tI .i64)) (tSl (tI .i64)))) l v_1] ∧ 0 ≤ ca ∧ ca ≤ l.length ∧ ClI (gS l) l.length ca 0 cl ∧ (cl.length : Int) = l.length) (fun x : Int × (List Int) => match x with | (ca, cl) => (l.length - ca).toNat) (0, List.replicate l.length 0) ⟨rfl, trivial⟩ ⟨hS, (by first | omega | simp), (by first | omega | simp), (cl_start (by omega)), (by simp)⟩ ?_
      rintro ⟨ca, cl⟩ u_104 w_103 ⟨hS, k0, k1, k2, k3⟩
      refine W.seq ?_
      refine W.reg ?_
      refine Wx.rd (v := .bool (decide (ca < (l.length : Int)))) (rd_lss rfl rfl) rfl ?_
      refine Wx.nil ?_
      refine W.seq ?_
      refine W.condD rfl (fun c5 => ?_) (fun c5 => ?_)
      · -- yes
        refine W.skip ?_
        refine W.seq ?_
        refine W.block ?_
        refine W.seq ?_
        refine W.reg ?_
        refine Wx.rd (v := .int .i64 ca) (rd_move rfl) rfl ?_
        refine Wx.rd (v := .int .i64 ca) (rd_assign rfl) rfl ?_
        refine Wx.nil ?_
        refine W.seq ?_
        refine W.reg ?_
        refine Wx.rd (v := (.pointer (some ⟨g_mv, 0, none⟩))) (rd_move rfl) rfl ?_
        refine Wx.rd (v := (.pointer (some ⟨g_mv, 0, none⟩))) (rd_nilCheck rfl rfl) rfl ?_
        refine Wx.rd (v := .pointer (some ⟨g_mv, 0, none⟩)) (rd_fieldAddr rfl foKy_93_0) rfl ?_
        refine Wx.ex (rd_mkS (hS.arg a_mv) rfl Try.isAgg22) rfl (fun v_105 hv_106 => ?_)
        have ln_107 := hv_106.len63
        have hS := hS.add hv_106
        refine Wx.rd (v := .int .i64 (l.length : Int)) (rd_lenV rfl (hS.v 0 rfl) Try.underlying22) rfl ?_
        refine Wx.rd (v := .int .i64 0) (rd_move rfl) rfl ?_
        refine Wx.nil ?_
        refine W.block ?_
        refine W.loop [11, 103, 104, 105, 106, 107, 108, 109, 110, 111, 112, 113, 114, 115, 116, 117, 118, 119, 120, 121, 122, 123, 124, 125, 126, 127, 128, 129, 130, 131] (fun x : Int × (List Int) => match x with | (cb, cl2) => [(103, .int .i64 cb)]) (fun (x : Int × (List Int)) w' => match x with | (cb, cl2) => St w O w' [Ob.v (tSl (tP (tSl (tI .i64)) (tSl (tI .i64)))) l v_105, Ob.v (tSl (tP (tSl (tI .i64)) (tSl (tI .i64)))) l v_99, .row (tI .i64) 3 v_94 cl2, Ob.v (tSl (tP (tSl (tI .i64)) (tSl (tI .i64)))) l v_90, Ob.v (tSl (tI .i64)) best bv, Ob.v (tSl (tP (tSl (tI .i64)) (tSl (tI .i64)))) l v_1] ∧ 0 ≤ cb ∧ cb ≤ l.length ∧ ClI (gS l) l.length ca cb cl2 ∧ (cl2.length : Int) = l.length) (fun x : Int × (List Int) => match x with | (cb, cl2) => (l.length - cb).toNat) (0, cl) ⟨rfl, trivial⟩ ⟨hS, (by first | omega | simp), (by first | omega | simp), (k2), (k3)⟩ ?_
        rintro ⟨cb, cl2⟩ u_110 w_109 ⟨hS, m0, m1, m2, m3⟩
        refine W.seq ?_
        refine W.reg ?_
        refine Wx.rd (v := .bool (decide (cb < (l.length : Int)))) (rd_lss rfl rfl) rfl ?_
        refine Wx.nil ?_
        refine W.seq ?_
        refine W.condD rfl (fun c6 => ?_) (fun c6 => ?_)
        · -- yes
          refine W.skip ?_
          refine W.seq ?_
          refine W.block ?_
          refine W.seq ?_
          refine W.reg ?_
          refine Wx.rd (v := .int .i64 cb) (rd_move rfl) rfl ?_
          refine Wx.rd (v := .int .i64 cb) (rd_assign rfl) rfl ?_
          refine Wx.nil ?_
          refine W.seq ?_
          refine W.reg ?_
          refine Wx.rd (v := (.pointer (some ⟨g_mv, 0, none⟩))) (rd_move rfl) rfl ?_
          refine Wx.rd (v := .int .i64 ca) (rd_move rfl) rfl ?_
          refine Wx.rd (v := .int .i64 cb) (rd_move rfl) rfl ?_
          refine Wx.rd (v := (.pointer (some ⟨g_mv, 0, none⟩))) (rd_nilCheck rfl rfl) rfl ?_
          refine Wx.rd (v := .pointer (some ⟨g_mv, 1, none⟩)) (rd_fieldAddr rfl foKy_93_1) rfl ?_
          refine Wx.rd (v := .pointer (some ⟨g_mv, 1 + ca.toNat * 6, none⟩)) (rd_indexArr (o := 1) rfl rfl Try.underlying82 Try.sizeOf81 (by omega) (by omega)) rfl ?_
          refine Wx.rd (v := .pointer (some ⟨g_mv, 1 + ca.toNat * 6 + cb.toNat * 1, none⟩)) (rd_indexArr (o := 1 + ca.toNat * 6) rfl rfl Try.underlying81 Try.sizeOf4 (by omega) (by omega)) rfl ?_
          refine Wx.rd (v := .bool (ledB (gS l) l.length ca cb)) (rd_mkB (hS.arg a_mv) rfl (by omega) (by omega) (by omega) (by omega) Try.isAgg4) rfl ?_
          refine Wx.rd (v := .bool (ledB (gS l) l.length ca cb)) (rd_move rfl) rfl ?_
          refine Wx.cut (X := Unit) 10 [115, 116, 117, 118, 119, 120, 121, 122, 123, 124] (fun _ => [(124, .bool (ledB (gS l) l.length ca cb && !(ledB (gS l) l.length cb ca)))]) (fun _ w' => St w O w' [Ob.v (tSl (tP (tSl (tI .i64)) (tSl (tI .i64)))) l v_105, Ob.v (tSl (tP (tSl (tI .i64)) (tSl (tI .i64)))) l v_99, .row (tI .i64) 3 v_94 cl2, Ob.v (tSl (tP (tSl (tI .i64)) (tSl (tI .i64)))) l v_90, Ob.v (tSl (tI .i64)) best bv, Ob.v (tSl (tP (tSl (tI .i64)) (tSl (tI .i64)))) l v_1]) ?_ ?_
          · rcases Bool.eq_false_or_eq_true (ledB (gS l) l.length ca cb) with g_111 | g_111
            · -- True
              have gp_112 := g_111
              try simp only [Bool.and_eq_true, Bool.or_eq_true, Bool.not_eq_true', Bool.and_eq_false_iff, Bool.or_eq_false_iff, Bool.not_eq_false', decide_eq_true_eq, decide_eq_false_iff_not, not_or, Bool.false_eq_true, Bool.true_eq_false, false_or, or_false, not_false_eq_true] at gp_112
              refine Wx.gyes rfl rfl (congrArg Value.bool g_111) ?_
              refine Wx.rd (v := (.pointer (some ⟨g_mv, 0, none⟩))) (rd_move rfl) rfl ?_
              refine Wx.gyes rfl rfl (congrArg Value.bool g_111) ?_
              refine Wx.rd (v := .int .i64 cb) (rd_move rfl) rfl ?_
              refine Wx.gyes rfl rfl (congrArg Value.bool g_111) ?_
              refine Wx.rd (v := .int .i64 ca) (rd_move rfl) rfl ?_
              refine Wx.gyes rfl rfl (congrArg Value.bool g_111) ?_
              refine Wx.rd (v := (.pointer (some ⟨g_mv, 0, none⟩))) (rd_nilCheck rfl rfl) rfl ?_
              refine Wx.gyes rfl rfl (congrArg Value.bool g_111) ?_
              refine Wx.rd (v := .pointer (some ⟨g_mv, 1, none⟩)) (rd_fieldAddr rfl foKy_93_1) rfl ?_
              refine Wx.gyes rfl rfl (congrArg Value.bool g_111) ?_
              refine Wx.rd (v := .pointer (some ⟨g_mv, 1 + cb.toNat * 6, none⟩)) (rd_indexArr (o := 1) rfl rfl Try.underlying82 Try.sizeOf81 (by omega) (by omega)) rfl ?_
              refine Wx.gyes rfl rfl (congrArg Value.bool g_111) ?_
              refine Wx.rd (v := .pointer (some ⟨g_mv, 1 + cb.toNat * 6 + ca.toNat * 1, none⟩)) (rd_indexArr (o := 1 + cb.toNat * 6) rfl rfl Try.underlying81 Try.sizeOf4 (by omega) (by omega)) rfl ?_
              refine Wx.gyes rfl rfl (congrArg Value.bool g_111) ?_
              refine Wx.rd (v := .bool (ledB (gS l) l.length cb ca)) (rd_mkB (hS.arg a_mv) rfl (by omega) (by omega) (by omega) (by omega) Try.isAgg4) rfl ?_
              refine Wx.gyes rfl rfl (congrArg Value.bool g_111) ?_
              refine Wx.rd (v := .bool (!(ledB (gS l) l.length cb ca))) (rd_not rfl) rfl ?_
              refine Wx.rd (v := .bool (!(ledB (gS l) l.length cb ca))) (rd_pickT (congrArg Value.bool g_111) rfl) rfl ?_
              refine Wx.nil ⟨(), hS, ⟨?_, trivial⟩, Out.look rfl Out.refl⟩
              show Value.bool (!(ledB (gS l) l.length cb ca)) = Value.bool (ledB (gS l) l.length ca cb && !(ledB (gS l) l.length cb ca))
              first | rw [g_111, Bool.true_and] | (rw [g_111]; rfl)
            · -- False
              have gp_113 := g_111
              try simp only [Bool.and_eq_true, Bool.or_eq_true, Bool.not_eq_true', Bool.and_eq_false_iff, Bool.or_eq_false_iff, Bool.not_eq_false', decide_eq_true_eq, decide_eq_false_iff_not, not_or, Bool.false_eq_true, Bool.true_eq_false, false_or, or_false, not_false_eq_true] at gp_113
              refine Wx.gnoB rfl rfl (congrArg Value.bool g_111) rfl rfl ?_
              refine Wx.gnoB rfl rfl (congrArg Value.bool g_111) rfl rfl ?_
              refine Wx.gnoB rfl rfl (congrArg Value.bool g_111) rfl rfl ?_
              refine Wx.gnoB rfl rfl (congrArg Value.bool g_111) rfl rfl ?_
              refine Wx.gnoB rfl rfl (congrArg Value.bool g_111) rfl rfl ?_
              refine Wx.gnoB rfl rfl (congrArg Value.bool g_111) rfl rfl ?_
              refine Wx.gnoB rfl rfl (congrArg Value.bool g_111) rfl rfl ?_
              refine Wx.gnoB rfl rfl (congrArg Value.bool g_111) rfl rfl ?_
              refine Wx.gnoB rfl rfl (congrArg Value.bool g_111) rfl rfl ?_
              refine Wx.rd (v := .bool false) (rd_pickF (congrArg Value.bool g_111) rfl) rfl ?_
              refine Wx.nil ⟨(), hS, ⟨?_, trivial⟩, Out.look rfl Out.refl⟩
              show Value.bool false = Value.bool (ledB (gS l) l.length ca cb && !(ledB (gS l) l.length cb ca))
              first | rw [g_111, Bool.false_and] | (rw [g_111]; rfl)
          rintro ⟨⟩ u_115 w_114 hS
          refine Wx.nil ?_
          refine W.cond rfl (fun c7 => ?_) (fun c7 => ?_)
          · -- yes
            try simp only [Bool.and_eq_true, Bool.or_eq_true, Bool.not_eq_true', Bool.and_eq_false_iff, Bool.or_eq_false_iff, Bool.not_eq_false', decide_eq_true_eq, decide_eq_false_iff_not, not_or, Bool.false_eq_true, Bool.true_eq_false, false_or, or_false, not_false_eq_true] at c7
            refine W.reg ?_
            refine Wx.rd (v := v_94) (rd_move rfl) rfl ?_
            refine Wx.rd (v := .int .i64 ca) (rd_move rfl) rfl ?_
            refine Wx.indexR hS 2 rfl rfl rfl Try.underlying39 Try.sizeOf3 (by first | omega | (simp only [List.length_set, List.length_append, List.length_cons, List.length_nil, List.length_replicate]; omega)) (by first | omega | (simp only [List.length_set, List.length_append, List.length_cons, List.length_nil, List.length_replicate]; omega)) rfl (fun g_116 hg_117 => ?_)
            refine Wx.rd (v := .int .i64 (ix 0 cl2 ca)) (rd_loadRI' hS 2 rfl hg_117 rfl (by first | omega | (simp only [List.length_set, List.length_append, List.length_cons, List.length_nil, List.length_replicate]; omega)) (by first | omega | (simp only [List.length_set, List.length_append, List.length_cons, List.length_nil, List.length_replicate]; omega)) Try.isAgg3 Try.sizeOf3) rfl ?_
            have bd_118 := bd_i64 (hS.rowInK' 2 rfl (by first | omega | (simp only [List.length_set, List.length_append, List.length_cons, List.length_nil, List.length_replicate]; omega)) (by first | omega | (simp only [List.length_set, List.length_append, List.length_cons, List.length_nil, List.length_replicate]; omega)) : InK .i64 (ix 0 cl2 ca))
            have hca := cl_at m2 k0 (by omega)
            have hcb := cntU_bd (G := gS l) (n := l.length) (a := ca) (b := cb) m0
            refine Wx.rd (v := .int .i64 ((ix 0 cl2 ca) + 1)) (rd_add rfl rfl (in_i64 (by omega) (by omega))) rfl ?_
            refine Wx.indexR hS 2 rfl rfl rfl Try.underlying39 Try.sizeOf3 (by first | omega | (simp only [List.length_set, List.length_append, List.length_cons, List.length_nil, List.length_replicate]; omega)) (by first | omega | (simp only [List.length_set, List.length_append, List.length_cons, List.length_nil, List.length_replicate]; omega)) rfl (fun g_119 hg_120 => ?_)
            refine Wx.storeR (j := ca.toNat) (z := (ix 0 cl2 ca) + 1) hS 2 rfl hg_120 rfl (by first | omega | (simp only [List.length_set, List.length_append, List.length_cons, List.length_nil, List.length_replicate]; omega)) rfl (V.mkInt (in_i64 (by omega) (by omega))) Try.sizeOf3 (fun w_121 hz_122 hS => ?_)
            refine Wx.nil ?_
            refine W.reg ?_
            refine Wx.rd (v := .int .i64 (cb + 1)) (rd_add rfl rfl (in_i64 (by omega) (by omega))) rfl ?_
            refine Wx.rd (v := .int .i64 (cb + 1)) (rd_move rfl) rfl ?_
            refine Wx.nil ?_
            refine ⟨(cb + 1, List.set cl2 ca.toNat ((ix 0 cl2 ca) + 1)), (by show (l.length - (cb + 1)).toNat < (l.length - cb).toNat; omega), ?_, ?_, Out.look rfl (Out.hav rfl (Out.look rfl Out.self))⟩
            · exact ⟨hS, (by first | omega | assumption), (by first | omega | assumption), (cl_yes m2 k0 (by omega) m0 c7), (by rw [List.length_set]; exact m3)⟩
            · exact ⟨rfl, trivial⟩
          · -- no
            try simp only [Bool.and_eq_true, Bool.or_eq_true, Bool.not_eq_true', Bool.and_eq_false_iff, Bool.or_eq_false_iff, Bool.not_eq_false', decide_eq_true_eq, decide_eq_false_iff_not, not_or, Bool.false_eq_true, Bool.true_eq_false, false_or, or_false, not_false_eq_true] at c7
            refine W.skip ?_
            refine W.reg ?_
            refine Wx.rd (v := .int .i64 (cb + 1)) (rd_add rfl rfl (in_i64 (by omega) (by omega))) rfl ?_
            refine Wx.rd (v := .int .i64 (cb + 1)) (rd_move rfl) rfl ?_
            refine Wx.nil ?_
            refine ⟨(cb + 1, cl2), (by show (l.length - (cb + 1)).toNat < (l.length - cb).toNat; omega), ?_, ?_, Out.look rfl (Out.hav rfl (Out.look rfl Out.self))⟩
            · exact ⟨hS, (by first | omega | assumption), (by first | omega | assumption), (cl_no m2 m0 c7), (by first | omega | assumption)⟩
            · exact ⟨rfl, trivial⟩
        · -- no
          refine W.exit rfl ?_
          refine W.reg ?_
          refine Wx.rd (v := .int .i64 (ca + 1)) (rd_add rfl rfl (in_i64 (by omega) (by omega))) rfl ?_
          refine Wx.rd (v := .int .i64 (ca + 1)) (rd_move rfl) rfl ?_
          refine Wx.nil ?_
          refine ⟨(ca + 1, cl2), (by show (l.length - (ca + 1)).toNat < (l.length - ca).toNat; omega), ?_, ?_, Out.look rfl (Out.hav rfl (Out.look rfl Out.self))⟩
          · exact ⟨hS.tl, (by first | omega | assumption), (by first | omega | assumption), (cl_row m2 (by omega)), (m3)⟩
          · exact ⟨rfl, trivial⟩
      · -- no
        refine W.exit rfl ?_
        refine W.seq ?_
        refine W.reg ?_
        refine Wx.rd (v := v_94) (rd_move rfl) rfl ?_
        have hce : cl = cntsL l := cl_end k2 (by omega)
        refine Wx.callF (run_callF Try.call95 rfl) (F95r (hS.lend 1 rfl)) rfl ?_
        rintro r_123 w_124 hx_126 ⟨g_125, rfl, hg_127, hh_128⟩
        have hS := hS.pushBox (cs := [v_94]) hx_126 hg_127 hh_128
        refine Wx.callF (run_callF Try.call94 rfl) (F94 (hS.lend 2 rfl) (boxAt hS 0 rfl (Ext.refl _)) (by rw [hce, cnts_len]; omega)) rfl ?_
        rintro r_129 w_130 hx_131 ⟨_, rfl, hv_132⟩
        have hS := hS.pushFr hx_131 hv_132
        refine Wx.callB (run_callF Try.call93 rfl) (F93 (ob := [.box g_125 39 [v_94], Ob.v (tSl (tP (tSl (tI .i64)) (tSl (tI .i64)))) l v_99, .row (tI .i64) 3 v_94 cl, Ob.v (tSl (tP (tSl (tI .i64)) (tSl (tI .i64)))) l v_90, Ob.v (tSl (tI .i64)) best bv, Ob.v (tSl (tP (tSl (tI .i64)) (tSl (tI .i64)))) l v_1])  (hS.front 0 rfl)) rfl ?_
        rintro r_134 w_135 ⟨_, rfl, hS⟩
        have hS : St _ _ w_135 [.row (tI .i64) 3 r_134 (compI (sortI cl)), .box g_125 39 [v_94], Ob.v (tSl (tP (tSl (tI .i64)) (tSl (tI .i64)))) l v_99, .row (tI .i64) 3 v_94 cl, Ob.v (tSl (tP (tSl (tI .i64)) (tSl (tI .i64)))) l v_90, Ob.v (tSl (tI .i64)) best bv, Ob.v (tSl (tP (tSl (tI .i64)) (tSl (tI .i64)))) l v_1] := St.putBack (obs := [.row (tI .i64) 3 r_129 (sortI cl), .box g_125 39 [v_94], Ob.v (tSl (tP (tSl (tI .i64)) (tSl (tI .i64)))) l v_99, .row (tI .i64) 3 v_94 cl, Ob.v (tSl (tP (tSl (tI .i64)) (tSl (tI .i64)))) l v_90, Ob.v (tSl (tI .i64)) best bv, Ob.v (tSl (tP (tSl (tI .i64)) (tSl (tI .i64)))) l v_1]) 0 hS (by simp)
        refine Wx.rd (v := r_134) (rd_assign rfl) rfl ?_
        refine Wx.nil ?_
        refine W.seq ?_
        refine W.seq ?_
        refine W.reg ?_
        refine Wx.rd (v := v_94) (rd_move rfl) rfl ?_
        refine Wx.rd (v := .int .i64 (cl.length : Int)) (rd_lenR hS 3 rfl rfl Try.underlying39) rfl ?_
        refine Wx.rd (v := .int .i64 0) (rd_move rfl) rfl ?_
        refine Wx.nil ?_
        refine W.block ?_
        refine W.loop [13, 14, 139, 140, 141, 142, 143, 144, 145, 146, 147, 148, 149, 150] (fun x : Int × (List Int) => match x with | (i, cl3) => [(139, .int .i64 i)]) (fun (x : Int × (List Int)) w' => match x with | (i, cl3) => St w O w' [.row (tI .i64) 3 r_134 (compI (sortI cl)), .box g_125 39 [v_94], Ob.v (tSl (tP (tSl (tI .i64)) (tSl (tI .i64)))) l v_99, .row (tI .i64) 3 v_94 cl3, Ob.v (tSl (tP (tSl (tI .i64)) (tSl (tI .i64)))) l v_90, Ob.v (tSl (tI .i64)) best bv, Ob.v (tSl (tP (tSl (tI .i64)) (tSl (tI .i64)))) l v_1] ∧ 0 ≤ i ∧ i ≤ l.length ∧ KdI cl (compI (sortI cl)) i cl3 ∧ (cl3.length : Int) = l.length) (fun x : Int × (List Int) => match x with | (i, cl3) => (l.length - i).toNat) (0, cl) ⟨rfl, trivial⟩ ⟨hS, (by first | omega | simp), (by first | omega | simp), (kd_start), (k3)⟩ ?_
        rintro ⟨i, cl3⟩ u_137 w_136 ⟨hS, i0, i1, i2, i3⟩
        refine W.seq ?_
        refine W.reg ?_
        refine Wx.rd (v := .bool (decide (i < (cl.length : Int)))) (rd_lss rfl rfl) rfl ?_
        refine Wx.nil ?_
        refine W.seq ?_
        refine W.condD rfl (fun c8 => ?_) (fun c8 => ?_)
        · -- yes
          refine W.skip ?_
          refine W.seq ?_
          refine W.block ?_
          refine W.seq ?_
          refine W.reg ?_
          refine Wx.rd (v := .int .i64 i) (rd_move rfl) rfl ?_
          refine Wx.indexR hS 3 rfl rfl rfl Try.underlying39 Try.sizeOf3 (by first | omega | (simp only [List.length_set, List.length_append, List.length_cons, List.length_nil, List.length_replicate]; omega)) (by first | omega | (simp only [List.length_set, List.length_append, List.length_cons, List.length_nil, List.length_replicate]; omega)) rfl (fun g_138 hg_139 => ?_)
          refine Wx.rd (v := .int .i64 (ix 0 cl3 i)) (rd_loadRI' hS 3 rfl hg_139 rfl (by first | omega | (simp only [List.length_set, List.length_append, List.length_cons, List.length_nil, List.length_replicate]; omega)) (by first | omega | (simp only [List.length_set, List.length_append, List.length_cons, List.length_nil, List.length_replicate]; omega)) Try.isAgg3 Try.sizeOf3) rfl ?_
          have bd_140 := bd_i64 (hS.rowInK' 3 rfl (by first | omega | (simp only [List.length_set, List.length_append, List.length_cons, List.length_nil, List.length_replicate]; omega)) (by first | omega | (simp only [List.length_set, List.length_append, List.length_cons, List.length_nil, List.length_replicate]; omega)) : InK .i64 (ix 0 cl3 i))
          refine Wx.rd (v := .int .i64 i) (rd_assign rfl) rfl ?_
          refine Wx.rd (v := .int .i64 (ix 0 cl3 i)) (rd_assign rfl) rfl ?_
          refine Wx.nil ?_
          refine W.reg ?_
          refine Wx.rd (v := v_94) (rd_move rfl) rfl ?_
          refine Wx.rd (v := .int .i64 i) (rd_move rfl) rfl ?_
          refine Wx.rd (v := r_134) (rd_move rfl) rfl ?_
          refine Wx.rd (v := .int .i64 (ix 0 cl3 i)) (rd_move rfl) rfl ?_
          refine Wx.callF (run_callF Try.call90 rfl) (F90 (hS.lend 0 rfl) (in_i64 (by omega) (by omega))) rfl ?_
          rintro r_141 w_142 hx_143 rfl
          have hS := hS.ext hx_143
          have hib := idxI_bd (ix 0 cl3 i) (compI (sortI cl)) 0 (by omega)
          have hkl := kinds_len cl
          refine Wx.indexR hS 3 rfl rfl rfl Try.underlying39 Try.sizeOf3 (by first | omega | (simp only [List.length_set, List.length_append, List.length_cons, List.length_nil, List.length_replicate]; omega)) (by first | omega | (simp only [List.length_set, List.length_append, List.length_cons, List.length_nil, List.length_replicate]; omega)) rfl (fun g_144 hg_145 => ?_)
          refine Wx.storeR (j := i.toNat) (z := idxI (ix 0 cl3 i) 0 (compI (sortI cl))) hS 3 rfl hg_145 rfl (by first | omega | (simp only [List.length_set, List.length_append, List.length_cons, List.length_nil, List.length_replicate]; omega)) rfl (V.mkInt (in_i64 (by omega) (by omega))) Try.sizeOf3 (fun w_146 hz_147 hS => ?_)
          refine Wx.nil ?_
          refine W.reg ?_
          refine Wx.rd (v := .int .i64 (i + 1)) (rd_add rfl rfl (in_i64 (by omega) (by omega))) rfl ?_
          refine Wx.rd (v := .int .i64 (i + 1)) (rd_move rfl) rfl ?_
          refine Wx.nil ?_
          refine ⟨(i + 1, List.set cl3 i.toNat (idxI (ix 0 cl3 i) 0 (compI (sortI cl)))), (by show (l.length - (i + 1)).toNat < (l.length - i).toNat; omega), ?_, ?_, Out.look rfl Out.self⟩
          · exact ⟨hS, (by first | omega | assumption), (by first | omega | assumption), (kd_step i2 i0 (by omega)), (by rw [List.length_set]; exact i3)⟩
          · exact ⟨rfl, trivial⟩
        · -- no
          refine W.exit rfl ?_
          refine W.seq ?_
          refine W.reg ?_
          refine Wx.rd (v := v_94) (rd_move rfl) rfl ?_
          refine Wx.rd (v := .agg #[v_94]) (rd_buildC (vs := [(0, v_94)]) (us := [(0, .agg #[v_94])]) rfl (parts_cons (Go.Wk.cells_one (hS.rowOne 3 rfl)) parts_nil) (by kernel_rfl)) rfl ?_
          refine Wx.rd (v := .iface 115 (.agg #[v_94])) (rd_mkI rfl (by kernel_rfl)) rfl ?_
          refine Wx.rd (v := .iface 115 (.agg #[v_94])) (rd_assign rfl) rfl ?_
          refine Wx.nil ?_
          exact W.ret ⟨.iface 115 (.agg #[v_94]), ResIs.one, hS.bel, ⟨(.iface 115 (.agg #[v_94])), rfl, (by exact V.repC hj (by rw [classL, kindsL, ← hce, ← kd_end i2 (by omega)]; exact ((hS.lend 3 rfl).mv (.less (fun _ h => List.mem_append.2 (.inr h))))))⟩⟩
end Go.Proofs.Ytjbcpggikaeleaa

namespace Go.Proofs.Ytjbcpggikaeleaa
open Go.Wk Go.RowKit Go.Lib
set_option linter.unusedVariables false
set_option linter.unusedSimpArgs false
theorem foKz_111_0 : fldOff Try.prog 111 0 = some 0 := by kernel_rfl

theorem F142 {rv : Value} {xs : List Int} {Fr_rv : List (Option Nat)} {w : World} (h_rv : V (tSl (tI .i64)) xs rv Fr_rv w) : Calls Try.prog 142 #[.agg #[rv]] w (Ret w (fun r _ => r = .bool false)) := by
  have a_rv := h_rv.any
  have l_rv := h_rv.len63
  have hS := St.start0 w
  refine enterR Try.func142 rfl Try.ntmps142 Try.results142 rfl ?_
  refine W.seq ?_
  refine W.reg ?_
  refine Wx.box (cs := [rv]) hS rfl rfl rfl (fun g_1 w_2 hx_4 hb_3 hS => ?_)
  refine Wx.rd (v := .bool false) (rd_assign rfl) rfl ?_
  refine Wx.nil ?_
  refine W.seq ?_
  refine W.reg ?_
  refine Wx.rd (v := .bool false) (rd_assign rfl) rfl ?_
  refine Wx.nil ?_
  exact W.ret ⟨.bool false, ResIs.one, hS.bel, rfl⟩

theorem F143 {rv : Value} {xs : List Int} {Fr_rv : List (Option Nat)} {w : World} (h_rv : V (tSl (tI .i64)) xs rv Fr_rv w) : Calls Try.prog 143 #[.agg #[rv]] w (Ret w (fun r _ => r = .bool true)) := by
  have a_rv := h_rv.any
  have l_rv := h_rv.len63
  have hS := St.start0 w
  refine enterR Try.func143 rfl Try.ntmps143 Try.results143 rfl ?_
  refine W.seq ?_
  refine W.reg ?_
  refine Wx.box (cs := [rv]) hS rfl rfl rfl (fun g_1 w_2 hx_4 hb_3 hS => ?_)
  refine Wx.rd (v := .bool false) (rd_assign rfl) rfl ?_
  refine Wx.nil ?_
  refine W.seq ?_
  refine W.reg ?_
  refine Wx.rd (v := .bool true) (rd_assign rfl) rfl ?_
  refine Wx.nil ?_
  exact W.ret ⟨.bool true, ResIs.one, hS.bel, rfl⟩

theorem F29 {g : Int} {v : Value} {l : List ((List Int) × (List Int))} {O : List (Option Nat)} {w : World} (i_g : InK .i64 g) (h_v : V (tSl (tP (tSl (tI .i64)) (tSl (tI .i64)))) l v O w) (hO : ∀ b, some b ∈ O → b < w.heap.size) : Calls Try.prog 29 #[.int .i64 g, v] w (Ret w (fun r _ => r = .tuple #[.bool (tasteE g l), .int .i64 (checkE g l)])) := by
  have b_g := bd_i64 i_g
  have a_v := h_v
  have l_v := h_v.len63
  have hS := St.start w O hO
  refine enterR Try.func29 rfl Try.ntmps29 Try.results29 rfl ?_
  refine W.seq ?_
  refine W.reg ?_
  refine Wx.rd (v := .bool false) (rd_assign rfl) rfl ?_
  refine Wx.rd (v := .int .i64 0) (rd_assign rfl) rfl ?_
  refine Wx.nil ?_
  refine W.seq ?_
  refine W.reg ?_
  refine Wx.rd (v := .int .i64 g) (rd_move rfl) rfl ?_
  refine Wx.rd (v := v) (rd_move rfl) rfl ?_
  refine Wx.callF (run_callF Try.call62 rfl) (F62 i_g (hS.arg a_v) (V.nil (t := (tI .i64))) hS.fb_lt) rfl ?_
  rintro r_1 w_2 hx_3 ⟨v_4, rfl, hv_5⟩
  have hS := hS.ext hx_3
  have hS := hS.add hv_5
  refine Wx.rd (v := .tuple #[v_4, .int .i64 (openE g l ([] : List Int))]) (rd_move rfl) rfl ?_
  refine Wx.rd (v := v_4) (rd_extract rfl rfl) rfl ?_
  refine Wx.rd (v := .int .i64 (openE g l ([] : List Int))) (rd_extract rfl rfl) rfl ?_
  refine Wx.rd (v := v_4) (rd_assign rfl) rfl ?_
  refine Wx.rd (v := .int .i64 (openE g l ([] : List Int))) (rd_assign rfl) rfl ?_
  refine Wx.nil ?_
  refine W.seq ?_
  refine W.seq ?_
  refine W.reg ?_
  refine Wx.rd (v := .int .i64 (openE g l ([] : List Int))) (rd_move rfl) rfl ?_
  refine Wx.rd (v := .bool (decide ((openE g l ([] : List Int)) ≠ 0))) (rd_neq rfl rfl) rfl ?_
  refine Wx.nil ?_
  refine W.condD rfl (fun c0 => ?_) (fun c0 => ?_)
  · -- yes
    refine W.seq ?_
    refine W.reg ?_
    refine Wx.rd (v := .int .i64 (openE g l ([] : List Int))) (rd_move rfl) rfl ?_
    refine Wx.rd (v := .bool false) (rd_assign rfl) rfl ?_
    refine Wx.rd (v := .int .i64 (openE g l ([] : List Int))) (rd_assign rfl) rfl ?_
    refine Wx.nil ?_
    have e0_0 : (tasteE g l) = false := by rw [tasteE, decide_eq_false (by rw [← openE_nil]; exact c0)]; rfl
    have e0_1 : (checkE g l) = (openE g l ([] : List Int) : Int) := by exact openE_nil.symm
    exact W.ret ⟨.tuple #[.bool false, .int .i64 (openE g l ([] : List Int))], ResIs.two, hS.bel, (by rw [e0_0, e0_1])⟩
  · -- no
    have h0c : checkE g l = 0 := by rw [← openE_nil]; omega
    have hsok := SalesOK.of h0c
    have hl6 := hsok.1
    obtain ⟨gd, hgd, hok⟩ := hsok.at
    obtain ⟨g_7, rfl, hm_8⟩ := V.mkOpen (hS.v 0 rfl) (decide_eq_true (by omega))
    have ok_g_7 := V.mkOK hm_8
    have hS := hS.add hm_8
    refine W.skip ?_
    refine W.seq ?_
    refine W.reg ?_
    refine Wx.rd (v := (.pointer (some ⟨g_7, 0, none⟩))) (rd_move rfl) rfl ?_
    refine Wx.callF (run_callF Try.call76 rfl) (F76 (hS.v 0 rfl) hS.fb_lt) rfl ?_
    rintro r_10 w_11 hx_12 ⟨_, rfl, hv_13⟩
    have hS := hS.ext hx_12
    have hS := hS.add hv_13
    rcases V.rep (hS.v 0 rfl) with ⟨hjdg, u_15, rfl, hu_16⟩ | ⟨hjdg, u_15, rfl, hu_16⟩
    · -- classes
      have hS := hS.add hu_16
      have ln_18 := (hS.v 0 rfl).len63
      refine Wx.callF (run_invoke (told115 _) rfl) (F143 (hS.v 0 rfl)) rfl ?_
      rintro r_19 w_20 hx_21 rfl
      have hS := hS.ext hx_21
      refine Wx.rd (v := .bool true) (rd_assign rfl) rfl ?_
      refine Wx.rd (v := .int .i64 0) (rd_assign rfl) rfl ?_
      refine Wx.nil ?_
      have e1_0 : (tasteE g l) = true := by exact taste_yes h0c hjdg
      have e1_1 : (checkE g l) = (0 : Int) := by exact h0c
      exact W.ret ⟨.tuple #[.bool true, .int .i64 0], ResIs.two, hS.bel, (by rw [e1_0, e1_1])⟩
    · -- a ring
      have hS := hS.add hu_16
      have ln_23 := (hS.v 0 rfl).len63
      refine Wx.callF (run_invoke (told111 _) rfl) (F142 (hS.v 0 rfl)) rfl ?_
      rintro r_24 w_25 hx_26 rfl
      have hS := hS.ext hx_26
      refine Wx.rd (v := .bool false) (rd_assign rfl) rfl ?_
      refine Wx.rd (v := .int .i64 0) (rd_assign rfl) rfl ?_
      refine Wx.nil ?_
      have e2_0 : (tasteE g l) = false := by exact taste_no h0c hjdg
      have e2_1 : (checkE g l) = (0 : Int) := by exact h0c
      exact W.ret ⟨.tuple #[.bool false, .int .i64 0], ResIs.two, hS.bel, (by rw [e2_0, e2_1])⟩

theorem F31 {g : Int} {v : Value} {l : List ((List Int) × (List Int))} {O : List (Option Nat)} {w : World} (i_g : InK .i64 g) (h_v : V (tSl (tP (tSl (tI .i64)) (tSl (tI .i64)))) l v O w) (hO : ∀ b, some b ∈ O → b < w.heap.size) : Calls Try.prog 31 #[.int .i64 g, v] w (Ret w (fun r w' => ∃ rv, r = .tuple #[rv, .int .i64 (ringX g l)] ∧ V (tSl (tI .i64)) (ringE g l) rv O w')) := by
  have b_g := bd_i64 i_g
  have a_v := h_v
  have l_v := h_v.len63
  have hS := St.start w O hO
  refine enterR Try.func31 rfl Try.ntmps31 Try.results31 rfl ?_
  refine W.seq ?_
  refine W.reg ?_
  refine Wx.rd (v := (.slice none 0 0)) (rd_assign rfl) rfl ?_
  refine Wx.rd (v := .int .i64 0) (rd_assign rfl) rfl ?_
  refine Wx.nil ?_
  refine W.seq ?_
  refine W.reg ?_
  refine Wx.rd (v := .int .i64 g) (rd_move rfl) rfl ?_
  refine Wx.rd (v := v) (rd_move rfl) rfl ?_
  refine Wx.callF (run_callF Try.call62 rfl) (F62 i_g (hS.arg a_v) (V.nil (t := (tI .i64))) hS.fb_lt) rfl ?_
  rintro r_1 w_2 hx_3 ⟨v_4, rfl, hv_5⟩
  have hS := hS.ext hx_3
  have hS := hS.add hv_5
  refine Wx.rd (v := .tuple #[v_4, .int .i64 (openE g l ([] : List Int))]) (rd_move rfl) rfl ?_
  refine Wx.rd (v := v_4) (rd_extract rfl rfl) rfl ?_
  refine Wx.rd (v := .int .i64 (openE g l ([] : List Int))) (rd_extract rfl rfl) rfl ?_
  refine Wx.rd (v := v_4) (rd_assign rfl) rfl ?_
  refine Wx.rd (v := .int .i64 (openE g l ([] : List Int))) (rd_assign rfl) rfl ?_
  refine Wx.nil ?_
  refine W.seq ?_
  refine W.seq ?_
  refine W.reg ?_
  refine Wx.rd (v := .int .i64 (openE g l ([] : List Int))) (rd_move rfl) rfl ?_
  refine Wx.rd (v := .bool (decide ((openE g l ([] : List Int)) ≠ 0))) (rd_neq rfl rfl) rfl ?_
  refine Wx.nil ?_
  refine W.condD rfl (fun c0 => ?_) (fun c0 => ?_)
  · -- yes
    refine W.seq ?_
    refine W.reg ?_
    refine Wx.rd (v := .int .i64 (openE g l ([] : List Int))) (rd_move rfl) rfl ?_
    refine Wx.rd (v := (.slice none 0 0)) (rd_assign rfl) rfl ?_
    refine Wx.rd (v := .int .i64 (openE g l ([] : List Int))) (rd_assign rfl) rfl ?_
    refine Wx.nil ?_
    have e0_0 : ringE g l = [] := by rw [ringE, if_neg (by rw [← openE_nil]; exact c0)]
    have e0_1 : (ringX g l) = (openE g l ([] : List Int) : Int) := by rw [ringX, if_neg (by rw [← openE_nil]; exact c0)]; exact openE_nil.symm
    exact W.ret ⟨.tuple #[(.slice none 0 0), .int .i64 (openE g l ([] : List Int))], ResIs.two, hS.bel, ⟨(.slice none 0 0), (by rw [e0_1]), (by rw [e0_0]; exact (V.nil (t := (tI .i64))))⟩⟩
  · -- no
    have h0c : checkE g l = 0 := by rw [← openE_nil]; omega
    have hsok := SalesOK.of h0c
    have hl6 := hsok.1
    obtain ⟨gd, hgd, hok⟩ := hsok.at
    obtain ⟨g_7, rfl, hm_8⟩ := V.mkOpen (hS.v 0 rfl) (decide_eq_true (by omega))
    have ok_g_7 := V.mkOK hm_8
    have hS := hS.add hm_8
    refine W.skip ?_
    refine W.seq ?_
    refine W.seq ?_
    refine W.reg ?_
    refine Wx.rd (v := (.pointer (some ⟨g_7, 0, none⟩))) (rd_move rfl) rfl ?_
    refine Wx.callF (run_callF Try.call76 rfl) (F76 (hS.v 0 rfl) hS.fb_lt) rfl ?_
    rintro r_10 w_11 hx_12 ⟨_, rfl, hv_13⟩
    have hS := hS.ext hx_12
    have hS := hS.add hv_13
    rcases V.rep (hS.v 0 rfl) with ⟨hjdg, u_15, rfl, hu_16⟩ | ⟨hjdg, u_15, rfl, hu_16⟩
    · -- classes
      have hS := hS.add hu_16
      have ln_18 := (hS.v 0 rfl).len63
      refine Wx.rd (v := .tuple #[.agg #[(.slice none 0 0)], .bool false]) (rd_assertN rfl Try.underlying111 (by decide) (fun _ => Try.zeroValue111 _)) rfl ?_
      refine Wx.rd (v := .tuple #[.agg #[(.slice none 0 0)], .bool false]) (rd_move rfl) rfl ?_
      refine Wx.rd (v := .agg #[(.slice none 0 0)]) (rd_extract rfl rfl) rfl ?_
      refine Wx.rd (v := .bool false) (rd_extract rfl rfl) rfl ?_
      refine Wx.alloc (cs := [(.slice none 0 0)]) hS Try.zeroValue111 rfl rfl (fun g_19 w_20 hx_22 hb_21 hS => ?_)
      refine Wx.storeX (cs' := [(.slice none 0 0)]) (ds := [(.slice none 0 0)]) hS 0 rfl rfl rfl rfl Try.sizeOf111 (Nat.le_of_ble_eq_true rfl) (one_cons rfl one_nil) rfl (fun w_23 hz_24 hS => ?_)
      refine Wx.rd (v := .bool false) (rd_assign rfl) rfl ?_
      refine Wx.nil ?_
      refine W.seq ?_
      refine W.reg ?_
      refine Wx.rd (v := .bool false) (rd_move rfl) rfl ?_
      refine Wx.nil ?_
      refine W.condF rfl rfl ?_
      refine W.skip ?_
      refine W.seq ?_
      refine W.reg ?_
      refine Wx.rd (v := (.slice none 0 0)) (rd_assign rfl) rfl ?_
      refine Wx.rd (v := .int .i64 13) (rd_assign rfl) rfl ?_
      refine Wx.nil ?_
      have hen := jdg_nil.1 hjdg
      have e1_0 : ringE g l = [] := by rw [ringE, if_pos h0c, hen]; rfl
      have e1_1 : (ringX g l) = (13 : Int) := by rw [ringX, if_pos h0c, if_pos hen]
      exact W.ret ⟨.tuple #[(.slice none 0 0), .int .i64 13], ResIs.two, hS.bel, ⟨(.slice none 0 0), (by rw [e1_1]), (by rw [e1_0]; exact (V.nil (t := (tI .i64))))⟩⟩
    · -- a ring
      have hS := hS.add hu_16
      have ln_26 := (hS.v 0 rfl).len63
      refine Wx.rd (v := .tuple #[.agg #[u_15], .bool true]) (rd_assertY rfl Try.underlying111) rfl ?_
      refine Wx.rd (v := .tuple #[.agg #[u_15], .bool true]) (rd_move rfl) rfl ?_
      refine Wx.rd (v := .agg #[u_15]) (rd_extract rfl rfl) rfl ?_
      refine Wx.rd (v := .bool true) (rd_extract rfl rfl) rfl ?_
      refine Wx.alloc (cs := [(.slice none 0 0)]) hS Try.zeroValue111 rfl rfl (fun g_27 w_28 hx_30 hb_29 hS => ?_)
      refine Wx.storeX (cs' := [u_15]) (ds := [u_15]) hS 0 rfl rfl rfl rfl Try.sizeOf111 (Nat.le_of_ble_eq_true rfl) (one_cons (V.oneC (hS.v 1 rfl)) one_nil) rfl (fun w_31 hz_32 hS => ?_)
      refine Wx.rd (v := .bool true) (rd_assign rfl) rfl ?_
      refine Wx.nil ?_
      refine W.seq ?_
      refine W.reg ?_
      refine Wx.rd (v := .bool true) (rd_move rfl) rfl ?_
      refine Wx.nil ?_
      refine W.condT rfl rfl ?_
      refine W.seq ?_
      refine W.reg ?_
      refine Wx.rd (v := .pointer (some ⟨g_27, 0, none⟩)) (rd_fieldAddr rfl foKz_111_0) rfl ?_
      refine Wx.rd (v := u_15) (rd_loadX hS 0 rfl rfl rfl Try.isAgg39) rfl ?_
      refine Wx.rd (v := u_15) (rd_assign rfl) rfl ?_
      refine Wx.rd (v := .int .i64 0) (rd_assign rfl) rfl ?_
      refine Wx.nil ?_
      have hne := fun e => hjdg (jdg_nil.2 e)
      have e2_0 : ringE g l = jdgV l := by rw [ringE, if_pos h0c]; exact ring_head hjdg
      have e2_1 : (ringX g l) = (0 : Int) := by rw [ringX, if_pos h0c, if_neg hne]
      exact W.ret ⟨.tuple #[u_15, .int .i64 0], ResIs.two, hS.bel, ⟨u_15, (by rw [e2_1]), (by rw [e2_0]; exact (V.mv (hS.v 1 rfl) (.less (fun _ h => List.mem_append.2 (.inr h)))))⟩⟩
end Go.Proofs.Ytjbcpggikaeleaa
