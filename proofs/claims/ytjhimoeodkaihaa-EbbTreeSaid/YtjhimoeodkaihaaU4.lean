/-
  WHAT IS PROVED HERE, TEXT BY TEXT (several texts of one prover, joined to one file; the conditions stand in each statement):
  * WHAT IS PROVED HERE: what functions of layer 1 hand back, each out of its own code; the conditions stand in each statement.
  * WHAT IS PROVED HERE: what functions of layer 1 hand back, each out of its own code; the conditions stand in each statement.
  * WHAT IS PROVED HERE: what functions of layer 1 hand back, each out of its own code; the conditions stand in each statement.
  * WHAT IS PROVED HERE: what functions of layer 1 hand back, each out of its own code; the conditions stand in each statement.
  * WHAT IS PROVED HERE: what functions of layer 1 hand back, each out of its own code; the conditions stand in each statement.
-/
import Derived.Test.YtjhimoeodkaihaaProg
import Derived.Test.YtjhimoeodkaihaaU2
import Derived.Test.YtjhimoeodkaihaaU3

set_option linter.unusedVariables false
set_option linter.unusedSimpArgs false

namespace Go.Proofs.Ytjhimoeodkaihaa
open Go.Wk Go.RowKit Go.Lib
set_option linter.unusedVariables false
set_option linter.unusedSimpArgs false
theorem elLf_110 : ElemI Try.prog 110 4 (.bool false) 1 1 := ElemI.of Try.underlying110 (by kernel_rfl) (by first | rfl | kernel_rfl) (by decide)
theorem elLf_22 : ElemI Try.prog 22 3 (.int .i64 0) 1 8 := ElemI.of Try.underlying22 (by kernel_rfl) (by first | rfl | kernel_rfl) (by decide)
theorem mixedLf_ : Try.prog.follows .mixedOrders = true := by kernel_rfl

set_option maxHeartbeats 4000000 in
theorem F65 {R : Int} {C : Int} {hv : Value} {H : List Int} {a : Int} {f : Int → Bool} {gm : Nat} {cm : List Value} {O : List (Option Nat)} {w : World} (i_R : InK .i64 R) (i_C : InK .i64 C) (h_hv : V (tSl (tI .i64)) H hv O w) (i_a : InK .i64 a) (p_ok : SOK R C H) (p_a : 0 ≤ a ∧ a < (H.length : Int)) (p_may : MayF Try.prog gm cm f H.length w) (hO : ∀ b, some b ∈ O → b < w.heap.size) : Calls Try.prog 65 #[.agg #[.int .i64 R, .int .i64 C, hv], .int .i64 a, (.func (.func gm) #[] cm.toArray)] w (Ret w (fun r w' => ∃ rv, r = rv ∧ Fresh (tI .i64) 3 (floodV (adjB C) H.length f a) rv w.heap.size w')) := by
  have b_a := bd_i64 i_a
  have b_C := bd_i64 i_C
  have b_R := bd_i64 i_R
  obtain ⟨⟨r1, r2⟩, ⟨c1_, c2_⟩, hRC, ⟨n1, n36⟩, hCn, hok⟩ := id p_ok
  have a0 := p_a.1
  have a1 := p_a.2
  have a_hv := h_hv
  have l_hv := h_hv.len63
  have hS := St.start w O hO
  have hS : St w O w (DOb []) := hS
  refine enterMR (O := O) Try.func65 rfl Try.ntmps65 Try.results65 rfl ?_
  refine WD.seq ?_
  refine WD.ofW ?_
  refine W.reg ?_
  refine Wx.box (cs := [.int .i64 R, .int .i64 C, hv]) hS rfl rfl rfl (fun g_1 w_2 hx_4 hb_3 hS => ?_)
  refine Wx.box (cs := [(.func (.func gm) #[] cm.toArray)]) hS rfl rfl rfl (fun g_5 w_6 hx_8 hb_7 hS => ?_)
  refine Wx.rd (v := (.slice none 0 0)) (rd_assign rfl) rfl ?_
  refine Wx.nil ?_
  refine WD.seq ?_
  refine WD.ofW ?_
  refine W.seq ?_
  refine W.reg ?_
  refine Wx.rd (v := (.func (.func gm) #[] cm.toArray)) (rd_loadX hS 0 rfl rfl rfl Try.isAgg81) rfl ?_
  refine Wx.rd (v := .int .i64 a) (rd_move rfl) rfl ?_
  refine Wx.callF (run_callC (fs := []) (cs := cm) (vs := (.int .i64 a) :: cm) p_may.ent rfl rfl) (p_may.call _ _ (by omega) (by omega) hS.bel) rfl ?_
  rintro r_9 w_10 hx_11 rfl
  have hS := hS.ext hx_11
  refine Wx.rd (v := .bool (!(f a))) (rd_not rfl) rfl ?_
  refine Wx.nil ?_
  refine W.cond rfl (fun c0 => ?_) (fun c0 => ?_)
  · -- yes
    try simp only [Bool.and_eq_true, Bool.or_eq_true, Bool.not_eq_true', Bool.and_eq_false_iff, Bool.or_eq_false_iff, Bool.not_eq_false', decide_eq_true_eq, decide_eq_false_iff_not, not_or, Bool.false_eq_true, Bool.true_eq_false, false_or, or_false, not_false_eq_true] at c0
    refine W.seq ?_
    refine W.reg ?_
    refine Wx.rd (v := (.slice none 0 0)) (rd_assign rfl) rfl ?_
    refine Wx.nil ?_
    have hS : St _ _ w_10 (.box g_5 81 [(.func (.func gm) #[] cm.toArray)] :: .box g_1 24 [.int .i64 R, .int .i64 C, hv] :: DOb []) := hS
    refine W.ret ⟨[.box g_5 81 [(.func (.func gm) #[] cm.toArray)], .box g_1 24 [.int .i64 R, .int .i64 C, hv]], hS, fun w_12 hS => ?_⟩
    have e0_0 : floodV (adjB C) H.length f a = [] := by rw [floodV, if_neg (by rw [c0]; decide)]
    exact ⟨(.slice none 0 0), ResIs.one, hS.bel, ⟨(.slice none 0 0), rfl, (by rw [e0_0]; exact ((hS.addNil (tI .i64) 3).fr 0 rfl flat_int))⟩⟩
  · -- no
    try simp only [Bool.and_eq_true, Bool.or_eq_true, Bool.not_eq_true', Bool.and_eq_false_iff, Bool.or_eq_false_iff, Bool.not_eq_false', decide_eq_true_eq, decide_eq_false_iff_not, not_or, Bool.false_eq_true, Bool.true_eq_false, false_or, or_false, not_false_eq_true] at c0
    refine W.skip ?_
    refine WD.seq ?_
    refine WD.ofW ?_
    refine W.reg ?_
    refine Wx.rd (v := .agg #[.int .i64 R, .int .i64 C, hv]) (rd_loadXs (ds := [.int .i64 R, .int .i64 C, hv]) hS 1 rfl rfl rfl rfl Try.isAgg24 Try.sizeOf24) rfl ?_
    refine Wx.callF (run_callF Try.call56 rfl) (F56 i_R i_C (hS.arg a_hv)) rfl ?_
    rintro r_13 w_14 hx_15 rfl
    have hS := hS.ext hx_15
    refine Wx.rd (v := .int .i64 ((H.length : Int) + 1)) (rd_add rfl rfl (in_i64 (by omega) (by omega))) rfl ?_
    refine Wx.make (t := tBool) (zy := false) (m := (H.length + 1)) elLf_110 rfl rfl (fun _ _ => rfl) hS (congrArg (Value.int .i64) rfl) (congrArg (Value.int .i64) rfl) (by omega) (by simp only [maxLen]; omega) rfl (fun v_16 w_17 hx_18 hS => ?_)
    refine Wx.alloc (cs := [(.slice none 0 0)]) hS Try.zeroValue110 rfl rfl (fun g_21 w_22 hx_24 hb_23 hS => ?_)
    refine Wx.storeX (cs' := [v_16]) (ds := [v_16]) hS 0 rfl rfl rfl (Go.Wk.cells_one (hS.rowOne 1 rfl)) Try.sizeOf110 (Nat.le_of_ble_eq_true rfl) (one_cons (hS.rowOne 1 rfl) one_nil) rfl (fun w_25 hz_26 hS => ?_)
    refine Wx.nil ?_
    refine WD.seq ?_
    refine WD.ofW ?_
    refine W.reg ?_
    refine Wx.rd (v := v_16) (rd_loadX hS 0 rfl rfl rfl Try.isAgg110) rfl ?_
    refine Wx.rd (v := .int .i64 a) (rd_move rfl) rfl ?_
    refine Wx.indexR hS 1 rfl rfl rfl Try.underlying110 Try.sizeOf4 (by first | omega | (simp only [List.length_set, List.length_append, List.length_cons, List.length_nil, List.length_replicate]; omega)) (by simp; omega) rfl (fun g_27 hg_28 => ?_)
    refine Wx.storeR (j := a.toNat) (z := true) hS 1 rfl hg_28 rfl (by first | omega | (simp only [List.length_set, List.length_append, List.length_cons, List.length_nil, List.length_replicate]; omega)) rfl ⟨[.bool true], rfl, rfl⟩ Try.sizeOf4 (fun w_29 hz_30 hS => ?_)
    refine Wx.nil ?_
    refine WD.seq ?_
    refine WD.ofW ?_
    refine W.reg ?_
    refine Wx.rd (v := .int .i64 a) (rd_move rfl) rfl ?_
    refine Wx.lit (t := (tI .i64)) (ys := [a]) (vs := [.int .i64 a]) elLf_22 hS rfl rfl ⟨(V.mkInt (in_i64 (by omega) (by omega))), trivial⟩ (by decide) rfl (fun v_31 w_32 hx_33 hS => ?_)
    refine Wx.alloc (cs := [(.slice none 0 0)]) hS Try.zeroValue22 rfl rfl (fun g_34 w_35 hx_37 hb_36 hS => ?_)
    refine Wx.storeX (cs' := [v_31]) (ds := [v_31]) hS 0 rfl rfl rfl (Go.Wk.cells_one (hS.rowOne 1 rfl)) Try.sizeOf22 (Nat.le_of_ble_eq_true rfl) (one_cons (hS.rowOne 1 rfl) one_nil) rfl (fun w_38 hz_39 hS => ?_)
    refine Wx.nil ?_
    refine WD.seq ?_
    refine WD.ofW ?_
    refine W.reg ?_
    refine Wx.rd (v := .int .i64 a) (rd_move rfl) rfl ?_
    refine Wx.lit (t := (tI .i64)) (ys := [a]) (vs := [.int .i64 a]) elLf_22 hS rfl rfl ⟨(V.mkInt (in_i64 (by omega) (by omega))), trivial⟩ (by decide) rfl (fun v_40 w_41 hx_42 hS => ?_)
    refine Wx.alloc (cs := [(.slice none 0 0)]) hS Try.zeroValue22 rfl rfl (fun g_43 w_44 hx_46 hb_45 hS => ?_)
    refine Wx.storeX (cs' := [v_40]) (ds := [v_40]) hS 0 rfl rfl rfl (Go.Wk.cells_one (hS.rowOne 1 rfl)) Try.sizeOf22 (Nat.le_of_ble_eq_true rfl) (one_cons (hS.rowOne 1 rfl) one_nil) rfl (fun w_47 hz_48 hS => ?_)
    refine Wx.nil ?_
    refine WD.seq ?_
    refine WD.block ?_
    have hfa := c0
    have hq0 := QTail.self hS 3 rfl (by simp)
    refine WD.loop [10, 27, 28, 29, 30, 31, 32, 33, 34, 35, 36, 37] (fun x : (List Bool) × Value × (List Int) × Value × (List Int) × Value × Nat × Int × (List Nat) => match x with | (met, qv, qs, ov, out, qq, qj, i, Ds) => []) (fun (x : (List Bool) × Value × (List Int) × Value × (List Int) × Value × Nat × Int × (List Nat)) w' => match x with | (met, qv, qs, ov, out, qq, qj, i, Ds) => St w O w' (.box g_43 22 [ov] :: .row (tI .i64) 3 ov out :: .box g_34 22 [qq] :: .row (tI .i64) 3 qv qs :: .box g_21 110 [v_16] :: .row tBool 4 v_16 met :: .box g_5 81 [(.func (.func gm) #[] cm.toArray)] :: .box g_1 24 [.int .i64 R, .int .i64 C, hv] :: DOb Ds) ∧ 0 ≤ i ∧ i ≤ out.length ∧ BfI (adjB C) H.length f a i 0 out ∧ QTail qv qj qq ∧ qs.drop qj = out.drop (i).toNat ∧ qs.length ≤ out.length ∧ Marks H.length met out) (fun x : (List Bool) × Value × (List Int) × Value × (List Int) × Value × Nat × Int × (List Nat) => match x with | (met, qv, qs, ov, out, qq, qj, i, Ds) => (H.length - i).toNat) (fun x : (List Bool) × Value × (List Int) × Value × (List Int) × Value × Nat × Int × (List Nat) => match x with | (met, qv, qs, ov, out, qq, qj, i, Ds) => Ds) (List.set (List.replicate (H.length + 1) false) a.toNat true, v_31, [a], v_40, [a], v_31, 0, 0, []) trivial rfl ⟨hS, (by first | omega | simp), (by simp), (bf_start p_a c0), (hq0), (rfl), (Nat.le_refl _), (mk_start (by omega) p_a)⟩ ?_
    rintro ⟨met, qv, qs, ov, out, qq, qj, i, Ds⟩ u_50 w_49 ⟨hS, h0, h1, h2, hq, qd, ql, mk⟩
    refine WD.seq ?_
    refine WD.ofW ?_
    refine W.seq ?_
    refine W.reg ?_
    refine Wx.rd (v := qq) (rd_loadX hS 2 rfl rfl rfl Try.isAgg22) rfl ?_
    refine Wx.rd (v := .int .i64 ((out.length : Int) - i)) (Rd.to (v := .int .i64 ((qs.drop qj).length : Int)) (rd_lenQ hS 3 rfl hq rfl Try.underlying22) (congrArg (Value.int .i64) (show ((out.length : Int) - i : Int) = (((qs.drop qj).length : Int) : Int) from (by rw [qd, List.length_drop]; omega)).symm)) rfl ?_
    refine Wx.rd (v := .bool (decide (0 < ((out.length : Int) - i)))) (rd_gtr rfl rfl) rfl ?_
    refine Wx.nil ?_
    refine W.condD rfl (fun c1 => ?_) (fun c1 => ?_)
    · -- yes
      have hqh := q_head qd h0 (show i < out.length by omega)
      have hpl := bf_in h2 h0 (show i < out.length by omega)
      have hol := bf_len (by omega) h2
      refine W.skip ?_
      refine WD.block ?_
      refine WD.seq ?_
      refine WD.ofW ?_
      refine W.reg ?_
      refine Wx.rd (v := qq) (rd_loadX hS 2 rfl rfl rfl Try.isAgg22) rfl ?_
      refine Wx.indexQ hS 3 rfl hq rfl rfl Try.underlying22 Try.sizeOf3 hqh.1 rfl (fun g_51 hg_52 => ?_)
      refine Wx.rd (v := .int .i64 (ix 0 out i)) (Rd.to (v := .int .i64 (ix 0 qs ((qj : Nat) : Int))) (rd_loadRI' hS 3 rfl hg_52 rfl (by omega) (Int.ofNat_lt.2 hqh.1) Try.isAgg3 Try.sizeOf3) (congrArg (Value.int .i64) (show (ix 0 out i : Int) = (ix 0 qs ((qj : Nat) : Int) : Int) from hqh.2.1.symm).symm)) rfl ?_
      have bd_53 := bd_i64 (hS.rowInK' 3 rfl (by omega) (Int.ofNat_lt.2 hqh.1) : InK .i64 (ix 0 qs ((qj : Nat) : Int)))
      refine Wx.rd (v := .int .i64 (ix 0 out i)) (rd_assign rfl) rfl ?_
      refine Wx.nil ?_
      refine WD.seq ?_
      refine WD.ofW ?_
      refine W.reg ?_
      refine Wx.rd (v := qq) (rd_loadX hS 2 rfl rfl rfl Try.isAgg22) rfl ?_
      refine Wx.ex (rd_tailQ hS 3 rfl hq Try.underlying22 Try.sizeOf3 rfl rfl hqh.1) rfl (fun q9 hq9 => ?_)
      refine Wx.storeX (cs' := [q9]) (ds := [q9]) hS 2 rfl rfl rfl (Go.Wk.cells_one (QTail.oneC hq9)) Try.sizeOf22 (Nat.le_of_ble_eq_true rfl) (one_cons (QTail.oneC hq9) one_nil) rfl (fun w_54 hz_55 hS => ?_)
      refine Wx.nil ?_
      refine WD.seq ?_
      refine WD.ofW ?_
      refine W.reg ?_
      refine Wx.rd (v := .agg #[.int .i64 R, .int .i64 C, hv]) (rd_loadXs (ds := [.int .i64 R, .int .i64 C, hv]) hS 7 rfl rfl rfl rfl Try.isAgg24 Try.sizeOf24) rfl ?_
      refine Wx.rd (v := .int .i64 (ix 0 out i)) (rd_move rfl) rfl ?_
      refine Wx.callB (run_callF Try.call73 rfl) (F73 hS (hS.arg a_hv)) rfl ?_
      rintro r_56 w_57 ⟨gn_58, gs_59, rfl, hS⟩
      refine Wx.nil ?_
      refine WD.block ?_
      have hS := hS.add (hS.arg a_hv)
      have hS := hS.front 10 rfl
      have hS := hS.front 10 rfl
      have hS := hS.front 10 rfl
      have hS := hS.front 10 rfl
      have hS := hS.front 10 rfl
      have hS := hS.front 10 rfl
      have hS := hS.front 10 rfl
      have hS := hS.front 10 rfl
      have hS := hS.front 8 rfl
      have hS := hS.front 10 rfl
      have hS := hS.front 10 rfl
      have hS : St _ _ w_57 (.box gn_58 3 [.int .i64 (ix 0 out i)] :: .box gs_59 24 [.int .i64 R, .int .i64 C, hv] :: Ob.v (tSl (tI .i64)) H hv :: .box g_43 22 [ov] :: .row (tI .i64) 3 ov out :: .box g_34 22 [q9] :: .row (tI .i64) 3 qv qs :: .box g_21 110 [v_16] :: .row tBool 4 v_16 met :: .box g_5 81 [(.func (.func gm) #[] cm.toArray)] :: .box g_1 24 [.int .i64 R, .int .i64 C, hv] :: DOb Ds) := hS
      refine WD.range (ob := [.box g_43 22 [ov], .row (tI .i64) 3 ov out, .box g_34 22 [q9], .row (tI .i64) 3 qv qs, .box g_21 110 [v_16], .row tBool 4 v_16 met, .box g_5 81 [(.func (.func gm) #[] cm.toArray)], .box g_1 24 [.int .i64 R, .int .i64 C, hv]]) (nbW C H.length (ix 0 out i)) (fun ls ob => ∃ (met2 : List Bool) (qv2 : Value) (qs2 : List Int) (ov2 : Value) (out2 : List Int) (qq2 : Value) (qj2 : Nat), (BfP (adjB C) H.length f a i (fun x => x ∈ ls) out2) ∧ (QTail qv2 qj2 qq2) ∧ (qs2.drop qj2 = out2.drop (i + 1).toNat) ∧ (qs2.length ≤ out2.length) ∧ (Marks H.length met2 out2) ∧ (ix 0 out2 i = ix 0 out i) ∧ (i < out2.length) ∧ ob = [.box g_43 22 [ov2], .row (tI .i64) 3 ov2 out2, .box g_34 22 [qq2], .row (tI .i64) 3 qv2 qs2, .box g_21 110 [v_16], .row tBool 4 v_16 met2, .box g_5 81 [(.func (.func gm) #[] cm.toArray)], .box g_1 24 [.int .i64 R, .int .i64 C, hv]]) (fun _ _ _ => False) [] rfl Try.call85 rfl rfl (iter85 p_ok hpl) hS ⟨met, qv, qs, ov, out, q9, (qj + 1), (bp_open h2), (hq9), (hqh.2.2), (ql), (mk), (rfl), (by omega), rfl⟩ ?_ ?_ ?_
      · -- a round
        rintro ls m pre_64 _ w_63 hpx ⟨met2, qv2, qs2, ov2, out2, qq2, qj2, m1, hq2, qd2, ql2, mk2, m2, m3, rfl⟩ hS
        have hm := mem_nbW.1 (mem_pre hpx)
        have hm0 : 0 ≤ m ∧ m ≤ (H.length : Int) := by rcases hm with ⟨q, _⟩ | q <;> omega
        have hml := mk2.1
        refine W.block ?_
        refine W.seq ?_
        refine W.reg ?_
        refine Wx.rd (v := .int .i64 m) (rd_move rfl) rfl ?_
        refine Wx.rd (v := .agg #[.int .i64 R, .int .i64 C, hv]) (rd_loadXs (ds := [.int .i64 R, .int .i64 C, hv]) hS 7 rfl rfl rfl rfl Try.isAgg24 Try.sizeOf24) rfl ?_
        refine Wx.callF (run_callF Try.call56 rfl) (F56 i_R i_C (hS.arg a_hv)) rfl ?_
        rintro r_65 w_66 hx_67 rfl
        have hS := hS.ext hx_67
        refine Wx.rd (v := .bool (decide (m < (H.length : Int)))) (rd_lss rfl rfl) rfl ?_
        refine Wx.rd (v := .bool (decide (m < (H.length : Int)))) (rd_move rfl) rfl ?_
        refine Wx.cut (X := Unit) 6 [44, 45, 46, 47, 48, 49] (fun _ => [(49, .bool (decide (m < (H.length : Int)) && !(ix false met2 m)))]) (fun _ w' => St w O w' (.box g_43 22 [ov2] :: .row (tI .i64) 3 ov2 out2 :: .box g_34 22 [qq2] :: .row (tI .i64) 3 qv2 qs2 :: .box g_21 110 [v_16] :: .row tBool 4 v_16 met2 :: .box g_5 81 [(.func (.func gm) #[] cm.toArray)] :: .box g_1 24 [.int .i64 R, .int .i64 C, hv] :: pre_64)) ?_ ?_
        · rcases Bool.eq_false_or_eq_true (decide (m < (H.length : Int))) with g_68 | g_68
          · -- True
            have gp_69 := of_decide_eq_true g_68
            refine Wx.gyes rfl rfl (congrArg Value.bool g_68) ?_
            refine Wx.rd (v := v_16) (rd_loadX hS 4 rfl rfl rfl Try.isAgg110) rfl ?_
            refine Wx.gyes rfl rfl (congrArg Value.bool g_68) ?_
            refine Wx.rd (v := .int .i64 m) (rd_move rfl) rfl ?_
            refine Wx.gyes rfl rfl (congrArg Value.bool g_68) ?_
            refine Wx.indexR hS 5 rfl rfl rfl Try.underlying110 Try.sizeOf4 (by first | omega | (simp only [List.length_set, List.length_append, List.length_cons, List.length_nil, List.length_replicate]; omega)) (by first | omega | (simp only [List.length_set, List.length_append, List.length_cons, List.length_nil, List.length_replicate]; omega)) rfl (fun g_70 hg_71 => ?_)
            refine Wx.gyes rfl rfl (congrArg Value.bool g_68) ?_
            refine Wx.ex (rd_loadR' false hS 5 rfl hg_71 rfl (by first | omega | (simp only [List.length_set, List.length_append, List.length_cons, List.length_nil, List.length_replicate]; omega)) (by first | omega | (simp only [List.length_set, List.length_append, List.length_cons, List.length_nil, List.length_replicate]; omega)) Try.isAgg4 Try.sizeOf4) rfl (fun v_72 hv_73 => ?_)
            obtain rfl := hv_73.bool
            refine Wx.gyes rfl rfl (congrArg Value.bool g_68) ?_
            refine Wx.rd (v := .bool (!(ix false met2 m))) (rd_not rfl) rfl ?_
            refine Wx.rd (v := .bool (!(ix false met2 m))) (rd_pickT (congrArg Value.bool g_68) rfl) rfl ?_
            refine Wx.nil ⟨(), hS, ⟨?_, trivial⟩, Out.look rfl Out.refl⟩
            show Value.bool (!(ix false met2 m)) = Value.bool (decide (m < (H.length : Int)) && !(ix false met2 m))
            first | rw [g_68, Bool.true_and] | (rw [g_68]; rfl)
          · -- False
            have gp_74 := of_decide_eq_false g_68
            refine Wx.gnoB rfl rfl (congrArg Value.bool g_68) rfl rfl ?_
            refine Wx.gnoB rfl rfl (congrArg Value.bool g_68) rfl rfl ?_
            refine Wx.gnoB rfl rfl (congrArg Value.bool g_68) rfl rfl ?_
            refine Wx.gnoB rfl rfl (congrArg Value.bool g_68) rfl rfl ?_
            refine Wx.gnoB rfl rfl (congrArg Value.bool g_68) rfl rfl ?_
            refine Wx.rd (v := .bool false) (rd_pickF (congrArg Value.bool g_68) rfl) rfl ?_
            refine Wx.nil ⟨(), hS, ⟨?_, trivial⟩, Out.look rfl Out.refl⟩
            show Value.bool false = Value.bool (decide (m < (H.length : Int)) && !(ix false met2 m))
            first | rw [g_68, Bool.false_and] | (rw [g_68]; rfl)
        rintro ⟨⟩ u_76 w_75 hS
        refine Wx.rd (v := .bool (decide (m < (H.length : Int)) && !(ix false met2 m))) (rd_move rfl) rfl ?_
        refine Wx.cut (X := Unit) 4 [51, 52, 53, 54] (fun _ => [(54, .bool ((decide (m < (H.length : Int)) && !(ix false met2 m)) && f m))]) (fun _ w' => St w O w' (.box g_43 22 [ov2] :: .row (tI .i64) 3 ov2 out2 :: .box g_34 22 [qq2] :: .row (tI .i64) 3 qv2 qs2 :: .box g_21 110 [v_16] :: .row tBool 4 v_16 met2 :: .box g_5 81 [(.func (.func gm) #[] cm.toArray)] :: .box g_1 24 [.int .i64 R, .int .i64 C, hv] :: pre_64)) ?_ ?_
        · rcases Bool.eq_false_or_eq_true (decide (m < (H.length : Int)) && !(ix false met2 m)) with g_77 | g_77
          · -- True
            have gp_78 := g_77
            try simp only [Bool.and_eq_true, Bool.or_eq_true, Bool.not_eq_true', Bool.and_eq_false_iff, Bool.or_eq_false_iff, Bool.not_eq_false', decide_eq_true_eq, decide_eq_false_iff_not, not_or, Bool.false_eq_true, Bool.true_eq_false, false_or, or_false, not_false_eq_true] at gp_78
            refine Wx.gyes rfl rfl (congrArg Value.bool g_77) ?_
            refine Wx.rd (v := (.func (.func gm) #[] cm.toArray)) (rd_loadX hS 6 rfl rfl rfl Try.isAgg81) rfl ?_
            refine Wx.gyes rfl rfl (congrArg Value.bool g_77) ?_
            refine Wx.rd (v := .int .i64 m) (rd_move rfl) rfl ?_
            refine Wx.gyes rfl rfl (congrArg Value.bool g_77) ?_
            refine Wx.callF (run_callC (fs := []) (cs := cm) (vs := (.int .i64 m) :: cm) p_may.ent rfl rfl) (p_may.call _ _ (by omega) (by omega) hS.bel) rfl ?_
            rintro r_79 w_80 hx_81 rfl
            have hS := hS.ext hx_81
            refine Wx.rd (v := .bool (f m)) (rd_pickT (congrArg Value.bool g_77) rfl) rfl ?_
            refine Wx.nil ⟨(), hS, ⟨?_, trivial⟩, Out.look rfl Out.refl⟩
            show Value.bool (f m) = Value.bool ((decide (m < (H.length : Int)) && !(ix false met2 m)) && f m)
            first | rw [g_77, Bool.true_and] | (rw [g_77]; rfl)
          · -- False
            have gp_82 := g_77
            try simp only [Bool.and_eq_true, Bool.or_eq_true, Bool.not_eq_true', Bool.and_eq_false_iff, Bool.or_eq_false_iff, Bool.not_eq_false', decide_eq_true_eq, decide_eq_false_iff_not, not_or, Bool.false_eq_true, Bool.true_eq_false, false_or, or_false, not_false_eq_true] at gp_82
            refine Wx.gnoB rfl rfl (congrArg Value.bool g_77) rfl rfl ?_
            refine Wx.gnoB rfl rfl (congrArg Value.bool g_77) rfl rfl ?_
            refine Wx.gnoB rfl rfl (congrArg Value.bool g_77) rfl rfl ?_
            refine Wx.rd (v := .bool false) (rd_pickF (congrArg Value.bool g_77) rfl) rfl ?_
            refine Wx.nil ⟨(), hS, ⟨?_, trivial⟩, Out.look rfl Out.refl⟩
            show Value.bool false = Value.bool ((decide (m < (H.length : Int)) && !(ix false met2 m)) && f m)
            first | rw [g_77, Bool.false_and] | (rw [g_77]; rfl)
        rintro ⟨⟩ u_84 w_83 hS
        refine Wx.nil ?_
        refine W.cond rfl (fun c2 => ?_) (fun c2 => ?_)
        · -- yes
          try simp only [Bool.and_eq_true, Bool.or_eq_true, Bool.not_eq_true', Bool.and_eq_false_iff, Bool.or_eq_false_iff, Bool.not_eq_false', decide_eq_true_eq, decide_eq_false_iff_not, not_or, Bool.false_eq_true, Bool.true_eq_false, false_or, or_false, not_false_eq_true] at c2
          have hol2 := bp_len (by omega) m1
          have hma : adjB C (ix 0 out i) m = true := by rcases hm with q | q; exact q.2; omega
          refine W.seq ?_
          refine W.reg ?_
          refine Wx.rd (v := v_16) (rd_loadX hS 4 rfl rfl rfl Try.isAgg110) rfl ?_
          refine Wx.rd (v := .int .i64 m) (rd_move rfl) rfl ?_
          refine Wx.indexR hS 5 rfl rfl rfl Try.underlying110 Try.sizeOf4 (by first | omega | (simp only [List.length_set, List.length_append, List.length_cons, List.length_nil, List.length_replicate]; omega)) (by first | omega | (simp only [List.length_set, List.length_append, List.length_cons, List.length_nil, List.length_replicate]; omega)) rfl (fun g_85 hg_86 => ?_)
          refine Wx.storeR (j := m.toNat) (z := true) hS 5 rfl hg_86 rfl (by first | omega | (simp only [List.length_set, List.length_append, List.length_cons, List.length_nil, List.length_replicate]; omega)) rfl ⟨[.bool true], rfl, rfl⟩ Try.sizeOf4 (fun w_87 hz_88 hS => ?_)
          refine Wx.nil ?_
          refine W.cutK [58, 59, 60, 61, 62, 63, 64, 65] (fun x : Value × (List Int) × Value × (List Int) × Value × Nat => match x with | (qv3, qs3, ov3, out3, qq3, qj3) => []) (fun (x : Value × (List Int) × Value × (List Int) × Value × Nat) w' => match x with | (qv3, qs3, ov3, out3, qq3, qj3) => St w O w' (.box g_43 22 [ov3] :: .row (tI .i64) 3 ov3 out3 :: .box g_34 22 [qq3] :: .row (tI .i64) 3 qv3 qs3 :: .box g_21 110 [v_16] :: .row tBool 4 v_16 (List.set met2 m.toNat true) :: .box g_5 81 [(.func (.func gm) #[] cm.toArray)] :: .box g_1 24 [.int .i64 R, .int .i64 C, hv] :: pre_64) ∧ QTail qv3 qj3 qq3 ∧ qs3.drop qj3 = qs2.drop qj2 ++ [m] ∧ qs3.length ≤ qs2.length + 1 ∧ out3 = out2 ++ [m]) ?_ ?_
          · -- up to the cut
            refine W.regP mixedLf_ (fun w_89 hx_90 => ?_)
            have hS := hS.ext hx_90
            refine Wp.rd (v := .int .i64 m) 1 rfl (by kernel_rfl) (fun _ => (rd_move rfl)) rfl ?_
            refine Wp.rd (v := .int .i64 m) 5 rfl (by kernel_rfl) (fun _ => (rd_move rfl)) rfl ?_
            refine Wp.br [0, 2, 4, 6] (by kernel_rfl) (by decide) ⟨⟨_, rfl, ?_⟩, ⟨_, rfl, ?_⟩, ⟨_, rfl, ?_⟩, ⟨_, rfl, ?_⟩, trivial⟩
            · -- operation 0
              refine Wx.rd (v := qq2) (rd_loadX hS 2 rfl rfl rfl Try.isAgg22) rfl ?_
              refine Wx.nil ?_
              refine Wp.br [2, 4, 6] (by kernel_rfl) (by decide) ⟨⟨_, rfl, ?_⟩, ⟨_, rfl, ?_⟩, ⟨_, rfl, ?_⟩, trivial⟩
              · -- operation 2
                refine Wx.lit (t := (tI .i64)) (ys := [m]) (vs := [.int .i64 m]) elLf_22 hS rfl rfl ⟨(V.mkInt (in_i64 (by omega) (by omega))), trivial⟩ (by decide) rfl (fun v_91 w_92 hx_93 hS => ?_)
                refine Wx.nil ?_
                refine Wp.br [3, 4, 6] (by kernel_rfl) (by decide) ⟨⟨_, rfl, ?_⟩, ⟨_, rfl, ?_⟩, ⟨_, rfl, ?_⟩, trivial⟩
                · -- operation 3
                  refine Wx.appendQ elLf_22 hS 4 rfl hq2 rfl rfl (Src.ofR hS 0 rfl) (by simp) (by first | omega | (simp; omega)) (by first | omega | (simp; omega)) rfl (fun v_94 q14 y14 j14 w_98 hz_99 hq14 he14 hl14 hj14 hS => ?_)
                  refine Wx.nil ?_
                  refine Wp.br [4, 6] (by kernel_rfl) (by decide) ⟨⟨_, rfl, ?_⟩, ⟨_, rfl, ?_⟩, trivial⟩
                  · -- operation 4
                    refine Wx.rd (v := ov2) (rd_loadX hS 1 rfl rfl rfl Try.isAgg22) rfl ?_
                    refine Wx.nil ?_
                    refine Wp.br [6] (by kernel_rfl) (by decide) ⟨⟨_, rfl, ?_⟩, trivial⟩
                    refine Wx.lit (t := (tI .i64)) (ys := [m]) (vs := [.int .i64 m]) elLf_22 hS rfl rfl ⟨(V.mkInt (in_i64 (by omega) (by omega))), trivial⟩ (by decide) rfl (fun v_104 w_105 hx_106 hS => ?_)
                    refine Wx.nil ?_
                    refine Wp.br [7] (by kernel_rfl) (by decide) ⟨⟨_, rfl, ?_⟩, trivial⟩
                    refine Wx.append elLf_22 hS 3 rfl rfl rfl (Src.ofR hS 0 rfl) (by simp only [maxLen]; first | omega | (simp; omega) | simp) (by first | omega | (simp; omega) | simp) rfl (fun v_107 w_108 hz_109 hS => ?_)
                    refine Wx.nil ?_
                    refine Wp.br [8] (by kernel_rfl) (by decide) ⟨⟨_, rfl, ?_⟩, trivial⟩
                    refine Wx.storeX (cs' := [q14]) (ds := [q14]) hS 4 rfl rfl rfl (Go.Wk.cells_one (QTail.oneC hq14)) Try.sizeOf22 (Nat.le_of_ble_eq_true rfl) (one_cons (QTail.oneC hq14) one_nil) rfl (fun w_110 hz_111 hS => ?_)
                    refine Wx.nil ?_
                    refine Wp.br [9] (by kernel_rfl) (by decide) ⟨⟨_, rfl, ?_⟩, trivial⟩
                    refine Wx.storeX (cs' := [v_107]) (ds := [v_107]) hS 2 rfl rfl rfl (Go.Wk.cells_one (hS.rowOne 3 rfl)) Try.sizeOf22 (Nat.le_of_ble_eq_true rfl) (one_cons (hS.rowOne 3 rfl) one_nil) rfl (fun w_112 hz_113 hS => ?_)
                    refine Wx.nil ?_
                    refine Wp.done (by kernel_rfl) ?_
                    refine ⟨(v_94, y14, v_107, out2 ++ [m], q14, j14), ?_, ?_, Out.look rfl Out.refl⟩
                    · exact ⟨St.tl (hS.tl), (hq14), (he14), (by simpa using hl14), (rfl)⟩
                    · exact trivial
                  · -- operation 6
                    refine Wx.lit (t := (tI .i64)) (ys := [m]) (vs := [.int .i64 m]) elLf_22 hS rfl rfl ⟨(V.mkInt (in_i64 (by omega) (by omega))), trivial⟩ (by decide) rfl (fun v_114 w_115 hx_116 hS => ?_)
                    refine Wx.nil ?_
                    refine Wp.br [4] (by kernel_rfl) (by decide) ⟨⟨_, rfl, ?_⟩, trivial⟩
                    refine Wx.rd (v := ov2) (rd_loadX hS 2 rfl rfl rfl Try.isAgg22) rfl ?_
                    refine Wx.nil ?_
                    refine Wp.br [7] (by kernel_rfl) (by decide) ⟨⟨_, rfl, ?_⟩, trivial⟩
                    refine Wx.append elLf_22 hS 3 rfl rfl rfl (Src.ofR hS 0 rfl) (by simp only [maxLen]; first | omega | (simp; omega) | simp) (by first | omega | (simp; omega) | simp) rfl (fun v_117 w_118 hz_119 hS => ?_)
                    refine Wx.nil ?_
                    refine Wp.br [8] (by kernel_rfl) (by decide) ⟨⟨_, rfl, ?_⟩, trivial⟩
                    refine Wx.storeX (cs' := [q14]) (ds := [q14]) hS 4 rfl rfl rfl (Go.Wk.cells_one (QTail.oneC hq14)) Try.sizeOf22 (Nat.le_of_ble_eq_true rfl) (one_cons (QTail.oneC hq14) one_nil) rfl (fun w_120 hz_121 hS => ?_)
                    refine Wx.nil ?_
                    refine Wp.br [9] (by kernel_rfl) (by decide) ⟨⟨_, rfl, ?_⟩, trivial⟩
                    refine Wx.storeX (cs' := [v_117]) (ds := [v_117]) hS 2 rfl rfl rfl (Go.Wk.cells_one (hS.rowOne 3 rfl)) Try.sizeOf22 (Nat.le_of_ble_eq_true rfl) (one_cons (hS.rowOne 3 rfl) one_nil) rfl (fun w_122 hz_123 hS => ?_)
                    refine Wx.nil ?_
                    refine Wp.done (by kernel_rfl) ?_
                    refine ⟨(v_94, y14, v_117, out2 ++ [m], q14, j14), ?_, ?_, Out.look rfl Out.refl⟩
                    · exact ⟨St.tl (hS.tl), (hq14), (he14), (by simpa using hl14), (rfl)⟩
                    · exact trivial
                · -- operation 4
                  refine Wx.rd (v := ov2) (rd_loadX hS 1 rfl rfl rfl Try.isAgg22) rfl ?_
                  refine Wx.nil ?_
                  refine Wp.br [3, 6] (by kernel_rfl) (by decide) ⟨⟨_, rfl, ?_⟩, ⟨_, rfl, ?_⟩, trivial⟩
                  · -- operation 3
                    refine Wx.appendQ elLf_22 hS 4 rfl hq2 rfl rfl (Src.ofR hS 0 rfl) (by simp) (by first | omega | (simp; omega)) (by first | omega | (simp; omega)) rfl (fun v_124 q14 y14 j14 w_128 hz_129 hq14 he14 hl14 hj14 hS => ?_)
                    refine Wx.nil ?_
                    refine Wp.br [6] (by kernel_rfl) (by decide) ⟨⟨_, rfl, ?_⟩, trivial⟩
                    refine Wx.lit (t := (tI .i64)) (ys := [m]) (vs := [.int .i64 m]) elLf_22 hS rfl rfl ⟨(V.mkInt (in_i64 (by omega) (by omega))), trivial⟩ (by decide) rfl (fun v_134 w_135 hx_136 hS => ?_)
                    refine Wx.nil ?_
                    refine Wp.br [7] (by kernel_rfl) (by decide) ⟨⟨_, rfl, ?_⟩, trivial⟩
                    refine Wx.append elLf_22 hS 3 rfl rfl rfl (Src.ofR hS 0 rfl) (by simp only [maxLen]; first | omega | (simp; omega) | simp) (by first | omega | (simp; omega) | simp) rfl (fun v_137 w_138 hz_139 hS => ?_)
                    refine Wx.nil ?_
                    refine Wp.br [8] (by kernel_rfl) (by decide) ⟨⟨_, rfl, ?_⟩, trivial⟩
                    refine Wx.storeX (cs' := [q14]) (ds := [q14]) hS 4 rfl rfl rfl (Go.Wk.cells_one (QTail.oneC hq14)) Try.sizeOf22 (Nat.le_of_ble_eq_true rfl) (one_cons (QTail.oneC hq14) one_nil) rfl (fun w_140 hz_141 hS => ?_)
                    refine Wx.nil ?_
                    refine Wp.br [9] (by kernel_rfl) (by decide) ⟨⟨_, rfl, ?_⟩, trivial⟩
                    refine Wx.storeX (cs' := [v_137]) (ds := [v_137]) hS 2 rfl rfl rfl (Go.Wk.cells_one (hS.rowOne 3 rfl)) Try.sizeOf22 (Nat.le_of_ble_eq_true rfl) (one_cons (hS.rowOne 3 rfl) one_nil) rfl (fun w_142 hz_143 hS => ?_)
                    refine Wx.nil ?_
                    refine Wp.done (by kernel_rfl) ?_
                    refine ⟨(v_124, y14, v_137, out2 ++ [m], q14, j14), ?_, ?_, Out.look rfl Out.refl⟩
                    · exact ⟨St.tl (hS.tl), (hq14), (he14), (by simpa using hl14), (rfl)⟩
                    · exact trivial
                  · -- operation 6
                    refine Wx.lit (t := (tI .i64)) (ys := [m]) (vs := [.int .i64 m]) elLf_22 hS rfl rfl ⟨(V.mkInt (in_i64 (by omega) (by omega))), trivial⟩ (by decide) rfl (fun v_144 w_145 hx_146 hS => ?_)
                    refine Wx.nil ?_
                    refine Wp.br [3] (by kernel_rfl) (by decide) ⟨⟨_, rfl, ?_⟩, trivial⟩
                    refine Wx.appendQ elLf_22 hS 5 rfl hq2 rfl rfl (Src.ofR hS 1 rfl) (by simp) (by first | omega | (simp; omega)) (by first | omega | (simp; omega)) rfl (fun v_147 q14 y14 j14 w_151 hz_152 hq14 he14 hl14 hj14 hS => ?_)
                    refine Wx.nil ?_
                    refine Wp.br [7] (by kernel_rfl) (by decide) ⟨⟨_, rfl, ?_⟩, trivial⟩
                    refine Wx.append elLf_22 hS 3 rfl rfl rfl (Src.ofR hS 0 rfl) (by simp only [maxLen]; first | omega | (simp; omega) | simp) (by first | omega | (simp; omega) | simp) rfl (fun v_157 w_158 hz_159 hS => ?_)
                    refine Wx.nil ?_
                    refine Wp.br [8] (by kernel_rfl) (by decide) ⟨⟨_, rfl, ?_⟩, trivial⟩
                    refine Wx.storeX (cs' := [q14]) (ds := [q14]) hS 4 rfl rfl rfl (Go.Wk.cells_one (QTail.oneC hq14)) Try.sizeOf22 (Nat.le_of_ble_eq_true rfl) (one_cons (QTail.oneC hq14) one_nil) rfl (fun w_160 hz_161 hS => ?_)
                    refine Wx.nil ?_
                    refine Wp.br [9] (by kernel_rfl) (by decide) ⟨⟨_, rfl, ?_⟩, trivial⟩
                    refine Wx.storeX (cs' := [v_157]) (ds := [v_157]) hS 2 rfl rfl rfl (Go.Wk.cells_one (hS.rowOne 3 rfl)) Try.sizeOf22 (Nat.le_of_ble_eq_true rfl) (one_cons (hS.rowOne 3 rfl) one_nil) rfl (fun w_162 hz_163 hS => ?_)
                    refine Wx.nil ?_
                    refine Wp.done (by kernel_rfl) ?_
                    refine ⟨(v_147, y14, v_157, out2 ++ [m], q14, j14), ?_, ?_, Out.look rfl Out.refl⟩
                    · exact ⟨St.tl (hS.tl), (hq14), (he14), (by simpa using hl14), (rfl)⟩
                    · exact trivial
                · -- operation 6
                  refine Wx.lit (t := (tI .i64)) (ys := [m]) (vs := [.int .i64 m]) elLf_22 hS rfl rfl ⟨(V.mkInt (in_i64 (by omega) (by omega))), trivial⟩ (by decide) rfl (fun v_164 w_165 hx_166 hS => ?_)
                  refine Wx.nil ?_
                  refine Wp.br [3, 4] (by kernel_rfl) (by decide) ⟨⟨_, rfl, ?_⟩, ⟨_, rfl, ?_⟩, trivial⟩
                  · -- operation 3
                    refine Wx.appendQ elLf_22 hS 5 rfl hq2 rfl rfl (Src.ofR hS 1 rfl) (by simp) (by first | omega | (simp; omega)) (by first | omega | (simp; omega)) rfl (fun v_167 q14 y14 j14 w_171 hz_172 hq14 he14 hl14 hj14 hS => ?_)
                    refine Wx.nil ?_
                    refine Wp.br [4] (by kernel_rfl) (by decide) ⟨⟨_, rfl, ?_⟩, trivial⟩
                    refine Wx.rd (v := ov2) (rd_loadX hS 2 rfl rfl rfl Try.isAgg22) rfl ?_
                    refine Wx.nil ?_
                    refine Wp.br [7] (by kernel_rfl) (by decide) ⟨⟨_, rfl, ?_⟩, trivial⟩
                    refine Wx.append elLf_22 hS 3 rfl rfl rfl (Src.ofR hS 0 rfl) (by simp only [maxLen]; first | omega | (simp; omega) | simp) (by first | omega | (simp; omega) | simp) rfl (fun v_177 w_178 hz_179 hS => ?_)
                    refine Wx.nil ?_
                    refine Wp.br [8] (by kernel_rfl) (by decide) ⟨⟨_, rfl, ?_⟩, trivial⟩
                    refine Wx.storeX (cs' := [q14]) (ds := [q14]) hS 4 rfl rfl rfl (Go.Wk.cells_one (QTail.oneC hq14)) Try.sizeOf22 (Nat.le_of_ble_eq_true rfl) (one_cons (QTail.oneC hq14) one_nil) rfl (fun w_180 hz_181 hS => ?_)
                    refine Wx.nil ?_
                    refine Wp.br [9] (by kernel_rfl) (by decide) ⟨⟨_, rfl, ?_⟩, trivial⟩
                    refine Wx.storeX (cs' := [v_177]) (ds := [v_177]) hS 2 rfl rfl rfl (Go.Wk.cells_one (hS.rowOne 3 rfl)) Try.sizeOf22 (Nat.le_of_ble_eq_true rfl) (one_cons (hS.rowOne 3 rfl) one_nil) rfl (fun w_182 hz_183 hS => ?_)
                    refine Wx.nil ?_
                    refine Wp.done (by kernel_rfl) ?_
                    refine ⟨(v_167, y14, v_177, out2 ++ [m], q14, j14), ?_, ?_, Out.look rfl Out.refl⟩
                    · exact ⟨St.tl (hS.tl), (hq14), (he14), (by simpa using hl14), (rfl)⟩
                    · exact trivial
                  · -- operation 4
                    refine Wx.rd (v := ov2) (rd_loadX hS 2 rfl rfl rfl Try.isAgg22) rfl ?_
                    refine Wx.nil ?_
                    refine Wp.br [3] (by kernel_rfl) (by decide) ⟨⟨_, rfl, ?_⟩, trivial⟩
                    refine Wx.appendQ elLf_22 hS 5 rfl hq2 rfl rfl (Src.ofR hS 1 rfl) (by simp) (by first | omega | (simp; omega)) (by first | omega | (simp; omega)) rfl (fun v_184 q14 y14 j14 w_188 hz_189 hq14 he14 hl14 hj14 hS => ?_)
                    refine Wx.nil ?_
                    refine Wp.br [7] (by kernel_rfl) (by decide) ⟨⟨_, rfl, ?_⟩, trivial⟩
                    refine Wx.append elLf_22 hS 3 rfl rfl rfl (Src.ofR hS 0 rfl) (by simp only [maxLen]; first | omega | (simp; omega) | simp) (by first | omega | (simp; omega) | simp) rfl (fun v_194 w_195 hz_196 hS => ?_)
                    refine Wx.nil ?_
                    refine Wp.br [8] (by kernel_rfl) (by decide) ⟨⟨_, rfl, ?_⟩, trivial⟩
                    refine Wx.storeX (cs' := [q14]) (ds := [q14]) hS 4 rfl rfl rfl (Go.Wk.cells_one (QTail.oneC hq14)) Try.sizeOf22 (Nat.le_of_ble_eq_true rfl) (one_cons (QTail.oneC hq14) one_nil) rfl (fun w_197 hz_198 hS => ?_)
                    refine Wx.nil ?_
                    refine Wp.br [9] (by kernel_rfl) (by decide) ⟨⟨_, rfl, ?_⟩, trivial⟩
                    refine Wx.storeX (cs' := [v_194]) (ds := [v_194]) hS 2 rfl rfl rfl (Go.Wk.cells_one (hS.rowOne 3 rfl)) Try.sizeOf22 (Nat.le_of_ble_eq_true rfl) (one_cons (hS.rowOne 3 rfl) one_nil) rfl (fun w_199 hz_200 hS => ?_)
                    refine Wx.nil ?_
                    refine Wp.done (by kernel_rfl) ?_
                    refine ⟨(v_184, y14, v_194, out2 ++ [m], q14, j14), ?_, ?_, Out.look rfl Out.refl⟩
                    · exact ⟨St.tl (hS.tl), (hq14), (he14), (by simpa using hl14), (rfl)⟩
                    · exact trivial
              · -- operation 4
                refine Wx.rd (v := ov2) (rd_loadX hS 0 rfl rfl rfl Try.isAgg22) rfl ?_
                refine Wx.nil ?_
                refine Wp.br [2, 6] (by kernel_rfl) (by decide) ⟨⟨_, rfl, ?_⟩, ⟨_, rfl, ?_⟩, trivial⟩
                · -- operation 2
                  refine Wx.lit (t := (tI .i64)) (ys := [m]) (vs := [.int .i64 m]) elLf_22 hS rfl rfl ⟨(V.mkInt (in_i64 (by omega) (by omega))), trivial⟩ (by decide) rfl (fun v_201 w_202 hx_203 hS => ?_)
                  refine Wx.nil ?_
                  refine Wp.br [3, 6] (by kernel_rfl) (by decide) ⟨⟨_, rfl, ?_⟩, ⟨_, rfl, ?_⟩, trivial⟩
                  · -- operation 3
                    refine Wx.appendQ elLf_22 hS 4 rfl hq2 rfl rfl (Src.ofR hS 0 rfl) (by simp) (by first | omega | (simp; omega)) (by first | omega | (simp; omega)) rfl (fun v_204 q14 y14 j14 w_208 hz_209 hq14 he14 hl14 hj14 hS => ?_)
                    refine Wx.nil ?_
                    refine Wp.br [6] (by kernel_rfl) (by decide) ⟨⟨_, rfl, ?_⟩, trivial⟩
                    refine Wx.lit (t := (tI .i64)) (ys := [m]) (vs := [.int .i64 m]) elLf_22 hS rfl rfl ⟨(V.mkInt (in_i64 (by omega) (by omega))), trivial⟩ (by decide) rfl (fun v_214 w_215 hx_216 hS => ?_)
                    refine Wx.nil ?_
                    refine Wp.br [7] (by kernel_rfl) (by decide) ⟨⟨_, rfl, ?_⟩, trivial⟩
                    refine Wx.append elLf_22 hS 3 rfl rfl rfl (Src.ofR hS 0 rfl) (by simp only [maxLen]; first | omega | (simp; omega) | simp) (by first | omega | (simp; omega) | simp) rfl (fun v_217 w_218 hz_219 hS => ?_)
                    refine Wx.nil ?_
                    refine Wp.br [8] (by kernel_rfl) (by decide) ⟨⟨_, rfl, ?_⟩, trivial⟩
                    refine Wx.storeX (cs' := [q14]) (ds := [q14]) hS 4 rfl rfl rfl (Go.Wk.cells_one (QTail.oneC hq14)) Try.sizeOf22 (Nat.le_of_ble_eq_true rfl) (one_cons (QTail.oneC hq14) one_nil) rfl (fun w_220 hz_221 hS => ?_)
                    refine Wx.nil ?_
                    refine Wp.br [9] (by kernel_rfl) (by decide) ⟨⟨_, rfl, ?_⟩, trivial⟩
                    refine Wx.storeX (cs' := [v_217]) (ds := [v_217]) hS 2 rfl rfl rfl (Go.Wk.cells_one (hS.rowOne 3 rfl)) Try.sizeOf22 (Nat.le_of_ble_eq_true rfl) (one_cons (hS.rowOne 3 rfl) one_nil) rfl (fun w_222 hz_223 hS => ?_)
                    refine Wx.nil ?_
                    refine Wp.done (by kernel_rfl) ?_
                    refine ⟨(v_204, y14, v_217, out2 ++ [m], q14, j14), ?_, ?_, Out.look rfl Out.refl⟩
                    · exact ⟨St.tl (hS.tl), (hq14), (he14), (by simpa using hl14), (rfl)⟩
                    · exact trivial
                  · -- operation 6
                    refine Wx.lit (t := (tI .i64)) (ys := [m]) (vs := [.int .i64 m]) elLf_22 hS rfl rfl ⟨(V.mkInt (in_i64 (by omega) (by omega))), trivial⟩ (by decide) rfl (fun v_224 w_225 hx_226 hS => ?_)
                    refine Wx.nil ?_
                    refine Wp.br [3] (by kernel_rfl) (by decide) ⟨⟨_, rfl, ?_⟩, trivial⟩
                    refine Wx.appendQ elLf_22 hS 5 rfl hq2 rfl rfl (Src.ofR hS 1 rfl) (by simp) (by first | omega | (simp; omega)) (by first | omega | (simp; omega)) rfl (fun v_227 q14 y14 j14 w_231 hz_232 hq14 he14 hl14 hj14 hS => ?_)
                    refine Wx.nil ?_
                    refine Wp.br [7] (by kernel_rfl) (by decide) ⟨⟨_, rfl, ?_⟩, trivial⟩
                    refine Wx.append elLf_22 hS 3 rfl rfl rfl (Src.ofR hS 0 rfl) (by simp only [maxLen]; first | omega | (simp; omega) | simp) (by first | omega | (simp; omega) | simp) rfl (fun v_237 w_238 hz_239 hS => ?_)
                    refine Wx.nil ?_
                    refine Wp.br [8] (by kernel_rfl) (by decide) ⟨⟨_, rfl, ?_⟩, trivial⟩
                    refine Wx.storeX (cs' := [q14]) (ds := [q14]) hS 4 rfl rfl rfl (Go.Wk.cells_one (QTail.oneC hq14)) Try.sizeOf22 (Nat.le_of_ble_eq_true rfl) (one_cons (QTail.oneC hq14) one_nil) rfl (fun w_240 hz_241 hS => ?_)
                    refine Wx.nil ?_
                    refine Wp.br [9] (by kernel_rfl) (by decide) ⟨⟨_, rfl, ?_⟩, trivial⟩
                    refine Wx.storeX (cs' := [v_237]) (ds := [v_237]) hS 2 rfl rfl rfl (Go.Wk.cells_one (hS.rowOne 3 rfl)) Try.sizeOf22 (Nat.le_of_ble_eq_true rfl) (one_cons (hS.rowOne 3 rfl) one_nil) rfl (fun w_242 hz_243 hS => ?_)
                    refine Wx.nil ?_
                    refine Wp.done (by kernel_rfl) ?_
                    refine ⟨(v_227, y14, v_237, out2 ++ [m], q14, j14), ?_, ?_, Out.look rfl Out.refl⟩
                    · exact ⟨St.tl (hS.tl), (hq14), (he14), (by simpa using hl14), (rfl)⟩
                    · exact trivial
                · -- operation 6
                  refine Wx.lit (t := (tI .i64)) (ys := [m]) (vs := [.int .i64 m]) elLf_22 hS rfl rfl ⟨(V.mkInt (in_i64 (by omega) (by omega))), trivial⟩ (by decide) rfl (fun v_244 w_245 hx_246 hS => ?_)
                  refine Wx.nil ?_
                  refine Wp.br [2] (by kernel_rfl) (by decide) ⟨⟨_, rfl, ?_⟩, trivial⟩
                  refine Wx.lit (t := (tI .i64)) (ys := [m]) (vs := [.int .i64 m]) elLf_22 hS rfl rfl ⟨(V.mkInt (in_i64 (by omega) (by omega))), trivial⟩ (by decide) rfl (fun v_247 w_248 hx_249 hS => ?_)
                  refine Wx.nil ?_
                  refine Wp.br [3] (by kernel_rfl) (by decide) ⟨⟨_, rfl, ?_⟩, trivial⟩
                  refine Wx.appendQ elLf_22 hS 5 rfl hq2 rfl rfl (Src.ofR hS 0 rfl) (by simp) (by first | omega | (simp; omega)) (by first | omega | (simp; omega)) rfl (fun v_250 q14 y14 j14 w_254 hz_255 hq14 he14 hl14 hj14 hS => ?_)
                  refine Wx.nil ?_
                  refine Wp.br [7] (by kernel_rfl) (by decide) ⟨⟨_, rfl, ?_⟩, trivial⟩
                  refine Wx.append elLf_22 hS 3 rfl rfl rfl (Src.ofR hS 1 rfl) (by simp only [maxLen]; first | omega | (simp; omega) | simp) (by first | omega | (simp; omega) | simp) rfl (fun v_260 w_261 hz_262 hS => ?_)
                  refine Wx.nil ?_
                  refine Wp.br [8] (by kernel_rfl) (by decide) ⟨⟨_, rfl, ?_⟩, trivial⟩
                  refine Wx.storeX (cs' := [q14]) (ds := [q14]) hS 4 rfl rfl rfl (Go.Wk.cells_one (QTail.oneC hq14)) Try.sizeOf22 (Nat.le_of_ble_eq_true rfl) (one_cons (QTail.oneC hq14) one_nil) rfl (fun w_263 hz_264 hS => ?_)
                  refine Wx.nil ?_
                  refine Wp.br [9] (by kernel_rfl) (by decide) ⟨⟨_, rfl, ?_⟩, trivial⟩
                  refine Wx.storeX (cs' := [v_260]) (ds := [v_260]) hS 2 rfl rfl rfl (Go.Wk.cells_one (hS.rowOne 3 rfl)) Try.sizeOf22 (Nat.le_of_ble_eq_true rfl) (one_cons (hS.rowOne 3 rfl) one_nil) rfl (fun w_265 hz_266 hS => ?_)
                  refine Wx.nil ?_
                  refine Wp.done (by kernel_rfl) ?_
                  refine ⟨(v_250, y14, v_260, out2 ++ [m], q14, j14), ?_, ?_, Out.look rfl Out.refl⟩
                  · exact ⟨St.tl (hS.tl), (hq14), (he14), (by simpa using hl14), (rfl)⟩
                  · exact trivial
              · -- operation 6
                refine Wx.lit (t := (tI .i64)) (ys := [m]) (vs := [.int .i64 m]) elLf_22 hS rfl rfl ⟨(V.mkInt (in_i64 (by omega) (by omega))), trivial⟩ (by decide) rfl (fun v_267 w_268 hx_269 hS => ?_)
                refine Wx.nil ?_
                refine Wp.br [2, 4] (by kernel_rfl) (by decide) ⟨⟨_, rfl, ?_⟩, ⟨_, rfl, ?_⟩, trivial⟩
                · -- operation 2
                  refine Wx.lit (t := (tI .i64)) (ys := [m]) (vs := [.int .i64 m]) elLf_22 hS rfl rfl ⟨(V.mkInt (in_i64 (by omega) (by omega))), trivial⟩ (by decide) rfl (fun v_270 w_271 hx_272 hS => ?_)
                  refine Wx.nil ?_
                  refine Wp.br [3, 4] (by kernel_rfl) (by decide) ⟨⟨_, rfl, ?_⟩, ⟨_, rfl, ?_⟩, trivial⟩
                  · -- operation 3
                    refine Wx.appendQ elLf_22 hS 5 rfl hq2 rfl rfl (Src.ofR hS 0 rfl) (by simp) (by first | omega | (simp; omega)) (by first | omega | (simp; omega)) rfl (fun v_273 q14 y14 j14 w_277 hz_278 hq14 he14 hl14 hj14 hS => ?_)
                    refine Wx.nil ?_
                    refine Wp.br [4] (by kernel_rfl) (by decide) ⟨⟨_, rfl, ?_⟩, trivial⟩
                    refine Wx.rd (v := ov2) (rd_loadX hS 2 rfl rfl rfl Try.isAgg22) rfl ?_
                    refine Wx.nil ?_
                    refine Wp.br [7] (by kernel_rfl) (by decide) ⟨⟨_, rfl, ?_⟩, trivial⟩
                    refine Wx.append elLf_22 hS 3 rfl rfl rfl (Src.ofR hS 1 rfl) (by simp only [maxLen]; first | omega | (simp; omega) | simp) (by first | omega | (simp; omega) | simp) rfl (fun v_283 w_284 hz_285 hS => ?_)
                    refine Wx.nil ?_
                    refine Wp.br [8] (by kernel_rfl) (by decide) ⟨⟨_, rfl, ?_⟩, trivial⟩
                    refine Wx.storeX (cs' := [q14]) (ds := [q14]) hS 4 rfl rfl rfl (Go.Wk.cells_one (QTail.oneC hq14)) Try.sizeOf22 (Nat.le_of_ble_eq_true rfl) (one_cons (QTail.oneC hq14) one_nil) rfl (fun w_286 hz_287 hS => ?_)
                    refine Wx.nil ?_
                    refine Wp.br [9] (by kernel_rfl) (by decide) ⟨⟨_, rfl, ?_⟩, trivial⟩
                    refine Wx.storeX (cs' := [v_283]) (ds := [v_283]) hS 2 rfl rfl rfl (Go.Wk.cells_one (hS.rowOne 3 rfl)) Try.sizeOf22 (Nat.le_of_ble_eq_true rfl) (one_cons (hS.rowOne 3 rfl) one_nil) rfl (fun w_288 hz_289 hS => ?_)
                    refine Wx.nil ?_
                    refine Wp.done (by kernel_rfl) ?_
                    refine ⟨(v_273, y14, v_283, out2 ++ [m], q14, j14), ?_, ?_, Out.look rfl Out.refl⟩
                    · exact ⟨St.tl (hS.tl), (hq14), (he14), (by simpa using hl14), (rfl)⟩
                    · exact trivial
                  · -- operation 4
                    refine Wx.rd (v := ov2) (rd_loadX hS 2 rfl rfl rfl Try.isAgg22) rfl ?_
                    refine Wx.nil ?_
                    refine Wp.br [3] (by kernel_rfl) (by decide) ⟨⟨_, rfl, ?_⟩, trivial⟩
                    refine Wx.appendQ elLf_22 hS 5 rfl hq2 rfl rfl (Src.ofR hS 0 rfl) (by simp) (by first | omega | (simp; omega)) (by first | omega | (simp; omega)) rfl (fun v_290 q14 y14 j14 w_294 hz_295 hq14 he14 hl14 hj14 hS => ?_)
                    refine Wx.nil ?_
                    refine Wp.br [7] (by kernel_rfl) (by decide) ⟨⟨_, rfl, ?_⟩, trivial⟩
                    refine Wx.append elLf_22 hS 3 rfl rfl rfl (Src.ofR hS 1 rfl) (by simp only [maxLen]; first | omega | (simp; omega) | simp) (by first | omega | (simp; omega) | simp) rfl (fun v_300 w_301 hz_302 hS => ?_)
                    refine Wx.nil ?_
                    refine Wp.br [8] (by kernel_rfl) (by decide) ⟨⟨_, rfl, ?_⟩, trivial⟩
                    refine Wx.storeX (cs' := [q14]) (ds := [q14]) hS 4 rfl rfl rfl (Go.Wk.cells_one (QTail.oneC hq14)) Try.sizeOf22 (Nat.le_of_ble_eq_true rfl) (one_cons (QTail.oneC hq14) one_nil) rfl (fun w_303 hz_304 hS => ?_)
                    refine Wx.nil ?_
                    refine Wp.br [9] (by kernel_rfl) (by decide) ⟨⟨_, rfl, ?_⟩, trivial⟩
                    refine Wx.storeX (cs' := [v_300]) (ds := [v_300]) hS 2 rfl rfl rfl (Go.Wk.cells_one (hS.rowOne 3 rfl)) Try.sizeOf22 (Nat.le_of_ble_eq_true rfl) (one_cons (hS.rowOne 3 rfl) one_nil) rfl (fun w_305 hz_306 hS => ?_)
                    refine Wx.nil ?_
                    refine Wp.done (by kernel_rfl) ?_
                    refine ⟨(v_290, y14, v_300, out2 ++ [m], q14, j14), ?_, ?_, Out.look rfl Out.refl⟩
                    · exact ⟨St.tl (hS.tl), (hq14), (he14), (by simpa using hl14), (rfl)⟩
                    · exact trivial
                · -- operation 4
                  refine Wx.rd (v := ov2) (rd_loadX hS 1 rfl rfl rfl Try.isAgg22) rfl ?_
                  refine Wx.nil ?_
                  refine Wp.br [2] (by kernel_rfl) (by decide) ⟨⟨_, rfl, ?_⟩, trivial⟩
                  refine Wx.lit (t := (tI .i64)) (ys := [m]) (vs := [.int .i64 m]) elLf_22 hS rfl rfl ⟨(V.mkInt (in_i64 (by omega) (by omega))), trivial⟩ (by decide) rfl (fun v_307 w_308 hx_309 hS => ?_)
                  refine Wx.nil ?_
                  refine Wp.br [3] (by kernel_rfl) (by decide) ⟨⟨_, rfl, ?_⟩, trivial⟩
                  refine Wx.appendQ elLf_22 hS 5 rfl hq2 rfl rfl (Src.ofR hS 0 rfl) (by simp) (by first | omega | (simp; omega)) (by first | omega | (simp; omega)) rfl (fun v_310 q14 y14 j14 w_314 hz_315 hq14 he14 hl14 hj14 hS => ?_)
                  refine Wx.nil ?_
                  refine Wp.br [7] (by kernel_rfl) (by decide) ⟨⟨_, rfl, ?_⟩, trivial⟩
                  refine Wx.append elLf_22 hS 3 rfl rfl rfl (Src.ofR hS 1 rfl) (by simp only [maxLen]; first | omega | (simp; omega) | simp) (by first | omega | (simp; omega) | simp) rfl (fun v_320 w_321 hz_322 hS => ?_)
                  refine Wx.nil ?_
                  refine Wp.br [8] (by kernel_rfl) (by decide) ⟨⟨_, rfl, ?_⟩, trivial⟩
                  refine Wx.storeX (cs' := [q14]) (ds := [q14]) hS 4 rfl rfl rfl (Go.Wk.cells_one (QTail.oneC hq14)) Try.sizeOf22 (Nat.le_of_ble_eq_true rfl) (one_cons (QTail.oneC hq14) one_nil) rfl (fun w_323 hz_324 hS => ?_)
                  refine Wx.nil ?_
                  refine Wp.br [9] (by kernel_rfl) (by decide) ⟨⟨_, rfl, ?_⟩, trivial⟩
                  refine Wx.storeX (cs' := [v_320]) (ds := [v_320]) hS 2 rfl rfl rfl (Go.Wk.cells_one (hS.rowOne 3 rfl)) Try.sizeOf22 (Nat.le_of_ble_eq_true rfl) (one_cons (hS.rowOne 3 rfl) one_nil) rfl (fun w_325 hz_326 hS => ?_)
                  refine Wx.nil ?_
                  refine Wp.done (by kernel_rfl) ?_
                  refine ⟨(v_310, y14, v_320, out2 ++ [m], q14, j14), ?_, ?_, Out.look rfl Out.refl⟩
                  · exact ⟨St.tl (hS.tl), (hq14), (he14), (by simpa using hl14), (rfl)⟩
                  · exact trivial
            · -- operation 2
              refine Wx.lit (t := (tI .i64)) (ys := [m]) (vs := [.int .i64 m]) elLf_22 hS rfl rfl ⟨(V.mkInt (in_i64 (by omega) (by omega))), trivial⟩ (by decide) rfl (fun v_327 w_328 hx_329 hS => ?_)
              refine Wx.nil ?_
              refine Wp.br [0, 4, 6] (by kernel_rfl) (by decide) ⟨⟨_, rfl, ?_⟩, ⟨_, rfl, ?_⟩, ⟨_, rfl, ?_⟩, trivial⟩
              · -- operation 0
                refine Wx.rd (v := qq2) (rd_loadX hS 3 rfl rfl rfl Try.isAgg22) rfl ?_
                refine Wx.nil ?_
                refine Wp.br [3, 4, 6] (by kernel_rfl) (by decide) ⟨⟨_, rfl, ?_⟩, ⟨_, rfl, ?_⟩, ⟨_, rfl, ?_⟩, trivial⟩
                · -- operation 3
                  refine Wx.appendQ elLf_22 hS 4 rfl hq2 rfl rfl (Src.ofR hS 0 rfl) (by simp) (by first | omega | (simp; omega)) (by first | omega | (simp; omega)) rfl (fun v_330 q14 y14 j14 w_334 hz_335 hq14 he14 hl14 hj14 hS => ?_)
                  refine Wx.nil ?_
                  refine Wp.br [4, 6] (by kernel_rfl) (by decide) ⟨⟨_, rfl, ?_⟩, ⟨_, rfl, ?_⟩, trivial⟩
                  · -- operation 4
                    refine Wx.rd (v := ov2) (rd_loadX hS 1 rfl rfl rfl Try.isAgg22) rfl ?_
                    refine Wx.nil ?_
                    refine Wp.br [6] (by kernel_rfl) (by decide) ⟨⟨_, rfl, ?_⟩, trivial⟩
                    refine Wx.lit (t := (tI .i64)) (ys := [m]) (vs := [.int .i64 m]) elLf_22 hS rfl rfl ⟨(V.mkInt (in_i64 (by omega) (by omega))), trivial⟩ (by decide) rfl (fun v_340 w_341 hx_342 hS => ?_)
                    refine Wx.nil ?_
                    refine Wp.br [7] (by kernel_rfl) (by decide) ⟨⟨_, rfl, ?_⟩, trivial⟩
                    refine Wx.append elLf_22 hS 3 rfl rfl rfl (Src.ofR hS 0 rfl) (by simp only [maxLen]; first | omega | (simp; omega) | simp) (by first | omega | (simp; omega) | simp) rfl (fun v_343 w_344 hz_345 hS => ?_)
                    refine Wx.nil ?_
                    refine Wp.br [8] (by kernel_rfl) (by decide) ⟨⟨_, rfl, ?_⟩, trivial⟩
                    refine Wx.storeX (cs' := [q14]) (ds := [q14]) hS 4 rfl rfl rfl (Go.Wk.cells_one (QTail.oneC hq14)) Try.sizeOf22 (Nat.le_of_ble_eq_true rfl) (one_cons (QTail.oneC hq14) one_nil) rfl (fun w_346 hz_347 hS => ?_)
                    refine Wx.nil ?_
                    refine Wp.br [9] (by kernel_rfl) (by decide) ⟨⟨_, rfl, ?_⟩, trivial⟩
                    refine Wx.storeX (cs' := [v_343]) (ds := [v_343]) hS 2 rfl rfl rfl (Go.Wk.cells_one (hS.rowOne 3 rfl)) Try.sizeOf22 (Nat.le_of_ble_eq_true rfl) (one_cons (hS.rowOne 3 rfl) one_nil) rfl (fun w_348 hz_349 hS => ?_)
                    refine Wx.nil ?_
                    refine Wp.done (by kernel_rfl) ?_
                    refine ⟨(v_330, y14, v_343, out2 ++ [m], q14, j14), ?_, ?_, Out.look rfl Out.refl⟩
                    · exact ⟨St.tl (hS.tl), (hq14), (he14), (by simpa using hl14), (rfl)⟩
                    · exact trivial
                  · -- operation 6
                    refine Wx.lit (t := (tI .i64)) (ys := [m]) (vs := [.int .i64 m]) elLf_22 hS rfl rfl ⟨(V.mkInt (in_i64 (by omega) (by omega))), trivial⟩ (by decide) rfl (fun v_350 w_351 hx_352 hS => ?_)
                    refine Wx.nil ?_
                    refine Wp.br [4] (by kernel_rfl) (by decide) ⟨⟨_, rfl, ?_⟩, trivial⟩
                    refine Wx.rd (v := ov2) (rd_loadX hS 2 rfl rfl rfl Try.isAgg22) rfl ?_
                    refine Wx.nil ?_
                    refine Wp.br [7] (by kernel_rfl) (by decide) ⟨⟨_, rfl, ?_⟩, trivial⟩
                    refine Wx.append elLf_22 hS 3 rfl rfl rfl (Src.ofR hS 0 rfl) (by simp only [maxLen]; first | omega | (simp; omega) | simp) (by first | omega | (simp; omega) | simp) rfl (fun v_353 w_354 hz_355 hS => ?_)
                    refine Wx.nil ?_
                    refine Wp.br [8] (by kernel_rfl) (by decide) ⟨⟨_, rfl, ?_⟩, trivial⟩
                    refine Wx.storeX (cs' := [q14]) (ds := [q14]) hS 4 rfl rfl rfl (Go.Wk.cells_one (QTail.oneC hq14)) Try.sizeOf22 (Nat.le_of_ble_eq_true rfl) (one_cons (QTail.oneC hq14) one_nil) rfl (fun w_356 hz_357 hS => ?_)
                    refine Wx.nil ?_
                    refine Wp.br [9] (by kernel_rfl) (by decide) ⟨⟨_, rfl, ?_⟩, trivial⟩
                    refine Wx.storeX (cs' := [v_353]) (ds := [v_353]) hS 2 rfl rfl rfl (Go.Wk.cells_one (hS.rowOne 3 rfl)) Try.sizeOf22 (Nat.le_of_ble_eq_true rfl) (one_cons (hS.rowOne 3 rfl) one_nil) rfl (fun w_358 hz_359 hS => ?_)
                    refine Wx.nil ?_
                    refine Wp.done (by kernel_rfl) ?_
                    refine ⟨(v_330, y14, v_353, out2 ++ [m], q14, j14), ?_, ?_, Out.look rfl Out.refl⟩
                    · exact ⟨St.tl (hS.tl), (hq14), (he14), (by simpa using hl14), (rfl)⟩
                    · exact trivial
                · -- operation 4
                  refine Wx.rd (v := ov2) (rd_loadX hS 1 rfl rfl rfl Try.isAgg22) rfl ?_
                  refine Wx.nil ?_
                  refine Wp.br [3, 6] (by kernel_rfl) (by decide) ⟨⟨_, rfl, ?_⟩, ⟨_, rfl, ?_⟩, trivial⟩
                  · -- operation 3
                    refine Wx.appendQ elLf_22 hS 4 rfl hq2 rfl rfl (Src.ofR hS 0 rfl) (by simp) (by first | omega | (simp; omega)) (by first | omega | (simp; omega)) rfl (fun v_360 q14 y14 j14 w_364 hz_365 hq14 he14 hl14 hj14 hS => ?_)
                    refine Wx.nil ?_
                    refine Wp.br [6] (by kernel_rfl) (by decide) ⟨⟨_, rfl, ?_⟩, trivial⟩
                    refine Wx.lit (t := (tI .i64)) (ys := [m]) (vs := [.int .i64 m]) elLf_22 hS rfl rfl ⟨(V.mkInt (in_i64 (by omega) (by omega))), trivial⟩ (by decide) rfl (fun v_370 w_371 hx_372 hS => ?_)
                    refine Wx.nil ?_
                    refine Wp.br [7] (by kernel_rfl) (by decide) ⟨⟨_, rfl, ?_⟩, trivial⟩
                    refine Wx.append elLf_22 hS 3 rfl rfl rfl (Src.ofR hS 0 rfl) (by simp only [maxLen]; first | omega | (simp; omega) | simp) (by first | omega | (simp; omega) | simp) rfl (fun v_373 w_374 hz_375 hS => ?_)
                    refine Wx.nil ?_
                    refine Wp.br [8] (by kernel_rfl) (by decide) ⟨⟨_, rfl, ?_⟩, trivial⟩
                    refine Wx.storeX (cs' := [q14]) (ds := [q14]) hS 4 rfl rfl rfl (Go.Wk.cells_one (QTail.oneC hq14)) Try.sizeOf22 (Nat.le_of_ble_eq_true rfl) (one_cons (QTail.oneC hq14) one_nil) rfl (fun w_376 hz_377 hS => ?_)
                    refine Wx.nil ?_
                    refine Wp.br [9] (by kernel_rfl) (by decide) ⟨⟨_, rfl, ?_⟩, trivial⟩
                    refine Wx.storeX (cs' := [v_373]) (ds := [v_373]) hS 2 rfl rfl rfl (Go.Wk.cells_one (hS.rowOne 3 rfl)) Try.sizeOf22 (Nat.le_of_ble_eq_true rfl) (one_cons (hS.rowOne 3 rfl) one_nil) rfl (fun w_378 hz_379 hS => ?_)
                    refine Wx.nil ?_
                    refine Wp.done (by kernel_rfl) ?_
                    refine ⟨(v_360, y14, v_373, out2 ++ [m], q14, j14), ?_, ?_, Out.look rfl Out.refl⟩
                    · exact ⟨St.tl (hS.tl), (hq14), (he14), (by simpa using hl14), (rfl)⟩
                    · exact trivial
                  · -- operation 6
                    refine Wx.lit (t := (tI .i64)) (ys := [m]) (vs := [.int .i64 m]) elLf_22 hS rfl rfl ⟨(V.mkInt (in_i64 (by omega) (by omega))), trivial⟩ (by decide) rfl (fun v_380 w_381 hx_382 hS => ?_)
                    refine Wx.nil ?_
                    refine Wp.br [3] (by kernel_rfl) (by decide) ⟨⟨_, rfl, ?_⟩, trivial⟩
                    refine Wx.appendQ elLf_22 hS 5 rfl hq2 rfl rfl (Src.ofR hS 1 rfl) (by simp) (by first | omega | (simp; omega)) (by first | omega | (simp; omega)) rfl (fun v_383 q14 y14 j14 w_387 hz_388 hq14 he14 hl14 hj14 hS => ?_)
                    refine Wx.nil ?_
                    refine Wp.br [7] (by kernel_rfl) (by decide) ⟨⟨_, rfl, ?_⟩, trivial⟩
                    refine Wx.append elLf_22 hS 3 rfl rfl rfl (Src.ofR hS 0 rfl) (by simp only [maxLen]; first | omega | (simp; omega) | simp) (by first | omega | (simp; omega) | simp) rfl (fun v_393 w_394 hz_395 hS => ?_)
                    refine Wx.nil ?_
                    refine Wp.br [8] (by kernel_rfl) (by decide) ⟨⟨_, rfl, ?_⟩, trivial⟩
                    refine Wx.storeX (cs' := [q14]) (ds := [q14]) hS 4 rfl rfl rfl (Go.Wk.cells_one (QTail.oneC hq14)) Try.sizeOf22 (Nat.le_of_ble_eq_true rfl) (one_cons (QTail.oneC hq14) one_nil) rfl (fun w_396 hz_397 hS => ?_)
                    refine Wx.nil ?_
                    refine Wp.br [9] (by kernel_rfl) (by decide) ⟨⟨_, rfl, ?_⟩, trivial⟩
                    refine Wx.storeX (cs' := [v_393]) (ds := [v_393]) hS 2 rfl rfl rfl (Go.Wk.cells_one (hS.rowOne 3 rfl)) Try.sizeOf22 (Nat.le_of_ble_eq_true rfl) (one_cons (hS.rowOne 3 rfl) one_nil) rfl (fun w_398 hz_399 hS => ?_)
                    refine Wx.nil ?_
                    refine Wp.done (by kernel_rfl) ?_
                    refine ⟨(v_383, y14, v_393, out2 ++ [m], q14, j14), ?_, ?_, Out.look rfl Out.refl⟩
                    · exact ⟨St.tl (hS.tl), (hq14), (he14), (by simpa using hl14), (rfl)⟩
                    · exact trivial
                · -- operation 6
                  refine Wx.lit (t := (tI .i64)) (ys := [m]) (vs := [.int .i64 m]) elLf_22 hS rfl rfl ⟨(V.mkInt (in_i64 (by omega) (by omega))), trivial⟩ (by decide) rfl (fun v_400 w_401 hx_402 hS => ?_)
                  refine Wx.nil ?_
                  refine Wp.br [3, 4] (by kernel_rfl) (by decide) ⟨⟨_, rfl, ?_⟩, ⟨_, rfl, ?_⟩, trivial⟩
                  · -- operation 3
                    refine Wx.appendQ elLf_22 hS 5 rfl hq2 rfl rfl (Src.ofR hS 1 rfl) (by simp) (by first | omega | (simp; omega)) (by first | omega | (simp; omega)) rfl (fun v_403 q14 y14 j14 w_407 hz_408 hq14 he14 hl14 hj14 hS => ?_)
                    refine Wx.nil ?_
                    refine Wp.br [4] (by kernel_rfl) (by decide) ⟨⟨_, rfl, ?_⟩, trivial⟩
                    refine Wx.rd (v := ov2) (rd_loadX hS 2 rfl rfl rfl Try.isAgg22) rfl ?_
                    refine Wx.nil ?_
                    refine Wp.br [7] (by kernel_rfl) (by decide) ⟨⟨_, rfl, ?_⟩, trivial⟩
                    refine Wx.append elLf_22 hS 3 rfl rfl rfl (Src.ofR hS 0 rfl) (by simp only [maxLen]; first | omega | (simp; omega) | simp) (by first | omega | (simp; omega) | simp) rfl (fun v_413 w_414 hz_415 hS => ?_)
                    refine Wx.nil ?_
                    refine Wp.br [8] (by kernel_rfl) (by decide) ⟨⟨_, rfl, ?_⟩, trivial⟩
                    refine Wx.storeX (cs' := [q14]) (ds := [q14]) hS 4 rfl rfl rfl (Go.Wk.cells_one (QTail.oneC hq14)) Try.sizeOf22 (Nat.le_of_ble_eq_true rfl) (one_cons (QTail.oneC hq14) one_nil) rfl (fun w_416 hz_417 hS => ?_)
                    refine Wx.nil ?_
                    refine Wp.br [9] (by kernel_rfl) (by decide) ⟨⟨_, rfl, ?_⟩, trivial⟩
                    refine Wx.storeX (cs' := [v_413]) (ds := [v_413]) hS 2 rfl rfl rfl (Go.Wk.cells_one (hS.rowOne 3 rfl)) Try.sizeOf22 (Nat.le_of_ble_eq_true rfl) (one_cons (hS.rowOne 3 rfl) one_nil) rfl (fun w_418 hz_419 hS => ?_)
                    refine Wx.nil ?_
                    refine Wp.done (by kernel_rfl) ?_
                    refine ⟨(v_403, y14, v_413, out2 ++ [m], q14, j14), ?_, ?_, Out.look rfl Out.refl⟩
                    · exact ⟨St.tl (hS.tl), (hq14), (he14), (by simpa using hl14), (rfl)⟩
                    · exact trivial
                  · -- operation 4
                    refine Wx.rd (v := ov2) (rd_loadX hS 2 rfl rfl rfl Try.isAgg22) rfl ?_
                    refine Wx.nil ?_
                    refine Wp.br [3] (by kernel_rfl) (by decide) ⟨⟨_, rfl, ?_⟩, trivial⟩
                    refine Wx.appendQ elLf_22 hS 5 rfl hq2 rfl rfl (Src.ofR hS 1 rfl) (by simp) (by first | omega | (simp; omega)) (by first | omega | (simp; omega)) rfl (fun v_420 q14 y14 j14 w_424 hz_425 hq14 he14 hl14 hj14 hS => ?_)
                    refine Wx.nil ?_
                    refine Wp.br [7] (by kernel_rfl) (by decide) ⟨⟨_, rfl, ?_⟩, trivial⟩
                    refine Wx.append elLf_22 hS 3 rfl rfl rfl (Src.ofR hS 0 rfl) (by simp only [maxLen]; first | omega | (simp; omega) | simp) (by first | omega | (simp; omega) | simp) rfl (fun v_430 w_431 hz_432 hS => ?_)
                    refine Wx.nil ?_
                    refine Wp.br [8] (by kernel_rfl) (by decide) ⟨⟨_, rfl, ?_⟩, trivial⟩
                    refine Wx.storeX (cs' := [q14]) (ds := [q14]) hS 4 rfl rfl rfl (Go.Wk.cells_one (QTail.oneC hq14)) Try.sizeOf22 (Nat.le_of_ble_eq_true rfl) (one_cons (QTail.oneC hq14) one_nil) rfl (fun w_433 hz_434 hS => ?_)
                    refine Wx.nil ?_
                    refine Wp.br [9] (by kernel_rfl) (by decide) ⟨⟨_, rfl, ?_⟩, trivial⟩
                    refine Wx.storeX (cs' := [v_430]) (ds := [v_430]) hS 2 rfl rfl rfl (Go.Wk.cells_one (hS.rowOne 3 rfl)) Try.sizeOf22 (Nat.le_of_ble_eq_true rfl) (one_cons (hS.rowOne 3 rfl) one_nil) rfl (fun w_435 hz_436 hS => ?_)
                    refine Wx.nil ?_
                    refine Wp.done (by kernel_rfl) ?_
                    refine ⟨(v_420, y14, v_430, out2 ++ [m], q14, j14), ?_, ?_, Out.look rfl Out.refl⟩
                    · exact ⟨St.tl (hS.tl), (hq14), (he14), (by simpa using hl14), (rfl)⟩
                    · exact trivial
              · -- operation 4
                refine Wx.rd (v := ov2) (rd_loadX hS 1 rfl rfl rfl Try.isAgg22) rfl ?_
                refine Wx.nil ?_
                refine Wp.br [0, 6] (by kernel_rfl) (by decide) ⟨⟨_, rfl, ?_⟩, ⟨_, rfl, ?_⟩, trivial⟩
                · -- operation 0
                  refine Wx.rd (v := qq2) (rd_loadX hS 3 rfl rfl rfl Try.isAgg22) rfl ?_
                  refine Wx.nil ?_
                  refine Wp.br [3, 6] (by kernel_rfl) (by decide) ⟨⟨_, rfl, ?_⟩, ⟨_, rfl, ?_⟩, trivial⟩
                  · -- operation 3
                    refine Wx.appendQ elLf_22 hS 4 rfl hq2 rfl rfl (Src.ofR hS 0 rfl) (by simp) (by first | omega | (simp; omega)) (by first | omega | (simp; omega)) rfl (fun v_437 q14 y14 j14 w_441 hz_442 hq14 he14 hl14 hj14 hS => ?_)
                    refine Wx.nil ?_
                    refine Wp.br [6] (by kernel_rfl) (by decide) ⟨⟨_, rfl, ?_⟩, trivial⟩
                    refine Wx.lit (t := (tI .i64)) (ys := [m]) (vs := [.int .i64 m]) elLf_22 hS rfl rfl ⟨(V.mkInt (in_i64 (by omega) (by omega))), trivial⟩ (by decide) rfl (fun v_447 w_448 hx_449 hS => ?_)
                    refine Wx.nil ?_
                    refine Wp.br [7] (by kernel_rfl) (by decide) ⟨⟨_, rfl, ?_⟩, trivial⟩
                    refine Wx.append elLf_22 hS 3 rfl rfl rfl (Src.ofR hS 0 rfl) (by simp only [maxLen]; first | omega | (simp; omega) | simp) (by first | omega | (simp; omega) | simp) rfl (fun v_450 w_451 hz_452 hS => ?_)
                    refine Wx.nil ?_
                    refine Wp.br [8] (by kernel_rfl) (by decide) ⟨⟨_, rfl, ?_⟩, trivial⟩
                    refine Wx.storeX (cs' := [q14]) (ds := [q14]) hS 4 rfl rfl rfl (Go.Wk.cells_one (QTail.oneC hq14)) Try.sizeOf22 (Nat.le_of_ble_eq_true rfl) (one_cons (QTail.oneC hq14) one_nil) rfl (fun w_453 hz_454 hS => ?_)
                    refine Wx.nil ?_
                    refine Wp.br [9] (by kernel_rfl) (by decide) ⟨⟨_, rfl, ?_⟩, trivial⟩
                    refine Wx.storeX (cs' := [v_450]) (ds := [v_450]) hS 2 rfl rfl rfl (Go.Wk.cells_one (hS.rowOne 3 rfl)) Try.sizeOf22 (Nat.le_of_ble_eq_true rfl) (one_cons (hS.rowOne 3 rfl) one_nil) rfl (fun w_455 hz_456 hS => ?_)
                    refine Wx.nil ?_
                    refine Wp.done (by kernel_rfl) ?_
                    refine ⟨(v_437, y14, v_450, out2 ++ [m], q14, j14), ?_, ?_, Out.look rfl Out.refl⟩
                    · exact ⟨St.tl (hS.tl), (hq14), (he14), (by simpa using hl14), (rfl)⟩
                    · exact trivial
                  · -- operation 6
                    refine Wx.lit (t := (tI .i64)) (ys := [m]) (vs := [.int .i64 m]) elLf_22 hS rfl rfl ⟨(V.mkInt (in_i64 (by omega) (by omega))), trivial⟩ (by decide) rfl (fun v_457 w_458 hx_459 hS => ?_)
                    refine Wx.nil ?_
                    refine Wp.br [3] (by kernel_rfl) (by decide) ⟨⟨_, rfl, ?_⟩, trivial⟩
                    refine Wx.appendQ elLf_22 hS 5 rfl hq2 rfl rfl (Src.ofR hS 1 rfl) (by simp) (by first | omega | (simp; omega)) (by first | omega | (simp; omega)) rfl (fun v_460 q14 y14 j14 w_464 hz_465 hq14 he14 hl14 hj14 hS => ?_)
                    refine Wx.nil ?_
                    refine Wp.br [7] (by kernel_rfl) (by decide) ⟨⟨_, rfl, ?_⟩, trivial⟩
                    refine Wx.append elLf_22 hS 3 rfl rfl rfl (Src.ofR hS 0 rfl) (by simp only [maxLen]; first | omega | (simp; omega) | simp) (by first | omega | (simp; omega) | simp) rfl (fun v_470 w_471 hz_472 hS => ?_)
                    refine Wx.nil ?_
                    refine Wp.br [8] (by kernel_rfl) (by decide) ⟨⟨_, rfl, ?_⟩, trivial⟩
                    refine Wx.storeX (cs' := [q14]) (ds := [q14]) hS 4 rfl rfl rfl (Go.Wk.cells_one (QTail.oneC hq14)) Try.sizeOf22 (Nat.le_of_ble_eq_true rfl) (one_cons (QTail.oneC hq14) one_nil) rfl (fun w_473 hz_474 hS => ?_)
                    refine Wx.nil ?_
                    refine Wp.br [9] (by kernel_rfl) (by decide) ⟨⟨_, rfl, ?_⟩, trivial⟩
                    refine Wx.storeX (cs' := [v_470]) (ds := [v_470]) hS 2 rfl rfl rfl (Go.Wk.cells_one (hS.rowOne 3 rfl)) Try.sizeOf22 (Nat.le_of_ble_eq_true rfl) (one_cons (hS.rowOne 3 rfl) one_nil) rfl (fun w_475 hz_476 hS => ?_)
                    refine Wx.nil ?_
                    refine Wp.done (by kernel_rfl) ?_
                    refine ⟨(v_460, y14, v_470, out2 ++ [m], q14, j14), ?_, ?_, Out.look rfl Out.refl⟩
                    · exact ⟨St.tl (hS.tl), (hq14), (he14), (by simpa using hl14), (rfl)⟩
                    · exact trivial
                · -- operation 6
                  refine Wx.lit (t := (tI .i64)) (ys := [m]) (vs := [.int .i64 m]) elLf_22 hS rfl rfl ⟨(V.mkInt (in_i64 (by omega) (by omega))), trivial⟩ (by decide) rfl (fun v_477 w_478 hx_479 hS => ?_)
                  refine Wx.nil ?_
                  refine Wp.br [0] (by kernel_rfl) (by decide) ⟨⟨_, rfl, ?_⟩, trivial⟩
                  refine Wx.rd (v := qq2) (rd_loadX hS 4 rfl rfl rfl Try.isAgg22) rfl ?_
                  refine Wx.nil ?_
                  refine Wp.br [3] (by kernel_rfl) (by decide) ⟨⟨_, rfl, ?_⟩, trivial⟩
                  refine Wx.appendQ elLf_22 hS 5 rfl hq2 rfl rfl (Src.ofR hS 1 rfl) (by simp) (by first | omega | (simp; omega)) (by first | omega | (simp; omega)) rfl (fun v_480 q14 y14 j14 w_484 hz_485 hq14 he14 hl14 hj14 hS => ?_)
                  refine Wx.nil ?_
                  refine Wp.br [7] (by kernel_rfl) (by decide) ⟨⟨_, rfl, ?_⟩, trivial⟩
                  refine Wx.append elLf_22 hS 3 rfl rfl rfl (Src.ofR hS 0 rfl) (by simp only [maxLen]; first | omega | (simp; omega) | simp) (by first | omega | (simp; omega) | simp) rfl (fun v_490 w_491 hz_492 hS => ?_)
                  refine Wx.nil ?_
                  refine Wp.br [8] (by kernel_rfl) (by decide) ⟨⟨_, rfl, ?_⟩, trivial⟩
                  refine Wx.storeX (cs' := [q14]) (ds := [q14]) hS 4 rfl rfl rfl (Go.Wk.cells_one (QTail.oneC hq14)) Try.sizeOf22 (Nat.le_of_ble_eq_true rfl) (one_cons (QTail.oneC hq14) one_nil) rfl (fun w_493 hz_494 hS => ?_)
                  refine Wx.nil ?_
                  refine Wp.br [9] (by kernel_rfl) (by decide) ⟨⟨_, rfl, ?_⟩, trivial⟩
                  refine Wx.storeX (cs' := [v_490]) (ds := [v_490]) hS 2 rfl rfl rfl (Go.Wk.cells_one (hS.rowOne 3 rfl)) Try.sizeOf22 (Nat.le_of_ble_eq_true rfl) (one_cons (hS.rowOne 3 rfl) one_nil) rfl (fun w_495 hz_496 hS => ?_)
                  refine Wx.nil ?_
                  refine Wp.done (by kernel_rfl) ?_
                  refine ⟨(v_480, y14, v_490, out2 ++ [m], q14, j14), ?_, ?_, Out.look rfl Out.refl⟩
                  · exact ⟨St.tl (hS.tl), (hq14), (he14), (by simpa using hl14), (rfl)⟩
                  · exact trivial
              · -- operation 6
                refine Wx.lit (t := (tI .i64)) (ys := [m]) (vs := [.int .i64 m]) elLf_22 hS rfl rfl ⟨(V.mkInt (in_i64 (by omega) (by omega))), trivial⟩ (by decide) rfl (fun v_497 w_498 hx_499 hS => ?_)
                refine Wx.nil ?_
                refine Wp.br [0, 4] (by kernel_rfl) (by decide) ⟨⟨_, rfl, ?_⟩, ⟨_, rfl, ?_⟩, trivial⟩
                · -- operation 0
                  refine Wx.rd (v := qq2) (rd_loadX hS 4 rfl rfl rfl Try.isAgg22) rfl ?_
                  refine Wx.nil ?_
                  refine Wp.br [3, 4] (by kernel_rfl) (by decide) ⟨⟨_, rfl, ?_⟩, ⟨_, rfl, ?_⟩, trivial⟩
                  · -- operation 3
                    refine Wx.appendQ elLf_22 hS 5 rfl hq2 rfl rfl (Src.ofR hS 1 rfl) (by simp) (by first | omega | (simp; omega)) (by first | omega | (simp; omega)) rfl (fun v_500 q14 y14 j14 w_504 hz_505 hq14 he14 hl14 hj14 hS => ?_)
                    refine Wx.nil ?_
                    refine Wp.br [4] (by kernel_rfl) (by decide) ⟨⟨_, rfl, ?_⟩, trivial⟩
                    refine Wx.rd (v := ov2) (rd_loadX hS 2 rfl rfl rfl Try.isAgg22) rfl ?_
                    refine Wx.nil ?_
                    refine Wp.br [7] (by kernel_rfl) (by decide) ⟨⟨_, rfl, ?_⟩, trivial⟩
                    refine Wx.append elLf_22 hS 3 rfl rfl rfl (Src.ofR hS 0 rfl) (by simp only [maxLen]; first | omega | (simp; omega) | simp) (by first | omega | (simp; omega) | simp) rfl (fun v_510 w_511 hz_512 hS => ?_)
                    refine Wx.nil ?_
                    refine Wp.br [8] (by kernel_rfl) (by decide) ⟨⟨_, rfl, ?_⟩, trivial⟩
                    refine Wx.storeX (cs' := [q14]) (ds := [q14]) hS 4 rfl rfl rfl (Go.Wk.cells_one (QTail.oneC hq14)) Try.sizeOf22 (Nat.le_of_ble_eq_true rfl) (one_cons (QTail.oneC hq14) one_nil) rfl (fun w_513 hz_514 hS => ?_)
                    refine Wx.nil ?_
                    refine Wp.br [9] (by kernel_rfl) (by decide) ⟨⟨_, rfl, ?_⟩, trivial⟩
                    refine Wx.storeX (cs' := [v_510]) (ds := [v_510]) hS 2 rfl rfl rfl (Go.Wk.cells_one (hS.rowOne 3 rfl)) Try.sizeOf22 (Nat.le_of_ble_eq_true rfl) (one_cons (hS.rowOne 3 rfl) one_nil) rfl (fun w_515 hz_516 hS => ?_)
                    refine Wx.nil ?_
                    refine Wp.done (by kernel_rfl) ?_
                    refine ⟨(v_500, y14, v_510, out2 ++ [m], q14, j14), ?_, ?_, Out.look rfl Out.refl⟩
                    · exact ⟨St.tl (hS.tl), (hq14), (he14), (by simpa using hl14), (rfl)⟩
                    · exact trivial
                  · -- operation 4
                    refine Wx.rd (v := ov2) (rd_loadX hS 2 rfl rfl rfl Try.isAgg22) rfl ?_
                    refine Wx.nil ?_
                    refine Wp.br [3] (by kernel_rfl) (by decide) ⟨⟨_, rfl, ?_⟩, trivial⟩
                    refine Wx.appendQ elLf_22 hS 5 rfl hq2 rfl rfl (Src.ofR hS 1 rfl) (by simp) (by first | omega | (simp; omega)) (by first | omega | (simp; omega)) rfl (fun v_517 q14 y14 j14 w_521 hz_522 hq14 he14 hl14 hj14 hS => ?_)
                    refine Wx.nil ?_
                    refine Wp.br [7] (by kernel_rfl) (by decide) ⟨⟨_, rfl, ?_⟩, trivial⟩
                    refine Wx.append elLf_22 hS 3 rfl rfl rfl (Src.ofR hS 0 rfl) (by simp only [maxLen]; first | omega | (simp; omega) | simp) (by first | omega | (simp; omega) | simp) rfl (fun v_527 w_528 hz_529 hS => ?_)
                    refine Wx.nil ?_
                    refine Wp.br [8] (by kernel_rfl) (by decide) ⟨⟨_, rfl, ?_⟩, trivial⟩
                    refine Wx.storeX (cs' := [q14]) (ds := [q14]) hS 4 rfl rfl rfl (Go.Wk.cells_one (QTail.oneC hq14)) Try.sizeOf22 (Nat.le_of_ble_eq_true rfl) (one_cons (QTail.oneC hq14) one_nil) rfl (fun w_530 hz_531 hS => ?_)
                    refine Wx.nil ?_
                    refine Wp.br [9] (by kernel_rfl) (by decide) ⟨⟨_, rfl, ?_⟩, trivial⟩
                    refine Wx.storeX (cs' := [v_527]) (ds := [v_527]) hS 2 rfl rfl rfl (Go.Wk.cells_one (hS.rowOne 3 rfl)) Try.sizeOf22 (Nat.le_of_ble_eq_true rfl) (one_cons (hS.rowOne 3 rfl) one_nil) rfl (fun w_532 hz_533 hS => ?_)
                    refine Wx.nil ?_
                    refine Wp.done (by kernel_rfl) ?_
                    refine ⟨(v_517, y14, v_527, out2 ++ [m], q14, j14), ?_, ?_, Out.look rfl Out.refl⟩
                    · exact ⟨St.tl (hS.tl), (hq14), (he14), (by simpa using hl14), (rfl)⟩
                    · exact trivial
                · -- operation 4
                  refine Wx.rd (v := ov2) (rd_loadX hS 2 rfl rfl rfl Try.isAgg22) rfl ?_
                  refine Wx.nil ?_
                  refine Wp.br [0] (by kernel_rfl) (by decide) ⟨⟨_, rfl, ?_⟩, trivial⟩
                  refine Wx.rd (v := qq2) (rd_loadX hS 4 rfl rfl rfl Try.isAgg22) rfl ?_
                  refine Wx.nil ?_
                  refine Wp.br [3] (by kernel_rfl) (by decide) ⟨⟨_, rfl, ?_⟩, trivial⟩
                  refine Wx.appendQ elLf_22 hS 5 rfl hq2 rfl rfl (Src.ofR hS 1 rfl) (by simp) (by first | omega | (simp; omega)) (by first | omega | (simp; omega)) rfl (fun v_534 q14 y14 j14 w_538 hz_539 hq14 he14 hl14 hj14 hS => ?_)
                  refine Wx.nil ?_
                  refine Wp.br [7] (by kernel_rfl) (by decide) ⟨⟨_, rfl, ?_⟩, trivial⟩
                  refine Wx.append elLf_22 hS 3 rfl rfl rfl (Src.ofR hS 0 rfl) (by simp only [maxLen]; first | omega | (simp; omega) | simp) (by first | omega | (simp; omega) | simp) rfl (fun v_544 w_545 hz_546 hS => ?_)
                  refine Wx.nil ?_
                  refine Wp.br [8] (by kernel_rfl) (by decide) ⟨⟨_, rfl, ?_⟩, trivial⟩
                  refine Wx.storeX (cs' := [q14]) (ds := [q14]) hS 4 rfl rfl rfl (Go.Wk.cells_one (QTail.oneC hq14)) Try.sizeOf22 (Nat.le_of_ble_eq_true rfl) (one_cons (QTail.oneC hq14) one_nil) rfl (fun w_547 hz_548 hS => ?_)
                  refine Wx.nil ?_
                  refine Wp.br [9] (by kernel_rfl) (by decide) ⟨⟨_, rfl, ?_⟩, trivial⟩
                  refine Wx.storeX (cs' := [v_544]) (ds := [v_544]) hS 2 rfl rfl rfl (Go.Wk.cells_one (hS.rowOne 3 rfl)) Try.sizeOf22 (Nat.le_of_ble_eq_true rfl) (one_cons (hS.rowOne 3 rfl) one_nil) rfl (fun w_549 hz_550 hS => ?_)
                  refine Wx.nil ?_
                  refine Wp.done (by kernel_rfl) ?_
                  refine ⟨(v_534, y14, v_544, out2 ++ [m], q14, j14), ?_, ?_, Out.look rfl Out.refl⟩
                  · exact ⟨St.tl (hS.tl), (hq14), (he14), (by simpa using hl14), (rfl)⟩
                  · exact trivial
            · -- operation 4
              refine Wx.rd (v := ov2) (rd_loadX hS 0 rfl rfl rfl Try.isAgg22) rfl ?_
              refine Wx.nil ?_
              refine Wp.br [0, 2, 6] (by kernel_rfl) (by decide) ⟨⟨_, rfl, ?_⟩, ⟨_, rfl, ?_⟩, ⟨_, rfl, ?_⟩, trivial⟩
              · -- operation 0
                refine Wx.rd (v := qq2) (rd_loadX hS 2 rfl rfl rfl Try.isAgg22) rfl ?_
                refine Wx.nil ?_
                refine Wp.br [2, 6] (by kernel_rfl) (by decide) ⟨⟨_, rfl, ?_⟩, ⟨_, rfl, ?_⟩, trivial⟩
                · -- operation 2
                  refine Wx.lit (t := (tI .i64)) (ys := [m]) (vs := [.int .i64 m]) elLf_22 hS rfl rfl ⟨(V.mkInt (in_i64 (by omega) (by omega))), trivial⟩ (by decide) rfl (fun v_551 w_552 hx_553 hS => ?_)
                  refine Wx.nil ?_
                  refine Wp.br [3, 6] (by kernel_rfl) (by decide) ⟨⟨_, rfl, ?_⟩, ⟨_, rfl, ?_⟩, trivial⟩
                  · -- operation 3
                    refine Wx.appendQ elLf_22 hS 4 rfl hq2 rfl rfl (Src.ofR hS 0 rfl) (by simp) (by first | omega | (simp; omega)) (by first | omega | (simp; omega)) rfl (fun v_554 q14 y14 j14 w_558 hz_559 hq14 he14 hl14 hj14 hS => ?_)
                    refine Wx.nil ?_
                    refine Wp.br [6] (by kernel_rfl) (by decide) ⟨⟨_, rfl, ?_⟩, trivial⟩
                    refine Wx.lit (t := (tI .i64)) (ys := [m]) (vs := [.int .i64 m]) elLf_22 hS rfl rfl ⟨(V.mkInt (in_i64 (by omega) (by omega))), trivial⟩ (by decide) rfl (fun v_564 w_565 hx_566 hS => ?_)
                    refine Wx.nil ?_
                    refine Wp.br [7] (by kernel_rfl) (by decide) ⟨⟨_, rfl, ?_⟩, trivial⟩
                    refine Wx.append elLf_22 hS 3 rfl rfl rfl (Src.ofR hS 0 rfl) (by simp only [maxLen]; first | omega | (simp; omega) | simp) (by first | omega | (simp; omega) | simp) rfl (fun v_567 w_568 hz_569 hS => ?_)
                    refine Wx.nil ?_
                    refine Wp.br [8] (by kernel_rfl) (by decide) ⟨⟨_, rfl, ?_⟩, trivial⟩
                    refine Wx.storeX (cs' := [q14]) (ds := [q14]) hS 4 rfl rfl rfl (Go.Wk.cells_one (QTail.oneC hq14)) Try.sizeOf22 (Nat.le_of_ble_eq_true rfl) (one_cons (QTail.oneC hq14) one_nil) rfl (fun w_570 hz_571 hS => ?_)
                    refine Wx.nil ?_
                    refine Wp.br [9] (by kernel_rfl) (by decide) ⟨⟨_, rfl, ?_⟩, trivial⟩
                    refine Wx.storeX (cs' := [v_567]) (ds := [v_567]) hS 2 rfl rfl rfl (Go.Wk.cells_one (hS.rowOne 3 rfl)) Try.sizeOf22 (Nat.le_of_ble_eq_true rfl) (one_cons (hS.rowOne 3 rfl) one_nil) rfl (fun w_572 hz_573 hS => ?_)
                    refine Wx.nil ?_
                    refine Wp.done (by kernel_rfl) ?_
                    refine ⟨(v_554, y14, v_567, out2 ++ [m], q14, j14), ?_, ?_, Out.look rfl Out.refl⟩
                    · exact ⟨St.tl (hS.tl), (hq14), (he14), (by simpa using hl14), (rfl)⟩
                    · exact trivial
                  · -- operation 6
                    refine Wx.lit (t := (tI .i64)) (ys := [m]) (vs := [.int .i64 m]) elLf_22 hS rfl rfl ⟨(V.mkInt (in_i64 (by omega) (by omega))), trivial⟩ (by decide) rfl (fun v_574 w_575 hx_576 hS => ?_)
                    refine Wx.nil ?_
                    refine Wp.br [3] (by kernel_rfl) (by decide) ⟨⟨_, rfl, ?_⟩, trivial⟩
                    refine Wx.appendQ elLf_22 hS 5 rfl hq2 rfl rfl (Src.ofR hS 1 rfl) (by simp) (by first | omega | (simp; omega)) (by first | omega | (simp; omega)) rfl (fun v_577 q14 y14 j14 w_581 hz_582 hq14 he14 hl14 hj14 hS => ?_)
                    refine Wx.nil ?_
                    refine Wp.br [7] (by kernel_rfl) (by decide) ⟨⟨_, rfl, ?_⟩, trivial⟩
                    refine Wx.append elLf_22 hS 3 rfl rfl rfl (Src.ofR hS 0 rfl) (by simp only [maxLen]; first | omega | (simp; omega) | simp) (by first | omega | (simp; omega) | simp) rfl (fun v_587 w_588 hz_589 hS => ?_)
                    refine Wx.nil ?_
                    refine Wp.br [8] (by kernel_rfl) (by decide) ⟨⟨_, rfl, ?_⟩, trivial⟩
                    refine Wx.storeX (cs' := [q14]) (ds := [q14]) hS 4 rfl rfl rfl (Go.Wk.cells_one (QTail.oneC hq14)) Try.sizeOf22 (Nat.le_of_ble_eq_true rfl) (one_cons (QTail.oneC hq14) one_nil) rfl (fun w_590 hz_591 hS => ?_)
                    refine Wx.nil ?_
                    refine Wp.br [9] (by kernel_rfl) (by decide) ⟨⟨_, rfl, ?_⟩, trivial⟩
                    refine Wx.storeX (cs' := [v_587]) (ds := [v_587]) hS 2 rfl rfl rfl (Go.Wk.cells_one (hS.rowOne 3 rfl)) Try.sizeOf22 (Nat.le_of_ble_eq_true rfl) (one_cons (hS.rowOne 3 rfl) one_nil) rfl (fun w_592 hz_593 hS => ?_)
                    refine Wx.nil ?_
                    refine Wp.done (by kernel_rfl) ?_
                    refine ⟨(v_577, y14, v_587, out2 ++ [m], q14, j14), ?_, ?_, Out.look rfl Out.refl⟩
                    · exact ⟨St.tl (hS.tl), (hq14), (he14), (by simpa using hl14), (rfl)⟩
                    · exact trivial
                · -- operation 6
                  refine Wx.lit (t := (tI .i64)) (ys := [m]) (vs := [.int .i64 m]) elLf_22 hS rfl rfl ⟨(V.mkInt (in_i64 (by omega) (by omega))), trivial⟩ (by decide) rfl (fun v_594 w_595 hx_596 hS => ?_)
                  refine Wx.nil ?_
                  refine Wp.br [2] (by kernel_rfl) (by decide) ⟨⟨_, rfl, ?_⟩, trivial⟩
                  refine Wx.lit (t := (tI .i64)) (ys := [m]) (vs := [.int .i64 m]) elLf_22 hS rfl rfl ⟨(V.mkInt (in_i64 (by omega) (by omega))), trivial⟩ (by decide) rfl (fun v_597 w_598 hx_599 hS => ?_)
                  refine Wx.nil ?_
                  refine Wp.br [3] (by kernel_rfl) (by decide) ⟨⟨_, rfl, ?_⟩, trivial⟩
                  refine Wx.appendQ elLf_22 hS 5 rfl hq2 rfl rfl (Src.ofR hS 0 rfl) (by simp) (by first | omega | (simp; omega)) (by first | omega | (simp; omega)) rfl (fun v_600 q14 y14 j14 w_604 hz_605 hq14 he14 hl14 hj14 hS => ?_)
                  refine Wx.nil ?_
                  refine Wp.br [7] (by kernel_rfl) (by decide) ⟨⟨_, rfl, ?_⟩, trivial⟩
                  refine Wx.append elLf_22 hS 3 rfl rfl rfl (Src.ofR hS 1 rfl) (by simp only [maxLen]; first | omega | (simp; omega) | simp) (by first | omega | (simp; omega) | simp) rfl (fun v_610 w_611 hz_612 hS => ?_)
                  refine Wx.nil ?_
                  refine Wp.br [8] (by kernel_rfl) (by decide) ⟨⟨_, rfl, ?_⟩, trivial⟩
                  refine Wx.storeX (cs' := [q14]) (ds := [q14]) hS 4 rfl rfl rfl (Go.Wk.cells_one (QTail.oneC hq14)) Try.sizeOf22 (Nat.le_of_ble_eq_true rfl) (one_cons (QTail.oneC hq14) one_nil) rfl (fun w_613 hz_614 hS => ?_)
                  refine Wx.nil ?_
                  refine Wp.br [9] (by kernel_rfl) (by decide) ⟨⟨_, rfl, ?_⟩, trivial⟩
                  refine Wx.storeX (cs' := [v_610]) (ds := [v_610]) hS 2 rfl rfl rfl (Go.Wk.cells_one (hS.rowOne 3 rfl)) Try.sizeOf22 (Nat.le_of_ble_eq_true rfl) (one_cons (hS.rowOne 3 rfl) one_nil) rfl (fun w_615 hz_616 hS => ?_)
                  refine Wx.nil ?_
                  refine Wp.done (by kernel_rfl) ?_
                  refine ⟨(v_600, y14, v_610, out2 ++ [m], q14, j14), ?_, ?_, Out.look rfl Out.refl⟩
                  · exact ⟨St.tl (hS.tl), (hq14), (he14), (by simpa using hl14), (rfl)⟩
                  · exact trivial
              · -- operation 2
                refine Wx.lit (t := (tI .i64)) (ys := [m]) (vs := [.int .i64 m]) elLf_22 hS rfl rfl ⟨(V.mkInt (in_i64 (by omega) (by omega))), trivial⟩ (by decide) rfl (fun v_617 w_618 hx_619 hS => ?_)
                refine Wx.nil ?_
                refine Wp.br [0, 6] (by kernel_rfl) (by decide) ⟨⟨_, rfl, ?_⟩, ⟨_, rfl, ?_⟩, trivial⟩
                · -- operation 0
                  refine Wx.rd (v := qq2) (rd_loadX hS 3 rfl rfl rfl Try.isAgg22) rfl ?_
                  refine Wx.nil ?_
                  refine Wp.br [3, 6] (by kernel_rfl) (by decide) ⟨⟨_, rfl, ?_⟩, ⟨_, rfl, ?_⟩, trivial⟩
                  · -- operation 3
                    refine Wx.appendQ elLf_22 hS 4 rfl hq2 rfl rfl (Src.ofR hS 0 rfl) (by simp) (by first | omega | (simp; omega)) (by first | omega | (simp; omega)) rfl (fun v_620 q14 y14 j14 w_624 hz_625 hq14 he14 hl14 hj14 hS => ?_)
                    refine Wx.nil ?_
                    refine Wp.br [6] (by kernel_rfl) (by decide) ⟨⟨_, rfl, ?_⟩, trivial⟩
                    refine Wx.lit (t := (tI .i64)) (ys := [m]) (vs := [.int .i64 m]) elLf_22 hS rfl rfl ⟨(V.mkInt (in_i64 (by omega) (by omega))), trivial⟩ (by decide) rfl (fun v_630 w_631 hx_632 hS => ?_)
                    refine Wx.nil ?_
                    refine Wp.br [7] (by kernel_rfl) (by decide) ⟨⟨_, rfl, ?_⟩, trivial⟩
                    refine Wx.append elLf_22 hS 3 rfl rfl rfl (Src.ofR hS 0 rfl) (by simp only [maxLen]; first | omega | (simp; omega) | simp) (by first | omega | (simp; omega) | simp) rfl (fun v_633 w_634 hz_635 hS => ?_)
                    refine Wx.nil ?_
                    refine Wp.br [8] (by kernel_rfl) (by decide) ⟨⟨_, rfl, ?_⟩, trivial⟩
                    refine Wx.storeX (cs' := [q14]) (ds := [q14]) hS 4 rfl rfl rfl (Go.Wk.cells_one (QTail.oneC hq14)) Try.sizeOf22 (Nat.le_of_ble_eq_true rfl) (one_cons (QTail.oneC hq14) one_nil) rfl (fun w_636 hz_637 hS => ?_)
                    refine Wx.nil ?_
                    refine Wp.br [9] (by kernel_rfl) (by decide) ⟨⟨_, rfl, ?_⟩, trivial⟩
                    refine Wx.storeX (cs' := [v_633]) (ds := [v_633]) hS 2 rfl rfl rfl (Go.Wk.cells_one (hS.rowOne 3 rfl)) Try.sizeOf22 (Nat.le_of_ble_eq_true rfl) (one_cons (hS.rowOne 3 rfl) one_nil) rfl (fun w_638 hz_639 hS => ?_)
                    refine Wx.nil ?_
                    refine Wp.done (by kernel_rfl) ?_
                    refine ⟨(v_620, y14, v_633, out2 ++ [m], q14, j14), ?_, ?_, Out.look rfl Out.refl⟩
                    · exact ⟨St.tl (hS.tl), (hq14), (he14), (by simpa using hl14), (rfl)⟩
                    · exact trivial
                  · -- operation 6
                    refine Wx.lit (t := (tI .i64)) (ys := [m]) (vs := [.int .i64 m]) elLf_22 hS rfl rfl ⟨(V.mkInt (in_i64 (by omega) (by omega))), trivial⟩ (by decide) rfl (fun v_640 w_641 hx_642 hS => ?_)
                    refine Wx.nil ?_
                    refine Wp.br [3] (by kernel_rfl) (by decide) ⟨⟨_, rfl, ?_⟩, trivial⟩
                    refine Wx.appendQ elLf_22 hS 5 rfl hq2 rfl rfl (Src.ofR hS 1 rfl) (by simp) (by first | omega | (simp; omega)) (by first | omega | (simp; omega)) rfl (fun v_643 q14 y14 j14 w_647 hz_648 hq14 he14 hl14 hj14 hS => ?_)
                    refine Wx.nil ?_
                    refine Wp.br [7] (by kernel_rfl) (by decide) ⟨⟨_, rfl, ?_⟩, trivial⟩
                    refine Wx.append elLf_22 hS 3 rfl rfl rfl (Src.ofR hS 0 rfl) (by simp only [maxLen]; first | omega | (simp; omega) | simp) (by first | omega | (simp; omega) | simp) rfl (fun v_653 w_654 hz_655 hS => ?_)
                    refine Wx.nil ?_
                    refine Wp.br [8] (by kernel_rfl) (by decide) ⟨⟨_, rfl, ?_⟩, trivial⟩
                    refine Wx.storeX (cs' := [q14]) (ds := [q14]) hS 4 rfl rfl rfl (Go.Wk.cells_one (QTail.oneC hq14)) Try.sizeOf22 (Nat.le_of_ble_eq_true rfl) (one_cons (QTail.oneC hq14) one_nil) rfl (fun w_656 hz_657 hS => ?_)
                    refine Wx.nil ?_
                    refine Wp.br [9] (by kernel_rfl) (by decide) ⟨⟨_, rfl, ?_⟩, trivial⟩
                    refine Wx.storeX (cs' := [v_653]) (ds := [v_653]) hS 2 rfl rfl rfl (Go.Wk.cells_one (hS.rowOne 3 rfl)) Try.sizeOf22 (Nat.le_of_ble_eq_true rfl) (one_cons (hS.rowOne 3 rfl) one_nil) rfl (fun w_658 hz_659 hS => ?_)
                    refine Wx.nil ?_
                    refine Wp.done (by kernel_rfl) ?_
                    refine ⟨(v_643, y14, v_653, out2 ++ [m], q14, j14), ?_, ?_, Out.look rfl Out.refl⟩
                    · exact ⟨St.tl (hS.tl), (hq14), (he14), (by simpa using hl14), (rfl)⟩
                    · exact trivial
                · -- operation 6
                  refine Wx.lit (t := (tI .i64)) (ys := [m]) (vs := [.int .i64 m]) elLf_22 hS rfl rfl ⟨(V.mkInt (in_i64 (by omega) (by omega))), trivial⟩ (by decide) rfl (fun v_660 w_661 hx_662 hS => ?_)
                  refine Wx.nil ?_
                  refine Wp.br [0] (by kernel_rfl) (by decide) ⟨⟨_, rfl, ?_⟩, trivial⟩
                  refine Wx.rd (v := qq2) (rd_loadX hS 4 rfl rfl rfl Try.isAgg22) rfl ?_
                  refine Wx.nil ?_
                  refine Wp.br [3] (by kernel_rfl) (by decide) ⟨⟨_, rfl, ?_⟩, trivial⟩
                  refine Wx.appendQ elLf_22 hS 5 rfl hq2 rfl rfl (Src.ofR hS 1 rfl) (by simp) (by first | omega | (simp; omega)) (by first | omega | (simp; omega)) rfl (fun v_663 q14 y14 j14 w_667 hz_668 hq14 he14 hl14 hj14 hS => ?_)
                  refine Wx.nil ?_
                  refine Wp.br [7] (by kernel_rfl) (by decide) ⟨⟨_, rfl, ?_⟩, trivial⟩
                  refine Wx.append elLf_22 hS 3 rfl rfl rfl (Src.ofR hS 0 rfl) (by simp only [maxLen]; first | omega | (simp; omega) | simp) (by first | omega | (simp; omega) | simp) rfl (fun v_673 w_674 hz_675 hS => ?_)
                  refine Wx.nil ?_
                  refine Wp.br [8] (by kernel_rfl) (by decide) ⟨⟨_, rfl, ?_⟩, trivial⟩
                  refine Wx.storeX (cs' := [q14]) (ds := [q14]) hS 4 rfl rfl rfl (Go.Wk.cells_one (QTail.oneC hq14)) Try.sizeOf22 (Nat.le_of_ble_eq_true rfl) (one_cons (QTail.oneC hq14) one_nil) rfl (fun w_676 hz_677 hS => ?_)
                  refine Wx.nil ?_
                  refine Wp.br [9] (by kernel_rfl) (by decide) ⟨⟨_, rfl, ?_⟩, trivial⟩
                  refine Wx.storeX (cs' := [v_673]) (ds := [v_673]) hS 2 rfl rfl rfl (Go.Wk.cells_one (hS.rowOne 3 rfl)) Try.sizeOf22 (Nat.le_of_ble_eq_true rfl) (one_cons (hS.rowOne 3 rfl) one_nil) rfl (fun w_678 hz_679 hS => ?_)
                  refine Wx.nil ?_
                  refine Wp.done (by kernel_rfl) ?_
                  refine ⟨(v_663, y14, v_673, out2 ++ [m], q14, j14), ?_, ?_, Out.look rfl Out.refl⟩
                  · exact ⟨St.tl (hS.tl), (hq14), (he14), (by simpa using hl14), (rfl)⟩
                  · exact trivial
              · -- operation 6
                refine Wx.lit (t := (tI .i64)) (ys := [m]) (vs := [.int .i64 m]) elLf_22 hS rfl rfl ⟨(V.mkInt (in_i64 (by omega) (by omega))), trivial⟩ (by decide) rfl (fun v_680 w_681 hx_682 hS => ?_)
                refine Wx.nil ?_
                refine Wp.br [0, 2] (by kernel_rfl) (by decide) ⟨⟨_, rfl, ?_⟩, ⟨_, rfl, ?_⟩, trivial⟩
                · -- operation 0
                  refine Wx.rd (v := qq2) (rd_loadX hS 3 rfl rfl rfl Try.isAgg22) rfl ?_
                  refine Wx.nil ?_
                  refine Wp.br [2] (by kernel_rfl) (by decide) ⟨⟨_, rfl, ?_⟩, trivial⟩
                  refine Wx.lit (t := (tI .i64)) (ys := [m]) (vs := [.int .i64 m]) elLf_22 hS rfl rfl ⟨(V.mkInt (in_i64 (by omega) (by omega))), trivial⟩ (by decide) rfl (fun v_683 w_684 hx_685 hS => ?_)
                  refine Wx.nil ?_
                  refine Wp.br [3] (by kernel_rfl) (by decide) ⟨⟨_, rfl, ?_⟩, trivial⟩
                  refine Wx.appendQ elLf_22 hS 5 rfl hq2 rfl rfl (Src.ofR hS 0 rfl) (by simp) (by first | omega | (simp; omega)) (by first | omega | (simp; omega)) rfl (fun v_686 q14 y14 j14 w_690 hz_691 hq14 he14 hl14 hj14 hS => ?_)
                  refine Wx.nil ?_
                  refine Wp.br [7] (by kernel_rfl) (by decide) ⟨⟨_, rfl, ?_⟩, trivial⟩
                  refine Wx.append elLf_22 hS 3 rfl rfl rfl (Src.ofR hS 1 rfl) (by simp only [maxLen]; first | omega | (simp; omega) | simp) (by first | omega | (simp; omega) | simp) rfl (fun v_696 w_697 hz_698 hS => ?_)
                  refine Wx.nil ?_
                  refine Wp.br [8] (by kernel_rfl) (by decide) ⟨⟨_, rfl, ?_⟩, trivial⟩
                  refine Wx.storeX (cs' := [q14]) (ds := [q14]) hS 4 rfl rfl rfl (Go.Wk.cells_one (QTail.oneC hq14)) Try.sizeOf22 (Nat.le_of_ble_eq_true rfl) (one_cons (QTail.oneC hq14) one_nil) rfl (fun w_699 hz_700 hS => ?_)
                  refine Wx.nil ?_
                  refine Wp.br [9] (by kernel_rfl) (by decide) ⟨⟨_, rfl, ?_⟩, trivial⟩
                  refine Wx.storeX (cs' := [v_696]) (ds := [v_696]) hS 2 rfl rfl rfl (Go.Wk.cells_one (hS.rowOne 3 rfl)) Try.sizeOf22 (Nat.le_of_ble_eq_true rfl) (one_cons (hS.rowOne 3 rfl) one_nil) rfl (fun w_701 hz_702 hS => ?_)
                  refine Wx.nil ?_
                  refine Wp.done (by kernel_rfl) ?_
                  refine ⟨(v_686, y14, v_696, out2 ++ [m], q14, j14), ?_, ?_, Out.look rfl Out.refl⟩
                  · exact ⟨St.tl (hS.tl), (hq14), (he14), (by simpa using hl14), (rfl)⟩
                  · exact trivial
                · -- operation 2
                  refine Wx.lit (t := (tI .i64)) (ys := [m]) (vs := [.int .i64 m]) elLf_22 hS rfl rfl ⟨(V.mkInt (in_i64 (by omega) (by omega))), trivial⟩ (by decide) rfl (fun v_703 w_704 hx_705 hS => ?_)
                  refine Wx.nil ?_
                  refine Wp.br [0] (by kernel_rfl) (by decide) ⟨⟨_, rfl, ?_⟩, trivial⟩
                  refine Wx.rd (v := qq2) (rd_loadX hS 4 rfl rfl rfl Try.isAgg22) rfl ?_
                  refine Wx.nil ?_
                  refine Wp.br [3] (by kernel_rfl) (by decide) ⟨⟨_, rfl, ?_⟩, trivial⟩
                  refine Wx.appendQ elLf_22 hS 5 rfl hq2 rfl rfl (Src.ofR hS 0 rfl) (by simp) (by first | omega | (simp; omega)) (by first | omega | (simp; omega)) rfl (fun v_706 q14 y14 j14 w_710 hz_711 hq14 he14 hl14 hj14 hS => ?_)
                  refine Wx.nil ?_
                  refine Wp.br [7] (by kernel_rfl) (by decide) ⟨⟨_, rfl, ?_⟩, trivial⟩
                  refine Wx.append elLf_22 hS 3 rfl rfl rfl (Src.ofR hS 1 rfl) (by simp only [maxLen]; first | omega | (simp; omega) | simp) (by first | omega | (simp; omega) | simp) rfl (fun v_716 w_717 hz_718 hS => ?_)
                  refine Wx.nil ?_
                  refine Wp.br [8] (by kernel_rfl) (by decide) ⟨⟨_, rfl, ?_⟩, trivial⟩
                  refine Wx.storeX (cs' := [q14]) (ds := [q14]) hS 4 rfl rfl rfl (Go.Wk.cells_one (QTail.oneC hq14)) Try.sizeOf22 (Nat.le_of_ble_eq_true rfl) (one_cons (QTail.oneC hq14) one_nil) rfl (fun w_719 hz_720 hS => ?_)
                  refine Wx.nil ?_
                  refine Wp.br [9] (by kernel_rfl) (by decide) ⟨⟨_, rfl, ?_⟩, trivial⟩
                  refine Wx.storeX (cs' := [v_716]) (ds := [v_716]) hS 2 rfl rfl rfl (Go.Wk.cells_one (hS.rowOne 3 rfl)) Try.sizeOf22 (Nat.le_of_ble_eq_true rfl) (one_cons (hS.rowOne 3 rfl) one_nil) rfl (fun w_721 hz_722 hS => ?_)
                  refine Wx.nil ?_
                  refine Wp.done (by kernel_rfl) ?_
                  refine ⟨(v_706, y14, v_716, out2 ++ [m], q14, j14), ?_, ?_, Out.look rfl Out.refl⟩
                  · exact ⟨St.tl (hS.tl), (hq14), (he14), (by simpa using hl14), (rfl)⟩
                  · exact trivial
            · -- operation 6
              refine Wx.lit (t := (tI .i64)) (ys := [m]) (vs := [.int .i64 m]) elLf_22 hS rfl rfl ⟨(V.mkInt (in_i64 (by omega) (by omega))), trivial⟩ (by decide) rfl (fun v_723 w_724 hx_725 hS => ?_)
              refine Wx.nil ?_
              refine Wp.br [0, 2, 4] (by kernel_rfl) (by decide) ⟨⟨_, rfl, ?_⟩, ⟨_, rfl, ?_⟩, ⟨_, rfl, ?_⟩, trivial⟩
              · -- operation 0
                refine Wx.rd (v := qq2) (rd_loadX hS 3 rfl rfl rfl Try.isAgg22) rfl ?_
                refine Wx.nil ?_
                refine Wp.br [2, 4] (by kernel_rfl) (by decide) ⟨⟨_, rfl, ?_⟩, ⟨_, rfl, ?_⟩, trivial⟩
                · -- operation 2
                  refine Wx.lit (t := (tI .i64)) (ys := [m]) (vs := [.int .i64 m]) elLf_22 hS rfl rfl ⟨(V.mkInt (in_i64 (by omega) (by omega))), trivial⟩ (by decide) rfl (fun v_726 w_727 hx_728 hS => ?_)
                  refine Wx.nil ?_
                  refine Wp.br [3, 4] (by kernel_rfl) (by decide) ⟨⟨_, rfl, ?_⟩, ⟨_, rfl, ?_⟩, trivial⟩
                  · -- operation 3
                    refine Wx.appendQ elLf_22 hS 5 rfl hq2 rfl rfl (Src.ofR hS 0 rfl) (by simp) (by first | omega | (simp; omega)) (by first | omega | (simp; omega)) rfl (fun v_729 q14 y14 j14 w_733 hz_734 hq14 he14 hl14 hj14 hS => ?_)
                    refine Wx.nil ?_
                    refine Wp.br [4] (by kernel_rfl) (by decide) ⟨⟨_, rfl, ?_⟩, trivial⟩
                    refine Wx.rd (v := ov2) (rd_loadX hS 2 rfl rfl rfl Try.isAgg22) rfl ?_
                    refine Wx.nil ?_
                    refine Wp.br [7] (by kernel_rfl) (by decide) ⟨⟨_, rfl, ?_⟩, trivial⟩
                    refine Wx.append elLf_22 hS 3 rfl rfl rfl (Src.ofR hS 1 rfl) (by simp only [maxLen]; first | omega | (simp; omega) | simp) (by first | omega | (simp; omega) | simp) rfl (fun v_739 w_740 hz_741 hS => ?_)
                    refine Wx.nil ?_
                    refine Wp.br [8] (by kernel_rfl) (by decide) ⟨⟨_, rfl, ?_⟩, trivial⟩
                    refine Wx.storeX (cs' := [q14]) (ds := [q14]) hS 4 rfl rfl rfl (Go.Wk.cells_one (QTail.oneC hq14)) Try.sizeOf22 (Nat.le_of_ble_eq_true rfl) (one_cons (QTail.oneC hq14) one_nil) rfl (fun w_742 hz_743 hS => ?_)
                    refine Wx.nil ?_
                    refine Wp.br [9] (by kernel_rfl) (by decide) ⟨⟨_, rfl, ?_⟩, trivial⟩
                    refine Wx.storeX (cs' := [v_739]) (ds := [v_739]) hS 2 rfl rfl rfl (Go.Wk.cells_one (hS.rowOne 3 rfl)) Try.sizeOf22 (Nat.le_of_ble_eq_true rfl) (one_cons (hS.rowOne 3 rfl) one_nil) rfl (fun w_744 hz_745 hS => ?_)
                    refine Wx.nil ?_
                    refine Wp.done (by kernel_rfl) ?_
                    refine ⟨(v_729, y14, v_739, out2 ++ [m], q14, j14), ?_, ?_, Out.look rfl Out.refl⟩
                    · exact ⟨St.tl (hS.tl), (hq14), (he14), (by simpa using hl14), (rfl)⟩
                    · exact trivial
                  · -- operation 4
                    refine Wx.rd (v := ov2) (rd_loadX hS 2 rfl rfl rfl Try.isAgg22) rfl ?_
                    refine Wx.nil ?_
                    refine Wp.br [3] (by kernel_rfl) (by decide) ⟨⟨_, rfl, ?_⟩, trivial⟩
                    refine Wx.appendQ elLf_22 hS 5 rfl hq2 rfl rfl (Src.ofR hS 0 rfl) (by simp) (by first | omega | (simp; omega)) (by first | omega | (simp; omega)) rfl (fun v_746 q14 y14 j14 w_750 hz_751 hq14 he14 hl14 hj14 hS => ?_)
                    refine Wx.nil ?_
                    refine Wp.br [7] (by kernel_rfl) (by decide) ⟨⟨_, rfl, ?_⟩, trivial⟩
                    refine Wx.append elLf_22 hS 3 rfl rfl rfl (Src.ofR hS 1 rfl) (by simp only [maxLen]; first | omega | (simp; omega) | simp) (by first | omega | (simp; omega) | simp) rfl (fun v_756 w_757 hz_758 hS => ?_)
                    refine Wx.nil ?_
                    refine Wp.br [8] (by kernel_rfl) (by decide) ⟨⟨_, rfl, ?_⟩, trivial⟩
                    refine Wx.storeX (cs' := [q14]) (ds := [q14]) hS 4 rfl rfl rfl (Go.Wk.cells_one (QTail.oneC hq14)) Try.sizeOf22 (Nat.le_of_ble_eq_true rfl) (one_cons (QTail.oneC hq14) one_nil) rfl (fun w_759 hz_760 hS => ?_)
                    refine Wx.nil ?_
                    refine Wp.br [9] (by kernel_rfl) (by decide) ⟨⟨_, rfl, ?_⟩, trivial⟩
                    refine Wx.storeX (cs' := [v_756]) (ds := [v_756]) hS 2 rfl rfl rfl (Go.Wk.cells_one (hS.rowOne 3 rfl)) Try.sizeOf22 (Nat.le_of_ble_eq_true rfl) (one_cons (hS.rowOne 3 rfl) one_nil) rfl (fun w_761 hz_762 hS => ?_)
                    refine Wx.nil ?_
                    refine Wp.done (by kernel_rfl) ?_
                    refine ⟨(v_746, y14, v_756, out2 ++ [m], q14, j14), ?_, ?_, Out.look rfl Out.refl⟩
                    · exact ⟨St.tl (hS.tl), (hq14), (he14), (by simpa using hl14), (rfl)⟩
                    · exact trivial
                · -- operation 4
                  refine Wx.rd (v := ov2) (rd_loadX hS 1 rfl rfl rfl Try.isAgg22) rfl ?_
                  refine Wx.nil ?_
                  refine Wp.br [2] (by kernel_rfl) (by decide) ⟨⟨_, rfl, ?_⟩, trivial⟩
                  refine Wx.lit (t := (tI .i64)) (ys := [m]) (vs := [.int .i64 m]) elLf_22 hS rfl rfl ⟨(V.mkInt (in_i64 (by omega) (by omega))), trivial⟩ (by decide) rfl (fun v_763 w_764 hx_765 hS => ?_)
                  refine Wx.nil ?_
                  refine Wp.br [3] (by kernel_rfl) (by decide) ⟨⟨_, rfl, ?_⟩, trivial⟩
                  refine Wx.appendQ elLf_22 hS 5 rfl hq2 rfl rfl (Src.ofR hS 0 rfl) (by simp) (by first | omega | (simp; omega)) (by first | omega | (simp; omega)) rfl (fun v_766 q14 y14 j14 w_770 hz_771 hq14 he14 hl14 hj14 hS => ?_)
                  refine Wx.nil ?_
                  refine Wp.br [7] (by kernel_rfl) (by decide) ⟨⟨_, rfl, ?_⟩, trivial⟩
                  refine Wx.append elLf_22 hS 3 rfl rfl rfl (Src.ofR hS 1 rfl) (by simp only [maxLen]; first | omega | (simp; omega) | simp) (by first | omega | (simp; omega) | simp) rfl (fun v_776 w_777 hz_778 hS => ?_)
                  refine Wx.nil ?_
                  refine Wp.br [8] (by kernel_rfl) (by decide) ⟨⟨_, rfl, ?_⟩, trivial⟩
                  refine Wx.storeX (cs' := [q14]) (ds := [q14]) hS 4 rfl rfl rfl (Go.Wk.cells_one (QTail.oneC hq14)) Try.sizeOf22 (Nat.le_of_ble_eq_true rfl) (one_cons (QTail.oneC hq14) one_nil) rfl (fun w_779 hz_780 hS => ?_)
                  refine Wx.nil ?_
                  refine Wp.br [9] (by kernel_rfl) (by decide) ⟨⟨_, rfl, ?_⟩, trivial⟩
                  refine Wx.storeX (cs' := [v_776]) (ds := [v_776]) hS 2 rfl rfl rfl (Go.Wk.cells_one (hS.rowOne 3 rfl)) Try.sizeOf22 (Nat.le_of_ble_eq_true rfl) (one_cons (hS.rowOne 3 rfl) one_nil) rfl (fun w_781 hz_782 hS => ?_)
                  refine Wx.nil ?_
                  refine Wp.done (by kernel_rfl) ?_
                  refine ⟨(v_766, y14, v_776, out2 ++ [m], q14, j14), ?_, ?_, Out.look rfl Out.refl⟩
                  · exact ⟨St.tl (hS.tl), (hq14), (he14), (by simpa using hl14), (rfl)⟩
                  · exact trivial
              · -- operation 2
                refine Wx.lit (t := (tI .i64)) (ys := [m]) (vs := [.int .i64 m]) elLf_22 hS rfl rfl ⟨(V.mkInt (in_i64 (by omega) (by omega))), trivial⟩ (by decide) rfl (fun v_783 w_784 hx_785 hS => ?_)
                refine Wx.nil ?_
                refine Wp.br [0, 4] (by kernel_rfl) (by decide) ⟨⟨_, rfl, ?_⟩, ⟨_, rfl, ?_⟩, trivial⟩
                · -- operation 0
                  refine Wx.rd (v := qq2) (rd_loadX hS 4 rfl rfl rfl Try.isAgg22) rfl ?_
                  refine Wx.nil ?_
                  refine Wp.br [3, 4] (by kernel_rfl) (by decide) ⟨⟨_, rfl, ?_⟩, ⟨_, rfl, ?_⟩, trivial⟩
                  · -- operation 3
                    refine Wx.appendQ elLf_22 hS 5 rfl hq2 rfl rfl (Src.ofR hS 0 rfl) (by simp) (by first | omega | (simp; omega)) (by first | omega | (simp; omega)) rfl (fun v_786 q14 y14 j14 w_790 hz_791 hq14 he14 hl14 hj14 hS => ?_)
                    refine Wx.nil ?_
                    refine Wp.br [4] (by kernel_rfl) (by decide) ⟨⟨_, rfl, ?_⟩, trivial⟩
                    refine Wx.rd (v := ov2) (rd_loadX hS 2 rfl rfl rfl Try.isAgg22) rfl ?_
                    refine Wx.nil ?_
                    refine Wp.br [7] (by kernel_rfl) (by decide) ⟨⟨_, rfl, ?_⟩, trivial⟩
                    refine Wx.append elLf_22 hS 3 rfl rfl rfl (Src.ofR hS 1 rfl) (by simp only [maxLen]; first | omega | (simp; omega) | simp) (by first | omega | (simp; omega) | simp) rfl (fun v_796 w_797 hz_798 hS => ?_)
                    refine Wx.nil ?_
                    refine Wp.br [8] (by kernel_rfl) (by decide) ⟨⟨_, rfl, ?_⟩, trivial⟩
                    refine Wx.storeX (cs' := [q14]) (ds := [q14]) hS 4 rfl rfl rfl (Go.Wk.cells_one (QTail.oneC hq14)) Try.sizeOf22 (Nat.le_of_ble_eq_true rfl) (one_cons (QTail.oneC hq14) one_nil) rfl (fun w_799 hz_800 hS => ?_)
                    refine Wx.nil ?_
                    refine Wp.br [9] (by kernel_rfl) (by decide) ⟨⟨_, rfl, ?_⟩, trivial⟩
                    refine Wx.storeX (cs' := [v_796]) (ds := [v_796]) hS 2 rfl rfl rfl (Go.Wk.cells_one (hS.rowOne 3 rfl)) Try.sizeOf22 (Nat.le_of_ble_eq_true rfl) (one_cons (hS.rowOne 3 rfl) one_nil) rfl (fun w_801 hz_802 hS => ?_)
                    refine Wx.nil ?_
                    refine Wp.done (by kernel_rfl) ?_
                    refine ⟨(v_786, y14, v_796, out2 ++ [m], q14, j14), ?_, ?_, Out.look rfl Out.refl⟩
                    · exact ⟨St.tl (hS.tl), (hq14), (he14), (by simpa using hl14), (rfl)⟩
                    · exact trivial
                  · -- operation 4
                    refine Wx.rd (v := ov2) (rd_loadX hS 2 rfl rfl rfl Try.isAgg22) rfl ?_
                    refine Wx.nil ?_
                    refine Wp.br [3] (by kernel_rfl) (by decide) ⟨⟨_, rfl, ?_⟩, trivial⟩
                    refine Wx.appendQ elLf_22 hS 5 rfl hq2 rfl rfl (Src.ofR hS 0 rfl) (by simp) (by first | omega | (simp; omega)) (by first | omega | (simp; omega)) rfl (fun v_803 q14 y14 j14 w_807 hz_808 hq14 he14 hl14 hj14 hS => ?_)
                    refine Wx.nil ?_
                    refine Wp.br [7] (by kernel_rfl) (by decide) ⟨⟨_, rfl, ?_⟩, trivial⟩
                    refine Wx.append elLf_22 hS 3 rfl rfl rfl (Src.ofR hS 1 rfl) (by simp only [maxLen]; first | omega | (simp; omega) | simp) (by first | omega | (simp; omega) | simp) rfl (fun v_813 w_814 hz_815 hS => ?_)
                    refine Wx.nil ?_
                    refine Wp.br [8] (by kernel_rfl) (by decide) ⟨⟨_, rfl, ?_⟩, trivial⟩
                    refine Wx.storeX (cs' := [q14]) (ds := [q14]) hS 4 rfl rfl rfl (Go.Wk.cells_one (QTail.oneC hq14)) Try.sizeOf22 (Nat.le_of_ble_eq_true rfl) (one_cons (QTail.oneC hq14) one_nil) rfl (fun w_816 hz_817 hS => ?_)
                    refine Wx.nil ?_
                    refine Wp.br [9] (by kernel_rfl) (by decide) ⟨⟨_, rfl, ?_⟩, trivial⟩
                    refine Wx.storeX (cs' := [v_813]) (ds := [v_813]) hS 2 rfl rfl rfl (Go.Wk.cells_one (hS.rowOne 3 rfl)) Try.sizeOf22 (Nat.le_of_ble_eq_true rfl) (one_cons (hS.rowOne 3 rfl) one_nil) rfl (fun w_818 hz_819 hS => ?_)
                    refine Wx.nil ?_
                    refine Wp.done (by kernel_rfl) ?_
                    refine ⟨(v_803, y14, v_813, out2 ++ [m], q14, j14), ?_, ?_, Out.look rfl Out.refl⟩
                    · exact ⟨St.tl (hS.tl), (hq14), (he14), (by simpa using hl14), (rfl)⟩
                    · exact trivial
                · -- operation 4
                  refine Wx.rd (v := ov2) (rd_loadX hS 2 rfl rfl rfl Try.isAgg22) rfl ?_
                  refine Wx.nil ?_
                  refine Wp.br [0] (by kernel_rfl) (by decide) ⟨⟨_, rfl, ?_⟩, trivial⟩
                  refine Wx.rd (v := qq2) (rd_loadX hS 4 rfl rfl rfl Try.isAgg22) rfl ?_
                  refine Wx.nil ?_
                  refine Wp.br [3] (by kernel_rfl) (by decide) ⟨⟨_, rfl, ?_⟩, trivial⟩
                  refine Wx.appendQ elLf_22 hS 5 rfl hq2 rfl rfl (Src.ofR hS 0 rfl) (by simp) (by first | omega | (simp; omega)) (by first | omega | (simp; omega)) rfl (fun v_820 q14 y14 j14 w_824 hz_825 hq14 he14 hl14 hj14 hS => ?_)
                  refine Wx.nil ?_
                  refine Wp.br [7] (by kernel_rfl) (by decide) ⟨⟨_, rfl, ?_⟩, trivial⟩
                  refine Wx.append elLf_22 hS 3 rfl rfl rfl (Src.ofR hS 1 rfl) (by simp only [maxLen]; first | omega | (simp; omega) | simp) (by first | omega | (simp; omega) | simp) rfl (fun v_830 w_831 hz_832 hS => ?_)
                  refine Wx.nil ?_
                  refine Wp.br [8] (by kernel_rfl) (by decide) ⟨⟨_, rfl, ?_⟩, trivial⟩
                  refine Wx.storeX (cs' := [q14]) (ds := [q14]) hS 4 rfl rfl rfl (Go.Wk.cells_one (QTail.oneC hq14)) Try.sizeOf22 (Nat.le_of_ble_eq_true rfl) (one_cons (QTail.oneC hq14) one_nil) rfl (fun w_833 hz_834 hS => ?_)
                  refine Wx.nil ?_
                  refine Wp.br [9] (by kernel_rfl) (by decide) ⟨⟨_, rfl, ?_⟩, trivial⟩
                  refine Wx.storeX (cs' := [v_830]) (ds := [v_830]) hS 2 rfl rfl rfl (Go.Wk.cells_one (hS.rowOne 3 rfl)) Try.sizeOf22 (Nat.le_of_ble_eq_true rfl) (one_cons (hS.rowOne 3 rfl) one_nil) rfl (fun w_835 hz_836 hS => ?_)
                  refine Wx.nil ?_
                  refine Wp.done (by kernel_rfl) ?_
                  refine ⟨(v_820, y14, v_830, out2 ++ [m], q14, j14), ?_, ?_, Out.look rfl Out.refl⟩
                  · exact ⟨St.tl (hS.tl), (hq14), (he14), (by simpa using hl14), (rfl)⟩
                  · exact trivial
              · -- operation 4
                refine Wx.rd (v := ov2) (rd_loadX hS 1 rfl rfl rfl Try.isAgg22) rfl ?_
                refine Wx.nil ?_
                refine Wp.br [0, 2] (by kernel_rfl) (by decide) ⟨⟨_, rfl, ?_⟩, ⟨_, rfl, ?_⟩, trivial⟩
                · -- operation 0
                  refine Wx.rd (v := qq2) (rd_loadX hS 3 rfl rfl rfl Try.isAgg22) rfl ?_
                  refine Wx.nil ?_
                  refine Wp.br [2] (by kernel_rfl) (by decide) ⟨⟨_, rfl, ?_⟩, trivial⟩
                  refine Wx.lit (t := (tI .i64)) (ys := [m]) (vs := [.int .i64 m]) elLf_22 hS rfl rfl ⟨(V.mkInt (in_i64 (by omega) (by omega))), trivial⟩ (by decide) rfl (fun v_837 w_838 hx_839 hS => ?_)
                  refine Wx.nil ?_
                  refine Wp.br [3] (by kernel_rfl) (by decide) ⟨⟨_, rfl, ?_⟩, trivial⟩
                  refine Wx.appendQ elLf_22 hS 5 rfl hq2 rfl rfl (Src.ofR hS 0 rfl) (by simp) (by first | omega | (simp; omega)) (by first | omega | (simp; omega)) rfl (fun v_840 q14 y14 j14 w_844 hz_845 hq14 he14 hl14 hj14 hS => ?_)
                  refine Wx.nil ?_
                  refine Wp.br [7] (by kernel_rfl) (by decide) ⟨⟨_, rfl, ?_⟩, trivial⟩
                  refine Wx.append elLf_22 hS 3 rfl rfl rfl (Src.ofR hS 1 rfl) (by simp only [maxLen]; first | omega | (simp; omega) | simp) (by first | omega | (simp; omega) | simp) rfl (fun v_850 w_851 hz_852 hS => ?_)
                  refine Wx.nil ?_
                  refine Wp.br [8] (by kernel_rfl) (by decide) ⟨⟨_, rfl, ?_⟩, trivial⟩
                  refine Wx.storeX (cs' := [q14]) (ds := [q14]) hS 4 rfl rfl rfl (Go.Wk.cells_one (QTail.oneC hq14)) Try.sizeOf22 (Nat.le_of_ble_eq_true rfl) (one_cons (QTail.oneC hq14) one_nil) rfl (fun w_853 hz_854 hS => ?_)
                  refine Wx.nil ?_
                  refine Wp.br [9] (by kernel_rfl) (by decide) ⟨⟨_, rfl, ?_⟩, trivial⟩
                  refine Wx.storeX (cs' := [v_850]) (ds := [v_850]) hS 2 rfl rfl rfl (Go.Wk.cells_one (hS.rowOne 3 rfl)) Try.sizeOf22 (Nat.le_of_ble_eq_true rfl) (one_cons (hS.rowOne 3 rfl) one_nil) rfl (fun w_855 hz_856 hS => ?_)
                  refine Wx.nil ?_
                  refine Wp.done (by kernel_rfl) ?_
                  refine ⟨(v_840, y14, v_850, out2 ++ [m], q14, j14), ?_, ?_, Out.look rfl Out.refl⟩
                  · exact ⟨St.tl (hS.tl), (hq14), (he14), (by simpa using hl14), (rfl)⟩
                  · exact trivial
                · -- operation 2
                  refine Wx.lit (t := (tI .i64)) (ys := [m]) (vs := [.int .i64 m]) elLf_22 hS rfl rfl ⟨(V.mkInt (in_i64 (by omega) (by omega))), trivial⟩ (by decide) rfl (fun v_857 w_858 hx_859 hS => ?_)
                  refine Wx.nil ?_
                  refine Wp.br [0] (by kernel_rfl) (by decide) ⟨⟨_, rfl, ?_⟩, trivial⟩
                  refine Wx.rd (v := qq2) (rd_loadX hS 4 rfl rfl rfl Try.isAgg22) rfl ?_
                  refine Wx.nil ?_
                  refine Wp.br [3] (by kernel_rfl) (by decide) ⟨⟨_, rfl, ?_⟩, trivial⟩
                  refine Wx.appendQ elLf_22 hS 5 rfl hq2 rfl rfl (Src.ofR hS 0 rfl) (by simp) (by first | omega | (simp; omega)) (by first | omega | (simp; omega)) rfl (fun v_860 q14 y14 j14 w_864 hz_865 hq14 he14 hl14 hj14 hS => ?_)
                  refine Wx.nil ?_
                  refine Wp.br [7] (by kernel_rfl) (by decide) ⟨⟨_, rfl, ?_⟩, trivial⟩
                  refine Wx.append elLf_22 hS 3 rfl rfl rfl (Src.ofR hS 1 rfl) (by simp only [maxLen]; first | omega | (simp; omega) | simp) (by first | omega | (simp; omega) | simp) rfl (fun v_870 w_871 hz_872 hS => ?_)
                  refine Wx.nil ?_
                  refine Wp.br [8] (by kernel_rfl) (by decide) ⟨⟨_, rfl, ?_⟩, trivial⟩
                  refine Wx.storeX (cs' := [q14]) (ds := [q14]) hS 4 rfl rfl rfl (Go.Wk.cells_one (QTail.oneC hq14)) Try.sizeOf22 (Nat.le_of_ble_eq_true rfl) (one_cons (QTail.oneC hq14) one_nil) rfl (fun w_873 hz_874 hS => ?_)
                  refine Wx.nil ?_
                  refine Wp.br [9] (by kernel_rfl) (by decide) ⟨⟨_, rfl, ?_⟩, trivial⟩
                  refine Wx.storeX (cs' := [v_870]) (ds := [v_870]) hS 2 rfl rfl rfl (Go.Wk.cells_one (hS.rowOne 3 rfl)) Try.sizeOf22 (Nat.le_of_ble_eq_true rfl) (one_cons (hS.rowOne 3 rfl) one_nil) rfl (fun w_875 hz_876 hS => ?_)
                  refine Wx.nil ?_
                  refine Wp.done (by kernel_rfl) ?_
                  refine ⟨(v_860, y14, v_870, out2 ++ [m], q14, j14), ?_, ?_, Out.look rfl Out.refl⟩
                  · exact ⟨St.tl (hS.tl), (hq14), (he14), (by simpa using hl14), (rfl)⟩
                  · exact trivial
          rintro ⟨qv3, qs3, ov3, out3, qq3, qj3⟩ u_878 w_877 ⟨hS, hq3, qd3, ql3, e3⟩
          have hS := hS.front 7 rfl
          have hS := hS.front 7 rfl
          have hS := hS.front 7 rfl
          have hS := hS.front 7 rfl
          have hS := hS.front 7 rfl
          have hS := hS.front 7 rfl
          have hS := hS.front 7 rfl
          have hS := hS.front 7 rfl
          have hS : St _ _ w_877 (.box g_43 22 [ov3] :: .row (tI .i64) 3 ov3 out3 :: .box g_34 22 [qq3] :: .row (tI .i64) 3 qv3 qs3 :: .box g_21 110 [v_16] :: .row tBool 4 v_16 (List.set met2 m.toNat true) :: .box g_5 81 [(.func (.func gm) #[] cm.toArray)] :: .box g_1 24 [.int .i64 R, .int .i64 C, hv] :: pre_64) := hS
          exact ⟨_, ⟨List.set met2 m.toNat true, qv3, qs3, ov3, out3, qq3, qj3, (by rw [e3]; exact bp_yes m1 h0 m3 p_a ⟨hm0.1, c2.1.1⟩ (by rw [m2]; exact hma) c2.2 (fun q => by rw [(mk2.2 m hm0.1 hm0.2).2 q] at c2; exact absurd c2.1.2 (by decide))), (hq3), (by rw [qd3, e3, qd2, List.drop_append_of_le_length (by omega)]), (by rw [e3, List.length_append]; simp; omega), (by rw [e3]; exact mk_add mk2 ⟨hm0.1, c2.1.1⟩), (by rw [e3, ix_app1 h0 m3]; exact m2), (by rw [e3, List.length_append]; simp; omega), rfl⟩, hS⟩
        · -- no
          try simp only [Bool.and_eq_true, Bool.or_eq_true, Bool.not_eq_true', Bool.and_eq_false_iff, Bool.or_eq_false_iff, Bool.not_eq_false', decide_eq_true_eq, decide_eq_false_iff_not, not_or, Bool.false_eq_true, Bool.true_eq_false, false_or, or_false, not_false_eq_true] at c2
          refine W.skip ?_
          have hS := hS.front 7 rfl
          have hS := hS.front 7 rfl
          have hS := hS.front 7 rfl
          have hS := hS.front 7 rfl
          have hS := hS.front 7 rfl
          have hS := hS.front 7 rfl
          have hS := hS.front 7 rfl
          have hS := hS.front 7 rfl
          have hS : St _ _ w_83 (.box g_43 22 [ov2] :: .row (tI .i64) 3 ov2 out2 :: .box g_34 22 [qq2] :: .row (tI .i64) 3 qv2 qs2 :: .box g_21 110 [v_16] :: .row tBool 4 v_16 met2 :: .box g_5 81 [(.func (.func gm) #[] cm.toArray)] :: .box g_1 24 [.int .i64 R, .int .i64 C, hv] :: pre_64) := hS
          exact ⟨_, ⟨met2, qv2, qs2, ov2, out2, qq2, qj2, (bp_no m1 (by rcases c2 with (q | q) | q; exact .inl (by omega); exact .inr (.inr ((mk2.2 m hm0.1 hm0.2).1 q)); exact .inr (.inl q))), (by first | omega | assumption), (by first | omega | assumption), (by first | omega | assumption), (by first | omega | assumption), (by first | omega | assumption), (by first | omega | assumption), rfl⟩, hS⟩
      · -- all have come
        rintro _ D_879 w_880 ⟨met2, qv2, qs2, ov2, out2, qq2, qj2, m1, hq2, qd2, ql2, mk2, m2, m3, rfl⟩ hS
        have hS : St _ _ w_880 (.box g_43 22 [ov2] :: .row (tI .i64) 3 ov2 out2 :: .box g_34 22 [qq2] :: .row (tI .i64) 3 qv2 qs2 :: .box g_21 110 [v_16] :: .row tBool 4 v_16 met2 :: .box g_5 81 [(.func (.func gm) #[] cm.toArray)] :: .box g_1 24 [.int .i64 R, .int .i64 C, hv] :: DOb (D_879 :: Ds)) := hS
        refine ⟨(met2, qv2, qs2, ov2, out2, qq2, qj2, i + 1, (D_879 :: Ds)), (by show (H.length - (i + 1)).toNat < (H.length - i).toNat; omega), rfl, ?_, ?_, Out.look rfl Out.self⟩
        · exact ⟨hS, (by first | omega | assumption), (by first | omega | assumption), (bp_close m1 (fun z hz hA => mem_nbW.2 (.inl ⟨hz, by rw [m2] at hA; exact hA⟩))), (by first | omega | assumption), (by first | omega | assumption), (by first | omega | assumption), (by first | omega | assumption)⟩
        · exact trivial
      · exact fun _ _ _ _ _ h => h.elim
    · -- no
      have hol := bf_len (by omega) h2
      have hop := List.length_pos_of_mem h2.1.2
      refine W.exit rfl ?_
      refine WD.ofW ?_
      refine W.seq ?_
      refine W.reg ?_
      refine Wx.rd (v := ov) (rd_loadX hS 0 rfl rfl rfl Try.isAgg22) rfl ?_
      refine Wx.callB (run_callF Try.call84 rfl) (X84 hS 1 rfl (by omega) (by omega)) rfl ?_
      rintro r_881 w_882 hS
      have hS : St _ _ w_882 (.box g_43 22 [ov] :: .row (tI .i64) 3 ov (List.mergeSort out fun x y => decide (x ≤ y)) :: .box g_34 22 [qq] :: .row (tI .i64) 3 qv qs :: .box g_21 110 [v_16] :: .row tBool 4 v_16 met :: .box g_5 81 [(.func (.func gm) #[] cm.toArray)] :: .box g_1 24 [.int .i64 R, .int .i64 C, hv] :: DOb Ds) := hS
      refine Wx.nil ?_
      refine W.seq ?_
      refine W.reg ?_
      refine Wx.rd (v := ov) (rd_loadX hS 0 rfl rfl rfl Try.isAgg22) rfl ?_
      refine Wx.rd (v := ov) (rd_assign rfl) rfl ?_
      refine Wx.nil ?_
      have hS : St _ _ w_882 (.box g_43 22 [ov] :: .row (tI .i64) 3 ov (List.mergeSort out fun x y => decide (x ≤ y)) :: .box g_34 22 [qq] :: .row (tI .i64) 3 qv qs :: .box g_21 110 [v_16] :: .row tBool 4 v_16 met :: .box g_5 81 [(.func (.func gm) #[] cm.toArray)] :: .box g_1 24 [.int .i64 R, .int .i64 C, hv] :: DOb Ds) := hS
      refine W.ret ⟨[.box g_43 22 [ov], .row (tI .i64) 3 ov (List.mergeSort out fun x y => decide (x ≤ y)), .box g_34 22 [qq], .row (tI .i64) 3 qv qs, .box g_21 110 [v_16], .row tBool 4 v_16 met, .box g_5 81 [(.func (.func gm) #[] cm.toArray)], .box g_1 24 [.int .i64 R, .int .i64 C, hv]], hS, fun w_883 hS => ?_⟩
      have e1_0 : floodV (adjB C) H.length f a = List.mergeSort out fun x y => decide (x ≤ y) := by exact (bf_sorted h2 (by omega) p_a hfa).symm
      exact ⟨ov, ResIs.one, hS.bel, ⟨ov, rfl, (by rw [e1_0]; exact (hS.fr 1 rfl flat_int))⟩⟩
end Go.Proofs.Ytjhimoeodkaihaa

namespace Go.Proofs.Ytjhimoeodkaihaa
open Go.Wk Go.RowKit Go.Lib
set_option linter.unusedVariables false
set_option linter.unusedSimpArgs false
theorem mixedLg_ : Try.prog.follows .mixedOrders = true := by kernel_rfl
theorem foLg_24_2 : fldOff Try.prog 24 2 = some 2 := by kernel_rfl

theorem F64 {x : Int} {gl : Nat} {ys : List Int} {gs : Nat} {R : Int} {C : Int} {hv : Value} {H : List Int} {Fr_hv : List (Option Nat)} {gw : Nat} {lv : Int} {w : World} (i_x : InK .i64 x) (x_gl : w.heap[gl]? = some (.cells (List.map (Value.int .i64) ys).toArray 83 (0, 0))) (i_R : InK .i64 R) (i_C : InK .i64 C) (h_hv : V (tSl (tI .i64)) H hv Fr_hv w) (x_gs : w.heap[gs]? = some (.cells #[.int .i64 R, .int .i64 C, hv] 24 (0, 0))) (i_lv : InK .i64 lv) (x_gw : w.heap[gw]? = some (.cells #[.int .i64 lv] 3 (0, 0))) (p_x : 0 ≤ x ∧ x < (H.length : Int)) (p_n : (H.length : Int) ≤ 36) (p_y : ys.length = 37) (p_b : 0 ≤ ix 0 ys x ∧ ix 0 ys x ≤ 100 ∧ 0 ≤ ix 0 H x ∧ ix 0 H x ≤ 100) : Calls Try.prog 64 #[.int .i64 x, .pointer (some ⟨gl, 0, none⟩), .pointer (some ⟨gs, 0, none⟩), .pointer (some ⟨gw, 0, none⟩)] w (Ret w (fun r _ => r = .bool (wetK ys H lv x))) := by
  have b_lv := bd_i64 i_lv
  have b_C := bd_i64 i_C
  have b_R := bd_i64 i_R
  have b_x := bd_i64 i_x
  have a_hv := h_hv.any
  have l_hv := h_hv.len63
  have hS := St.start0 w
  refine enterR Try.func64 rfl Try.ntmps64 Try.results64 rfl ?_
  refine W.seq ?_
  refine W.reg ?_
  refine Wx.rd (v := .bool false) (rd_assign rfl) rfl ?_
  refine Wx.nil ?_
  refine W.seq ?_
  refine W.regQ mixedLg_ (by kernel_rfl) ?_
  refine Wx.rd (v := .int .i64 x) (rd_move rfl) rfl ?_
  refine Wx.rd (v := .pointer (some ⟨gl, 0 + x.toNat * 1, none⟩)) (rd_indexArr (o := 0) rfl rfl Try.underlying83 Try.sizeOf3 (by omega) (by omega)) rfl ?_
  refine Wx.rd (v := .int .i64 (ix 0 ys x)) (rd_loadOA x_gl hS.bel rfl (by omega) (by omega) Try.isAgg3) rfl ?_
  refine Wx.rd (v := .bool (decide (0 < (ix 0 ys x)))) (rd_gtr rfl rfl) rfl ?_
  refine Wx.rd (v := .bool (decide (0 < (ix 0 ys x)))) (rd_move rfl) rfl ?_
  refine Wx.cutQ (X := Unit) 12 [11, 12, 13, 14, 15, 16, 17, 18, 19, 20, 21, 22] (fun _ => [(22, .bool (decide (0 < (ix 0 ys x)) && decide (lv < ((ix 0 ys x) + (ix 0 H x)))))]) (fun _ => True) ?_ ?_
  · rcases Bool.eq_false_or_eq_true (decide (0 < (ix 0 ys x))) with g_1 | g_1
    · -- True
      have gp_2 := of_decide_eq_true g_1
      refine Wx.gyes rfl rfl (congrArg Value.bool g_1) ?_
      refine Wx.rd (v := .int .i64 x) (rd_move rfl) rfl ?_
      refine Wx.gyes rfl rfl (congrArg Value.bool g_1) ?_
      refine Wx.rd (v := .pointer (some ⟨gl, 0 + x.toNat * 1, none⟩)) (rd_indexArr (o := 0) rfl rfl Try.underlying83 Try.sizeOf3 (by omega) (by omega)) rfl ?_
      refine Wx.gyes rfl rfl (congrArg Value.bool g_1) ?_
      refine Wx.rd (v := .int .i64 (ix 0 ys x)) (rd_loadOA x_gl hS.bel rfl (by omega) (by omega) Try.isAgg3) rfl ?_
      refine Wx.gyes rfl rfl (congrArg Value.bool g_1) ?_
      refine Wx.rd (v := .pointer (some ⟨gs, 2, none⟩)) (rd_fieldAddr rfl foLg_24_2) rfl ?_
      refine Wx.gyes rfl rfl (congrArg Value.bool g_1) ?_
      refine Wx.rd (v := hv) (rd_loadO x_gs hS.bel rfl rfl Try.isAgg22) rfl ?_
      refine Wx.gyes rfl rfl (congrArg Value.bool g_1) ?_
      refine Wx.rd (v := .int .i64 x) (rd_move rfl) rfl ?_
      refine Wx.gyes rfl rfl (congrArg Value.bool g_1) ?_
      refine Wx.ex (rd_index 0 (hS.arg a_hv) rfl rfl Try.underlying22 Try.sizeOf3 (by first | omega | (simp only [List.length_set, List.length_append, List.length_cons, List.length_nil, List.length_replicate]; omega)) (by first | omega | (simp only [List.length_set, List.length_append, List.length_cons, List.length_nil, List.length_replicate]; omega))) rfl (fun p_3 hp_4 => ?_)
      refine Wx.gyes rfl rfl (congrArg Value.bool g_1) ?_
      refine Wx.rd (v := .int .i64 (ix 0 H x)) (rd_loadI hp_4 rfl Try.isAgg3 Try.sizeOf3) rfl ?_
      have bd_5 := bd_i64 hp_4.inK
      refine Wx.gyes rfl rfl (congrArg Value.bool g_1) ?_
      refine Wx.rd (v := .int .i64 ((ix 0 ys x) + (ix 0 H x))) (rd_add rfl rfl (in_i64 (by omega) (by omega))) rfl ?_
      refine Wx.gyes rfl rfl (congrArg Value.bool g_1) ?_
      refine Wx.rd (v := .int .i64 lv) (rd_loadO x_gw hS.bel rfl rfl Try.isAgg3) rfl ?_
      refine Wx.gyes rfl rfl (congrArg Value.bool g_1) ?_
      refine Wx.rd (v := .bool (decide (lv < ((ix 0 ys x) + (ix 0 H x))))) (rd_gtr rfl rfl) rfl ?_
      refine Wx.rd (v := .bool (decide (lv < ((ix 0 ys x) + (ix 0 H x))))) (rd_pickT (congrArg Value.bool g_1) rfl) rfl ?_
      refine Wx.nilQ (fun _ _ => ⟨(), trivial, ⟨?_, trivial⟩, Out.look rfl Out.refl⟩)
      show Value.bool (decide (lv < ((ix 0 ys x) + (ix 0 H x)))) = Value.bool (decide (0 < (ix 0 ys x)) && decide (lv < ((ix 0 ys x) + (ix 0 H x))))
      first | rw [g_1, Bool.true_and] | (rw [g_1]; rfl)
    · -- False
      have gp_6 := of_decide_eq_false g_1
      refine Wx.gnoB rfl rfl (congrArg Value.bool g_1) rfl rfl ?_
      refine Wx.gnoB rfl rfl (congrArg Value.bool g_1) rfl rfl ?_
      refine Wx.gnoB rfl rfl (congrArg Value.bool g_1) rfl rfl ?_
      refine Wx.gnoB rfl rfl (congrArg Value.bool g_1) rfl rfl ?_
      refine Wx.gnoB rfl rfl (congrArg Value.bool g_1) rfl rfl ?_
      refine Wx.gnoB rfl rfl (congrArg Value.bool g_1) rfl rfl ?_
      refine Wx.gnoB rfl rfl (congrArg Value.bool g_1) rfl rfl ?_
      refine Wx.gnoB rfl rfl (congrArg Value.bool g_1) rfl rfl ?_
      refine Wx.gnoB rfl rfl (congrArg Value.bool g_1) rfl rfl ?_
      refine Wx.gnoB rfl rfl (congrArg Value.bool g_1) rfl rfl ?_
      refine Wx.gnoB rfl rfl (congrArg Value.bool g_1) rfl rfl ?_
      refine Wx.rd (v := .bool false) (rd_pickF (congrArg Value.bool g_1) rfl) rfl ?_
      refine Wx.nilQ (fun _ _ => ⟨(), trivial, ⟨?_, trivial⟩, Out.look rfl Out.refl⟩)
      show Value.bool false = Value.bool (decide (0 < (ix 0 ys x)) && decide (lv < ((ix 0 ys x) + (ix 0 H x))))
      first | rw [g_1, Bool.false_and] | (rw [g_1]; rfl)
  rintro ⟨⟩ u_8 -
  refine Wx.rd (v := .bool (decide (0 < (ix 0 ys x)) && decide (lv < ((ix 0 ys x) + (ix 0 H x))))) (rd_assign rfl) rfl ?_
  refine Wx.nilQ (fun w_9 hx_10 => ?_)
  have hS := hS.ext hx_10
  have e0_0 : (wetK ys H lv x) = (decide (0 < (ix 0 ys x)) && decide (lv < ((ix 0 ys x) + (ix 0 H x)))) := by rfl
  exact W.ret ⟨.bool (decide (0 < (ix 0 ys x)) && decide (lv < ((ix 0 ys x) + (ix 0 H x)))), ResIs.one, hS.bel, (by rw [e0_0])⟩

theorem F75 {x : Int} {gs : Nat} {R : Int} {C : Int} {hv : Value} {H : List Int} {Fr_hv : List (Option Nat)} {gw : Nat} {hi : Int} {w : World} (i_x : InK .i64 x) (i_R : InK .i64 R) (i_C : InK .i64 C) (h_hv : V (tSl (tI .i64)) H hv Fr_hv w) (x_gs : w.heap[gs]? = some (.cells #[.int .i64 R, .int .i64 C, hv] 24 (0, 0))) (i_hi : InK .i64 hi) (x_gw : w.heap[gw]? = some (.cells #[.int .i64 hi] 3 (0, 0))) (p_x : 0 ≤ x ∧ x < (H.length : Int)) : Calls Try.prog 75 #[.int .i64 x, .pointer (some ⟨gs, 0, none⟩), .pointer (some ⟨gw, 0, none⟩)] w (Ret w (fun r _ => r = .bool (decide (ix 0 H x < hi)))) := by
  have b_hi := bd_i64 i_hi
  have b_C := bd_i64 i_C
  have b_R := bd_i64 i_R
  have b_x := bd_i64 i_x
  have a_hv := h_hv.any
  have l_hv := h_hv.len63
  have hS := St.start0 w
  refine enterR Try.func75 rfl Try.ntmps75 Try.results75 rfl ?_
  refine W.seq ?_
  refine W.reg ?_
  refine Wx.rd (v := .bool false) (rd_assign rfl) rfl ?_
  refine Wx.nil ?_
  refine W.seq ?_
  refine W.regQ mixedLg_ (by kernel_rfl) ?_
  refine Wx.rd (v := .pointer (some ⟨gs, 2, none⟩)) (rd_fieldAddr rfl foLg_24_2) rfl ?_
  refine Wx.rd (v := hv) (rd_loadO x_gs hS.bel rfl rfl Try.isAgg22) rfl ?_
  refine Wx.rd (v := .int .i64 x) (rd_move rfl) rfl ?_
  refine Wx.ex (rd_index 0 (hS.arg a_hv) rfl rfl Try.underlying22 Try.sizeOf3 (by first | omega | (simp only [List.length_set, List.length_append, List.length_cons, List.length_nil, List.length_replicate]; omega)) (by first | omega | (simp only [List.length_set, List.length_append, List.length_cons, List.length_nil, List.length_replicate]; omega))) rfl (fun p_1 hp_2 => ?_)
  refine Wx.rd (v := .int .i64 (ix 0 H x)) (rd_loadI hp_2 rfl Try.isAgg3 Try.sizeOf3) rfl ?_
  have bd_3 := bd_i64 hp_2.inK
  refine Wx.rd (v := .int .i64 hi) (rd_loadO x_gw hS.bel rfl rfl Try.isAgg3) rfl ?_
  refine Wx.rd (v := .bool (decide ((ix 0 H x) < hi))) (rd_lss rfl rfl) rfl ?_
  refine Wx.rd (v := .bool (decide ((ix 0 H x) < hi))) (rd_assign rfl) rfl ?_
  refine Wx.nilQ (fun w_4 hx_5 => ?_)
  have hS := hS.ext hx_5
  have e0_0 : (decide (ix 0 H x < hi)) = (decide ((ix 0 H x) < hi)) := by rfl
  exact W.ret ⟨.bool (decide ((ix 0 H x) < hi)), ResIs.one, hS.bel, (by rw [e0_0])⟩
end Go.Proofs.Ytjhimoeodkaihaa

namespace Go.Proofs.Ytjhimoeodkaihaa
open Go.Wk Go.RowKit Go.Lib
set_option linter.unusedVariables false
set_option linter.unusedSimpArgs false
theorem foLh_24_2 : fldOff Try.prog 24 2 = some 2 := by kernel_rfl
theorem elLh_37 : ElemI Try.prog 37 22 ((.slice none 0 0)) 1 24 := ElemI.of Try.underlying37 (by kernel_rfl) (by first | rfl | kernel_rfl) (by decide)

set_option maxHeartbeats 2000000 in
theorem F26 {R : Int} {C : Int} {hv : Value} {H : List Int} {lv : Int} {O : List (Option Nat)} {w : World} (i_R : InK .i64 R) (i_C : InK .i64 C) (h_hv : V (tSl (tI .i64)) H hv O w) (i_lv : InK .i64 lv) (hO : ∀ b, some b ∈ O → b < w.heap.size) : Calls Try.prog 26 #[.agg #[.int .i64 R, .int .i64 C, hv], .int .i64 lv] w (Ret w (fun r w' => ∃ rv, r = .tuple #[rv, .int .i64 (levelE R C H lv)] ∧ FreshO (tSl (tI .i64)) 22 (poolsE R C H lv) rv O w.heap.size w')) := by
  have b_lv := bd_i64 i_lv
  have b_C := bd_i64 i_C
  have b_R := bd_i64 i_R
  have a_hv := h_hv
  have l_hv := h_hv.len63
  have hS := St.start w O hO
  refine enterR Try.func26 rfl Try.ntmps26 Try.results26 rfl ?_
  refine W.seq ?_
  refine W.reg ?_
  refine Wx.box (cs := [.int .i64 R, .int .i64 C, hv]) hS rfl rfl rfl (fun g_1 w_2 hx_4 hb_3 hS => ?_)
  refine Wx.box (cs := [.int .i64 lv]) hS rfl rfl rfl (fun g_5 w_6 hx_8 hb_7 hS => ?_)
  refine Wx.rd (v := (.slice none 0 0)) (rd_assign rfl) rfl ?_
  refine Wx.rd (v := .int .i64 0) (rd_assign rfl) rfl ?_
  refine Wx.nil ?_
  refine W.seq ?_
  refine W.reg ?_
  refine Wx.rd (v := .agg #[.int .i64 R, .int .i64 C, hv]) (rd_loadXs (ds := [.int .i64 R, .int .i64 C, hv]) hS 1 rfl rfl rfl rfl Try.isAgg24 Try.sizeOf24) rfl ?_
  refine Wx.rd (v := .int .i64 lv) (rd_loadX hS 0 rfl rfl rfl Try.isAgg3) rfl ?_
  refine Wx.callF (run_callF Try.call58 rfl) (F58 i_R i_C (hS.arg a_hv) i_lv hS.fb_lt) rfl ?_
  rintro r_9 w_10 hx_11 ⟨ys, hex, rfl⟩
  have hS := hS.ext hx_11
  refine Wx.rd (v := .tuple #[.agg (List.map (Value.int .i64) ys).toArray, .int .i64 (levelE R C H lv)]) (rd_move rfl) rfl ?_
  refine Wx.rd (v := .agg (List.map (Value.int .i64) ys).toArray) (rd_extract rfl rfl) rfl ?_
  refine Wx.rd (v := .int .i64 (levelE R C H lv)) (rd_extract rfl rfl) rfl ?_
  refine Wx.alloc (cs := List.map (Value.int .i64) (List.replicate 37 (0 : Int))) hS Try.zeroValue83 (by kernel_rfl) rfl (fun g_12 w_13 hx_15 hb_14 hS => ?_)
  have hS : St _ _ w_13 [.box g_12 83 (List.map (Value.int .i64) (List.replicate 37 (0 : Int))), .box g_5 3 [.int .i64 lv], .box g_1 24 [.int .i64 R, .int .i64 C, hv]] := hS
  refine Wx.storeX (cs' := List.map (Value.int .i64) ys) (ds := List.map (Value.int .i64) ys) hS 0 rfl rfl rfl rfl (fun w' => by rw [List.length_map, show List.length ys = 37 by first | omega | (simp; omega) | simp]; exact Try.sizeOf83 w') (by first | (simp; omega) | simp) (by intro u hu; obtain ⟨_, _, rfl⟩ := List.mem_map.1 hu; rfl) (by rw [List.take_zero, List.nil_append, List.drop_of_length_le (by first | (simp; omega) | simp), List.append_nil]) (fun w_16 hz_17 hS => ?_)
  refine Wx.rd (v := .int .i64 (levelE R C H lv)) (rd_assign rfl) rfl ?_
  refine Wx.nil ?_
  refine W.seq ?_
  refine W.seq ?_
  refine W.reg ?_
  refine Wx.rd (v := .int .i64 (levelE R C H lv)) (rd_move rfl) rfl ?_
  refine Wx.rd (v := .bool (decide ((levelE R C H lv) ≠ 0))) (rd_neq rfl rfl) rfl ?_
  refine Wx.nil ?_
  refine W.condD rfl (fun c0 => ?_) (fun c0 => ?_)
  · -- yes
    refine W.seq ?_
    refine W.reg ?_
    refine Wx.rd (v := .int .i64 (levelE R C H lv)) (rd_move rfl) rfl ?_
    refine Wx.rd (v := (.slice none 0 0)) (rd_assign rfl) rfl ?_
    refine Wx.rd (v := .int .i64 (levelE R C H lv)) (rd_assign rfl) rfl ?_
    refine Wx.nil ?_
    have e0_0 : poolsE R C H lv = [] := by rw [poolsE, if_neg c0]
    exact W.ret ⟨.tuple #[(.slice none 0 0), .int .i64 (levelE R C H lv)], ResIs.two, hS.bel, ⟨(.slice none 0 0), rfl, (by rw [e0_0]; exact ((hS.addNil (tSl (tI .i64)) 22).frO 0 rfl))⟩⟩
  · -- no
    have h0l : levelE R C H lv = 0 := by omega
    obtain ⟨h0c, hw0, hw1⟩ := level_ok h0l
    have p_ok := SOK.of h0c
    obtain ⟨⟨r1, r2⟩, ⟨c1_, c2_⟩, hRC, ⟨n1, n36⟩, hCn, hok⟩ := id p_ok
    refine W.skip ?_
    refine W.seq ?_
    refine W.reg ?_
    refine Wx.rd (v := .func (.func 64) #[] #[.pointer (some ⟨g_12, 0, none⟩), .pointer (some ⟨g_1, 0, none⟩), .pointer (some ⟨g_5, 0, none⟩)]) (rd_makeFunc (vs := []) (us := [.pointer (some ⟨g_12, 0, none⟩), .pointer (some ⟨g_1, 0, none⟩), .pointer (some ⟨g_5, 0, none⟩)]) rfl rfl) rfl ?_
    refine Wx.rd (v := .func (.func 64) #[] #[.pointer (some ⟨g_12, 0, none⟩), .pointer (some ⟨g_1, 0, none⟩), .pointer (some ⟨g_5, 0, none⟩)]) (rd_assign rfl) rfl ?_
    refine Wx.nil ?_
    refine W.seq ?_
    refine W.reg ?_
    refine Wx.rd (v := (.slice none 0 0)) (rd_assign rfl) rfl ?_
    refine Wx.nil ?_
    refine W.seq ?_
    refine W.seq ?_
    refine W.reg ?_
    refine Wx.rd (v := .pointer (some ⟨g_1, 2, none⟩)) (rd_fieldAddr rfl foLh_24_2) rfl ?_
    refine Wx.rd (v := hv) (rd_loadX hS 2 rfl rfl rfl Try.isAgg22) rfl ?_
    refine Wx.rd (v := .int .i64 (H.length : Int)) (rd_lenV rfl (hS.arg a_hv) Try.underlying22) rfl ?_
    refine Wx.rd (v := .int .i64 0) (rd_move rfl) rfl ?_
    refine Wx.nil ?_
    refine W.block ?_
    have hS := hS.addNil (tSl (tI .i64)) 22
    refine W.loop [9, 10, 11, 25, 26, 27, 28, 29, 30, 31, 32, 33, 34, 35, 36, 37, 38, 39, 40, 41, 42, 43, 44, 45, 46] (fun x : Int × Value × (List (List Int)) => match x with | (k, ov, out) => [(25, .int .i64 k), (9, ov)]) (fun (x : Int × Value × (List (List Int))) w' => match x with | (k, ov, out) => St w O w' [.row (tSl (tI .i64)) 22 ov out, .box g_12 83 (List.map (Value.int .i64) ys), .box g_5 3 [.int .i64 lv], .box g_1 24 [.int .i64 R, .int .i64 C, hv]] ∧ 0 ≤ k ∧ k ≤ H.length ∧ out = (rng 0 k).flatMap (poolF (adjB C) H.length (wetB C H lv)) ∧ (out.length : Int) ≤ k) (fun x : Int × Value × (List (List Int)) => match x with | (k, ov, out) => (H.length - k).toNat) (0, (.slice none 0 0), []) ⟨rfl, rfl, trivial⟩ ⟨hS, (by first | omega | simp), (by first | omega | simp), (rfl), (by decide)⟩ ?_
    rintro ⟨k, ov, out⟩ u_19 w_18 ⟨hS, h0, h1, h2, h3⟩
    refine W.seq ?_
    refine W.reg ?_
    refine Wx.rd (v := .bool (decide (k < (H.length : Int)))) (rd_lss rfl rfl) rfl ?_
    refine Wx.nil ?_
    refine W.seq ?_
    refine W.condD rfl (fun c1 => ?_) (fun c1 => ?_)
    · -- yes
      refine W.skip ?_
      refine W.seq ?_
      refine W.block ?_
      refine W.seq ?_
      refine W.reg ?_
      refine Wx.rd (v := .int .i64 k) (rd_move rfl) rfl ?_
      refine Wx.rd (v := .int .i64 k) (rd_assign rfl) rfl ?_
      refine Wx.nil ?_
      refine W.seq ?_
      refine W.reg ?_
      refine Wx.rd (v := .agg #[.int .i64 R, .int .i64 C, hv]) (rd_loadXs (ds := [.int .i64 R, .int .i64 C, hv]) hS 3 rfl rfl rfl rfl Try.isAgg24 Try.sizeOf24) rfl ?_
      refine Wx.rd (v := .int .i64 k) (rd_move rfl) rfl ?_
      refine Wx.rd (v := .func (.func 64) #[] #[.pointer (some ⟨g_12, 0, none⟩), .pointer (some ⟨g_1, 0, none⟩), .pointer (some ⟨g_5, 0, none⟩)]) (rd_move rfl) rfl ?_
      have hmay : MayF Try.prog 64 [.pointer (some ⟨g_12, 0, none⟩), .pointer (some ⟨g_1, 0, none⟩), .pointer (some ⟨g_5, 0, none⟩)] (wetB C H lv) H.length w_18 := ⟨fun _ _ => Go.Proofs.enters_of Try.func64 (by kernel_rfl) rfl _ _, fun x w9 x0 x1 hx => by
        have hq_9 := F64 (x := x) (in_i64 (by omega) (by omega)) (boxAt hS 1 rfl hx) i_R i_C (V.ext (hS.arg a_hv) hx) (boxAt hS 3 rfl hx) i_lv (boxAt hS 2 rfl hx) ⟨x0, x1⟩ (by omega) hex.1 (by have h1 := depth_nn p_ok (w := lv) x0 x1; have h2 := p_ok.at x0 x1; have h3 := hex.2 h0l x x0 x1; omega)
        rw [wetK_eq (hex.2 h0l x x0 x1)] at hq_9
        exact hq_9⟩
      refine Wx.callF (run_callF Try.call65 rfl) (F65 (f := (wetB C H lv)) (gm := 64) (cm := [.pointer (some ⟨g_12, 0, none⟩), .pointer (some ⟨g_1, 0, none⟩), .pointer (some ⟨g_5, 0, none⟩)]) i_R i_C (hS.arg a_hv) (in_i64 (by omega) (by omega)) p_ok ⟨h0, c1⟩ hmay hS.fb_lt) rfl ?_
      rintro r_20 w_21 hx_22 ⟨_, rfl, hv_23⟩
      have hS := hS.pushFr hx_22 hv_23
      have hfl := flood_len (A := adjB C) (n := H.length) (f := wetB C H lv) (a := k) (by omega)
      refine Wx.rd (v := r_20) (rd_assign rfl) rfl ?_
      refine Wx.nil ?_
      refine W.seq ?_
      refine W.reg ?_
      refine Wx.rd (v := r_20) (rd_move rfl) rfl ?_
      refine Wx.rd (v := .int .i64 ((floodV (adjB C) H.length (wetB C H lv) k).length : Int)) (rd_lenR hS 0 rfl rfl Try.underlying22) rfl ?_
      refine Wx.rd (v := .bool (decide (0 < ((floodV (adjB C) H.length (wetB C H lv) k).length : Int)))) (rd_gtr rfl rfl) rfl ?_
      refine Wx.rd (v := .bool (decide (0 < ((floodV (adjB C) H.length (wetB C H lv) k).length : Int)))) (rd_move rfl) rfl ?_
      refine Wx.cut (X := Unit) 6 [36, 37, 38, 39, 40, 41] (fun _ => [(41, .bool (decide (0 < ((floodV (adjB C) H.length (wetB C H lv) k).length : Int)) && decide ((ix 0 (floodV (adjB C) H.length (wetB C H lv) k) 0) = k)))]) (fun _ w' => St w O w' [.row (tI .i64) 3 r_20 (floodV (adjB C) H.length (wetB C H lv) k), .row (tSl (tI .i64)) 22 ov out, .box g_12 83 (List.map (Value.int .i64) ys), .box g_5 3 [.int .i64 lv], .box g_1 24 [.int .i64 R, .int .i64 C, hv]]) ?_ ?_
      · rcases Bool.eq_false_or_eq_true (decide (0 < ((floodV (adjB C) H.length (wetB C H lv) k).length : Int))) with g_25 | g_25
        · -- True
          have gp_26 := of_decide_eq_true g_25
          refine Wx.gyes rfl rfl (congrArg Value.bool g_25) ?_
          refine Wx.rd (v := r_20) (rd_move rfl) rfl ?_
          refine Wx.gyes rfl rfl (congrArg Value.bool g_25) ?_
          refine Wx.indexR hS 0 rfl rfl rfl Try.underlying22 Try.sizeOf3 (by first | omega | (simp only [List.length_set, List.length_append, List.length_cons, List.length_nil, List.length_replicate]; omega)) (by first | omega | (simp only [List.length_set, List.length_append, List.length_cons, List.length_nil, List.length_replicate]; omega)) rfl (fun g_27 hg_28 => ?_)
          refine Wx.gyes rfl rfl (congrArg Value.bool g_25) ?_
          refine Wx.rd (v := .int .i64 (ix 0 (floodV (adjB C) H.length (wetB C H lv) k) 0)) (rd_loadRI' hS 0 rfl hg_28 rfl (by first | omega | (simp only [List.length_set, List.length_append, List.length_cons, List.length_nil, List.length_replicate]; omega)) (by first | omega | (simp only [List.length_set, List.length_append, List.length_cons, List.length_nil, List.length_replicate]; omega)) Try.isAgg3 Try.sizeOf3) rfl ?_
          have bd_29 := bd_i64 (hS.rowInK' 0 rfl (by first | omega | (simp only [List.length_set, List.length_append, List.length_cons, List.length_nil, List.length_replicate]; omega)) (by first | omega | (simp only [List.length_set, List.length_append, List.length_cons, List.length_nil, List.length_replicate]; omega)) : InK .i64 (ix 0 (floodV (adjB C) H.length (wetB C H lv) k) 0))
          refine Wx.gyes rfl rfl (congrArg Value.bool g_25) ?_
          refine Wx.rd (v := .int .i64 k) (rd_move rfl) rfl ?_
          refine Wx.gyes rfl rfl (congrArg Value.bool g_25) ?_
          refine Wx.rd (v := .bool (decide ((ix 0 (floodV (adjB C) H.length (wetB C H lv) k) 0) = k))) (rd_eql rfl rfl) rfl ?_
          refine Wx.rd (v := .bool (decide ((ix 0 (floodV (adjB C) H.length (wetB C H lv) k) 0) = k))) (rd_pickT (congrArg Value.bool g_25) rfl) rfl ?_
          refine Wx.nil ⟨(), hS, ⟨?_, trivial⟩, Out.look rfl Out.refl⟩
          show Value.bool (decide ((ix 0 (floodV (adjB C) H.length (wetB C H lv) k) 0) = k)) = Value.bool (decide (0 < ((floodV (adjB C) H.length (wetB C H lv) k).length : Int)) && decide ((ix 0 (floodV (adjB C) H.length (wetB C H lv) k) 0) = k))
          first | rw [g_25, Bool.true_and] | (rw [g_25]; rfl)
        · -- False
          have gp_30 := of_decide_eq_false g_25
          refine Wx.gnoB rfl rfl (congrArg Value.bool g_25) rfl rfl ?_
          refine Wx.gnoB rfl rfl (congrArg Value.bool g_25) rfl rfl ?_
          refine Wx.gnoB rfl rfl (congrArg Value.bool g_25) rfl rfl ?_
          refine Wx.gnoB rfl rfl (congrArg Value.bool g_25) rfl rfl ?_
          refine Wx.gnoB rfl rfl (congrArg Value.bool g_25) rfl rfl ?_
          refine Wx.rd (v := .bool false) (rd_pickF (congrArg Value.bool g_25) rfl) rfl ?_
          refine Wx.nil ⟨(), hS, ⟨?_, trivial⟩, Out.look rfl Out.refl⟩
          show Value.bool false = Value.bool (decide (0 < ((floodV (adjB C) H.length (wetB C H lv) k).length : Int)) && decide ((ix 0 (floodV (adjB C) H.length (wetB C H lv) k) 0) = k))
          first | rw [g_25, Bool.false_and] | (rw [g_25]; rfl)
      rintro ⟨⟩ u_32 w_31 hS
      refine Wx.nil ?_
      refine W.cond rfl (fun c2 => ?_) (fun c2 => ?_)
      · -- yes
        try simp only [Bool.and_eq_true, Bool.or_eq_true, Bool.not_eq_true', Bool.and_eq_false_iff, Bool.or_eq_false_iff, Bool.not_eq_false', decide_eq_true_eq, decide_eq_false_iff_not, not_or, Bool.false_eq_true, Bool.true_eq_false, false_or, or_false, not_false_eq_true] at c2
        refine W.reg ?_
        refine Wx.rd (v := ov) (rd_move rfl) rfl ?_
        refine Wx.rd (v := r_20) (rd_move rfl) rfl ?_
        have hS := hS.freeze 0 rfl
        refine Wx.lit (t := (tSl (tI .i64))) (ys := [floodV (adjB C) H.length (wetB C H lv) k]) (vs := [r_20]) elLh_37 hS rfl rfl ⟨(hS.v 0 rfl), trivial⟩ (by decide) rfl (fun v_34 w_35 hx_36 hS => ?_)
        refine Wx.append elLh_37 hS 2 rfl rfl rfl (Src.ofR hS 0 rfl) (by simp only [maxLen]; first | omega | (simp; omega) | simp) (by first | omega | (simp; omega) | simp) rfl (fun v_37 w_38 hz_39 hS => ?_)
        refine Wx.rd (v := v_37) (rd_assign rfl) rfl ?_
        refine Wx.nil ?_
        refine W.reg ?_
        refine Wx.rd (v := .int .i64 (k + 1)) (rd_add rfl rfl (in_i64 (by omega) (by omega))) rfl ?_
        refine Wx.rd (v := .int .i64 (k + 1)) (rd_move rfl) rfl ?_
        refine Wx.nil ?_
        refine ⟨(k + 1, v_37, out ++ [floodV (adjB C) H.length (wetB C H lv) k]), (by show (H.length - (k + 1)).toNat < (H.length - k).toNat; omega), ?_, ?_, Out.look rfl (Out.hav rfl (Out.look rfl Out.self))⟩
        · exact ⟨St.tl (hS.tl), (by first | omega | assumption), (by first | omega | assumption), (by rw [flat_snoc h0, ← h2, pool_hit c2.1 c2.2]), (by simp only [List.length_append, List.length_cons, List.length_nil]; omega)⟩
        · exact ⟨rfl, rfl, trivial⟩
      · -- no
        try simp only [Bool.and_eq_true, Bool.or_eq_true, Bool.not_eq_true', Bool.and_eq_false_iff, Bool.or_eq_false_iff, Bool.not_eq_false', decide_eq_true_eq, decide_eq_false_iff_not, not_or, Bool.false_eq_true, Bool.true_eq_false, false_or, or_false, not_false_eq_true] at c2
        refine W.skip ?_
        refine W.reg ?_
        refine Wx.rd (v := .int .i64 (k + 1)) (rd_add rfl rfl (in_i64 (by omega) (by omega))) rfl ?_
        refine Wx.rd (v := .int .i64 (k + 1)) (rd_move rfl) rfl ?_
        refine Wx.nil ?_
        refine ⟨(k + 1, ov, out), (by show (H.length - (k + 1)).toNat < (H.length - k).toNat; omega), ?_, ?_, Out.look rfl (Out.hav rfl (Out.look rfl Out.self))⟩
        · exact ⟨hS.tl, (by first | omega | assumption), (by first | omega | assumption), (by rw [flat_snoc h0, ← h2, pool_not c2, List.append_nil]), (by first | omega | assumption)⟩
        · exact ⟨rfl, rfl, trivial⟩
    · -- no
      refine W.exit rfl ?_
      refine W.seq ?_
      refine W.reg ?_
      refine Wx.rd (v := ov) (rd_move rfl) rfl ?_
      refine Wx.rd (v := ov) (rd_assign rfl) rfl ?_
      refine Wx.rd (v := .int .i64 0) (rd_assign rfl) rfl ?_
      refine Wx.nil ?_
      have e1_0 : poolsE R C H lv = out := by rw [poolsE, if_pos h0l, pools_eq, h2, show k = (H.length : Int) by omega]
      have e1_1 : (levelE R C H lv) = (0 : Int) := by exact h0l
      exact W.ret ⟨.tuple #[ov, .int .i64 0], ResIs.two, hS.bel, ⟨ov, (by rw [e1_1]), (by rw [e1_0]; exact (hS.frO 0 rfl))⟩⟩

set_option maxHeartbeats 1000000 in
theorem F33 {R : Int} {C : Int} {hv : Value} {H : List Int} {p : Int} {O : List (Option Nat)} {w : World} (i_R : InK .i64 R) (i_C : InK .i64 C) (h_hv : V (tSl (tI .i64)) H hv O w) (i_p : InK .i64 p) (hO : ∀ b, some b ∈ O → b < w.heap.size) : Calls Try.prog 33 #[.agg #[.int .i64 R, .int .i64 C, hv], .int .i64 p] w (Ret w (fun r w' => ∃ rv, r = .tuple #[rv, .int .i64 (atE R C H p)] ∧ Fresh (tI .i64) 3 (basinE R C H p) rv w.heap.size w')) := by
  have b_p := bd_i64 i_p
  have b_C := bd_i64 i_C
  have b_R := bd_i64 i_R
  have a_hv := h_hv
  have l_hv := h_hv.len63
  have hS := St.start w O hO
  refine enterR Try.func33 rfl Try.ntmps33 Try.results33 rfl ?_
  refine W.seq ?_
  refine W.reg ?_
  refine Wx.box (cs := [.int .i64 R, .int .i64 C, hv]) hS rfl rfl rfl (fun g_1 w_2 hx_4 hb_3 hS => ?_)
  refine Wx.rd (v := (.slice none 0 0)) (rd_assign rfl) rfl ?_
  refine Wx.rd (v := .int .i64 0) (rd_assign rfl) rfl ?_
  refine Wx.nil ?_
  refine W.seq ?_
  refine W.seq ?_
  refine W.reg ?_
  refine Wx.rd (v := .agg #[.int .i64 R, .int .i64 C, hv]) (rd_loadXs (ds := [.int .i64 R, .int .i64 C, hv]) hS 0 rfl rfl rfl rfl Try.isAgg24 Try.sizeOf24) rfl ?_
  refine Wx.rd (v := .int .i64 p) (rd_move rfl) rfl ?_
  refine Wx.callF (run_callF Try.call71 rfl) (F71 i_R i_C (hS.arg a_hv) i_p) rfl ?_
  rintro r_5 w_6 hx_7 rfl
  have hS := hS.ext hx_7
  refine Wx.rd (v := .int .i64 (atE R C H p)) (rd_assign rfl) rfl ?_
  refine Wx.nil ?_
  refine W.seq ?_
  refine W.reg ?_
  refine Wx.rd (v := .int .i64 (atE R C H p)) (rd_move rfl) rfl ?_
  refine Wx.rd (v := .bool (decide ((atE R C H p) ≠ 0))) (rd_neq rfl rfl) rfl ?_
  refine Wx.nil ?_
  refine W.condD rfl (fun c0 => ?_) (fun c0 => ?_)
  · -- yes
    refine W.seq ?_
    refine W.reg ?_
    refine Wx.rd (v := .int .i64 (atE R C H p)) (rd_move rfl) rfl ?_
    refine Wx.rd (v := (.slice none 0 0)) (rd_assign rfl) rfl ?_
    refine Wx.rd (v := .int .i64 (atE R C H p)) (rd_assign rfl) rfl ?_
    refine Wx.nil ?_
    have e0_0 : basinE R C H p = [] := by rw [basinE, if_neg c0]
    exact W.ret ⟨.tuple #[(.slice none 0 0), .int .i64 (atE R C H p)], ResIs.two, hS.bel, ⟨(.slice none 0 0), rfl, (by rw [e0_0]; exact ((hS.addNil (tI .i64) 3).fr 0 rfl flat_int))⟩⟩
  · -- no
    obtain ⟨h0c, p_a⟩ := at_ok (R := R) (C := C) (H := H) (p := p) (by omega)
    have p_ok := SOK.of h0c
    obtain ⟨⟨r1, r2⟩, ⟨c1_, c2_⟩, hRC, ⟨n1, n36⟩, hCn, hok⟩ := id p_ok
    refine W.skip ?_
    refine W.seq ?_
    refine W.reg ?_
    refine Wx.rd (v := .agg #[.int .i64 R, .int .i64 C, hv]) (rd_loadXs (ds := [.int .i64 R, .int .i64 C, hv]) hS 0 rfl rfl rfl rfl Try.isAgg24 Try.sizeOf24) rfl ?_
    refine Wx.callF (run_callF Try.call55 rfl) (F55 i_R i_C (hS.arg a_hv) p_ok hS.fb_lt) rfl ?_
    rintro r_8 w_9 hx_10 ⟨ys, hex, rfl⟩
    have hS := hS.ext hx_10
    refine Wx.rd (v := .int .i64 p) (rd_move rfl) rfl ?_
    refine Wx.rd (v := .int .i64 (sillV C H p)) (Rd.to (v := .int .i64 (ix 0 ys p)) (rd_indexVi (d := (0 : Int)) (f := Value.int .i64) (xs := ys) rfl rfl Try.underlying83 Try.sizeOf3 Try.isAgg3 rfl (by omega) (by omega) (by omega)) (congrArg (Value.int .i64) (show (sillV C H p : Int) = (ix 0 ys p : Int) from (hex.2 p p_a.1 p_a.2).symm).symm)) rfl ?_
    have hsl := p_ok.sill p_a.1 p_a.2
    refine Wx.alloc (cs := [.int .i64 0]) hS Try.zeroValue3 rfl rfl (fun g_11 w_12 hx_14 hb_13 hS => ?_)
    refine Wx.storeX (cs' := [.int .i64 (sillV C H p)]) (ds := [.int .i64 (sillV C H p)]) hS 0 rfl rfl rfl rfl Try.sizeOf3 (Nat.le_of_ble_eq_true rfl) (one_cons rfl one_nil) rfl (fun w_15 hz_16 hS => ?_)
    refine Wx.nil ?_
    refine W.seq ?_
    refine W.reg ?_
    refine Wx.rd (v := .agg #[.int .i64 R, .int .i64 C, hv]) (rd_loadXs (ds := [.int .i64 R, .int .i64 C, hv]) hS 1 rfl rfl rfl rfl Try.isAgg24 Try.sizeOf24) rfl ?_
    refine Wx.rd (v := .int .i64 p) (rd_move rfl) rfl ?_
    refine Wx.rd (v := .func (.func 75) #[] #[.pointer (some ⟨g_1, 0, none⟩), .pointer (some ⟨g_11, 0, none⟩)]) (rd_makeFunc (vs := []) (us := [.pointer (some ⟨g_1, 0, none⟩), .pointer (some ⟨g_11, 0, none⟩)]) rfl rfl) rfl ?_
    have hmay : MayF Try.prog 75 [.pointer (some ⟨g_1, 0, none⟩), .pointer (some ⟨g_11, 0, none⟩)] (fun x => decide (ix 0 H x < sillV C H p)) H.length w_15 := ⟨fun _ _ => Go.Proofs.enters_of Try.func75 (by kernel_rfl) rfl _ _, fun x w9 x0 x1 hx => by
      have hq_9 := F75 (x := x) (in_i64 (by omega) (by omega)) i_R i_C (V.ext (hS.arg a_hv) hx) (boxAt hS 1 rfl hx) (in_i64 (by omega) (by omega)) (boxAt hS 0 rfl hx) ⟨x0, x1⟩
      exact hq_9⟩
    refine Wx.callF (run_callF Try.call65 rfl) (F65 (f := (fun x => decide (ix 0 H x < sillV C H p))) (gm := 75) (cm := [.pointer (some ⟨g_1, 0, none⟩), .pointer (some ⟨g_11, 0, none⟩)]) i_R i_C (hS.arg a_hv) i_p p_ok p_a hmay hS.fb_lt) rfl ?_
    rintro r_17 w_18 hx_19 ⟨_, rfl, hv_20⟩
    have hS := hS.pushFr hx_19 hv_20
    refine Wx.rd (v := r_17) (rd_assign rfl) rfl ?_
    refine Wx.rd (v := .int .i64 0) (rd_assign rfl) rfl ?_
    refine Wx.nil ?_
    have e1_0 : basinE R C H p = floodV (adjB C) H.length (fun x => decide (ix 0 H x < sillV C H p)) p := by rw [basinE, if_pos (by omega)]; rfl
    have e1_1 : (atE R C H p) = (0 : Int) := by omega
    exact W.ret ⟨.tuple #[r_17, .int .i64 0], ResIs.two, hS.bel, ⟨r_17, (by rw [e1_1]), (by rw [e1_0]; exact (hS.fr 0 rfl flat_int))⟩⟩
end Go.Proofs.Ytjhimoeodkaihaa

namespace Go.Proofs.Ytjhimoeodkaihaa
open Go.Wk Go.RowKit Go.Lib
set_option linter.unusedVariables false
set_option linter.unusedSimpArgs false
theorem foLi_24_2 : fldOff Try.prog 24 2 = some 2 := by kernel_rfl
theorem mixedLi_ : Try.prog.follows .mixedOrders = true := by kernel_rfl

set_option maxHeartbeats 1000000 in
theorem F29 {R : Int} {C : Int} {hv : Value} {H : List Int} {Fr_hv : List (Option Nat)} {wv : Value} {ws : List Int} {Fr_wv : List (Option Nat)} {p : Int} {w : World} (i_R : InK .i64 R) (i_C : InK .i64 C) (h_hv : V (tSl (tI .i64)) H hv Fr_hv w) (h_wv : V (tSl (tI .i64)) ws wv Fr_wv w) (i_p : InK .i64 p) : Calls Try.prog 29 #[.agg #[.int .i64 R, .int .i64 C, hv], wv, .int .i64 p] w (Ret w (fun r _ => r = .tuple #[.int .i64 (hourV R C H ws p), .int .i64 (hourX R C H ws p)])) := by
  have b_p := bd_i64 i_p
  have b_C := bd_i64 i_C
  have b_R := bd_i64 i_R
  have a_hv := h_hv.any
  have l_hv := h_hv.len63
  have a_wv := h_wv.any
  have l_wv := h_wv.len63
  have hS := St.start0 w
  refine enterR Try.func29 rfl Try.ntmps29 Try.results29 rfl ?_
  refine W.seq ?_
  refine W.reg ?_
  refine Wx.box (cs := [.int .i64 R, .int .i64 C, hv]) hS rfl rfl rfl (fun g_1 w_2 hx_4 hb_3 hS => ?_)
  refine Wx.rd (v := .int .i64 0) (rd_assign rfl) rfl ?_
  refine Wx.rd (v := .int .i64 0) (rd_assign rfl) rfl ?_
  refine Wx.nil ?_
  refine W.seq ?_
  refine W.seq ?_
  refine W.reg ?_
  refine Wx.rd (v := .agg #[.int .i64 R, .int .i64 C, hv]) (rd_loadXs (ds := [.int .i64 R, .int .i64 C, hv]) hS 0 rfl rfl rfl rfl Try.isAgg24 Try.sizeOf24) rfl ?_
  refine Wx.callF (run_callF Try.call22 rfl) (F22 i_R i_C (hS.arg a_hv)) rfl ?_
  rintro r_5 w_6 hx_7 rfl
  have hS := hS.ext hx_7
  refine Wx.rd (v := .int .i64 (checkS R C H)) (rd_assign rfl) rfl ?_
  refine Wx.nil ?_
  refine W.seq ?_
  refine W.reg ?_
  refine Wx.rd (v := .int .i64 (checkS R C H)) (rd_move rfl) rfl ?_
  refine Wx.rd (v := .bool (decide ((checkS R C H) ≠ 0))) (rd_neq rfl rfl) rfl ?_
  refine Wx.nil ?_
  refine W.condD rfl (fun c0 => ?_) (fun c0 => ?_)
  · -- yes
    refine W.seq ?_
    refine W.reg ?_
    refine Wx.rd (v := .int .i64 (checkS R C H)) (rd_move rfl) rfl ?_
    refine Wx.rd (v := .int .i64 0) (rd_assign rfl) rfl ?_
    refine Wx.rd (v := .int .i64 (checkS R C H)) (rd_assign rfl) rfl ?_
    refine Wx.nil ?_
    have e0_0 : (hourV R C H ws p) = (0 : Int) := by exact (hour_check c0).2
    have e0_1 : (hourX R C H ws p) = (checkS R C H : Int) := by exact (hour_check c0).1
    exact W.ret ⟨.tuple #[.int .i64 0, .int .i64 (checkS R C H)], ResIs.two, hS.bel, (by rw [e0_0, e0_1])⟩
  · -- no
    have h0c : checkS R C H = 0 := by omega
    have p_ok := SOK.of h0c
    obtain ⟨⟨r1, r2⟩, ⟨c1_, c2_⟩, hRC, ⟨n1, n36⟩, hCn, hok⟩ := id p_ok
    refine W.skip ?_
    refine W.seq ?_
    refine W.block ?_
    refine W.seq ?_
    refine W.reg ?_
    refine Wx.rd (v := wv) (rd_move rfl) rfl ?_
    refine Wx.rd (v := .int .i64 (ws.length : Int)) (rd_lenV rfl (hS.arg a_wv) Try.underlying22) rfl ?_
    refine Wx.rd (v := .bool (decide (24 < (ws.length : Int)))) (rd_gtr rfl rfl) rfl ?_
    refine Wx.rd (v := .bool (decide (24 < (ws.length : Int)))) (rd_assign rfl) rfl ?_
    refine Wx.nil ?_
    refine W.condD rfl (fun c1 => ?_) (fun c1 => ?_)
    · -- yes
      refine W.seq ?_
      refine W.reg ?_
      refine Wx.rd (v := .int .i64 0) (rd_assign rfl) rfl ?_
      refine Wx.rd (v := .int .i64 3) (rd_assign rfl) rfl ?_
      refine Wx.nil ?_
      have e1_0 : (hourV R C H ws p) = (0 : Int) := by exact (hour_many h0c (by omega)).2
      have e1_1 : (hourX R C H ws p) = (3 : Int) := by exact (hour_many h0c (by omega)).1
      exact W.ret ⟨.tuple #[.int .i64 0, .int .i64 3], ResIs.two, hS.bel, (by rw [e1_0, e1_1])⟩
    · -- no
      refine W.seq ?_
      refine W.reg ?_
      refine Wx.rd (v := wv) (rd_move rfl) rfl ?_
      refine Wx.callF (run_callF Try.call53 rfl) (F53 (hS.arg a_wv)) rfl ?_
      rintro r_8 w_9 hx_10 rfl
      have hS := hS.ext hx_10
      refine Wx.rd (v := .bool (ws.any badH)) (rd_assign rfl) rfl ?_
      refine Wx.nil ?_
      refine W.cond rfl (fun c2 => ?_) (fun c2 => ?_)
      · -- yes
        try simp only [Bool.and_eq_true, Bool.or_eq_true, Bool.not_eq_true', Bool.and_eq_false_iff, Bool.or_eq_false_iff, Bool.not_eq_false', decide_eq_true_eq, decide_eq_false_iff_not, not_or, Bool.false_eq_true, Bool.true_eq_false, false_or, or_false, not_false_eq_true] at c2
        refine W.seq ?_
        refine W.reg ?_
        refine Wx.rd (v := .int .i64 0) (rd_assign rfl) rfl ?_
        refine Wx.rd (v := .int .i64 1) (rd_assign rfl) rfl ?_
        refine Wx.nil ?_
        have e2_0 : (hourV R C H ws p) = (0 : Int) := by exact (hour_bad h0c (by omega) c2).2
        have e2_1 : (hourX R C H ws p) = (1 : Int) := by exact (hour_bad h0c (by omega) c2).1
        exact W.ret ⟨.tuple #[.int .i64 0, .int .i64 1], ResIs.two, hS.bel, (by rw [e2_0, e2_1])⟩
      · -- no
        try simp only [Bool.and_eq_true, Bool.or_eq_true, Bool.not_eq_true', Bool.and_eq_false_iff, Bool.or_eq_false_iff, Bool.not_eq_false', decide_eq_true_eq, decide_eq_false_iff_not, not_or, Bool.false_eq_true, Bool.true_eq_false, false_or, or_false, not_false_eq_true] at c2
        refine W.seq ?_
        refine W.reg ?_
        refine Wx.rd (v := .int .i64 p) (rd_move rfl) rfl ?_
        refine Wx.rd (v := .agg #[.int .i64 R, .int .i64 C, hv]) (rd_loadXs (ds := [.int .i64 R, .int .i64 C, hv]) hS 0 rfl rfl rfl rfl Try.isAgg24 Try.sizeOf24) rfl ?_
        refine Wx.callF (run_callF Try.call56 rfl) (F56 i_R i_C (hS.arg a_hv)) rfl ?_
        rintro r_11 w_12 hx_13 rfl
        have hS := hS.ext hx_13
        refine Wx.rd (v := .int .i64 ((H.length : Int) - 1)) (rd_sub rfl rfl (in_i64 (by omega) (by omega))) rfl ?_
        refine Wx.callF (run_callF Try.call61 rfl) (F61 (in_i64 (by omega) (by omega)) i_p (in_i64 (by omega) (by omega))) rfl ?_
        rintro r_14 w_15 hx_16 rfl
        have hS := hS.ext hx_16
        refine Wx.rd (v := .bool (!(decide (0 ≤ p) && decide (p ≤ ((H.length : Int) - 1))))) (rd_not rfl) rfl ?_
        refine Wx.rd (v := .bool (!(decide (0 ≤ p) && decide (p ≤ ((H.length : Int) - 1))))) (rd_assign rfl) rfl ?_
        refine Wx.nil ?_
        refine W.cond rfl (fun c3 => ?_) (fun c3 => ?_)
        · -- yes
          try simp only [Bool.and_eq_true, Bool.or_eq_true, Bool.not_eq_true', Bool.and_eq_false_iff, Bool.or_eq_false_iff, Bool.not_eq_false', decide_eq_true_eq, decide_eq_false_iff_not, not_or, Bool.false_eq_true, Bool.true_eq_false, false_or, or_false, not_false_eq_true] at c3
          refine W.seq ?_
          refine W.reg ?_
          refine Wx.rd (v := .int .i64 0) (rd_assign rfl) rfl ?_
          refine Wx.rd (v := .int .i64 2) (rd_assign rfl) rfl ?_
          refine Wx.nil ?_
          have e3_0 : (hourV R C H ws p) = (0 : Int) := by exact (hour_none h0c (by omega) c2 (place_no (by omega))).2
          have e3_1 : (hourX R C H ws p) = (2 : Int) := by exact (hour_none h0c (by omega) c2 (place_no (by omega))).1
          exact W.ret ⟨.tuple #[.int .i64 0, .int .i64 2], ResIs.two, hS.bel, (by rw [e3_0, e3_1])⟩
        · -- no
          try simp only [Bool.and_eq_true, Bool.or_eq_true, Bool.not_eq_true', Bool.and_eq_false_iff, Bool.or_eq_false_iff, Bool.not_eq_false', decide_eq_true_eq, decide_eq_false_iff_not, not_or, Bool.false_eq_true, Bool.true_eq_false, false_or, or_false, not_false_eq_true] at c3
          have hpl := place_iff.2 (show 0 ≤ p ∧ p < (H.length : Int) by omega)
          have hpn : ¬ ¬ placeB H.length p = true := fun q => q hpl
          have hsl := p_ok.sill (show 0 ≤ p by omega) (show p < H.length by omega)
          have hpa := p_ok.at (show 0 ≤ p by omega) (show p < H.length by omega)
          refine W.skip ?_
          refine W.seq ?_
          refine W.reg ?_
          refine Wx.rd (v := .pointer (some ⟨g_1, 2, none⟩)) (rd_fieldAddr rfl foLi_24_2) rfl ?_
          refine Wx.rd (v := hv) (rd_loadX hS 0 rfl rfl rfl Try.isAgg22) rfl ?_
          refine Wx.rd (v := .int .i64 p) (rd_move rfl) rfl ?_
          refine Wx.ex (rd_index 0 (hS.arg a_hv) rfl rfl Try.underlying22 Try.sizeOf3 (by first | omega | (simp only [List.length_set, List.length_append, List.length_cons, List.length_nil, List.length_replicate]; omega)) (by first | omega | (simp only [List.length_set, List.length_append, List.length_cons, List.length_nil, List.length_replicate]; omega))) rfl (fun p_17 hp_18 => ?_)
          refine Wx.rd (v := .int .i64 (ix 0 H p)) (rd_loadI hp_18 rfl Try.isAgg3 Try.sizeOf3) rfl ?_
          have bd_19 := bd_i64 hp_18.inK
          refine Wx.alloc (cs := [.int .i64 0]) hS Try.zeroValue3 rfl rfl (fun g_20 w_21 hx_23 hb_22 hS => ?_)
          refine Wx.storeX (cs' := [.int .i64 (ix 0 H p)]) (ds := [.int .i64 (ix 0 H p)]) hS 0 rfl rfl rfl rfl Try.sizeOf3 (Nat.le_of_ble_eq_true rfl) (one_cons rfl one_nil) rfl (fun w_24 hz_25 hS => ?_)
          refine Wx.nil ?_
          refine W.seq ?_
          refine W.reg ?_
          refine Wx.rd (v := wv) (rd_move rfl) rfl ?_
          refine Wx.rd (v := .func (.func 69) #[] #[.pointer (some ⟨g_20, 0, none⟩)]) (rd_makeFunc (vs := []) (us := [.pointer (some ⟨g_20, 0, none⟩)]) rfl rfl) rfl ?_
          refine Wx.callF (run_callF Try.call68 rfl) (FIh (hS.arg a_wv) (in_i64 (by omega) (by omega)) (boxAt hS 0 rfl (Ext.refl _))) rfl ?_
          rintro r_26 w_27 hx_28 rfl
          have hS := hS.ext hx_28
          have ib_29 := idxP_bd (leB (ix 0 H p)) ws 0 (Int.le_refl 0)
          refine Wx.rd (v := .int .i64 (idxP (leB (ix 0 H p)) 0 ws)) (rd_assign rfl) rfl ?_
          refine Wx.nil ?_
          refine W.seq ?_
          refine W.seq ?_
          refine W.regQ mixedLi_ (by kernel_rfl) ?_
          refine Wx.rd (v := .int .i64 (idxP (leB (ix 0 H p)) 0 ws)) (rd_move rfl) rfl ?_
          refine Wx.rd (v := .bool (decide ((idxP (leB (ix 0 H p)) 0 ws) < 0))) (rd_lss rfl rfl) rfl ?_
          refine Wx.rd (v := .bool (decide ((idxP (leB (ix 0 H p)) 0 ws) < 0))) (rd_move rfl) rfl ?_
          refine Wx.cutQ (X := Unit) 7 [41, 42, 43, 44, 45, 46, 47] (fun _ => [(47, .bool (decide ((idxP (leB (ix 0 H p)) 0 ws) < 0) || decide ((ix 0 H p) < (sillV C H p))))]) (fun _ => True) ?_ ?_
          · rcases Bool.eq_false_or_eq_true (decide ((idxP (leB (ix 0 H p)) 0 ws) < 0)) with g_30 | g_30
            · -- True
              have gp_31 := of_decide_eq_true g_30
              refine Wx.gnoB rfl rfl (congrArg Value.bool g_30) rfl rfl ?_
              refine Wx.gnoB rfl rfl (congrArg Value.bool g_30) rfl rfl ?_
              refine Wx.gnoB rfl rfl (congrArg Value.bool g_30) rfl rfl ?_
              refine Wx.gnoB rfl rfl (congrArg Value.bool g_30) rfl rfl ?_
              refine Wx.gnoB rfl rfl (congrArg Value.bool g_30) rfl rfl ?_
              refine Wx.gnoB rfl rfl (congrArg Value.bool g_30) rfl rfl ?_
              refine Wx.rd (v := .bool true) (rd_pickT (congrArg Value.bool g_30) rfl) rfl ?_
              refine Wx.nilQ (fun _ _ => ⟨(), trivial, ⟨?_, trivial⟩, Out.look rfl Out.refl⟩)
              show Value.bool true = Value.bool (decide ((idxP (leB (ix 0 H p)) 0 ws) < 0) || decide ((ix 0 H p) < (sillV C H p)))
              first | rw [g_30, Bool.true_or] | (rw [g_30]; rfl)
            · -- False
              have gp_32 := of_decide_eq_false g_30
              refine Wx.gyes rfl rfl (congrArg Value.bool g_30) ?_
              refine Wx.rd (v := .agg #[.int .i64 R, .int .i64 C, hv]) (rd_loadXs (ds := [.int .i64 R, .int .i64 C, hv]) hS 1 rfl rfl rfl rfl Try.isAgg24 Try.sizeOf24) rfl ?_
              refine Wx.gyes rfl rfl (congrArg Value.bool g_30) ?_
              refine Wx.callV (v := .agg (List.map (Value.int .i64) (knL (sillV C H) H.length)).toArray) (run_callF Try.call55 rfl) (fun w_33 hw_34 => (F55v i_R i_C ((hS.arg a_hv).ext hw_34) p_ok)) rfl ?_
              refine Wx.gyes rfl rfl (congrArg Value.bool g_30) ?_
              refine Wx.rd (v := .int .i64 p) (rd_move rfl) rfl ?_
              refine Wx.gyes rfl rfl (congrArg Value.bool g_30) ?_
              refine Wx.rd (v := .int .i64 (sillV C H p)) (Rd.to (v := .int .i64 (ix 0 (knL (sillV C H) H.length) p)) (rd_indexVi (d := (0 : Int)) (f := Value.int .i64) (xs := (knL (sillV C H) H.length)) rfl rfl Try.underlying83 Try.sizeOf3 Try.isAgg3 rfl knL_len.symm (by omega) (by rw [knL_len]; omega)) (congrArg (Value.int .i64) (show (sillV C H p : Int) = (ix 0 (knL (sillV C H) H.length) p : Int) from (by rw [knL_ix (by omega) (by omega), if_pos (by omega)])).symm)) rfl ?_
              refine Wx.gyes rfl rfl (congrArg Value.bool g_30) ?_
              refine Wx.rd (v := .int .i64 (ix 0 H p)) (rd_loadX hS 0 rfl rfl rfl Try.isAgg3) rfl ?_
              refine Wx.gyes rfl rfl (congrArg Value.bool g_30) ?_
              refine Wx.rd (v := .bool (decide ((ix 0 H p) < (sillV C H p)))) (rd_gtr rfl rfl) rfl ?_
              refine Wx.rd (v := .bool (decide ((ix 0 H p) < (sillV C H p)))) (rd_pickF (congrArg Value.bool g_30) rfl) rfl ?_
              refine Wx.nilQ (fun _ _ => ⟨(), trivial, ⟨?_, trivial⟩, Out.look rfl Out.refl⟩)
              show Value.bool (decide ((ix 0 H p) < (sillV C H p))) = Value.bool (decide ((idxP (leB (ix 0 H p)) 0 ws) < 0) || decide ((ix 0 H p) < (sillV C H p)))
              first | rw [g_30, Bool.false_or] | (rw [g_30]; rfl)
          rintro ⟨⟩ u_36 -
          refine Wx.nilQ (fun w_37 hx_38 => ?_)
          have hS := hS.ext hx_38
          refine W.cond rfl (fun c4 => ?_) (fun c4 => ?_)
          · -- yes
            try simp only [Bool.and_eq_true, Bool.or_eq_true, Bool.not_eq_true', Bool.and_eq_false_iff, Bool.or_eq_false_iff, Bool.not_eq_false', decide_eq_true_eq, decide_eq_false_iff_not, not_or, Bool.false_eq_true, Bool.true_eq_false, false_or, or_false, not_false_eq_true] at c4
            refine W.seq ?_
            refine W.reg ?_
            refine Wx.rd (v := .int .i64 0) (rd_assign rfl) rfl ?_
            refine Wx.rd (v := .int .i64 12) (rd_assign rfl) rfl ?_
            refine Wx.nil ?_
            have e4_0 : (hourV R C H ws p) = (0 : Int) := by exact (hour_lost h0c (by omega) c2 hpl (by rw [idx_dry]; split <;> omega)).2
            have e4_1 : (hourX R C H ws p) = (12 : Int) := by exact (hour_lost h0c (by omega) c2 hpl (by rw [idx_dry]; split <;> omega)).1
            exact W.ret ⟨.tuple #[.int .i64 0, .int .i64 12], ResIs.two, hS.bel, (by rw [e4_0, e4_1])⟩
          · -- no
            try simp only [Bool.and_eq_true, Bool.or_eq_true, Bool.not_eq_true', Bool.and_eq_false_iff, Bool.or_eq_false_iff, Bool.not_eq_false', decide_eq_true_eq, decide_eq_false_iff_not, not_or, Bool.false_eq_true, Bool.true_eq_false, false_or, or_false, not_false_eq_true] at c4
            refine W.skip ?_
            refine W.seq ?_
            refine W.reg ?_
            refine Wx.rd (v := .int .i64 (idxP (leB (ix 0 H p)) 0 ws)) (rd_move rfl) rfl ?_
            refine Wx.rd (v := .int .i64 (idxP (leB (ix 0 H p)) 0 ws)) (rd_assign rfl) rfl ?_
            refine Wx.rd (v := .int .i64 0) (rd_assign rfl) rfl ?_
            refine Wx.nil ?_
            have e5_0 : (hourV R C H ws p) = (idxP (leB (ix 0 H p)) 0 ws : Int) := by rw [(hour_ok h0c (by omega) c2 hpl (by rw [idx_dry]; split <;> omega)).2, idx_dry, if_pos (by omega)]
            have e5_1 : (hourX R C H ws p) = (0 : Int) := by exact (hour_ok h0c (by omega) c2 hpl (by rw [idx_dry]; split <;> omega)).1
            exact W.ret ⟨.tuple #[.int .i64 (idxP (leB (ix 0 H p)) 0 ws), .int .i64 0], ResIs.two, hS.bel, (by rw [e5_0, e5_1])⟩
end Go.Proofs.Ytjhimoeodkaihaa

namespace Go.Proofs.Ytjhimoeodkaihaa
open Go.Wk Go.RowKit Go.Lib
set_option linter.unusedVariables false
set_option linter.unusedSimpArgs false
theorem mixedLj_ : Try.prog.follows .mixedOrders = true := by kernel_rfl
theorem foLj_24_2 : fldOff Try.prog 24 2 = some 2 := by kernel_rfl
theorem elLj_22 : ElemI Try.prog 22 3 (.int .i64 0) 1 8 := ElemI.of Try.underlying22 (by kernel_rfl) (by first | rfl | kernel_rfl) (by decide)

set_option maxHeartbeats 1000000 in
theorem F72 {R C hi m left : Int} {H ys td : List Int} {hv tv : Value} {gf gs gh gt : Nat} {ob : List Ob} {w0 w : World} {O : List (Option Nat)} (p_m : 0 ≤ m ∧ m < (H.length : Int)) (p_n : (H.length : Int) ≤ 36) (p_l : 0 ≤ left ∧ left ≤ 1000) (p_h : 0 ≤ hi ∧ hi ≤ 1000) (p_y : ys.length = 37) (p_t : td.length ≤ 100) (hS : St w0 O w (.box gf 83 (List.map (Value.int .i64) ys) :: .box gs 24 [.int .i64 R, .int .i64 C, hv] :: Ob.v (tSl (tI .i64)) H hv :: .box gh 3 [.int .i64 hi] :: .box gt 22 [tv] :: .row (tI .i64) 3 tv td :: ob)) : Calls Try.prog 72 #[.int .i64 m, .int .i64 left, (.pointer (some ⟨gf, 0, none⟩)), (.pointer (some ⟨gs, 0, none⟩)), (.pointer (some ⟨gh, 0, none⟩)), (.pointer (some ⟨gt, 0, none⟩))] w (Bk fun _ w' => ∃ ys' tv' td', MeetR H hi m left ys td ys' td' ∧ St w0 O w' (.box gf 83 (List.map (Value.int .i64) ys') :: .box gs 24 [.int .i64 R, .int .i64 C, hv] :: Ob.v (tSl (tI .i64)) H hv :: .box gh 3 [.int .i64 hi] :: .box gt 22 [tv'] :: .row (tI .i64) 3 tv' td' :: ob)) := by
  refine enterB Try.func72 rfl Try.ntmps72 Try.results72 rfl ?_
  refine W.seq ?_
  refine W.regQ mixedLj_ (by kernel_rfl) ?_
  refine Wx.rd (v := .int .i64 m) (rd_move rfl) rfl ?_
  refine Wx.rd (v := .pointer (some ⟨gf, 0 + m.toNat * 1, none⟩)) (rd_indexArr rfl rfl Try.underlying83 Try.sizeOf3 (by omega) (by omega)) rfl ?_
  refine Wx.rd (v := .int .i64 (ix 0 ys m)) (rd_loadXa (d := 0) (f := (Value.int .i64)) (j := m) hS 0 rfl rfl (by omega) (by omega) (by omega) Try.isAgg3) rfl ?_
  refine Wx.rd (v := .bool (decide ((ix 0 ys m) = 0))) (rd_eql rfl rfl) rfl ?_
  refine Wx.rd (v := .bool (decide ((ix 0 ys m) = 0))) (rd_move rfl) rfl ?_
  refine Wx.cutQ (X := Unit) 8 [13, 14, 15, 16, 17, 18, 19, 20] (fun _ => [(20, .bool (decide ((ix 0 ys m) = 0) && decide ((ix 0 H m) ≤ hi)))]) (fun _ => True) ?_ ?_
  · rcases Bool.eq_false_or_eq_true (decide ((ix 0 ys m) = 0)) with g_1 | g_1
    · -- True
      have gp_2 := of_decide_eq_true g_1
      refine Wx.gyes rfl rfl (congrArg Value.bool g_1) ?_
      refine Wx.rd (v := .pointer (some ⟨gs, 2, none⟩)) (rd_fieldAddr rfl foLj_24_2) rfl ?_
      refine Wx.gyes rfl rfl (congrArg Value.bool g_1) ?_
      refine Wx.rd (v := hv) (rd_loadX hS 1 rfl rfl rfl Try.isAgg22) rfl ?_
      refine Wx.gyes rfl rfl (congrArg Value.bool g_1) ?_
      refine Wx.rd (v := .int .i64 m) (rd_move rfl) rfl ?_
      refine Wx.gyes rfl rfl (congrArg Value.bool g_1) ?_
      refine Wx.ex (rd_index 0 (hS.v 2 rfl) rfl rfl Try.underlying22 Try.sizeOf3 (by first | omega | (simp only [List.length_set, List.length_append, List.length_cons, List.length_nil, List.length_replicate]; omega)) (by first | omega | (simp only [List.length_set, List.length_append, List.length_cons, List.length_nil, List.length_replicate]; omega))) rfl (fun p_3 hp_4 => ?_)
      refine Wx.gyes rfl rfl (congrArg Value.bool g_1) ?_
      refine Wx.rd (v := .int .i64 (ix 0 H m)) (rd_loadI hp_4 rfl Try.isAgg3 Try.sizeOf3) rfl ?_
      have bd_5 := bd_i64 hp_4.inK
      refine Wx.gyes rfl rfl (congrArg Value.bool g_1) ?_
      refine Wx.rd (v := .int .i64 hi) (rd_loadX hS 3 rfl rfl rfl Try.isAgg3) rfl ?_
      refine Wx.gyes rfl rfl (congrArg Value.bool g_1) ?_
      refine Wx.rd (v := .bool (decide ((ix 0 H m) ≤ hi))) (rd_leq rfl rfl) rfl ?_
      refine Wx.rd (v := .bool (decide ((ix 0 H m) ≤ hi))) (rd_pickT (congrArg Value.bool g_1) rfl) rfl ?_
      refine Wx.nilQ (fun _ _ => ⟨(), trivial, ⟨?_, trivial⟩, Out.look rfl Out.refl⟩)
      show Value.bool (decide ((ix 0 H m) ≤ hi)) = Value.bool (decide ((ix 0 ys m) = 0) && decide ((ix 0 H m) ≤ hi))
      first | rw [g_1, Bool.true_and] | (rw [g_1]; rfl)
    · -- False
      have gp_6 := of_decide_eq_false g_1
      refine Wx.gnoB rfl rfl (congrArg Value.bool g_1) rfl rfl ?_
      refine Wx.gnoB rfl rfl (congrArg Value.bool g_1) rfl rfl ?_
      refine Wx.gnoB rfl rfl (congrArg Value.bool g_1) rfl rfl ?_
      refine Wx.gnoB rfl rfl (congrArg Value.bool g_1) rfl rfl ?_
      refine Wx.gnoB rfl rfl (congrArg Value.bool g_1) rfl rfl ?_
      refine Wx.gnoB rfl rfl (congrArg Value.bool g_1) rfl rfl ?_
      refine Wx.gnoB rfl rfl (congrArg Value.bool g_1) rfl rfl ?_
      refine Wx.rd (v := .bool false) (rd_pickF (congrArg Value.bool g_1) rfl) rfl ?_
      refine Wx.nilQ (fun _ _ => ⟨(), trivial, ⟨?_, trivial⟩, Out.look rfl Out.refl⟩)
      show Value.bool false = Value.bool (decide ((ix 0 ys m) = 0) && decide ((ix 0 H m) ≤ hi))
      first | rw [g_1, Bool.false_and] | (rw [g_1]; rfl)
  rintro ⟨⟩ u_8 -
  refine Wx.nilQ (fun w_9 hx_10 => ?_)
  have hS := hS.ext hx_10
  refine W.cond rfl (fun c0 => ?_) (fun c0 => ?_)
  · -- yes
    try simp only [Bool.and_eq_true, Bool.or_eq_true, Bool.not_eq_true', Bool.and_eq_false_iff, Bool.or_eq_false_iff, Bool.not_eq_false', decide_eq_true_eq, decide_eq_false_iff_not, not_or, Bool.false_eq_true, Bool.true_eq_false, false_or, or_false, not_false_eq_true] at c0
    refine W.seq ?_
    refine W.reg ?_
    refine Wx.rd (v := .int .i64 m) (rd_move rfl) rfl ?_
    refine Wx.rd (v := .int .i64 left) (rd_move rfl) rfl ?_
    refine Wx.rd (v := .pointer (some ⟨gf, 0 + m.toNat * 1, none⟩)) (rd_indexArr rfl rfl Try.underlying83 Try.sizeOf3 (by omega) (by omega)) rfl ?_
    refine Wx.storeXa (j := m) (f := (Value.int .i64)) (u := left) hS 0 rfl rfl (by omega) rfl rfl rfl Try.sizeOf3 (by omega) (by omega) (fun w_11 hz_12 hS => ?_)
    refine Wx.nil ?_
    refine W.reg ?_
    refine Wx.rd (v := tv) (rd_loadX hS 4 rfl rfl rfl Try.isAgg22) rfl ?_
    refine Wx.rd (v := .int .i64 m) (rd_move rfl) rfl ?_
    refine Wx.lit (t := (tI .i64)) (ys := [m]) (vs := [.int .i64 m]) elLj_22 hS rfl rfl ⟨(V.mkInt (in_i64 (by omega) (by omega))), trivial⟩ (by decide) rfl (fun v_13 w_14 hx_15 hS => ?_)
    refine Wx.append elLj_22 hS 6 rfl rfl rfl (Src.ofR hS 0 rfl) (by simp only [maxLen]; first | omega | (simp; omega) | simp) (by first | omega | (simp; omega) | simp) rfl (fun v_16 w_17 hz_18 hS => ?_)
    refine Wx.storeX (cs' := [v_16]) (ds := [v_16]) hS 5 rfl rfl rfl (Go.Wk.cells_one (hS.rowOne 6 rfl)) Try.sizeOf22 (Nat.le_of_ble_eq_true rfl) (one_cons (hS.rowOne 6 rfl) one_nil) rfl (fun w_19 hz_20 hS => ?_)
    refine Wx.nil ?_
    exact ⟨.tuple #[], ResIs.zero, _, _, _, .inl ⟨c0, rfl, rfl⟩, (St.tl hS)⟩
  · -- no
    try simp only [Bool.and_eq_true, Bool.or_eq_true, Bool.not_eq_true', Bool.and_eq_false_iff, Bool.or_eq_false_iff, Bool.not_eq_false', decide_eq_true_eq, decide_eq_false_iff_not, not_or, Bool.false_eq_true, Bool.true_eq_false, false_or, or_false, not_false_eq_true] at c0
    refine W.skip ?_
    exact ⟨.tuple #[], ResIs.zero, _, _, _, .inr ⟨fun q => by omega, rfl, rfl⟩, hS⟩
end Go.Proofs.Ytjhimoeodkaihaa
