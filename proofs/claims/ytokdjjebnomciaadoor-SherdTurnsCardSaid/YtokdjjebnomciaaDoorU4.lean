/-
  WHAT IS PROVED HERE, TEXT BY TEXT (several texts of one prover, joined to one file; the conditions stand in each statement):
  * WHAT IS PROVED HERE: what functions of layer 5 hand back, each out of its own code; the conditions stand in each statement.
  * WHAT IS PROVED HERE: what functions of layer 5 hand back, each out of its own code; the conditions stand in each statement.
  * WHAT IS PROVED HERE: what functions of layer 5 hand back, each out of its own code; the conditions stand in each statement.
  * WHAT IS PROVED HERE: what functions of layer 5 hand back, each out of its own code; the conditions stand in each statement.
  * WHAT IS PROVED HERE: what functions of layer 5 hand back, each out of its own code; the conditions stand in each statement.
-/
import Derived.Test.YtokdjjebnomciaaDoorProg
import Derived.Test.YtokdjjebnomciaaDoorU2
import Derived.Test.YtokdjjebnomciaaDoorU3

set_option linter.unusedVariables false
set_option linter.unusedSimpArgs false

namespace Go.Proofs.YtokdjjebnomciaaDoor
open Go.Wk Go.RowKit Go.Lib
set_option linter.unusedVariables false
set_option linter.unusedSimpArgs false
theorem elHf_22 : ElemI Tryd.prog 22 58 (.agg #[.int .i64 0, .int .i64 0]) 2 16 := ElemI.of Tryd.underlying22 (by kernel_rfl) (by first | rfl | kernel_rfl) (by decide)
theorem elHf_60 : ElemI Tryd.prog 60 3 (.int .i64 0) 1 8 := ElemI.of Tryd.underlying60 (by kernel_rfl) (by first | rfl | kernel_rfl) (by decide)
theorem mixedHf_ : Tryd.prog.follows .mixedOrders = true := by kernel_rfl

theorem F73b {rim : ByteArray} {O : List (Option Nat)} {w : World} (s_rim : rim.size ≤ maxLen) (p_12 : (rim.size : Int) ≤ 12) (p_l : Lets rim) (hO : ∀ b, some b ∈ O → b < w.heap.size) (hG : Laid w) : Calls Tryd.prog 73 #[.string rim] w (Ret w (fun r w' => ∃ sv lv, r = .tuple #[sv, lv] ∧ V (tSl (tP (tI .i64) (tI .i64))) ((takS rim).1) sv O w' ∧ Fresh (tI .i64) 3 ((takS rim).2) lv w.heap.size w')) := by
  have hS := St.start w O hO
  refine enterR Tryd.func73 rfl Tryd.ntmps73 Tryd.results73 rfl ?_
  refine W.seq ?_
  refine W.reg ?_
  refine Wx.rd (v := (.slice none 0 0)) (rd_assign rfl) rfl ?_
  refine Wx.rd (v := (.slice none 0 0)) (rd_assign rfl) rfl ?_
  refine Wx.nil ?_
  refine W.seq ?_
  refine W.seq ?_
  refine W.reg ?_
  refine Wx.rd (v := .string rim) (rd_move rfl) rfl ?_
  refine Wx.rangeS (s := rim) hS rfl Tryd.underlying9 rfl (fun g_1 w_2 hx_3 hS => ?_)
  refine Wx.nil ?_
  refine W.block ?_
  have hS := hS.addNil (tP (tI .i64) (tI .i64)) 58
  have hS := hS.addNil (tI .i64) 3
  refine W.loop [2, 3, 4, 5, 8, 9, 10, 11, 12, 13, 14, 15, 16, 17, 18, 19, 20, 21, 22, 23, 24, 25, 26, 27, 28, 29, 30, 31, 32, 33, 34, 35, 36, 37, 38, 39, 40, 41, 42] (fun x : Value × (List (Int × Int)) × Value × (List Int) × Nat => match x with | (tv, st, lw, lf, p) => [(2, tv), (3, lw)]) (fun (x : Value × (List (Int × Int)) × Value × (List Int) × Nat) w' => match x with | (tv, st, lw, lf, p) => St w O w' [.row (tI .i64) 3 lw lf, .row (tP (tI .i64) (tI .i64)) 58 tv st, .raw g_1 (.stringIter rim p)] ∧ p ≤ rim.size ∧ runS rim (st, lf) (rng p rim.size) = takS rim ∧ (∀ x ∈ lf, 0 ≤ x ∧ x < p) ∧ 2 * (st.length : Int) + lf.length = p) (fun x : Value × (List (Int × Int)) × Value × (List Int) × Nat => match x with | (tv, st, lw, lf, p) => rim.size - p) ((.slice none 0 0), [], (.slice none 0 0), [], 0) ⟨rfl, rfl, trivial⟩ ⟨hS, (Nat.zero_le _), (rfl), (by simp), (rfl)⟩ ?_
  rintro ⟨tv, st, lw, lf, p⟩ u_5 w_4 ⟨hS, h1, h2, h3, h4⟩
  refine W.seq ?_
  refine W.reg ?_
  refine Wx.nextS hS 2 rfl rfl rfl (fun hn w_6 hz_7 hS => ?_) (fun hn => ?_)
  · -- a rune
    have hS : St _ _ w_6 [.row (tI .i64) 3 lw lf, .row (tP (tI .i64) (tI .i64)) 58 tv st, .raw g_1 (.stringIter rim (p + (runeW rim (p : Int)).toNat))] := hS
    have hra := (runeAt_ascii (s := rim) (p := (p : Int)) (by omega) (by have := isLet_bd (p_l p (by omega) (by omega)); omega)).2
    refine Wx.rd (v := .bool true) (rd_extract rfl rfl) rfl ?_
    refine Wx.nil ?_
    refine W.seq ?_
    refine W.condT rfl rfl ?_
    refine W.skip ?_
    refine W.block ?_
    refine W.seq ?_
    refine W.reg ?_
    refine Wx.rd (v := .int .i64 (p : Int)) (rd_extract rfl rfl) rfl ?_
    refine Wx.rd (v := .int .i64 (p : Int)) (rd_assign rfl) rfl ?_
    refine Wx.nil ?_
    refine W.seq ?_
    refine W.reg ?_
    refine Wx.rd (v := lw) (rd_move rfl) rfl ?_
    refine Wx.rd (v := .int .i64 (lf.length : Int)) (rd_lenR hS 0 rfl rfl Tryd.underlying60) rfl ?_
    refine Wx.rd (v := .int .i64 (lf.length : Int)) (rd_assign rfl) rfl ?_
    refine Wx.nil ?_
    refine W.seq ?_
    refine W.seq ?_
    refine W.reg ?_
    refine Wx.rd (v := .int .i64 (lf.length : Int)) (rd_move rfl) rfl ?_
    refine Wx.rd (v := .bool (decide (0 < (lf.length : Int)))) (rd_gtr rfl rfl) rfl ?_
    refine Wx.rd (v := .bool (decide (0 < (lf.length : Int)))) (rd_move rfl) rfl ?_
    refine Wx.cut (X := Unit) 9 [16, 17, 18, 19, 20, 21, 22, 23, 24] (fun _ => [(24, .bool (decide (0 < (lf.length : Int)) && fitR rim (ix 0 lf ((lf.length : Int) - 1)) (p : Int)))]) (fun _ w' => St w O w' [.row (tI .i64) 3 lw lf, .row (tP (tI .i64) (tI .i64)) 58 tv st, .raw g_1 (.stringIter rim (p + (runeW rim (p : Int)).toNat))]) ?_ ?_
    · rcases Bool.eq_false_or_eq_true (decide (0 < (lf.length : Int))) with g_9 | g_9
      · -- True
        have gp_10 := of_decide_eq_true g_9
        refine Wx.gyes rfl rfl (congrArg Value.bool g_9) ?_
        refine Wx.rd (v := .string rim) (rd_move rfl) rfl ?_
        refine Wx.gyes rfl rfl (congrArg Value.bool g_9) ?_
        refine Wx.rd (v := lw) (rd_move rfl) rfl ?_
        refine Wx.gyes rfl rfl (congrArg Value.bool g_9) ?_
        refine Wx.rd (v := .int .i64 (lf.length : Int)) (rd_move rfl) rfl ?_
        refine Wx.gyes rfl rfl (congrArg Value.bool g_9) ?_
        refine Wx.rd (v := .int .i64 ((lf.length : Int) - 1)) (rd_sub rfl rfl (in_i64 (by omega) (by omega))) rfl ?_
        refine Wx.gyes rfl rfl (congrArg Value.bool g_9) ?_
        refine Wx.indexR hS 0 rfl rfl rfl Tryd.underlying60 Tryd.sizeOf3 (by first | omega | (simp only [List.length_set, List.length_append, List.length_cons, List.length_nil, List.length_replicate]; omega)) (by first | omega | (simp only [List.length_set, List.length_append, List.length_cons, List.length_nil, List.length_replicate]; omega)) rfl (fun g_11 hg_12 => ?_)
        refine Wx.gyes rfl rfl (congrArg Value.bool g_9) ?_
        refine Wx.rd (v := .int .i64 (ix 0 lf ((lf.length : Int) - 1))) (rd_loadRI' hS 0 rfl hg_12 rfl (by first | omega | (simp only [List.length_set, List.length_append, List.length_cons, List.length_nil, List.length_replicate]; omega)) (by first | omega | (simp only [List.length_set, List.length_append, List.length_cons, List.length_nil, List.length_replicate]; omega)) Tryd.isAgg3 Tryd.sizeOf3) rfl ?_
        have bd_13 := bd_i64 (hS.rowInK' 0 rfl (by first | omega | (simp only [List.length_set, List.length_append, List.length_cons, List.length_nil, List.length_replicate]; omega)) (by first | omega | (simp only [List.length_set, List.length_append, List.length_cons, List.length_nil, List.length_replicate]; omega)) : InK .i64 (ix 0 lf ((lf.length : Int) - 1)))
        refine Wx.gyes rfl rfl (congrArg Value.bool g_9) ?_
        refine Wx.rd (v := .int .i64 (p : Int)) (rd_move rfl) rfl ?_
        refine Wx.gyes rfl rfl (congrArg Value.bool g_9) ?_
        have hlm := h3 (ix 0 lf ((lf.length : Int) - 1)) (ix_mem (by omega) (by omega))
        refine Wx.callF (run_callF Tryd.call61 rfl) (F61 (by first | assumption | (simp only [maxLen]; omega) | (simp only [ByteArray.size_extract, ByteArray.size_append, maxLen] at *; omega) | decide) (in_i64 (by omega) (by omega)) (in_i64 (by omega) (by omega)) (by omega) (by omega) (by omega) (by omega) (by omega) (hG.ext hS.bel)) rfl ?_
        rintro r_14 w_15 hx_16 rfl
        have hS := hS.ext hx_16
        refine Wx.rd (v := .bool (fitR rim (ix 0 lf ((lf.length : Int) - 1)) (p : Int))) (rd_pickT (congrArg Value.bool g_9) rfl) rfl ?_
        refine Wx.nil ⟨(), hS, ⟨?_, trivial⟩, Out.look rfl Out.refl⟩
        show Value.bool (fitR rim (ix 0 lf ((lf.length : Int) - 1)) (p : Int)) = Value.bool (decide (0 < (lf.length : Int)) && fitR rim (ix 0 lf ((lf.length : Int) - 1)) (p : Int))
        rw [g_9]; rfl
      · -- False
        have gp_17 := of_decide_eq_false g_9
        refine Wx.gnoB rfl rfl (congrArg Value.bool g_9) rfl rfl ?_
        refine Wx.gnoB rfl rfl (congrArg Value.bool g_9) rfl rfl ?_
        refine Wx.gnoB rfl rfl (congrArg Value.bool g_9) rfl rfl ?_
        refine Wx.gnoB rfl rfl (congrArg Value.bool g_9) rfl rfl ?_
        refine Wx.gnoB rfl rfl (congrArg Value.bool g_9) rfl rfl ?_
        refine Wx.gnoB rfl rfl (congrArg Value.bool g_9) rfl rfl ?_
        refine Wx.gnoB rfl rfl (congrArg Value.bool g_9) rfl rfl ?_
        refine Wx.gnoB rfl rfl (congrArg Value.bool g_9) rfl rfl ?_
        refine Wx.rd (v := .bool false) (rd_pickF (congrArg Value.bool g_9) rfl) rfl ?_
        refine Wx.nil ⟨(), hS, ⟨?_, trivial⟩, Out.look rfl Out.refl⟩
        show Value.bool false = Value.bool (decide (0 < (lf.length : Int)) && fitR rim (ix 0 lf ((lf.length : Int) - 1)) (p : Int))
        rw [g_9]; rfl
    rintro ⟨⟩ u_19 w_18 hS
    refine Wx.nil ?_
    refine W.cond rfl (fun c1 => ?_) (fun c1 => ?_)
    · -- yes
      try simp only [Bool.and_eq_true, Bool.or_eq_true, Bool.not_eq_true', Bool.and_eq_false_iff, Bool.or_eq_false_iff, Bool.not_eq_false', decide_eq_true_eq, decide_eq_false_iff_not, not_or, Bool.false_eq_true, Bool.true_eq_false, false_or, or_false, not_false_eq_true] at c1
      refine W.seq ?_
      refine W.reg ?_
      refine Wx.rd (v := tv) (rd_move rfl) rfl ?_
      refine Wx.rd (v := lw) (rd_move rfl) rfl ?_
      refine Wx.rd (v := .int .i64 (lf.length : Int)) (rd_move rfl) rfl ?_
      refine Wx.rd (v := .int .i64 ((lf.length : Int) - 1)) (rd_sub rfl rfl (in_i64 (by omega) (by omega))) rfl ?_
      refine Wx.indexR hS 0 rfl rfl rfl Tryd.underlying60 Tryd.sizeOf3 (by first | omega | (simp only [List.length_set, List.length_append, List.length_cons, List.length_nil, List.length_replicate]; omega)) (by first | omega | (simp only [List.length_set, List.length_append, List.length_cons, List.length_nil, List.length_replicate]; omega)) rfl (fun g_20 hg_21 => ?_)
      refine Wx.rd (v := .int .i64 (ix 0 lf ((lf.length : Int) - 1))) (rd_loadRI' hS 0 rfl hg_21 rfl (by first | omega | (simp only [List.length_set, List.length_append, List.length_cons, List.length_nil, List.length_replicate]; omega)) (by first | omega | (simp only [List.length_set, List.length_append, List.length_cons, List.length_nil, List.length_replicate]; omega)) Tryd.isAgg3 Tryd.sizeOf3) rfl ?_
      have bd_22 := bd_i64 (hS.rowInK' 0 rfl (by first | omega | (simp only [List.length_set, List.length_append, List.length_cons, List.length_nil, List.length_replicate]; omega)) (by first | omega | (simp only [List.length_set, List.length_append, List.length_cons, List.length_nil, List.length_replicate]; omega)) : InK .i64 (ix 0 lf ((lf.length : Int) - 1)))
      refine Wx.rd (v := .int .i64 (p : Int)) (rd_move rfl) rfl ?_
      refine Wx.rd (v := .agg #[.int .i64 (ix 0 lf ((lf.length : Int) - 1)), .int .i64 (p : Int)]) (rd_build (vs := [(0, .int .i64 (ix 0 lf ((lf.length : Int) - 1))), (1, .int .i64 (p : Int))]) rfl (by kernel_rfl)) rfl ?_
      refine Wx.lit (t := (tP (tI .i64) (tI .i64))) (ys := [(ix 0 lf ((lf.length : Int) - 1), (p : Int))]) (vs := [.agg #[.int .i64 (ix 0 lf ((lf.length : Int) - 1)), .int .i64 (p : Int)]]) elHf_22 hS rfl rfl ⟨(V.mk2 (in_i64 (by omega) (by omega)) (in_i64 (by omega) (by omega))), trivial⟩ (by decide) rfl (fun v_23 w_24 hx_25 hS => ?_)
      refine Wx.append elHf_22 hS 2 rfl rfl rfl (Src.ofR hS 0 rfl) (by simp only [maxLen]; simp; omega) (by simp; omega) rfl (fun v_26 w_27 hz_28 hS => ?_)
      refine Wx.rd (v := v_26) (rd_assign rfl) rfl ?_
      refine Wx.nil ?_
      refine W.seq ?_
      refine W.reg ?_
      refine Wx.rd (v := lw) (rd_move rfl) rfl ?_
      refine Wx.rd (v := .int .i64 (lf.length : Int)) (rd_move rfl) rfl ?_
      refine Wx.rd (v := .int .i64 ((lf.length : Int) - 1)) (rd_sub rfl rfl (in_i64 (by omega) (by omega))) rfl ?_
      obtain ⟨g_29, c_30, rfl, hc_31⟩ := hS.rowForm 1 rfl (by omega)
      refine Wx.rd (v := (.slice (some ⟨g_29, 0, none⟩) ((lf.length : Int) - 1).toNat c_30)) (rd_headO Tryd.underlying60 Tryd.sizeOf3 rfl rfl (by omega) (by omega)) rfl ?_
      have hS : St _ _ _ [.row (tP (tI .i64) (tI .i64)) 58 v_23 [(ix 0 lf ((lf.length : Int) - 1), (p : Int))], .row (tI .i64) 3 (.slice (some ⟨g_29, 0, none⟩) ((lf.length : Int) - 1).toNat c_30) (List.take ((lf.length : Int) - 1).toNat lf), .row (tP (tI .i64) (tI .i64)) 58 v_26 (st ++ [(ix 0 lf ((lf.length : Int) - 1), (p : Int))]), .raw g_1 (.stringIter rim (p + (runeW rim (p : Int)).toNat))] := hS.shrink (m := ((lf.length : Int) - 1).toNat) 1 rfl (by omega)
      refine Wx.rd (v := (.slice (some ⟨g_29, 0, none⟩) ((lf.length : Int) - 1).toNat c_30)) (rd_assign rfl) rfl ?_
      refine Wx.nil ?_
      refine W.exit rfl ?_
      refine ⟨(v_26, st ++ [(ix 0 lf ((lf.length : Int) - 1), (p : Int))], (.slice (some ⟨g_29, 0, none⟩) ((lf.length : Int) - 1).toNat c_30), List.take ((lf.length : Int) - 1).toNat lf, p + (runeW rim (p : Int)).toNat), (by show rim.size - (p + (runeW rim (p : Int)).toNat) < rim.size - p; omega), ?_, ?_, Out.look rfl (Out.hav rfl (Out.look rfl Out.self))⟩
      · exact ⟨hS.tl, (by omega), (by rw [← h2, rng_cons (i := (p : Int)) (by omega), runS_cons, show ((p + (runeW rim (p : Int)).toNat : Nat) : Int) = (p : Int) + 1 by omega]; first | rw [stepS_yes c1.1 c1.2] | rw [stepS_no c1]), (fun x hx => by first | (have := h3 x (List.mem_of_mem_take hx); omega) | (rcases List.mem_append.1 hx with hx | hx; (have := h3 x hx; omega); (rw [List.mem_singleton] at hx; omega))), (by simp only [List.length_append, List.length_take, List.length_cons, List.length_nil]; omega)⟩
      · exact ⟨rfl, rfl, trivial⟩
    · -- no
      try simp only [Bool.and_eq_true, Bool.or_eq_true, Bool.not_eq_true', Bool.and_eq_false_iff, Bool.or_eq_false_iff, Bool.not_eq_false', decide_eq_true_eq, decide_eq_false_iff_not, not_or, Bool.false_eq_true, Bool.true_eq_false, false_or, or_false, not_false_eq_true] at c1
      refine W.skip ?_
      refine W.reg ?_
      refine Wx.rd (v := lw) (rd_move rfl) rfl ?_
      refine Wx.rd (v := .int .i64 (p : Int)) (rd_move rfl) rfl ?_
      refine Wx.lit (t := (tI .i64)) (ys := [(p : Int)]) (vs := [.int .i64 (p : Int)]) elHf_60 hS rfl rfl ⟨(V.mkInt (in_i64 (by omega) (by omega))), trivial⟩ (by decide) rfl (fun v_32 w_33 hx_34 hS => ?_)
      refine Wx.append elHf_60 hS 1 rfl rfl rfl (Src.ofR hS 0 rfl) (by simp only [maxLen]; simp; omega) (by simp; omega) rfl (fun v_35 w_36 hz_37 hS => ?_)
      refine Wx.rd (v := v_35) (rd_assign rfl) rfl ?_
      refine Wx.nil ?_
      refine ⟨(tv, st, v_35, lf ++ [(p : Int)], p + (runeW rim (p : Int)).toNat), (by show rim.size - (p + (runeW rim (p : Int)).toNat) < rim.size - p; omega), ?_, ?_, Out.look rfl (Out.hav rfl (Out.look rfl Out.self))⟩
      · exact ⟨hS.tl, (by omega), (by rw [← h2, rng_cons (i := (p : Int)) (by omega), runS_cons, show ((p + (runeW rim (p : Int)).toNat : Nat) : Int) = (p : Int) + 1 by omega]; first | rw [stepS_yes c1.1 c1.2] | rw [stepS_no c1]), (fun x hx => by first | (have := h3 x (List.mem_of_mem_take hx); omega) | (rcases List.mem_append.1 hx with hx | hx; (have := h3 x hx; omega); (rw [List.mem_singleton] at hx; omega))), (by simp only [List.length_append, List.length_take, List.length_cons, List.length_nil]; omega)⟩
      · exact ⟨rfl, rfl, trivial⟩
  · -- the end
    refine Wx.rd (v := .bool false) (rd_extract rfl rfl) rfl ?_
    refine Wx.nil ?_
    refine W.seq ?_
    refine W.condF rfl rfl ?_
    refine W.exit rfl ?_
    refine W.seq ?_
    refine W.reg ?_
    refine Wx.rd (v := tv) (rd_move rfl) rfl ?_
    refine Wx.rd (v := lw) (rd_move rfl) rfl ?_
    refine Wx.rd (v := tv) (rd_assign rfl) rfl ?_
    refine Wx.rd (v := lw) (rd_assign rfl) rfl ?_
    refine Wx.nil ?_
    have e0_0 : (takS rim).1 = st := by rw [← h2, rng_nil (by omega)]; rfl
    have e0_1 : (takS rim).2 = lf := by rw [← h2, rng_nil (by omega)]; rfl
    exact W.ret ⟨.tuple #[tv, lw], ResIs.two, hS.bel, ⟨tv, lw, rfl, (by rw [e0_0]; exact ((hS.lend 1 rfl).mv (.less (fun _ h => List.mem_append.2 (.inr h))))), (by rw [e0_1]; exact (hS.fr 0 rfl flat_int))⟩⟩

theorem F73 {rim : ByteArray} {O : List (Option Nat)} {w : World} (s_rim : rim.size ≤ maxLen) (p_12 : (rim.size : Int) ≤ 12) (p_l : Lets rim) (hO : ∀ b, some b ∈ O → b < w.heap.size) (hG : Laid w) : Calls Tryd.prog 73 #[.string rim] w (Ret w (fun r w' => ∃ sv lv, r = .tuple #[sv, lv] ∧ V (tSl (tP (tI .i64) (tI .i64))) ((takS rim).1) sv O w' ∧ V (tSl (tI .i64)) ((takS rim).2) lv O w')) := by
  have hS := St.start w O hO
  refine enterR Tryd.func73 rfl Tryd.ntmps73 Tryd.results73 rfl ?_
  refine W.seq ?_
  refine W.reg ?_
  refine Wx.rd (v := (.slice none 0 0)) (rd_assign rfl) rfl ?_
  refine Wx.rd (v := (.slice none 0 0)) (rd_assign rfl) rfl ?_
  refine Wx.nil ?_
  refine W.seq ?_
  refine W.seq ?_
  refine W.reg ?_
  refine Wx.rd (v := .string rim) (rd_move rfl) rfl ?_
  refine Wx.rangeS (s := rim) hS rfl Tryd.underlying9 rfl (fun g_1 w_2 hx_3 hS => ?_)
  refine Wx.nil ?_
  refine W.block ?_
  have hS := hS.addNil (tP (tI .i64) (tI .i64)) 58
  have hS := hS.addNil (tI .i64) 3
  refine W.loop [2, 3, 4, 5, 8, 9, 10, 11, 12, 13, 14, 15, 16, 17, 18, 19, 20, 21, 22, 23, 24, 25, 26, 27, 28, 29, 30, 31, 32, 33, 34, 35, 36, 37, 38, 39, 40, 41, 42] (fun x : Value × (List (Int × Int)) × Value × (List Int) × Nat => match x with | (tv, st, lw, lf, p) => [(2, tv), (3, lw)]) (fun (x : Value × (List (Int × Int)) × Value × (List Int) × Nat) w' => match x with | (tv, st, lw, lf, p) => St w O w' [.row (tI .i64) 3 lw lf, .row (tP (tI .i64) (tI .i64)) 58 tv st, .raw g_1 (.stringIter rim p)] ∧ p ≤ rim.size ∧ runS rim (st, lf) (rng p rim.size) = takS rim ∧ (∀ x ∈ lf, 0 ≤ x ∧ x < p) ∧ 2 * (st.length : Int) + lf.length = p) (fun x : Value × (List (Int × Int)) × Value × (List Int) × Nat => match x with | (tv, st, lw, lf, p) => rim.size - p) ((.slice none 0 0), [], (.slice none 0 0), [], 0) ⟨rfl, rfl, trivial⟩ ⟨hS, (Nat.zero_le _), (rfl), (by simp), (rfl)⟩ ?_
  rintro ⟨tv, st, lw, lf, p⟩ u_5 w_4 ⟨hS, h1, h2, h3, h4⟩
  refine W.seq ?_
  refine W.reg ?_
  refine Wx.nextS hS 2 rfl rfl rfl (fun hn w_6 hz_7 hS => ?_) (fun hn => ?_)
  · -- a rune
    have hS : St _ _ w_6 [.row (tI .i64) 3 lw lf, .row (tP (tI .i64) (tI .i64)) 58 tv st, .raw g_1 (.stringIter rim (p + (runeW rim (p : Int)).toNat))] := hS
    have hra := (runeAt_ascii (s := rim) (p := (p : Int)) (by omega) (by have := isLet_bd (p_l p (by omega) (by omega)); omega)).2
    refine Wx.rd (v := .bool true) (rd_extract rfl rfl) rfl ?_
    refine Wx.nil ?_
    refine W.seq ?_
    refine W.condT rfl rfl ?_
    refine W.skip ?_
    refine W.block ?_
    refine W.seq ?_
    refine W.reg ?_
    refine Wx.rd (v := .int .i64 (p : Int)) (rd_extract rfl rfl) rfl ?_
    refine Wx.rd (v := .int .i64 (p : Int)) (rd_assign rfl) rfl ?_
    refine Wx.nil ?_
    refine W.seq ?_
    refine W.reg ?_
    refine Wx.rd (v := lw) (rd_move rfl) rfl ?_
    refine Wx.rd (v := .int .i64 (lf.length : Int)) (rd_lenR hS 0 rfl rfl Tryd.underlying60) rfl ?_
    refine Wx.rd (v := .int .i64 (lf.length : Int)) (rd_assign rfl) rfl ?_
    refine Wx.nil ?_
    refine W.seq ?_
    refine W.seq ?_
    refine W.reg ?_
    refine Wx.rd (v := .int .i64 (lf.length : Int)) (rd_move rfl) rfl ?_
    refine Wx.rd (v := .bool (decide (0 < (lf.length : Int)))) (rd_gtr rfl rfl) rfl ?_
    refine Wx.rd (v := .bool (decide (0 < (lf.length : Int)))) (rd_move rfl) rfl ?_
    refine Wx.cut (X := Unit) 9 [16, 17, 18, 19, 20, 21, 22, 23, 24] (fun _ => [(24, .bool (decide (0 < (lf.length : Int)) && fitR rim (ix 0 lf ((lf.length : Int) - 1)) (p : Int)))]) (fun _ w' => St w O w' [.row (tI .i64) 3 lw lf, .row (tP (tI .i64) (tI .i64)) 58 tv st, .raw g_1 (.stringIter rim (p + (runeW rim (p : Int)).toNat))]) ?_ ?_
    · rcases Bool.eq_false_or_eq_true (decide (0 < (lf.length : Int))) with g_9 | g_9
      · -- True
        have gp_10 := of_decide_eq_true g_9
        refine Wx.gyes rfl rfl (congrArg Value.bool g_9) ?_
        refine Wx.rd (v := .string rim) (rd_move rfl) rfl ?_
        refine Wx.gyes rfl rfl (congrArg Value.bool g_9) ?_
        refine Wx.rd (v := lw) (rd_move rfl) rfl ?_
        refine Wx.gyes rfl rfl (congrArg Value.bool g_9) ?_
        refine Wx.rd (v := .int .i64 (lf.length : Int)) (rd_move rfl) rfl ?_
        refine Wx.gyes rfl rfl (congrArg Value.bool g_9) ?_
        refine Wx.rd (v := .int .i64 ((lf.length : Int) - 1)) (rd_sub rfl rfl (in_i64 (by omega) (by omega))) rfl ?_
        refine Wx.gyes rfl rfl (congrArg Value.bool g_9) ?_
        refine Wx.indexR hS 0 rfl rfl rfl Tryd.underlying60 Tryd.sizeOf3 (by first | omega | (simp only [List.length_set, List.length_append, List.length_cons, List.length_nil, List.length_replicate]; omega)) (by first | omega | (simp only [List.length_set, List.length_append, List.length_cons, List.length_nil, List.length_replicate]; omega)) rfl (fun g_11 hg_12 => ?_)
        refine Wx.gyes rfl rfl (congrArg Value.bool g_9) ?_
        refine Wx.rd (v := .int .i64 (ix 0 lf ((lf.length : Int) - 1))) (rd_loadRI' hS 0 rfl hg_12 rfl (by first | omega | (simp only [List.length_set, List.length_append, List.length_cons, List.length_nil, List.length_replicate]; omega)) (by first | omega | (simp only [List.length_set, List.length_append, List.length_cons, List.length_nil, List.length_replicate]; omega)) Tryd.isAgg3 Tryd.sizeOf3) rfl ?_
        have bd_13 := bd_i64 (hS.rowInK' 0 rfl (by first | omega | (simp only [List.length_set, List.length_append, List.length_cons, List.length_nil, List.length_replicate]; omega)) (by first | omega | (simp only [List.length_set, List.length_append, List.length_cons, List.length_nil, List.length_replicate]; omega)) : InK .i64 (ix 0 lf ((lf.length : Int) - 1)))
        refine Wx.gyes rfl rfl (congrArg Value.bool g_9) ?_
        refine Wx.rd (v := .int .i64 (p : Int)) (rd_move rfl) rfl ?_
        refine Wx.gyes rfl rfl (congrArg Value.bool g_9) ?_
        have hlm := h3 (ix 0 lf ((lf.length : Int) - 1)) (ix_mem (by omega) (by omega))
        refine Wx.callF (run_callF Tryd.call61 rfl) (F61 (by first | assumption | (simp only [maxLen]; omega) | (simp only [ByteArray.size_extract, ByteArray.size_append, maxLen] at *; omega) | decide) (in_i64 (by omega) (by omega)) (in_i64 (by omega) (by omega)) (by omega) (by omega) (by omega) (by omega) (by omega) (hG.ext hS.bel)) rfl ?_
        rintro r_14 w_15 hx_16 rfl
        have hS := hS.ext hx_16
        refine Wx.rd (v := .bool (fitR rim (ix 0 lf ((lf.length : Int) - 1)) (p : Int))) (rd_pickT (congrArg Value.bool g_9) rfl) rfl ?_
        refine Wx.nil ⟨(), hS, ⟨?_, trivial⟩, Out.look rfl Out.refl⟩
        show Value.bool (fitR rim (ix 0 lf ((lf.length : Int) - 1)) (p : Int)) = Value.bool (decide (0 < (lf.length : Int)) && fitR rim (ix 0 lf ((lf.length : Int) - 1)) (p : Int))
        rw [g_9]; rfl
      · -- False
        have gp_17 := of_decide_eq_false g_9
        refine Wx.gnoB rfl rfl (congrArg Value.bool g_9) rfl rfl ?_
        refine Wx.gnoB rfl rfl (congrArg Value.bool g_9) rfl rfl ?_
        refine Wx.gnoB rfl rfl (congrArg Value.bool g_9) rfl rfl ?_
        refine Wx.gnoB rfl rfl (congrArg Value.bool g_9) rfl rfl ?_
        refine Wx.gnoB rfl rfl (congrArg Value.bool g_9) rfl rfl ?_
        refine Wx.gnoB rfl rfl (congrArg Value.bool g_9) rfl rfl ?_
        refine Wx.gnoB rfl rfl (congrArg Value.bool g_9) rfl rfl ?_
        refine Wx.gnoB rfl rfl (congrArg Value.bool g_9) rfl rfl ?_
        refine Wx.rd (v := .bool false) (rd_pickF (congrArg Value.bool g_9) rfl) rfl ?_
        refine Wx.nil ⟨(), hS, ⟨?_, trivial⟩, Out.look rfl Out.refl⟩
        show Value.bool false = Value.bool (decide (0 < (lf.length : Int)) && fitR rim (ix 0 lf ((lf.length : Int) - 1)) (p : Int))
        rw [g_9]; rfl
    rintro ⟨⟩ u_19 w_18 hS
    refine Wx.nil ?_
    refine W.cond rfl (fun c1 => ?_) (fun c1 => ?_)
    · -- yes
      try simp only [Bool.and_eq_true, Bool.or_eq_true, Bool.not_eq_true', Bool.and_eq_false_iff, Bool.or_eq_false_iff, Bool.not_eq_false', decide_eq_true_eq, decide_eq_false_iff_not, not_or, Bool.false_eq_true, Bool.true_eq_false, false_or, or_false, not_false_eq_true] at c1
      refine W.seq ?_
      refine W.reg ?_
      refine Wx.rd (v := tv) (rd_move rfl) rfl ?_
      refine Wx.rd (v := lw) (rd_move rfl) rfl ?_
      refine Wx.rd (v := .int .i64 (lf.length : Int)) (rd_move rfl) rfl ?_
      refine Wx.rd (v := .int .i64 ((lf.length : Int) - 1)) (rd_sub rfl rfl (in_i64 (by omega) (by omega))) rfl ?_
      refine Wx.indexR hS 0 rfl rfl rfl Tryd.underlying60 Tryd.sizeOf3 (by first | omega | (simp only [List.length_set, List.length_append, List.length_cons, List.length_nil, List.length_replicate]; omega)) (by first | omega | (simp only [List.length_set, List.length_append, List.length_cons, List.length_nil, List.length_replicate]; omega)) rfl (fun g_20 hg_21 => ?_)
      refine Wx.rd (v := .int .i64 (ix 0 lf ((lf.length : Int) - 1))) (rd_loadRI' hS 0 rfl hg_21 rfl (by first | omega | (simp only [List.length_set, List.length_append, List.length_cons, List.length_nil, List.length_replicate]; omega)) (by first | omega | (simp only [List.length_set, List.length_append, List.length_cons, List.length_nil, List.length_replicate]; omega)) Tryd.isAgg3 Tryd.sizeOf3) rfl ?_
      have bd_22 := bd_i64 (hS.rowInK' 0 rfl (by first | omega | (simp only [List.length_set, List.length_append, List.length_cons, List.length_nil, List.length_replicate]; omega)) (by first | omega | (simp only [List.length_set, List.length_append, List.length_cons, List.length_nil, List.length_replicate]; omega)) : InK .i64 (ix 0 lf ((lf.length : Int) - 1)))
      refine Wx.rd (v := .int .i64 (p : Int)) (rd_move rfl) rfl ?_
      refine Wx.rd (v := .agg #[.int .i64 (ix 0 lf ((lf.length : Int) - 1)), .int .i64 (p : Int)]) (rd_build (vs := [(0, .int .i64 (ix 0 lf ((lf.length : Int) - 1))), (1, .int .i64 (p : Int))]) rfl (by kernel_rfl)) rfl ?_
      refine Wx.lit (t := (tP (tI .i64) (tI .i64))) (ys := [(ix 0 lf ((lf.length : Int) - 1), (p : Int))]) (vs := [.agg #[.int .i64 (ix 0 lf ((lf.length : Int) - 1)), .int .i64 (p : Int)]]) elHf_22 hS rfl rfl ⟨(V.mk2 (in_i64 (by omega) (by omega)) (in_i64 (by omega) (by omega))), trivial⟩ (by decide) rfl (fun v_23 w_24 hx_25 hS => ?_)
      refine Wx.append elHf_22 hS 2 rfl rfl rfl (Src.ofR hS 0 rfl) (by simp only [maxLen]; simp; omega) (by simp; omega) rfl (fun v_26 w_27 hz_28 hS => ?_)
      refine Wx.rd (v := v_26) (rd_assign rfl) rfl ?_
      refine Wx.nil ?_
      refine W.seq ?_
      refine W.reg ?_
      refine Wx.rd (v := lw) (rd_move rfl) rfl ?_
      refine Wx.rd (v := .int .i64 (lf.length : Int)) (rd_move rfl) rfl ?_
      refine Wx.rd (v := .int .i64 ((lf.length : Int) - 1)) (rd_sub rfl rfl (in_i64 (by omega) (by omega))) rfl ?_
      obtain ⟨g_29, c_30, rfl, hc_31⟩ := hS.rowForm 1 rfl (by omega)
      refine Wx.rd (v := (.slice (some ⟨g_29, 0, none⟩) ((lf.length : Int) - 1).toNat c_30)) (rd_headO Tryd.underlying60 Tryd.sizeOf3 rfl rfl (by omega) (by omega)) rfl ?_
      have hS : St _ _ _ [.row (tP (tI .i64) (tI .i64)) 58 v_23 [(ix 0 lf ((lf.length : Int) - 1), (p : Int))], .row (tI .i64) 3 (.slice (some ⟨g_29, 0, none⟩) ((lf.length : Int) - 1).toNat c_30) (List.take ((lf.length : Int) - 1).toNat lf), .row (tP (tI .i64) (tI .i64)) 58 v_26 (st ++ [(ix 0 lf ((lf.length : Int) - 1), (p : Int))]), .raw g_1 (.stringIter rim (p + (runeW rim (p : Int)).toNat))] := hS.shrink (m := ((lf.length : Int) - 1).toNat) 1 rfl (by omega)
      refine Wx.rd (v := (.slice (some ⟨g_29, 0, none⟩) ((lf.length : Int) - 1).toNat c_30)) (rd_assign rfl) rfl ?_
      refine Wx.nil ?_
      refine W.exit rfl ?_
      refine ⟨(v_26, st ++ [(ix 0 lf ((lf.length : Int) - 1), (p : Int))], (.slice (some ⟨g_29, 0, none⟩) ((lf.length : Int) - 1).toNat c_30), List.take ((lf.length : Int) - 1).toNat lf, p + (runeW rim (p : Int)).toNat), (by show rim.size - (p + (runeW rim (p : Int)).toNat) < rim.size - p; omega), ?_, ?_, Out.look rfl (Out.hav rfl (Out.look rfl Out.self))⟩
      · exact ⟨hS.tl, (by omega), (by rw [← h2, rng_cons (i := (p : Int)) (by omega), runS_cons, show ((p + (runeW rim (p : Int)).toNat : Nat) : Int) = (p : Int) + 1 by omega]; first | rw [stepS_yes c1.1 c1.2] | rw [stepS_no c1]), (fun x hx => by first | (have := h3 x (List.mem_of_mem_take hx); omega) | (rcases List.mem_append.1 hx with hx | hx; (have := h3 x hx; omega); (rw [List.mem_singleton] at hx; omega))), (by simp only [List.length_append, List.length_take, List.length_cons, List.length_nil]; omega)⟩
      · exact ⟨rfl, rfl, trivial⟩
    · -- no
      try simp only [Bool.and_eq_true, Bool.or_eq_true, Bool.not_eq_true', Bool.and_eq_false_iff, Bool.or_eq_false_iff, Bool.not_eq_false', decide_eq_true_eq, decide_eq_false_iff_not, not_or, Bool.false_eq_true, Bool.true_eq_false, false_or, or_false, not_false_eq_true] at c1
      refine W.skip ?_
      refine W.reg ?_
      refine Wx.rd (v := lw) (rd_move rfl) rfl ?_
      refine Wx.rd (v := .int .i64 (p : Int)) (rd_move rfl) rfl ?_
      refine Wx.lit (t := (tI .i64)) (ys := [(p : Int)]) (vs := [.int .i64 (p : Int)]) elHf_60 hS rfl rfl ⟨(V.mkInt (in_i64 (by omega) (by omega))), trivial⟩ (by decide) rfl (fun v_32 w_33 hx_34 hS => ?_)
      refine Wx.append elHf_60 hS 1 rfl rfl rfl (Src.ofR hS 0 rfl) (by simp only [maxLen]; simp; omega) (by simp; omega) rfl (fun v_35 w_36 hz_37 hS => ?_)
      refine Wx.rd (v := v_35) (rd_assign rfl) rfl ?_
      refine Wx.nil ?_
      refine ⟨(tv, st, v_35, lf ++ [(p : Int)], p + (runeW rim (p : Int)).toNat), (by show rim.size - (p + (runeW rim (p : Int)).toNat) < rim.size - p; omega), ?_, ?_, Out.look rfl (Out.hav rfl (Out.look rfl Out.self))⟩
      · exact ⟨hS.tl, (by omega), (by rw [← h2, rng_cons (i := (p : Int)) (by omega), runS_cons, show ((p + (runeW rim (p : Int)).toNat : Nat) : Int) = (p : Int) + 1 by omega]; first | rw [stepS_yes c1.1 c1.2] | rw [stepS_no c1]), (fun x hx => by first | (have := h3 x (List.mem_of_mem_take hx); omega) | (rcases List.mem_append.1 hx with hx | hx; (have := h3 x hx; omega); (rw [List.mem_singleton] at hx; omega))), (by simp only [List.length_append, List.length_take, List.length_cons, List.length_nil]; omega)⟩
      · exact ⟨rfl, rfl, trivial⟩
  · -- the end
    refine Wx.rd (v := .bool false) (rd_extract rfl rfl) rfl ?_
    refine Wx.nil ?_
    refine W.seq ?_
    refine W.condF rfl rfl ?_
    refine W.exit rfl ?_
    refine W.seq ?_
    refine W.reg ?_
    refine Wx.rd (v := tv) (rd_move rfl) rfl ?_
    refine Wx.rd (v := lw) (rd_move rfl) rfl ?_
    refine Wx.rd (v := tv) (rd_assign rfl) rfl ?_
    refine Wx.rd (v := lw) (rd_assign rfl) rfl ?_
    refine Wx.nil ?_
    have e0_0 : (takS rim).1 = st := by rw [← h2, rng_nil (by omega)]; rfl
    have e0_1 : (takS rim).2 = lf := by rw [← h2, rng_nil (by omega)]; rfl
    exact W.ret ⟨.tuple #[tv, lw], ResIs.two, hS.bel, ⟨tv, lw, rfl, (by rw [e0_0]; exact ((hS.lend 1 rfl).mv (.less (fun _ h => List.mem_append.2 (.inr h))))), (by rw [e0_1]; exact ((hS.lend 0 rfl).mv (.less (fun _ h => List.mem_append.2 (.inr h)))))⟩⟩

set_option maxHeartbeats 4000000 in
theorem F74 {rim : ByteArray} {O : List (Option Nat)} {w : World} (s_rim : rim.size ≤ maxLen) (p_12 : (rim.size : Int) ≤ 12) (p_l : Lets rim) (hO : ∀ b, some b ∈ O → b < w.heap.size) : Calls Tryd.prog 74 #[.string rim] w (Ret w (fun r w' => ∃ sv lv, r = .tuple #[sv, lv] ∧ V (tSl (tP (tI .i64) (tI .i64))) ((takS rim).1) sv O w' ∧ V (tSl (tI .i64)) ((takS rim).2) lv O w')) := by
  have hS := St.start w O hO
  refine enterR Tryd.func74 rfl Tryd.ntmps74 Tryd.results74 rfl ?_
  refine W.seq ?_
  refine W.reg ?_
  refine Wx.rd (v := (.slice none 0 0)) (rd_assign rfl) rfl ?_
  refine Wx.rd (v := (.slice none 0 0)) (rd_assign rfl) rfl ?_
  refine Wx.nil ?_
  refine W.seq ?_
  refine W.reg ?_
  refine Wx.rd (v := (.slice none 0 0)) (rd_assign rfl) rfl ?_
  refine Wx.nil ?_
  refine W.seq ?_
  refine W.seq ?_
  refine W.reg ?_
  refine Wx.rd (v := .int .i64 0) (rd_assign rfl) rfl ?_
  refine Wx.nil ?_
  refine W.block ?_
  have hS := hS.addNil (tI .i64) 3
  refine W.loop [4, 5, 8, 9, 10, 11, 12, 13, 14, 15, 16, 17] (fun x : Int × Value × (List Int) => match x with | (i, v0, l0) => [(5, .int .i64 i), (4, v0)]) (fun (x : Int × Value × (List Int)) w' => match x with | (i, v0, l0) => St w O w' [.row (tI .i64) 3 v0 l0] ∧ 0 ≤ i ∧ i ≤ rim.size ∧ l0 = rng 0 i ∧ (l0.length : Int) = i) (fun x : Int × Value × (List Int) => match x with | (i, v0, l0) => (rim.size - i).toNat) (0, (.slice none 0 0), []) ⟨rfl, rfl, trivial⟩ ⟨hS, (by first | omega | simp), (by first | omega | simp), (rfl), (rfl)⟩ ?_
  rintro ⟨i, v0, l0⟩ u_2 w_1 ⟨hS, h0, h1, h2, h3⟩
  refine W.seq ?_
  refine W.seq ?_
  refine W.reg ?_
  refine Wx.rd (v := .int .i64 i) (rd_move rfl) rfl ?_
  refine Wx.rd (v := .string rim) (rd_move rfl) rfl ?_
  refine Wx.rd (v := .int .i64 (rim.size : Int)) (rd_lenS rfl Tryd.underlying9) rfl ?_
  refine Wx.rd (v := .bool (decide (i < (rim.size : Int)))) (rd_lss rfl rfl) rfl ?_
  refine Wx.nil ?_
  refine W.condD rfl (fun c0 => ?_) (fun c0 => ?_)
  · -- yes
    refine W.skip ?_
    refine W.seq ?_
    refine W.block ?_
    refine W.reg ?_
    refine Wx.rd (v := v0) (rd_move rfl) rfl ?_
    refine Wx.rd (v := .int .i64 i) (rd_move rfl) rfl ?_
    refine Wx.lit (t := (tI .i64)) (ys := [i]) (vs := [.int .i64 i]) elHf_60 hS rfl rfl ⟨(V.mkInt (in_i64 (by omega) (by omega))), trivial⟩ (by decide) rfl (fun v_3 w_4 hx_5 hS => ?_)
    refine Wx.append elHf_60 hS 1 rfl rfl rfl (Src.ofR hS 0 rfl) (by simp only [maxLen]; simp; omega) (by simp; omega) rfl (fun v_6 w_7 hz_8 hS => ?_)
    refine Wx.rd (v := v_6) (rd_assign rfl) rfl ?_
    refine Wx.nil ?_
    refine W.reg ?_
    refine Wx.rd (v := .int .i64 i) (rd_move rfl) rfl ?_
    refine Wx.rd (v := .int .i64 (i + 1)) (rd_add rfl rfl (in_i64 (by omega) (by omega))) rfl ?_
    refine Wx.rd (v := .int .i64 (i + 1)) (rd_assign rfl) rfl ?_
    refine Wx.nil ?_
    refine ⟨(i + 1, v_6, l0 ++ [i]), (by show (rim.size - (i + 1)).toNat < (rim.size - i).toNat; omega), ?_, ?_, Out.look rfl Out.self⟩
    · exact ⟨hS.tl, (by first | omega | assumption), (by first | omega | assumption), (by rw [h2, rng_snoc h0]), (by simp only [List.length_append, List.length_cons, List.length_nil]; omega)⟩
    · exact ⟨rfl, rfl, trivial⟩
  · -- no
    refine W.exit rfl ?_
    refine W.seq ?_
    refine W.reg ?_
    refine Wx.rd (v := (.slice none 0 0)) (rd_assign rfl) rfl ?_
    refine Wx.nil ?_
    refine W.seq ?_
    refine W.seq ?_
    refine W.reg ?_
    refine Wx.rd (v := .int .i64 0) (rd_assign rfl) rfl ?_
    refine Wx.nil ?_
    refine W.block ?_
    have hi : i = rim.size := by omega
    have hS := hS.addNil (tP (tI .i64) (tI .i64)) 58
    have hS := hS.freeze 1 rfl
    have hv_11 : V (tSl (tI .i64)) l0 v0 _ _ := (hS.v 0 rfl)
    have hS := hS.add (hv_11)
    refine W.loop [4, 6, 7, 18, 19, 20, 21, 22, 23, 24, 25, 26, 27, 28, 29, 30, 31, 32, 33, 34, 35, 36, 37, 38, 39, 40, 41, 42, 43, 44, 45, 46, 47, 48, 49, 50, 51, 52, 53, 54, 55, 56, 57, 58, 59] (fun x : Value × (List Int) × Int × Value × (List (Int × Int)) => match x with | (lw, left, k, tv, st) => [(4, lw), (7, .int .i64 k), (6, tv)]) (fun (x : Value × (List Int) × Int × Value × (List (Int × Int))) w' => match x with | (lw, left, k, tv, st) => St w O w' [Ob.v (tSl (tI .i64)) left lw, Ob.v (tSl (tI .i64)) l0 v0, .row (tP (tI .i64) (tI .i64)) 58 tv st] ∧ 0 ≤ k ∧ (k + 1 ≤ left.length ∨ (k = 0 ∧ left.length = 0)) ∧ (∀ q, 0 ≤ q → q < k → fitR rim (ix 0 left q) (ix 0 left (q + 1)) = false) ∧ runS rim (st, left.take (k + 1).toNat) (left.drop (k + 1).toNat) = takS rim ∧ (∀ x ∈ left, 0 ≤ x ∧ x < rim.size) ∧ 2 * (st.length : Int) + left.length = rim.size) (fun x : Value × (List Int) × Int × Value × (List (Int × Int)) => match x with | (lw, left, k, tv, st) => mK left.length k) (v0, l0, 0, (.slice none 0 0), []) ⟨rfl, rfl, rfl, trivial⟩ ⟨hS, (by first | omega | simp), (by omega), (fun q q0 q1 => by omega), (by rw [h2, hi]; exact runS_start), (fun x hx => by rw [h2, rng_mem] at hx; omega), (by rw [h3, hi]; show 2 * (0 : Int) + _ = _; omega)⟩ ?_
    rintro ⟨lw, left, k, tv, st⟩ u_13 w_12 ⟨hS, k0, k1, hI, hR, hB, h4⟩
    refine W.seq ?_
    refine W.seq ?_
    refine W.reg ?_
    refine Wx.rd (v := .int .i64 k) (rd_move rfl) rfl ?_
    refine Wx.rd (v := .int .i64 (k + 1)) (rd_add rfl rfl (in_i64 (by omega) (by omega))) rfl ?_
    refine Wx.rd (v := lw) (rd_move rfl) rfl ?_
    refine Wx.rd (v := .int .i64 (left.length : Int)) (rd_lenV rfl (hS.v 0 rfl) Tryd.underlying60) rfl ?_
    refine Wx.rd (v := .bool (decide ((k + 1) < (left.length : Int)))) (rd_lss rfl rfl) rfl ?_
    refine Wx.nil ?_
    refine W.condD rfl (fun c1 => ?_) (fun c1 => ?_)
    · -- yes
      have hk1 := hB (ix 0 left k) (ix_mem (d := 0) (by omega) (by omega))
      have hk2 := hB (ix 0 left (k + 1)) (ix_mem (d := 0) (by omega) (by omega))
      refine W.skip ?_
      refine W.block ?_
      refine W.seq ?_
      refine W.seq ?_
      refine W.regQ mixedHf_ (by kernel_rfl) ?_
      refine Wx.rd (v := .string rim) (rd_move rfl) rfl ?_
      refine Wx.rd (v := lw) (rd_move rfl) rfl ?_
      refine Wx.rd (v := .int .i64 k) (rd_move rfl) rfl ?_
      refine Wx.ex (rd_index 0 (hS.v 0 rfl) rfl rfl Tryd.underlying60 Tryd.sizeOf3 (by first | omega | (simp only [List.length_set, List.length_append, List.length_cons, List.length_nil, List.length_replicate]; omega)) (by first | omega | (simp only [List.length_set, List.length_append, List.length_cons, List.length_nil, List.length_replicate]; omega))) rfl (fun p_14 hp_15 => ?_)
      refine Wx.rd (v := .int .i64 (ix 0 left k)) (rd_loadI hp_15 rfl Tryd.isAgg3 Tryd.sizeOf3) rfl ?_
      have bd_16 := bd_i64 hp_15.inK
      refine Wx.rd (v := lw) (rd_move rfl) rfl ?_
      refine Wx.rd (v := .int .i64 k) (rd_move rfl) rfl ?_
      refine Wx.rd (v := .int .i64 (k + 1)) (rd_add rfl rfl (in_i64 (by omega) (by omega))) rfl ?_
      refine Wx.ex (rd_index 0 (hS.v 0 rfl) rfl rfl Tryd.underlying60 Tryd.sizeOf3 (by first | omega | (simp only [List.length_set, List.length_append, List.length_cons, List.length_nil, List.length_replicate]; omega)) (by first | omega | (simp only [List.length_set, List.length_append, List.length_cons, List.length_nil, List.length_replicate]; omega))) rfl (fun p_17 hp_18 => ?_)
      refine Wx.rd (v := .int .i64 (ix 0 left (k + 1))) (rd_loadI hp_18 rfl Tryd.isAgg3 Tryd.sizeOf3) rfl ?_
      have bd_19 := bd_i64 hp_18.inK
      refine Wx.callV (v := .bool (fitR rim (ix 0 left k) (ix 0 left (k + 1)))) (run_callF Tryd.call64 rfl) (fun w_20 hw_21 => (F64 (by first | assumption | (simp only [maxLen]; omega) | (simp only [ByteArray.size_extract, ByteArray.size_append, maxLen] at *; omega) | decide) (in_i64 (by omega) (by omega)) (in_i64 (by omega) (by omega)) (by omega) (by omega) (by omega) (by omega) (by omega))) rfl ?_
      refine Wx.rd (v := .bool (!(fitR rim (ix 0 left k) (ix 0 left (k + 1))))) (rd_not rfl) rfl ?_
      refine Wx.nilQ (fun w_22 hx_23 => ?_)
      have hS := hS.ext hx_23
      refine W.cond rfl (fun c2 => ?_) (fun c2 => ?_)
      · -- yes
        try simp only [Bool.and_eq_true, Bool.or_eq_true, Bool.not_eq_true', Bool.and_eq_false_iff, Bool.or_eq_false_iff, Bool.not_eq_false', decide_eq_true_eq, decide_eq_false_iff_not, not_or, Bool.false_eq_true, Bool.true_eq_false, false_or, or_false, not_false_eq_true] at c2
        refine W.seq ?_
        refine W.reg ?_
        refine Wx.rd (v := .int .i64 k) (rd_move rfl) rfl ?_
        refine Wx.rd (v := .int .i64 (k + 1)) (rd_add rfl rfl (in_i64 (by omega) (by omega))) rfl ?_
        refine Wx.rd (v := .int .i64 (k + 1)) (rd_assign rfl) rfl ?_
        refine Wx.nil ?_
        refine W.exit rfl ?_
        have hv_24 : V (tSl (tI .i64)) left lw _ _ := (hS.v 0 rfl)
        refine ⟨(lw, left, k + 1, tv, st), (by exact mK_one k0 (by omega)), ?_, ?_, Out.look rfl Out.self⟩
        · exact ⟨(St.add (St.tl (hS)) (V.tlF (hv_24))), (by first | omega | assumption), (by first | omega | assumption), (fun q q0 q1 => by by_cases hq : q = k; (subst hq; exact c2); exact hI q q0 (by omega)), ((runS_not k0 c1 c2).trans hR), (by first | omega | assumption), (by first | omega | assumption)⟩
        · exact ⟨rfl, rfl, rfl, trivial⟩
      · -- no
        try simp only [Bool.and_eq_true, Bool.or_eq_true, Bool.not_eq_true', Bool.and_eq_false_iff, Bool.or_eq_false_iff, Bool.not_eq_false', decide_eq_true_eq, decide_eq_false_iff_not, not_or, Bool.false_eq_true, Bool.true_eq_false, false_or, or_false, not_false_eq_true] at c2
        refine W.skip ?_
        refine W.seq ?_
        refine W.regP mixedHf_ (fun w_25 hx_26 => ?_)
        have hS := hS.ext hx_26
        refine Wp.rd (v := tv) 0 rfl (by kernel_rfl) (fun _ => (rd_move rfl)) rfl ?_
        refine Wp.rd (v := lw) 1 rfl (by kernel_rfl) (fun _ => (rd_move rfl)) rfl ?_
        refine Wp.rd (v := .int .i64 k) 2 rfl (by kernel_rfl) (fun _ => (rd_move rfl)) rfl ?_
        refine Wp.rd (v := lw) 5 rfl (by kernel_rfl) (fun _ => (rd_move rfl)) rfl ?_
        refine Wp.rd (v := .int .i64 k) 6 rfl (by kernel_rfl) (fun _ => (rd_move rfl)) rfl ?_
        refine Wp.rd (v := .int .i64 (k + 1)) 7 rfl (by kernel_rfl) (fun _ => (rd_add rfl rfl (in_i64 (by omega) (by omega)))) rfl ?_
        refine Wp.br [3, 8] (by kernel_rfl) (by decide) ⟨⟨_, rfl, ?_⟩, ⟨_, rfl, ?_⟩, trivial⟩
        · -- operation 3
          refine Wx.ex (rd_index 0 (hS.v 0 rfl) rfl rfl Tryd.underlying60 Tryd.sizeOf3 (by first | omega | (simp only [List.length_set, List.length_append, List.length_cons, List.length_nil, List.length_replicate]; omega)) (by first | omega | (simp only [List.length_set, List.length_append, List.length_cons, List.length_nil, List.length_replicate]; omega))) rfl (fun p_27 hp_28 => ?_)
          refine Wx.nil ?_
          refine Wp.br [4, 8] (by kernel_rfl) (by decide) ⟨⟨_, rfl, ?_⟩, ⟨_, rfl, ?_⟩, trivial⟩
          · -- operation 4
            refine Wx.rd (v := .int .i64 (ix 0 left k)) (rd_loadI hp_28 rfl Tryd.isAgg3 Tryd.sizeOf3) rfl ?_
            have bd_29 := bd_i64 hp_28.inK
            refine Wx.nil ?_
            refine Wp.br [8] (by kernel_rfl) (by decide) ⟨⟨_, rfl, ?_⟩, trivial⟩
            refine Wx.ex (rd_index 0 (hS.v 0 rfl) rfl rfl Tryd.underlying60 Tryd.sizeOf3 (by first | omega | (simp only [List.length_set, List.length_append, List.length_cons, List.length_nil, List.length_replicate]; omega)) (by first | omega | (simp only [List.length_set, List.length_append, List.length_cons, List.length_nil, List.length_replicate]; omega))) rfl (fun p_30 hp_31 => ?_)
            refine Wx.nil ?_
            refine Wp.br [9] (by kernel_rfl) (by decide) ⟨⟨_, rfl, ?_⟩, trivial⟩
            refine Wx.rd (v := .int .i64 (ix 0 left (k + 1))) (rd_loadI hp_31 rfl Tryd.isAgg3 Tryd.sizeOf3) rfl ?_
            have bd_32 := bd_i64 hp_31.inK
            refine Wx.nil ?_
            refine Wp.rd (v := .agg #[.int .i64 (ix 0 left k), .int .i64 (ix 0 left (k + 1))]) 10 rfl (by kernel_rfl) (fun _ => (rd_build (vs := [(0, .int .i64 (ix 0 left k)), (1, .int .i64 (ix 0 left (k + 1)))]) rfl (by kernel_rfl))) rfl ?_
            refine Wp.br [11] (by kernel_rfl) (by decide) ⟨⟨_, rfl, ?_⟩, trivial⟩
            refine Wx.lit (t := (tP (tI .i64) (tI .i64))) (ys := [(ix 0 left k, ix 0 left (k + 1))]) (vs := [.agg #[.int .i64 (ix 0 left k), .int .i64 (ix 0 left (k + 1))]]) elHf_22 hS rfl rfl ⟨(V.mk2 (in_i64 (by omega) (by omega)) (in_i64 (by omega) (by omega))), trivial⟩ (by decide) rfl (fun v_33 w_34 hx_35 hS => ?_)
            refine Wx.nil ?_
            refine Wp.br [12] (by kernel_rfl) (by decide) ⟨⟨_, rfl, ?_⟩, trivial⟩
            refine Wx.append elHf_22 hS 3 rfl rfl rfl (Src.ofR hS 0 rfl) (by simp only [maxLen]; simp; omega) (by simp; omega) rfl (fun v_36 w_37 hz_38 hS => ?_)
            refine Wx.nil ?_
            refine Wp.rd (v := v_36) 13 rfl (by kernel_rfl) (fun _ => (rd_assign rfl)) rfl ?_
            refine Wp.done (by kernel_rfl) ?_
            refine W.seq ?_
            refine W.regH mixedHf_ (fun w_39 hx_40 => ?_)
            have h0 := hS
            have hS := (St.start _ _ h0.fb_lt).ext hx_40
            refine Wh.rd (v := lw) 1 rfl (by kernel_rfl) hS.bel (rd_move rfl) rfl ?_
            refine Wh.rd (v := .int .i64 k) 2 rfl (by kernel_rfl) hS.bel (rd_move rfl) rfl ?_
            refine Wh.ex 3 rfl (by kernel_rfl) hS.bel (rd_sliceH (h0.v 1 rfl) Tryd.underlying60 Tryd.sizeOf3 rfl rfl (by omega) (by omega)) rfl (fun u_41 hu_42 => ?_)
            have ln_43 := hu_42.len63
            refine Wh.rd (v := lw) 5 rfl (by kernel_rfl) hS.bel (rd_move rfl) rfl ?_
            refine Wh.rd (v := .int .i64 k) 6 rfl (by kernel_rfl) hS.bel (rd_move rfl) rfl ?_
            refine Wh.rd (v := .int .i64 (k + 2)) 7 rfl (by kernel_rfl) hS.bel (rd_add rfl rfl (in_i64 (by omega) (by omega))) rfl ?_
            refine Wh.ex 8 rfl (by kernel_rfl) hS.bel (rd_sliceL (h0.v 1 rfl) Tryd.underlying60 Tryd.sizeOf3 rfl rfl (by omega) (by omega)) rfl (fun u_44 hu_45 => ?_)
            have ln_46 := hu_45.len63
            refine Wh.br [0] (by kernel_rfl) (by decide) ⟨⟨_, rfl, ?_⟩, trivial⟩
            refine Wx.lit (t := (tI .i64)) (ys := []) (vs := []) elHf_60 hS rfl rfl trivial (by decide) rfl (fun v_47 w_48 hx_49 hS => ?_)
            refine Wx.nil ⟨hS.bel, ?_⟩
            refine Wh.br [4] (by kernel_rfl) (by decide) ⟨⟨_, rfl, ?_⟩, trivial⟩
            refine Wx.append elHf_60 hS 0 rfl rfl rfl (Src.ofV (hS.arg hu_42)) (by simp only [maxLen]; simp; omega) (by simp; omega) rfl (fun v_50 w_51 hz_52 hS => ?_)
            refine Wx.nil ⟨hS.bel, ?_⟩
            refine Wh.br [9] (by kernel_rfl) (by decide) ⟨⟨_, rfl, ?_⟩, trivial⟩
            refine Wx.append elHf_60 hS 0 rfl rfl rfl (Src.ofV (hS.arg hu_45)) (by simp only [maxLen]; simp; omega) (by simp; omega) rfl (fun v_53 w_54 hz_55 hS => ?_)
            refine Wx.nil ⟨hS.bel, ?_⟩
            refine Wh.rd (v := v_53) 10 rfl (by kernel_rfl) hS.bel (rd_assign rfl) rfl ?_
            refine Wh.done (by kernel_rfl) ?_
            have hS := h0.merge hS
            refine W.reg ?_
            refine Wx.rd (v := .int .i64 0) (rd_assign rfl) rfl ?_
            refine Wx.nil ?_
            have hS := hS.freeze 0 rfl
            have hll : (([] ++ List.take k.toNat left ++ List.drop (k + 2).toNat left).length : Int) = left.length - 2 := by simp only [List.length_append, List.length_take, List.length_drop, List.length_nil]; omega
            have hv_57 : V (tSl (tI .i64)) ([] ++ (left.take k.toNat) ++ (left.drop (k + 2).toNat)) v_53 _ _ := (hS.v 0 rfl)
            refine ⟨(v_53, [] ++ (left.take k.toNat) ++ (left.drop (k + 2).toNat), 0, v_36, st ++ [(ix 0 left k, ix 0 left (k + 1))]), (by exact mK_two (by omega) k0 (by omega)), ?_, ?_, Out.look rfl Out.self⟩
            · exact ⟨(St.add (St.tl (St.tl (St.tl (hS)))) (V.tlF (V.tlF (V.tlF (hv_57))))), (by first | omega | assumption), (by omega), (fun q q0 q1 => by omega), (by rw [List.nil_append]; exact (runS_fit k0 c1 hI c2).trans hR), (fun x hx => by rw [List.nil_append] at hx; rcases List.mem_append.1 hx with hx | hx; exact hB x (List.mem_of_mem_take hx); exact hB x (List.mem_of_mem_drop hx)), (by simp only [List.length_append, List.length_cons, List.length_nil] at hll ⊢; omega)⟩
            · exact ⟨rfl, rfl, rfl, trivial⟩
          · -- operation 8
            refine Wx.ex (rd_index 0 (hS.v 0 rfl) rfl rfl Tryd.underlying60 Tryd.sizeOf3 (by first | omega | (simp only [List.length_set, List.length_append, List.length_cons, List.length_nil, List.length_replicate]; omega)) (by first | omega | (simp only [List.length_set, List.length_append, List.length_cons, List.length_nil, List.length_replicate]; omega))) rfl (fun p_58 hp_59 => ?_)
            refine Wx.nil ?_
            refine Wp.br [4, 9] (by kernel_rfl) (by decide) ⟨⟨_, rfl, ?_⟩, ⟨_, rfl, ?_⟩, trivial⟩
            · -- operation 4
              refine Wx.rd (v := .int .i64 (ix 0 left k)) (rd_loadI hp_28 rfl Tryd.isAgg3 Tryd.sizeOf3) rfl ?_
              have bd_60 := bd_i64 hp_28.inK
              refine Wx.nil ?_
              refine Wp.br [9] (by kernel_rfl) (by decide) ⟨⟨_, rfl, ?_⟩, trivial⟩
              refine Wx.rd (v := .int .i64 (ix 0 left (k + 1))) (rd_loadI hp_59 rfl Tryd.isAgg3 Tryd.sizeOf3) rfl ?_
              have bd_61 := bd_i64 hp_59.inK
              refine Wx.nil ?_
              refine Wp.rd (v := .agg #[.int .i64 (ix 0 left k), .int .i64 (ix 0 left (k + 1))]) 10 rfl (by kernel_rfl) (fun _ => (rd_build (vs := [(0, .int .i64 (ix 0 left k)), (1, .int .i64 (ix 0 left (k + 1)))]) rfl (by kernel_rfl))) rfl ?_
              refine Wp.br [11] (by kernel_rfl) (by decide) ⟨⟨_, rfl, ?_⟩, trivial⟩
              refine Wx.lit (t := (tP (tI .i64) (tI .i64))) (ys := [(ix 0 left k, ix 0 left (k + 1))]) (vs := [.agg #[.int .i64 (ix 0 left k), .int .i64 (ix 0 left (k + 1))]]) elHf_22 hS rfl rfl ⟨(V.mk2 (in_i64 (by omega) (by omega)) (in_i64 (by omega) (by omega))), trivial⟩ (by decide) rfl (fun v_62 w_63 hx_64 hS => ?_)
              refine Wx.nil ?_
              refine Wp.br [12] (by kernel_rfl) (by decide) ⟨⟨_, rfl, ?_⟩, trivial⟩
              refine Wx.append elHf_22 hS 3 rfl rfl rfl (Src.ofR hS 0 rfl) (by simp only [maxLen]; simp; omega) (by simp; omega) rfl (fun v_65 w_66 hz_67 hS => ?_)
              refine Wx.nil ?_
              refine Wp.rd (v := v_65) 13 rfl (by kernel_rfl) (fun _ => (rd_assign rfl)) rfl ?_
              refine Wp.done (by kernel_rfl) ?_
              refine W.seq ?_
              refine W.regH mixedHf_ (fun w_68 hx_69 => ?_)
              have h0 := hS
              have hS := (St.start _ _ h0.fb_lt).ext hx_69
              refine Wh.rd (v := lw) 1 rfl (by kernel_rfl) hS.bel (rd_move rfl) rfl ?_
              refine Wh.rd (v := .int .i64 k) 2 rfl (by kernel_rfl) hS.bel (rd_move rfl) rfl ?_
              refine Wh.ex 3 rfl (by kernel_rfl) hS.bel (rd_sliceH (h0.v 1 rfl) Tryd.underlying60 Tryd.sizeOf3 rfl rfl (by omega) (by omega)) rfl (fun u_70 hu_71 => ?_)
              have ln_72 := hu_71.len63
              refine Wh.rd (v := lw) 5 rfl (by kernel_rfl) hS.bel (rd_move rfl) rfl ?_
              refine Wh.rd (v := .int .i64 k) 6 rfl (by kernel_rfl) hS.bel (rd_move rfl) rfl ?_
              refine Wh.rd (v := .int .i64 (k + 2)) 7 rfl (by kernel_rfl) hS.bel (rd_add rfl rfl (in_i64 (by omega) (by omega))) rfl ?_
              refine Wh.ex 8 rfl (by kernel_rfl) hS.bel (rd_sliceL (h0.v 1 rfl) Tryd.underlying60 Tryd.sizeOf3 rfl rfl (by omega) (by omega)) rfl (fun u_73 hu_74 => ?_)
              have ln_75 := hu_74.len63
              refine Wh.br [0] (by kernel_rfl) (by decide) ⟨⟨_, rfl, ?_⟩, trivial⟩
              refine Wx.lit (t := (tI .i64)) (ys := []) (vs := []) elHf_60 hS rfl rfl trivial (by decide) rfl (fun v_76 w_77 hx_78 hS => ?_)
              refine Wx.nil ⟨hS.bel, ?_⟩
              refine Wh.br [4] (by kernel_rfl) (by decide) ⟨⟨_, rfl, ?_⟩, trivial⟩
              refine Wx.append elHf_60 hS 0 rfl rfl rfl (Src.ofV (hS.arg hu_71)) (by simp only [maxLen]; simp; omega) (by simp; omega) rfl (fun v_79 w_80 hz_81 hS => ?_)
              refine Wx.nil ⟨hS.bel, ?_⟩
              refine Wh.br [9] (by kernel_rfl) (by decide) ⟨⟨_, rfl, ?_⟩, trivial⟩
              refine Wx.append elHf_60 hS 0 rfl rfl rfl (Src.ofV (hS.arg hu_74)) (by simp only [maxLen]; simp; omega) (by simp; omega) rfl (fun v_82 w_83 hz_84 hS => ?_)
              refine Wx.nil ⟨hS.bel, ?_⟩
              refine Wh.rd (v := v_82) 10 rfl (by kernel_rfl) hS.bel (rd_assign rfl) rfl ?_
              refine Wh.done (by kernel_rfl) ?_
              have hS := h0.merge hS
              refine W.reg ?_
              refine Wx.rd (v := .int .i64 0) (rd_assign rfl) rfl ?_
              refine Wx.nil ?_
              have hS := hS.freeze 0 rfl
              have hll : (([] ++ List.take k.toNat left ++ List.drop (k + 2).toNat left).length : Int) = left.length - 2 := by simp only [List.length_append, List.length_take, List.length_drop, List.length_nil]; omega
              have hv_86 : V (tSl (tI .i64)) ([] ++ (left.take k.toNat) ++ (left.drop (k + 2).toNat)) v_82 _ _ := (hS.v 0 rfl)
              refine ⟨(v_82, [] ++ (left.take k.toNat) ++ (left.drop (k + 2).toNat), 0, v_65, st ++ [(ix 0 left k, ix 0 left (k + 1))]), (by exact mK_two (by omega) k0 (by omega)), ?_, ?_, Out.look rfl Out.self⟩
              · exact ⟨(St.add (St.tl (St.tl (St.tl (hS)))) (V.tlF (V.tlF (V.tlF (hv_86))))), (by first | omega | assumption), (by omega), (fun q q0 q1 => by omega), (by rw [List.nil_append]; exact (runS_fit k0 c1 hI c2).trans hR), (fun x hx => by rw [List.nil_append] at hx; rcases List.mem_append.1 hx with hx | hx; exact hB x (List.mem_of_mem_take hx); exact hB x (List.mem_of_mem_drop hx)), (by simp only [List.length_append, List.length_cons, List.length_nil] at hll ⊢; omega)⟩
              · exact ⟨rfl, rfl, rfl, trivial⟩
            · -- operation 9
              refine Wx.rd (v := .int .i64 (ix 0 left (k + 1))) (rd_loadI hp_59 rfl Tryd.isAgg3 Tryd.sizeOf3) rfl ?_
              have bd_87 := bd_i64 hp_59.inK
              refine Wx.nil ?_
              refine Wp.br [4] (by kernel_rfl) (by decide) ⟨⟨_, rfl, ?_⟩, trivial⟩
              refine Wx.rd (v := .int .i64 (ix 0 left k)) (rd_loadI hp_28 rfl Tryd.isAgg3 Tryd.sizeOf3) rfl ?_
              have bd_88 := bd_i64 hp_28.inK
              refine Wx.nil ?_
              refine Wp.rd (v := .agg #[.int .i64 (ix 0 left k), .int .i64 (ix 0 left (k + 1))]) 10 rfl (by kernel_rfl) (fun _ => (rd_build (vs := [(0, .int .i64 (ix 0 left k)), (1, .int .i64 (ix 0 left (k + 1)))]) rfl (by kernel_rfl))) rfl ?_
              refine Wp.br [11] (by kernel_rfl) (by decide) ⟨⟨_, rfl, ?_⟩, trivial⟩
              refine Wx.lit (t := (tP (tI .i64) (tI .i64))) (ys := [(ix 0 left k, ix 0 left (k + 1))]) (vs := [.agg #[.int .i64 (ix 0 left k), .int .i64 (ix 0 left (k + 1))]]) elHf_22 hS rfl rfl ⟨(V.mk2 (in_i64 (by omega) (by omega)) (in_i64 (by omega) (by omega))), trivial⟩ (by decide) rfl (fun v_89 w_90 hx_91 hS => ?_)
              refine Wx.nil ?_
              refine Wp.br [12] (by kernel_rfl) (by decide) ⟨⟨_, rfl, ?_⟩, trivial⟩
              refine Wx.append elHf_22 hS 3 rfl rfl rfl (Src.ofR hS 0 rfl) (by simp only [maxLen]; simp; omega) (by simp; omega) rfl (fun v_92 w_93 hz_94 hS => ?_)
              refine Wx.nil ?_
              refine Wp.rd (v := v_92) 13 rfl (by kernel_rfl) (fun _ => (rd_assign rfl)) rfl ?_
              refine Wp.done (by kernel_rfl) ?_
              refine W.seq ?_
              refine W.regH mixedHf_ (fun w_95 hx_96 => ?_)
              have h0 := hS
              have hS := (St.start _ _ h0.fb_lt).ext hx_96
              refine Wh.rd (v := lw) 1 rfl (by kernel_rfl) hS.bel (rd_move rfl) rfl ?_
              refine Wh.rd (v := .int .i64 k) 2 rfl (by kernel_rfl) hS.bel (rd_move rfl) rfl ?_
              refine Wh.ex 3 rfl (by kernel_rfl) hS.bel (rd_sliceH (h0.v 1 rfl) Tryd.underlying60 Tryd.sizeOf3 rfl rfl (by omega) (by omega)) rfl (fun u_97 hu_98 => ?_)
              have ln_99 := hu_98.len63
              refine Wh.rd (v := lw) 5 rfl (by kernel_rfl) hS.bel (rd_move rfl) rfl ?_
              refine Wh.rd (v := .int .i64 k) 6 rfl (by kernel_rfl) hS.bel (rd_move rfl) rfl ?_
              refine Wh.rd (v := .int .i64 (k + 2)) 7 rfl (by kernel_rfl) hS.bel (rd_add rfl rfl (in_i64 (by omega) (by omega))) rfl ?_
              refine Wh.ex 8 rfl (by kernel_rfl) hS.bel (rd_sliceL (h0.v 1 rfl) Tryd.underlying60 Tryd.sizeOf3 rfl rfl (by omega) (by omega)) rfl (fun u_100 hu_101 => ?_)
              have ln_102 := hu_101.len63
              refine Wh.br [0] (by kernel_rfl) (by decide) ⟨⟨_, rfl, ?_⟩, trivial⟩
              refine Wx.lit (t := (tI .i64)) (ys := []) (vs := []) elHf_60 hS rfl rfl trivial (by decide) rfl (fun v_103 w_104 hx_105 hS => ?_)
              refine Wx.nil ⟨hS.bel, ?_⟩
              refine Wh.br [4] (by kernel_rfl) (by decide) ⟨⟨_, rfl, ?_⟩, trivial⟩
              refine Wx.append elHf_60 hS 0 rfl rfl rfl (Src.ofV (hS.arg hu_98)) (by simp only [maxLen]; simp; omega) (by simp; omega) rfl (fun v_106 w_107 hz_108 hS => ?_)
              refine Wx.nil ⟨hS.bel, ?_⟩
              refine Wh.br [9] (by kernel_rfl) (by decide) ⟨⟨_, rfl, ?_⟩, trivial⟩
              refine Wx.append elHf_60 hS 0 rfl rfl rfl (Src.ofV (hS.arg hu_101)) (by simp only [maxLen]; simp; omega) (by simp; omega) rfl (fun v_109 w_110 hz_111 hS => ?_)
              refine Wx.nil ⟨hS.bel, ?_⟩
              refine Wh.rd (v := v_109) 10 rfl (by kernel_rfl) hS.bel (rd_assign rfl) rfl ?_
              refine Wh.done (by kernel_rfl) ?_
              have hS := h0.merge hS
              refine W.reg ?_
              refine Wx.rd (v := .int .i64 0) (rd_assign rfl) rfl ?_
              refine Wx.nil ?_
              have hS := hS.freeze 0 rfl
              have hll : (([] ++ List.take k.toNat left ++ List.drop (k + 2).toNat left).length : Int) = left.length - 2 := by simp only [List.length_append, List.length_take, List.length_drop, List.length_nil]; omega
              have hv_113 : V (tSl (tI .i64)) ([] ++ (left.take k.toNat) ++ (left.drop (k + 2).toNat)) v_109 _ _ := (hS.v 0 rfl)
              refine ⟨(v_109, [] ++ (left.take k.toNat) ++ (left.drop (k + 2).toNat), 0, v_92, st ++ [(ix 0 left k, ix 0 left (k + 1))]), (by exact mK_two (by omega) k0 (by omega)), ?_, ?_, Out.look rfl Out.self⟩
              · exact ⟨(St.add (St.tl (St.tl (St.tl (hS)))) (V.tlF (V.tlF (V.tlF (hv_113))))), (by first | omega | assumption), (by omega), (fun q q0 q1 => by omega), (by rw [List.nil_append]; exact (runS_fit k0 c1 hI c2).trans hR), (fun x hx => by rw [List.nil_append] at hx; rcases List.mem_append.1 hx with hx | hx; exact hB x (List.mem_of_mem_take hx); exact hB x (List.mem_of_mem_drop hx)), (by simp only [List.length_append, List.length_cons, List.length_nil] at hll ⊢; omega)⟩
              · exact ⟨rfl, rfl, rfl, trivial⟩
        · -- operation 8
          refine Wx.ex (rd_index 0 (hS.v 0 rfl) rfl rfl Tryd.underlying60 Tryd.sizeOf3 (by first | omega | (simp only [List.length_set, List.length_append, List.length_cons, List.length_nil, List.length_replicate]; omega)) (by first | omega | (simp only [List.length_set, List.length_append, List.length_cons, List.length_nil, List.length_replicate]; omega))) rfl (fun p_114 hp_115 => ?_)
          refine Wx.nil ?_
          refine Wp.br [3, 9] (by kernel_rfl) (by decide) ⟨⟨_, rfl, ?_⟩, ⟨_, rfl, ?_⟩, trivial⟩
          · -- operation 3
            refine Wx.ex (rd_index 0 (hS.v 0 rfl) rfl rfl Tryd.underlying60 Tryd.sizeOf3 (by first | omega | (simp only [List.length_set, List.length_append, List.length_cons, List.length_nil, List.length_replicate]; omega)) (by first | omega | (simp only [List.length_set, List.length_append, List.length_cons, List.length_nil, List.length_replicate]; omega))) rfl (fun p_116 hp_117 => ?_)
            refine Wx.nil ?_
            refine Wp.br [4, 9] (by kernel_rfl) (by decide) ⟨⟨_, rfl, ?_⟩, ⟨_, rfl, ?_⟩, trivial⟩
            · -- operation 4
              refine Wx.rd (v := .int .i64 (ix 0 left k)) (rd_loadI hp_117 rfl Tryd.isAgg3 Tryd.sizeOf3) rfl ?_
              have bd_118 := bd_i64 hp_117.inK
              refine Wx.nil ?_
              refine Wp.br [9] (by kernel_rfl) (by decide) ⟨⟨_, rfl, ?_⟩, trivial⟩
              refine Wx.rd (v := .int .i64 (ix 0 left (k + 1))) (rd_loadI hp_115 rfl Tryd.isAgg3 Tryd.sizeOf3) rfl ?_
              have bd_119 := bd_i64 hp_115.inK
              refine Wx.nil ?_
              refine Wp.rd (v := .agg #[.int .i64 (ix 0 left k), .int .i64 (ix 0 left (k + 1))]) 10 rfl (by kernel_rfl) (fun _ => (rd_build (vs := [(0, .int .i64 (ix 0 left k)), (1, .int .i64 (ix 0 left (k + 1)))]) rfl (by kernel_rfl))) rfl ?_
              refine Wp.br [11] (by kernel_rfl) (by decide) ⟨⟨_, rfl, ?_⟩, trivial⟩
              refine Wx.lit (t := (tP (tI .i64) (tI .i64))) (ys := [(ix 0 left k, ix 0 left (k + 1))]) (vs := [.agg #[.int .i64 (ix 0 left k), .int .i64 (ix 0 left (k + 1))]]) elHf_22 hS rfl rfl ⟨(V.mk2 (in_i64 (by omega) (by omega)) (in_i64 (by omega) (by omega))), trivial⟩ (by decide) rfl (fun v_120 w_121 hx_122 hS => ?_)
              refine Wx.nil ?_
              refine Wp.br [12] (by kernel_rfl) (by decide) ⟨⟨_, rfl, ?_⟩, trivial⟩
              refine Wx.append elHf_22 hS 3 rfl rfl rfl (Src.ofR hS 0 rfl) (by simp only [maxLen]; simp; omega) (by simp; omega) rfl (fun v_123 w_124 hz_125 hS => ?_)
              refine Wx.nil ?_
              refine Wp.rd (v := v_123) 13 rfl (by kernel_rfl) (fun _ => (rd_assign rfl)) rfl ?_
              refine Wp.done (by kernel_rfl) ?_
              refine W.seq ?_
              refine W.regH mixedHf_ (fun w_126 hx_127 => ?_)
              have h0 := hS
              have hS := (St.start _ _ h0.fb_lt).ext hx_127
              refine Wh.rd (v := lw) 1 rfl (by kernel_rfl) hS.bel (rd_move rfl) rfl ?_
              refine Wh.rd (v := .int .i64 k) 2 rfl (by kernel_rfl) hS.bel (rd_move rfl) rfl ?_
              refine Wh.ex 3 rfl (by kernel_rfl) hS.bel (rd_sliceH (h0.v 1 rfl) Tryd.underlying60 Tryd.sizeOf3 rfl rfl (by omega) (by omega)) rfl (fun u_128 hu_129 => ?_)
              have ln_130 := hu_129.len63
              refine Wh.rd (v := lw) 5 rfl (by kernel_rfl) hS.bel (rd_move rfl) rfl ?_
              refine Wh.rd (v := .int .i64 k) 6 rfl (by kernel_rfl) hS.bel (rd_move rfl) rfl ?_
              refine Wh.rd (v := .int .i64 (k + 2)) 7 rfl (by kernel_rfl) hS.bel (rd_add rfl rfl (in_i64 (by omega) (by omega))) rfl ?_
              refine Wh.ex 8 rfl (by kernel_rfl) hS.bel (rd_sliceL (h0.v 1 rfl) Tryd.underlying60 Tryd.sizeOf3 rfl rfl (by omega) (by omega)) rfl (fun u_131 hu_132 => ?_)
              have ln_133 := hu_132.len63
              refine Wh.br [0] (by kernel_rfl) (by decide) ⟨⟨_, rfl, ?_⟩, trivial⟩
              refine Wx.lit (t := (tI .i64)) (ys := []) (vs := []) elHf_60 hS rfl rfl trivial (by decide) rfl (fun v_134 w_135 hx_136 hS => ?_)
              refine Wx.nil ⟨hS.bel, ?_⟩
              refine Wh.br [4] (by kernel_rfl) (by decide) ⟨⟨_, rfl, ?_⟩, trivial⟩
              refine Wx.append elHf_60 hS 0 rfl rfl rfl (Src.ofV (hS.arg hu_129)) (by simp only [maxLen]; simp; omega) (by simp; omega) rfl (fun v_137 w_138 hz_139 hS => ?_)
              refine Wx.nil ⟨hS.bel, ?_⟩
              refine Wh.br [9] (by kernel_rfl) (by decide) ⟨⟨_, rfl, ?_⟩, trivial⟩
              refine Wx.append elHf_60 hS 0 rfl rfl rfl (Src.ofV (hS.arg hu_132)) (by simp only [maxLen]; simp; omega) (by simp; omega) rfl (fun v_140 w_141 hz_142 hS => ?_)
              refine Wx.nil ⟨hS.bel, ?_⟩
              refine Wh.rd (v := v_140) 10 rfl (by kernel_rfl) hS.bel (rd_assign rfl) rfl ?_
              refine Wh.done (by kernel_rfl) ?_
              have hS := h0.merge hS
              refine W.reg ?_
              refine Wx.rd (v := .int .i64 0) (rd_assign rfl) rfl ?_
              refine Wx.nil ?_
              have hS := hS.freeze 0 rfl
              have hll : (([] ++ List.take k.toNat left ++ List.drop (k + 2).toNat left).length : Int) = left.length - 2 := by simp only [List.length_append, List.length_take, List.length_drop, List.length_nil]; omega
              have hv_144 : V (tSl (tI .i64)) ([] ++ (left.take k.toNat) ++ (left.drop (k + 2).toNat)) v_140 _ _ := (hS.v 0 rfl)
              refine ⟨(v_140, [] ++ (left.take k.toNat) ++ (left.drop (k + 2).toNat), 0, v_123, st ++ [(ix 0 left k, ix 0 left (k + 1))]), (by exact mK_two (by omega) k0 (by omega)), ?_, ?_, Out.look rfl Out.self⟩
              · exact ⟨(St.add (St.tl (St.tl (St.tl (hS)))) (V.tlF (V.tlF (V.tlF (hv_144))))), (by first | omega | assumption), (by omega), (fun q q0 q1 => by omega), (by rw [List.nil_append]; exact (runS_fit k0 c1 hI c2).trans hR), (fun x hx => by rw [List.nil_append] at hx; rcases List.mem_append.1 hx with hx | hx; exact hB x (List.mem_of_mem_take hx); exact hB x (List.mem_of_mem_drop hx)), (by simp only [List.length_append, List.length_cons, List.length_nil] at hll ⊢; omega)⟩
              · exact ⟨rfl, rfl, rfl, trivial⟩
            · -- operation 9
              refine Wx.rd (v := .int .i64 (ix 0 left (k + 1))) (rd_loadI hp_115 rfl Tryd.isAgg3 Tryd.sizeOf3) rfl ?_
              have bd_145 := bd_i64 hp_115.inK
              refine Wx.nil ?_
              refine Wp.br [4] (by kernel_rfl) (by decide) ⟨⟨_, rfl, ?_⟩, trivial⟩
              refine Wx.rd (v := .int .i64 (ix 0 left k)) (rd_loadI hp_117 rfl Tryd.isAgg3 Tryd.sizeOf3) rfl ?_
              have bd_146 := bd_i64 hp_117.inK
              refine Wx.nil ?_
              refine Wp.rd (v := .agg #[.int .i64 (ix 0 left k), .int .i64 (ix 0 left (k + 1))]) 10 rfl (by kernel_rfl) (fun _ => (rd_build (vs := [(0, .int .i64 (ix 0 left k)), (1, .int .i64 (ix 0 left (k + 1)))]) rfl (by kernel_rfl))) rfl ?_
              refine Wp.br [11] (by kernel_rfl) (by decide) ⟨⟨_, rfl, ?_⟩, trivial⟩
              refine Wx.lit (t := (tP (tI .i64) (tI .i64))) (ys := [(ix 0 left k, ix 0 left (k + 1))]) (vs := [.agg #[.int .i64 (ix 0 left k), .int .i64 (ix 0 left (k + 1))]]) elHf_22 hS rfl rfl ⟨(V.mk2 (in_i64 (by omega) (by omega)) (in_i64 (by omega) (by omega))), trivial⟩ (by decide) rfl (fun v_147 w_148 hx_149 hS => ?_)
              refine Wx.nil ?_
              refine Wp.br [12] (by kernel_rfl) (by decide) ⟨⟨_, rfl, ?_⟩, trivial⟩
              refine Wx.append elHf_22 hS 3 rfl rfl rfl (Src.ofR hS 0 rfl) (by simp only [maxLen]; simp; omega) (by simp; omega) rfl (fun v_150 w_151 hz_152 hS => ?_)
              refine Wx.nil ?_
              refine Wp.rd (v := v_150) 13 rfl (by kernel_rfl) (fun _ => (rd_assign rfl)) rfl ?_
              refine Wp.done (by kernel_rfl) ?_
              refine W.seq ?_
              refine W.regH mixedHf_ (fun w_153 hx_154 => ?_)
              have h0 := hS
              have hS := (St.start _ _ h0.fb_lt).ext hx_154
              refine Wh.rd (v := lw) 1 rfl (by kernel_rfl) hS.bel (rd_move rfl) rfl ?_
              refine Wh.rd (v := .int .i64 k) 2 rfl (by kernel_rfl) hS.bel (rd_move rfl) rfl ?_
              refine Wh.ex 3 rfl (by kernel_rfl) hS.bel (rd_sliceH (h0.v 1 rfl) Tryd.underlying60 Tryd.sizeOf3 rfl rfl (by omega) (by omega)) rfl (fun u_155 hu_156 => ?_)
              have ln_157 := hu_156.len63
              refine Wh.rd (v := lw) 5 rfl (by kernel_rfl) hS.bel (rd_move rfl) rfl ?_
              refine Wh.rd (v := .int .i64 k) 6 rfl (by kernel_rfl) hS.bel (rd_move rfl) rfl ?_
              refine Wh.rd (v := .int .i64 (k + 2)) 7 rfl (by kernel_rfl) hS.bel (rd_add rfl rfl (in_i64 (by omega) (by omega))) rfl ?_
              refine Wh.ex 8 rfl (by kernel_rfl) hS.bel (rd_sliceL (h0.v 1 rfl) Tryd.underlying60 Tryd.sizeOf3 rfl rfl (by omega) (by omega)) rfl (fun u_158 hu_159 => ?_)
              have ln_160 := hu_159.len63
              refine Wh.br [0] (by kernel_rfl) (by decide) ⟨⟨_, rfl, ?_⟩, trivial⟩
              refine Wx.lit (t := (tI .i64)) (ys := []) (vs := []) elHf_60 hS rfl rfl trivial (by decide) rfl (fun v_161 w_162 hx_163 hS => ?_)
              refine Wx.nil ⟨hS.bel, ?_⟩
              refine Wh.br [4] (by kernel_rfl) (by decide) ⟨⟨_, rfl, ?_⟩, trivial⟩
              refine Wx.append elHf_60 hS 0 rfl rfl rfl (Src.ofV (hS.arg hu_156)) (by simp only [maxLen]; simp; omega) (by simp; omega) rfl (fun v_164 w_165 hz_166 hS => ?_)
              refine Wx.nil ⟨hS.bel, ?_⟩
              refine Wh.br [9] (by kernel_rfl) (by decide) ⟨⟨_, rfl, ?_⟩, trivial⟩
              refine Wx.append elHf_60 hS 0 rfl rfl rfl (Src.ofV (hS.arg hu_159)) (by simp only [maxLen]; simp; omega) (by simp; omega) rfl (fun v_167 w_168 hz_169 hS => ?_)
              refine Wx.nil ⟨hS.bel, ?_⟩
              refine Wh.rd (v := v_167) 10 rfl (by kernel_rfl) hS.bel (rd_assign rfl) rfl ?_
              refine Wh.done (by kernel_rfl) ?_
              have hS := h0.merge hS
              refine W.reg ?_
              refine Wx.rd (v := .int .i64 0) (rd_assign rfl) rfl ?_
              refine Wx.nil ?_
              have hS := hS.freeze 0 rfl
              have hll : (([] ++ List.take k.toNat left ++ List.drop (k + 2).toNat left).length : Int) = left.length - 2 := by simp only [List.length_append, List.length_take, List.length_drop, List.length_nil]; omega
              have hv_171 : V (tSl (tI .i64)) ([] ++ (left.take k.toNat) ++ (left.drop (k + 2).toNat)) v_167 _ _ := (hS.v 0 rfl)
              refine ⟨(v_167, [] ++ (left.take k.toNat) ++ (left.drop (k + 2).toNat), 0, v_150, st ++ [(ix 0 left k, ix 0 left (k + 1))]), (by exact mK_two (by omega) k0 (by omega)), ?_, ?_, Out.look rfl Out.self⟩
              · exact ⟨(St.add (St.tl (St.tl (St.tl (hS)))) (V.tlF (V.tlF (V.tlF (hv_171))))), (by first | omega | assumption), (by omega), (fun q q0 q1 => by omega), (by rw [List.nil_append]; exact (runS_fit k0 c1 hI c2).trans hR), (fun x hx => by rw [List.nil_append] at hx; rcases List.mem_append.1 hx with hx | hx; exact hB x (List.mem_of_mem_take hx); exact hB x (List.mem_of_mem_drop hx)), (by simp only [List.length_append, List.length_cons, List.length_nil] at hll ⊢; omega)⟩
              · exact ⟨rfl, rfl, rfl, trivial⟩
          · -- operation 9
            refine Wx.rd (v := .int .i64 (ix 0 left (k + 1))) (rd_loadI hp_115 rfl Tryd.isAgg3 Tryd.sizeOf3) rfl ?_
            have bd_172 := bd_i64 hp_115.inK
            refine Wx.nil ?_
            refine Wp.br [3] (by kernel_rfl) (by decide) ⟨⟨_, rfl, ?_⟩, trivial⟩
            refine Wx.ex (rd_index 0 (hS.v 0 rfl) rfl rfl Tryd.underlying60 Tryd.sizeOf3 (by first | omega | (simp only [List.length_set, List.length_append, List.length_cons, List.length_nil, List.length_replicate]; omega)) (by first | omega | (simp only [List.length_set, List.length_append, List.length_cons, List.length_nil, List.length_replicate]; omega))) rfl (fun p_173 hp_174 => ?_)
            refine Wx.nil ?_
            refine Wp.br [4] (by kernel_rfl) (by decide) ⟨⟨_, rfl, ?_⟩, trivial⟩
            refine Wx.rd (v := .int .i64 (ix 0 left k)) (rd_loadI hp_174 rfl Tryd.isAgg3 Tryd.sizeOf3) rfl ?_
            have bd_175 := bd_i64 hp_174.inK
            refine Wx.nil ?_
            refine Wp.rd (v := .agg #[.int .i64 (ix 0 left k), .int .i64 (ix 0 left (k + 1))]) 10 rfl (by kernel_rfl) (fun _ => (rd_build (vs := [(0, .int .i64 (ix 0 left k)), (1, .int .i64 (ix 0 left (k + 1)))]) rfl (by kernel_rfl))) rfl ?_
            refine Wp.br [11] (by kernel_rfl) (by decide) ⟨⟨_, rfl, ?_⟩, trivial⟩
            refine Wx.lit (t := (tP (tI .i64) (tI .i64))) (ys := [(ix 0 left k, ix 0 left (k + 1))]) (vs := [.agg #[.int .i64 (ix 0 left k), .int .i64 (ix 0 left (k + 1))]]) elHf_22 hS rfl rfl ⟨(V.mk2 (in_i64 (by omega) (by omega)) (in_i64 (by omega) (by omega))), trivial⟩ (by decide) rfl (fun v_176 w_177 hx_178 hS => ?_)
            refine Wx.nil ?_
            refine Wp.br [12] (by kernel_rfl) (by decide) ⟨⟨_, rfl, ?_⟩, trivial⟩
            refine Wx.append elHf_22 hS 3 rfl rfl rfl (Src.ofR hS 0 rfl) (by simp only [maxLen]; simp; omega) (by simp; omega) rfl (fun v_179 w_180 hz_181 hS => ?_)
            refine Wx.nil ?_
            refine Wp.rd (v := v_179) 13 rfl (by kernel_rfl) (fun _ => (rd_assign rfl)) rfl ?_
            refine Wp.done (by kernel_rfl) ?_
            refine W.seq ?_
            refine W.regH mixedHf_ (fun w_182 hx_183 => ?_)
            have h0 := hS
            have hS := (St.start _ _ h0.fb_lt).ext hx_183
            refine Wh.rd (v := lw) 1 rfl (by kernel_rfl) hS.bel (rd_move rfl) rfl ?_
            refine Wh.rd (v := .int .i64 k) 2 rfl (by kernel_rfl) hS.bel (rd_move rfl) rfl ?_
            refine Wh.ex 3 rfl (by kernel_rfl) hS.bel (rd_sliceH (h0.v 1 rfl) Tryd.underlying60 Tryd.sizeOf3 rfl rfl (by omega) (by omega)) rfl (fun u_184 hu_185 => ?_)
            have ln_186 := hu_185.len63
            refine Wh.rd (v := lw) 5 rfl (by kernel_rfl) hS.bel (rd_move rfl) rfl ?_
            refine Wh.rd (v := .int .i64 k) 6 rfl (by kernel_rfl) hS.bel (rd_move rfl) rfl ?_
            refine Wh.rd (v := .int .i64 (k + 2)) 7 rfl (by kernel_rfl) hS.bel (rd_add rfl rfl (in_i64 (by omega) (by omega))) rfl ?_
            refine Wh.ex 8 rfl (by kernel_rfl) hS.bel (rd_sliceL (h0.v 1 rfl) Tryd.underlying60 Tryd.sizeOf3 rfl rfl (by omega) (by omega)) rfl (fun u_187 hu_188 => ?_)
            have ln_189 := hu_188.len63
            refine Wh.br [0] (by kernel_rfl) (by decide) ⟨⟨_, rfl, ?_⟩, trivial⟩
            refine Wx.lit (t := (tI .i64)) (ys := []) (vs := []) elHf_60 hS rfl rfl trivial (by decide) rfl (fun v_190 w_191 hx_192 hS => ?_)
            refine Wx.nil ⟨hS.bel, ?_⟩
            refine Wh.br [4] (by kernel_rfl) (by decide) ⟨⟨_, rfl, ?_⟩, trivial⟩
            refine Wx.append elHf_60 hS 0 rfl rfl rfl (Src.ofV (hS.arg hu_185)) (by simp only [maxLen]; simp; omega) (by simp; omega) rfl (fun v_193 w_194 hz_195 hS => ?_)
            refine Wx.nil ⟨hS.bel, ?_⟩
            refine Wh.br [9] (by kernel_rfl) (by decide) ⟨⟨_, rfl, ?_⟩, trivial⟩
            refine Wx.append elHf_60 hS 0 rfl rfl rfl (Src.ofV (hS.arg hu_188)) (by simp only [maxLen]; simp; omega) (by simp; omega) rfl (fun v_196 w_197 hz_198 hS => ?_)
            refine Wx.nil ⟨hS.bel, ?_⟩
            refine Wh.rd (v := v_196) 10 rfl (by kernel_rfl) hS.bel (rd_assign rfl) rfl ?_
            refine Wh.done (by kernel_rfl) ?_
            have hS := h0.merge hS
            refine W.reg ?_
            refine Wx.rd (v := .int .i64 0) (rd_assign rfl) rfl ?_
            refine Wx.nil ?_
            have hS := hS.freeze 0 rfl
            have hll : (([] ++ List.take k.toNat left ++ List.drop (k + 2).toNat left).length : Int) = left.length - 2 := by simp only [List.length_append, List.length_take, List.length_drop, List.length_nil]; omega
            have hv_200 : V (tSl (tI .i64)) ([] ++ (left.take k.toNat) ++ (left.drop (k + 2).toNat)) v_196 _ _ := (hS.v 0 rfl)
            refine ⟨(v_196, [] ++ (left.take k.toNat) ++ (left.drop (k + 2).toNat), 0, v_179, st ++ [(ix 0 left k, ix 0 left (k + 1))]), (by exact mK_two (by omega) k0 (by omega)), ?_, ?_, Out.look rfl Out.self⟩
            · exact ⟨(St.add (St.tl (St.tl (St.tl (hS)))) (V.tlF (V.tlF (V.tlF (hv_200))))), (by first | omega | assumption), (by omega), (fun q q0 q1 => by omega), (by rw [List.nil_append]; exact (runS_fit k0 c1 hI c2).trans hR), (fun x hx => by rw [List.nil_append] at hx; rcases List.mem_append.1 hx with hx | hx; exact hB x (List.mem_of_mem_take hx); exact hB x (List.mem_of_mem_drop hx)), (by simp only [List.length_append, List.length_cons, List.length_nil] at hll ⊢; omega)⟩
            · exact ⟨rfl, rfl, rfl, trivial⟩
    · -- no
      refine W.exit rfl ?_
      refine W.seq ?_
      refine W.reg ?_
      refine Wx.rd (v := tv) (rd_move rfl) rfl ?_
      refine Wx.rd (v := lw) (rd_move rfl) rfl ?_
      refine Wx.rd (v := tv) (rd_assign rfl) rfl ?_
      refine Wx.rd (v := lw) (rd_assign rfl) rfl ?_
      refine Wx.nil ?_
      have e0_0 : (takS rim).1 = st := by rw [← hR, runS_end (by omega)]
      have e0_1 : (takS rim).2 = left := by rw [← hR, runS_end (by omega)]
      exact W.ret ⟨.tuple #[tv, lw], ResIs.two, hS.bel, ⟨tv, lw, rfl, (by rw [e0_0]; exact ((hS.lend 2 rfl).mv (.less (fun _ h => List.mem_append.2 (.inr h))))), (by rw [e0_1]; exact (V.mv (hS.v 0 rfl) (.less (fun _ h => List.mem_append.2 (.inr h)))))⟩⟩
end Go.Proofs.YtokdjjebnomciaaDoor

namespace Go.Proofs.YtokdjjebnomciaaDoor
open Go.Wk Go.RowKit Go.Lib
set_option linter.unusedVariables false
set_option linter.unusedSimpArgs false
theorem mixedHg_ : Tryd.prog.follows .mixedOrders = true := by kernel_rfl

theorem F75 {rim : ByteArray} {w : World} (s_rim : rim.size ≤ maxLen) (p_12 : (rim.size : Int) ≤ 12) (p_l : Lets rim) (hG : Laid w) : Calls Tryd.prog 75 #[.string rim] w (Ret w (fun r _ => r = .string (restV rim))) := by
  have hlb := takS_bd (s := rim)
  have hS := St.start0 w
  refine enterR Tryd.func75 rfl Tryd.ntmps75 Tryd.results75 rfl ?_
  refine W.seq ?_
  refine W.reg ?_
  refine Wx.rd (v := .string ({ data := #[] } : ByteArray)) (rd_assign rfl) rfl ?_
  refine Wx.nil ?_
  refine W.seq ?_
  refine W.reg ?_
  refine Wx.alloc (cs := [(.pointer none), (.slice none 0 0)]) hS Tryd.zeroValue116 rfl rfl (fun g_1 w_2 hx_4 hb_3 hS => ?_)
  refine Wx.nil ?_
  refine W.seq ?_
  refine W.reg ?_
  refine Wx.rd (v := .string rim) (rd_move rfl) rfl ?_
  refine Wx.callF (run_callF Tryd.call73 rfl) (F73b (by first | assumption | (simp only [maxLen]; omega) | (simp only [ByteArray.size_extract, ByteArray.size_append, maxLen] at *; omega) | decide) (by omega) (by omega) hS.fb_lt (hG.ext hS.bel)) rfl ?_
  rintro r_5 w_6 hx_7 ⟨v_8, v_9, rfl, hv_10, hv_11⟩
  have hS := hS.pushFr hx_7 hv_11
  refine Wx.rd (v := .tuple #[v_8, v_9]) (rd_move rfl) rfl ?_
  refine Wx.rd (v := v_8) (rd_extract rfl rfl) rfl ?_
  refine Wx.rd (v := v_9) (rd_extract rfl rfl) rfl ?_
  refine Wx.rd (v := v_8) (rd_assign rfl) rfl ?_
  refine Wx.rd (v := v_9) (rd_assign rfl) rfl ?_
  refine Wx.nil ?_
  refine W.seq ?_
  refine W.seq ?_
  refine W.reg ?_
  refine Wx.rd (v := v_9) (rd_move rfl) rfl ?_
  refine Wx.rd (v := .int .i64 (((takS rim).2).length : Int)) (rd_lenR hS 0 rfl rfl Tryd.underlying60) rfl ?_
  refine Wx.rd (v := .int .i64 0) (rd_move rfl) rfl ?_
  refine Wx.nil ?_
  refine W.block ?_
  have hbd := bld_start hS 1 rfl
  have hS := (hS.front 1 rfl).tl
  refine W.loop [7, 15, 16, 17, 18, 19, 20, 21, 22, 23] (fun (k : Int) => [(15, .int .i64 k)]) (fun (k : Int) w' => St w [] w' [.row (tI .i64) 3 v_9 ((takS rim).2)] ∧ 0 ≤ k ∧ k ≤ (takS rim).2.length ∧ Lib.IsBuilderF 116 5 w.heap.size g_1 (Lib.byteCells (((takS rim).2.take k.toNat).map (byteAt rim))) w') (fun (k : Int) => ((takS rim).2.length - k).toNat) 0 ⟨rfl, trivial⟩ ⟨hS, (by first | omega | simp), (by first | omega | simp), (hbd)⟩ ?_
  rintro k u_15 w_14 ⟨hS, h0, h1, hbd⟩
  refine W.seq ?_
  refine W.reg ?_
  refine Wx.rd (v := .bool (decide (k < (((takS rim).2).length : Int)))) (rd_lss rfl rfl) rfl ?_
  refine Wx.nil ?_
  refine W.seq ?_
  refine W.condD rfl (fun c0 => ?_) (fun c0 => ?_)
  · -- yes
    have hkb := hlb.1 (ix 0 (takS rim).2 k) (ix_mem h0 c0)
    refine W.skip ?_
    refine W.seq ?_
    refine W.block ?_
    refine W.seq ?_
    refine W.reg ?_
    refine Wx.indexR hS 0 rfl rfl rfl Tryd.underlying60 Tryd.sizeOf3 (by first | omega | (simp only [List.length_set, List.length_append, List.length_cons, List.length_nil, List.length_replicate]; omega)) (by first | omega | (simp only [List.length_set, List.length_append, List.length_cons, List.length_nil, List.length_replicate]; omega)) rfl (fun g_16 hg_17 => ?_)
    refine Wx.rd (v := .int .i64 (ix 0 ((takS rim).2) k)) (rd_loadRI' hS 0 rfl hg_17 rfl (by first | omega | (simp only [List.length_set, List.length_append, List.length_cons, List.length_nil, List.length_replicate]; omega)) (by first | omega | (simp only [List.length_set, List.length_append, List.length_cons, List.length_nil, List.length_replicate]; omega)) Tryd.isAgg3 Tryd.sizeOf3) rfl ?_
    have bd_18 := bd_i64 (hS.rowInK' 0 rfl (by first | omega | (simp only [List.length_set, List.length_append, List.length_cons, List.length_nil, List.length_replicate]; omega)) (by first | omega | (simp only [List.length_set, List.length_append, List.length_cons, List.length_nil, List.length_replicate]; omega)) : InK .i64 (ix 0 ((takS rim).2) k))
    refine Wx.rd (v := .int .i64 (ix 0 ((takS rim).2) k)) (rd_assign rfl) rfl ?_
    refine Wx.nil ?_
    refine W.reg ?_
    refine Wx.rd (v := .string rim) (rd_move rfl) rfl ?_
    refine Wx.rd (v := .int .i64 (ix 0 ((takS rim).2) k)) (rd_move rfl) rfl ?_
    refine Wx.rd (v := .int .u8 (tabAt rim (ix 0 ((takS rim).2) k))) (rd_indexS' (by kernel_rfl) rfl Tryd.underlying9 (by omega) (by omega)) rfl ?_
    have bd_19 := tabAt_bd rim (ix 0 ((takS rim).2) k)
    refine Wx.callB (run_callF Tryd.call94 rfl) (F94 hbd rfl (by rw [List.length_map, List.length_take]; omega) hS.bel.size) rfl ?_
    rintro r_20 w_21 ⟨rfl, hbd2, hBe, hBk⟩
    have hS := bld_keep hS hbd hBe hBk
    have hbd := hbd2
    refine Wx.nil ?_
    refine W.reg ?_
    refine Wx.rd (v := .int .i64 (k + 1)) (rd_add rfl rfl (in_i64 (by omega) (by omega))) rfl ?_
    refine Wx.rd (v := .int .i64 (k + 1)) (rd_move rfl) rfl ?_
    refine Wx.nil ?_
    refine ⟨k + 1, (by show ((takS rim).2.length - (k + 1)).toNat < ((takS rim).2.length - k).toNat; omega), ?_, ?_, Out.look rfl Out.self⟩
    · exact ⟨hS, (by first | omega | assumption), (by first | omega | assumption), (by rw [take_ix (d := 0) h0 c0, List.map_append]; exact hbd)⟩
    · exact ⟨rfl, trivial⟩
  · -- no
    refine W.exit rfl ?_
    refine W.seq ?_
    refine W.reg ?_
    refine Wx.callB (run_callF Tryd.call95 rfl) (F95 hbd hS.bel.size) rfl ?_
    rintro r_22 w_23 ⟨rfl, hBe⟩
    have hS := (St.start0 w).ext (Below.trans hS.bel hBe)
    refine Wx.rd (v := .string (mkB (((takS rim).2.take k.toNat).map (byteAt rim)))) (rd_assign rfl) rfl ?_
    refine Wx.nil ?_
    have e0_0 : (restV rim) = (mkB (((takS rim).2.take k.toNat).map (byteAt rim))) := by rw [restV, List.take_of_length_le (by omega)]
    exact W.ret ⟨.string (mkB (((takS rim).2.take k.toNat).map (byteAt rim))), ResIs.one, hS.bel, (by rw [e0_0])⟩

theorem F76 {rim : ByteArray} {O : List (Option Nat)} {w : World} (s_rim : rim.size ≤ maxLen) (p_12 : (rim.size : Int) ≤ 12) (p_l : Lets rim) (hO : ∀ b, some b ∈ O → b < w.heap.size) : Calls Tryd.prog 76 #[.string rim] w (Ret w (fun r _ => r = .string (restV rim))) := by
  have hlb := takS_bd (s := rim)
  have hS := St.start w O hO
  refine enterR Tryd.func76 rfl Tryd.ntmps76 Tryd.results76 rfl ?_
  refine W.seq ?_
  refine W.reg ?_
  refine Wx.rd (v := .string ({ data := #[] } : ByteArray)) (rd_assign rfl) rfl ?_
  refine Wx.nil ?_
  refine W.seq ?_
  refine W.reg ?_
  refine Wx.rd (v := .string rim) (rd_move rfl) rfl ?_
  refine Wx.callF (run_callF Tryd.call74 rfl) (F74 (by first | assumption | (simp only [maxLen]; omega) | (simp only [ByteArray.size_extract, ByteArray.size_append, maxLen] at *; omega) | decide) (by omega) (by omega) hS.fb_lt) rfl ?_
  rintro r_1 w_2 hx_3 ⟨v_4, v_5, rfl, hv_6, hv_7⟩
  have ln_9 := hv_6.len63
  have ln_11 := hv_7.len63
  have hS := hS.ext hx_3
  have hS := hS.add hv_6
  have hS := hS.add (hv_7.mv (.less (by simp [fb, Ob.blk])))
  refine Wx.rd (v := .tuple #[v_4, v_5]) (rd_move rfl) rfl ?_
  refine Wx.rd (v := v_4) (rd_extract rfl rfl) rfl ?_
  refine Wx.rd (v := v_5) (rd_extract rfl rfl) rfl ?_
  refine Wx.rd (v := v_4) (rd_assign rfl) rfl ?_
  refine Wx.rd (v := v_5) (rd_assign rfl) rfl ?_
  refine Wx.nil ?_
  refine W.seq ?_
  refine W.reg ?_
  refine Wx.rd (v := .string ({ data := #[] } : ByteArray)) (rd_assign rfl) rfl ?_
  refine Wx.nil ?_
  refine W.seq ?_
  refine W.seq ?_
  refine W.reg ?_
  refine Wx.rd (v := .int .i64 0) (rd_assign rfl) rfl ?_
  refine Wx.nil ?_
  refine W.block ?_
  refine W.loop [5, 6, 12, 13, 14, 15, 16, 17, 18, 19, 20, 21, 22, 23, 24, 25, 26, 27, 28, 29, 30] (fun x : ByteArray × Int => match x with | (out, k) => [(5, .string out), (6, .int .i64 k)]) (fun (x : ByteArray × Int) w' => match x with | (out, k) => St w O w' [Ob.v (tSl (tI .i64)) ((takS rim).2) v_5, Ob.v (tSl (tP (tI .i64) (tI .i64))) ((takS rim).1) v_4] ∧ 0 ≤ k ∧ k ≤ (takS rim).2.length ∧ out = mkB (((takS rim).2.take k.toNat).map (byteAt rim))) (fun x : ByteArray × Int => match x with | (out, k) => ((takS rim).2.length - k).toNat) (({ data := #[] } : ByteArray), 0) ⟨rfl, rfl, trivial⟩ ⟨hS, (by first | omega | simp), (by first | omega | simp), (rfl)⟩ ?_
  rintro ⟨out, k⟩ u_13 w_12 ⟨hS, h0, h1, h2⟩
  refine W.seq ?_
  refine W.seq ?_
  refine W.reg ?_
  refine Wx.rd (v := .int .i64 k) (rd_move rfl) rfl ?_
  refine Wx.rd (v := v_5) (rd_move rfl) rfl ?_
  refine Wx.rd (v := .int .i64 (((takS rim).2).length : Int)) (rd_lenV rfl (hS.v 0 rfl) Tryd.underlying60) rfl ?_
  refine Wx.rd (v := .bool (decide (k < (((takS rim).2).length : Int)))) (rd_lss rfl rfl) rfl ?_
  refine Wx.nil ?_
  refine W.condD rfl (fun c0 => ?_) (fun c0 => ?_)
  · -- yes
    have hkb := hlb.1 (ix 0 (takS rim).2 k) (ix_mem h0 c0)
    have hos : (out.size : Int) = k := by rw [h2, mkB_size, List.length_map, List.length_take]; omega
    have hes : ((rim.extract (ix 0 (takS rim).2 k).toNat (ix 0 (takS rim).2 k + 1).toNat).size : Int) = 1 := by rw [ByteArray.size_extract]; omega
    refine W.skip ?_
    refine W.seq ?_
    refine W.block ?_
    refine W.regQ mixedHg_ (by kernel_rfl) ?_
    refine Wx.rd (v := .string out) (rd_move rfl) rfl ?_
    refine Wx.rd (v := .string rim) (rd_move rfl) rfl ?_
    refine Wx.rd (v := v_5) (rd_move rfl) rfl ?_
    refine Wx.rd (v := .int .i64 k) (rd_move rfl) rfl ?_
    refine Wx.ex (rd_index 0 (hS.v 0 rfl) rfl rfl Tryd.underlying60 Tryd.sizeOf3 (by first | omega | (simp only [List.length_set, List.length_append, List.length_cons, List.length_nil, List.length_replicate]; omega)) (by first | omega | (simp only [List.length_set, List.length_append, List.length_cons, List.length_nil, List.length_replicate]; omega))) rfl (fun p_14 hp_15 => ?_)
    refine Wx.rd (v := .int .i64 (ix 0 ((takS rim).2) k)) (rd_loadI hp_15 rfl Tryd.isAgg3 Tryd.sizeOf3) rfl ?_
    have bd_16 := bd_i64 hp_15.inK
    refine Wx.rd (v := v_5) (rd_move rfl) rfl ?_
    refine Wx.rd (v := .int .i64 k) (rd_move rfl) rfl ?_
    refine Wx.ex (rd_index 0 (hS.v 0 rfl) rfl rfl Tryd.underlying60 Tryd.sizeOf3 (by first | omega | (simp only [List.length_set, List.length_append, List.length_cons, List.length_nil, List.length_replicate]; omega)) (by first | omega | (simp only [List.length_set, List.length_append, List.length_cons, List.length_nil, List.length_replicate]; omega))) rfl (fun p_17 hp_18 => ?_)
    refine Wx.rd (v := .int .i64 (ix 0 ((takS rim).2) k)) (rd_loadI hp_18 rfl Tryd.isAgg3 Tryd.sizeOf3) rfl ?_
    have bd_19 := bd_i64 hp_18.inK
    refine Wx.rd (v := .int .i64 ((ix 0 ((takS rim).2) k) + 1)) (rd_add rfl rfl (in_i64 (by omega) (by omega))) rfl ?_
    refine Wx.rd (v := .string ((rim).extract (ix 0 ((takS rim).2) k).toNat ((ix 0 ((takS rim).2) k) + 1).toNat)) (rd_sliceS_LH Tryd.underlying9 rfl rfl rfl (by omega) (by omega) (by omega)) rfl ?_
    refine Wx.rd (v := .string (out ++ ((rim).extract (ix 0 ((takS rim).2) k).toNat ((ix 0 ((takS rim).2) k) + 1).toNat))) (rd_addS rfl rfl (by omega)) rfl ?_
    refine Wx.rd (v := .string (out ++ ((rim).extract (ix 0 ((takS rim).2) k).toNat ((ix 0 ((takS rim).2) k) + 1).toNat))) (rd_assign rfl) rfl ?_
    refine Wx.nilQ (fun w_20 hx_21 => ?_)
    have hS := hS.ext hx_21
    refine W.reg ?_
    refine Wx.rd (v := .int .i64 k) (rd_move rfl) rfl ?_
    refine Wx.rd (v := .int .i64 (k + 1)) (rd_add rfl rfl (in_i64 (by omega) (by omega))) rfl ?_
    refine Wx.rd (v := .int .i64 (k + 1)) (rd_assign rfl) rfl ?_
    refine Wx.nil ?_
    refine ⟨(out ++ ((rim).extract (ix 0 ((takS rim).2) k).toNat ((ix 0 ((takS rim).2) k) + 1).toNat), k + 1), (by show ((takS rim).2.length - (k + 1)).toNat < ((takS rim).2.length - k).toNat; omega), ?_, ?_, Out.look rfl Out.self⟩
    · exact ⟨hS, (by first | omega | assumption), (by first | omega | assumption), (by rw [take_ix (d := 0) h0 c0, List.map_append, ← mkB_app, ← h2, mkB_one hkb.1 hkb.2]; rfl)⟩
    · exact ⟨rfl, rfl, trivial⟩
  · -- no
    refine W.exit rfl ?_
    refine W.seq ?_
    refine W.reg ?_
    refine Wx.rd (v := .string out) (rd_move rfl) rfl ?_
    refine Wx.rd (v := .string out) (rd_assign rfl) rfl ?_
    refine Wx.nil ?_
    have e0_0 : (restV rim) = out := by rw [h2, restV, List.take_of_length_le (by omega)]
    exact W.ret ⟨.string out, ResIs.one, hS.bel, (by rw [e0_0])⟩
end Go.Proofs.YtokdjjebnomciaaDoor

namespace Go.Proofs.YtokdjjebnomciaaDoor
open Go.Wk Go.RowKit Go.Lib
set_option linter.unusedVariables false
set_option linter.unusedSimpArgs false


theorem F30 {rim : ByteArray} {O : List (Option Nat)} {w : World} (s_rim : rim.size ≤ maxLen) (hO : ∀ b, some b ∈ O → b < w.heap.size) (hG : Laid w) : Calls Tryd.prog 30 #[.string rim] w (Ret w (fun r w' => ∃ rv, r = .tuple #[rv, .int .i64 (rimE rim)] ∧ V (tSl (tP (tI .i64) (tI .i64))) (stepsV rim) rv O w')) := by
  have hS := St.start w O hO
  refine enterR Tryd.func30 rfl Tryd.ntmps30 Tryd.results30 rfl ?_
  refine W.seq ?_
  refine W.reg ?_
  refine Wx.rd (v := (.slice none 0 0)) (rd_assign rfl) rfl ?_
  refine Wx.rd (v := .int .i64 0) (rd_assign rfl) rfl ?_
  refine Wx.nil ?_
  refine W.seq ?_
  refine W.seq ?_
  refine W.reg ?_
  refine Wx.rd (v := .string rim) (rd_move rfl) rfl ?_
  refine Wx.callF (run_callF Tryd.call17 rfl) (F17 (by first | assumption | (simp only [maxLen]; omega) | (simp only [ByteArray.size_extract, ByteArray.size_append, maxLen] at *; omega) | decide)) rfl ?_
  rintro r_1 w_2 hx_3 rfl
  have hS := hS.ext hx_3
  refine Wx.rd (v := .int .i64 (rimE rim)) (rd_assign rfl) rfl ?_
  refine Wx.nil ?_
  refine W.seq ?_
  refine W.reg ?_
  refine Wx.rd (v := .int .i64 (rimE rim)) (rd_move rfl) rfl ?_
  refine Wx.rd (v := .bool (decide ((rimE rim) ≠ 0))) (rd_neq rfl rfl) rfl ?_
  refine Wx.nil ?_
  refine W.condD rfl (fun c0 => ?_) (fun c0 => ?_)
  · -- yes
    refine W.seq ?_
    refine W.reg ?_
    refine Wx.rd (v := .int .i64 (rimE rim)) (rd_move rfl) rfl ?_
    refine Wx.rd (v := (.slice none 0 0)) (rd_assign rfl) rfl ?_
    refine Wx.rd (v := .int .i64 (rimE rim)) (rd_assign rfl) rfl ?_
    refine Wx.nil ?_
    have e0_0 : stepsV rim = [] := by rw [stepsV, if_neg c0]
    exact W.ret ⟨.tuple #[(.slice none 0 0), .int .i64 (rimE rim)], ResIs.two, hS.bel, ⟨(.slice none 0 0), rfl, (by rw [e0_0]; exact (V.nil (t := (tP (tI .i64) (tI .i64)))))⟩⟩
  · -- no
    have hr0 : rimE rim = 0 := by omega
    obtain ⟨hr1, hr2⟩ := rimE_ok hr0
    refine W.skip ?_
    refine W.seq ?_
    refine W.reg ?_
    refine Wx.rd (v := .string rim) (rd_move rfl) rfl ?_
    refine Wx.callF (run_callF Tryd.call73 rfl) (F73 (by first | assumption | (simp only [maxLen]; omega) | (simp only [ByteArray.size_extract, ByteArray.size_append, maxLen] at *; omega) | decide) (by omega) hr2 hS.fb_lt (hG.ext hS.bel)) rfl ?_
    rintro r_4 w_5 hx_6 ⟨v_7, v_8, rfl, hv_9, hv_10⟩
    have ln_12 := hv_9.len63
    have ln_14 := hv_10.len63
    have hS := hS.ext hx_6
    have hS := hS.add hv_9
    have hS := hS.add (hv_10.mv (.less (by simp [fb, Ob.blk])))
    refine Wx.rd (v := .tuple #[v_7, v_8]) (rd_move rfl) rfl ?_
    refine Wx.rd (v := v_7) (rd_extract rfl rfl) rfl ?_
    refine Wx.rd (v := v_8) (rd_extract rfl rfl) rfl ?_
    refine Wx.rd (v := v_7) (rd_assign rfl) rfl ?_
    refine Wx.rd (v := v_8) (rd_assign rfl) rfl ?_
    refine Wx.nil ?_
    refine W.seq ?_
    refine W.reg ?_
    refine Wx.rd (v := v_7) (rd_move rfl) rfl ?_
    refine Wx.rd (v := v_7) (rd_assign rfl) rfl ?_
    refine Wx.rd (v := .int .i64 0) (rd_assign rfl) rfl ?_
    refine Wx.nil ?_
    have e1_0 : stepsV rim = (takS rim).1 := by rw [stepsV, if_pos hr0]
    have e1_1 : (rimE rim) = (0 : Int) := by exact hr0
    exact W.ret ⟨.tuple #[v_7, .int .i64 0], ResIs.two, hS.bel, ⟨v_7, (by rw [e1_1]), (by rw [e1_0]; exact (V.mv (hS.v 1 rfl) (.less (fun _ h => List.mem_append.2 (.inr h)))))⟩⟩

theorem F31 {rim : ByteArray} {O : List (Option Nat)} {w : World} (s_rim : rim.size ≤ maxLen) (hO : ∀ b, some b ∈ O → b < w.heap.size) : Calls Tryd.prog 31 #[.string rim] w (Ret w (fun r w' => ∃ rv, r = .tuple #[rv, .int .i64 (rimE rim)] ∧ V (tSl (tP (tI .i64) (tI .i64))) (stepsV rim) rv O w')) := by
  have hS := St.start w O hO
  refine enterR Tryd.func31 rfl Tryd.ntmps31 Tryd.results31 rfl ?_
  refine W.seq ?_
  refine W.reg ?_
  refine Wx.rd (v := (.slice none 0 0)) (rd_assign rfl) rfl ?_
  refine Wx.rd (v := .int .i64 0) (rd_assign rfl) rfl ?_
  refine Wx.nil ?_
  refine W.seq ?_
  refine W.reg ?_
  refine Wx.rd (v := .string rim) (rd_move rfl) rfl ?_
  refine Wx.callF (run_callF Tryd.call18 rfl) (F18 (by first | assumption | (simp only [maxLen]; omega) | (simp only [ByteArray.size_extract, ByteArray.size_append, maxLen] at *; omega) | decide)) rfl ?_
  rintro r_1 w_2 hx_3 rfl
  have hS := hS.ext hx_3
  refine Wx.rd (v := .int .i64 (rimE rim)) (rd_assign rfl) rfl ?_
  refine Wx.nil ?_
  refine W.seq ?_
  refine W.seq ?_
  refine W.reg ?_
  refine Wx.rd (v := .int .i64 (rimE rim)) (rd_move rfl) rfl ?_
  refine Wx.rd (v := .bool (decide ((rimE rim) ≠ 0))) (rd_neq rfl rfl) rfl ?_
  refine Wx.nil ?_
  refine W.condD rfl (fun c0 => ?_) (fun c0 => ?_)
  · -- yes
    refine W.seq ?_
    refine W.reg ?_
    refine Wx.rd (v := .int .i64 (rimE rim)) (rd_move rfl) rfl ?_
    refine Wx.rd (v := (.slice none 0 0)) (rd_assign rfl) rfl ?_
    refine Wx.rd (v := .int .i64 (rimE rim)) (rd_assign rfl) rfl ?_
    refine Wx.nil ?_
    have e0_0 : stepsV rim = [] := by rw [stepsV, if_neg c0]
    exact W.ret ⟨.tuple #[(.slice none 0 0), .int .i64 (rimE rim)], ResIs.two, hS.bel, ⟨(.slice none 0 0), rfl, (by rw [e0_0]; exact (V.nil (t := (tP (tI .i64) (tI .i64)))))⟩⟩
  · -- no
    have hr0 : rimE rim = 0 := by omega
    obtain ⟨hr1, hr2⟩ := rimE_ok hr0
    refine W.skip ?_
    refine W.seq ?_
    refine W.reg ?_
    refine Wx.rd (v := .string rim) (rd_move rfl) rfl ?_
    refine Wx.callF (run_callF Tryd.call74 rfl) (F74 (by first | assumption | (simp only [maxLen]; omega) | (simp only [ByteArray.size_extract, ByteArray.size_append, maxLen] at *; omega) | decide) (by omega) hr2 hS.fb_lt) rfl ?_
    rintro r_4 w_5 hx_6 ⟨v_7, v_8, rfl, hv_9, hv_10⟩
    have ln_12 := hv_9.len63
    have ln_14 := hv_10.len63
    have hS := hS.ext hx_6
    have hS := hS.add hv_9
    have hS := hS.add (hv_10.mv (.less (by simp [fb, Ob.blk])))
    refine Wx.rd (v := .tuple #[v_7, v_8]) (rd_move rfl) rfl ?_
    refine Wx.rd (v := v_7) (rd_extract rfl rfl) rfl ?_
    refine Wx.rd (v := v_8) (rd_extract rfl rfl) rfl ?_
    refine Wx.rd (v := v_7) (rd_assign rfl) rfl ?_
    refine Wx.rd (v := v_8) (rd_assign rfl) rfl ?_
    refine Wx.nil ?_
    refine W.seq ?_
    refine W.reg ?_
    refine Wx.rd (v := v_7) (rd_move rfl) rfl ?_
    refine Wx.rd (v := v_7) (rd_assign rfl) rfl ?_
    refine Wx.rd (v := .int .i64 0) (rd_assign rfl) rfl ?_
    refine Wx.nil ?_
    have e1_0 : stepsV rim = (takS rim).1 := by rw [stepsV, if_pos hr0]
    have e1_1 : (rimE rim) = (0 : Int) := by exact hr0
    exact W.ret ⟨.tuple #[v_7, .int .i64 0], ResIs.two, hS.bel, ⟨v_7, (by rw [e1_1]), (by rw [e1_0]; exact (V.mv (hS.v 1 rfl) (.less (fun _ h => List.mem_append.2 (.inr h)))))⟩⟩

theorem F32 {rim : ByteArray} {w : World} (s_rim : rim.size ≤ maxLen) (hG : Laid w) : Calls Tryd.prog 32 #[.string rim] w (Ret w (fun r _ => r = .tuple #[.string (restE rim), .int .i64 (rimE rim)])) := by
  have hS := St.start0 w
  refine enterR Tryd.func32 rfl Tryd.ntmps32 Tryd.results32 rfl ?_
  refine W.seq ?_
  refine W.reg ?_
  refine Wx.rd (v := .string ({ data := #[] } : ByteArray)) (rd_assign rfl) rfl ?_
  refine Wx.rd (v := .int .i64 0) (rd_assign rfl) rfl ?_
  refine Wx.nil ?_
  refine W.seq ?_
  refine W.seq ?_
  refine W.reg ?_
  refine Wx.rd (v := .string rim) (rd_move rfl) rfl ?_
  refine Wx.callF (run_callF Tryd.call17 rfl) (F17 (by first | assumption | (simp only [maxLen]; omega) | (simp only [ByteArray.size_extract, ByteArray.size_append, maxLen] at *; omega) | decide)) rfl ?_
  rintro r_1 w_2 hx_3 rfl
  have hS := hS.ext hx_3
  refine Wx.rd (v := .int .i64 (rimE rim)) (rd_assign rfl) rfl ?_
  refine Wx.nil ?_
  refine W.seq ?_
  refine W.reg ?_
  refine Wx.rd (v := .int .i64 (rimE rim)) (rd_move rfl) rfl ?_
  refine Wx.rd (v := .bool (decide ((rimE rim) ≠ 0))) (rd_neq rfl rfl) rfl ?_
  refine Wx.nil ?_
  refine W.condD rfl (fun c0 => ?_) (fun c0 => ?_)
  · -- yes
    refine W.seq ?_
    refine W.reg ?_
    refine Wx.rd (v := .int .i64 (rimE rim)) (rd_move rfl) rfl ?_
    refine Wx.rd (v := .string ({ data := #[] } : ByteArray)) (rd_assign rfl) rfl ?_
    refine Wx.rd (v := .int .i64 (rimE rim)) (rd_assign rfl) rfl ?_
    refine Wx.nil ?_
    have e0_0 : (restE rim) = ({ data := #[] } : ByteArray) := by rw [restE, if_neg c0]; rfl
    exact W.ret ⟨.tuple #[.string ({ data := #[] } : ByteArray), .int .i64 (rimE rim)], ResIs.two, hS.bel, (by rw [e0_0])⟩
  · -- no
    have hr0 : rimE rim = 0 := by omega
    obtain ⟨hr1, hr2⟩ := rimE_ok hr0
    refine W.skip ?_
    refine W.seq ?_
    refine W.reg ?_
    refine Wx.rd (v := .string rim) (rd_move rfl) rfl ?_
    refine Wx.callF (run_callF Tryd.call75 rfl) (F75 (by first | assumption | (simp only [maxLen]; omega) | (simp only [ByteArray.size_extract, ByteArray.size_append, maxLen] at *; omega) | decide) (by omega) hr2 (hG.ext hS.bel)) rfl ?_
    rintro r_4 w_5 hx_6 rfl
    have hS := hS.ext hx_6
    refine Wx.rd (v := .string (restV rim)) (rd_assign rfl) rfl ?_
    refine Wx.rd (v := .int .i64 0) (rd_assign rfl) rfl ?_
    refine Wx.nil ?_
    have e1_0 : (restE rim) = (restV rim) := by rw [restE, if_pos hr0]
    have e1_1 : (rimE rim) = (0 : Int) := by exact hr0
    exact W.ret ⟨.tuple #[.string (restV rim), .int .i64 0], ResIs.two, hS.bel, (by rw [e1_0, e1_1])⟩

theorem F33 {rim : ByteArray} {O : List (Option Nat)} {w : World} (s_rim : rim.size ≤ maxLen) (hO : ∀ b, some b ∈ O → b < w.heap.size) : Calls Tryd.prog 33 #[.string rim] w (Ret w (fun r _ => r = .tuple #[.string (restE rim), .int .i64 (rimE rim)])) := by
  have hS := St.start w O hO
  refine enterR Tryd.func33 rfl Tryd.ntmps33 Tryd.results33 rfl ?_
  refine W.seq ?_
  refine W.reg ?_
  refine Wx.rd (v := .string ({ data := #[] } : ByteArray)) (rd_assign rfl) rfl ?_
  refine Wx.rd (v := .int .i64 0) (rd_assign rfl) rfl ?_
  refine Wx.nil ?_
  refine W.seq ?_
  refine W.reg ?_
  refine Wx.rd (v := .string rim) (rd_move rfl) rfl ?_
  refine Wx.callF (run_callF Tryd.call18 rfl) (F18 (by first | assumption | (simp only [maxLen]; omega) | (simp only [ByteArray.size_extract, ByteArray.size_append, maxLen] at *; omega) | decide)) rfl ?_
  rintro r_1 w_2 hx_3 rfl
  have hS := hS.ext hx_3
  refine Wx.rd (v := .int .i64 (rimE rim)) (rd_assign rfl) rfl ?_
  refine Wx.nil ?_
  refine W.seq ?_
  refine W.seq ?_
  refine W.reg ?_
  refine Wx.rd (v := .int .i64 (rimE rim)) (rd_move rfl) rfl ?_
  refine Wx.rd (v := .bool (decide ((rimE rim) ≠ 0))) (rd_neq rfl rfl) rfl ?_
  refine Wx.nil ?_
  refine W.condD rfl (fun c0 => ?_) (fun c0 => ?_)
  · -- yes
    refine W.seq ?_
    refine W.reg ?_
    refine Wx.rd (v := .int .i64 (rimE rim)) (rd_move rfl) rfl ?_
    refine Wx.rd (v := .string ({ data := #[] } : ByteArray)) (rd_assign rfl) rfl ?_
    refine Wx.rd (v := .int .i64 (rimE rim)) (rd_assign rfl) rfl ?_
    refine Wx.nil ?_
    have e0_0 : (restE rim) = ({ data := #[] } : ByteArray) := by rw [restE, if_neg c0]; rfl
    exact W.ret ⟨.tuple #[.string ({ data := #[] } : ByteArray), .int .i64 (rimE rim)], ResIs.two, hS.bel, (by rw [e0_0])⟩
  · -- no
    have hr0 : rimE rim = 0 := by omega
    obtain ⟨hr1, hr2⟩ := rimE_ok hr0
    refine W.skip ?_
    refine W.seq ?_
    refine W.reg ?_
    refine Wx.rd (v := .string rim) (rd_move rfl) rfl ?_
    refine Wx.callF (run_callF Tryd.call76 rfl) (F76 (by first | assumption | (simp only [maxLen]; omega) | (simp only [ByteArray.size_extract, ByteArray.size_append, maxLen] at *; omega) | decide) (by omega) hr2 hS.fb_lt) rfl ?_
    rintro r_4 w_5 hx_6 rfl
    have hS := hS.ext hx_6
    refine Wx.rd (v := .string (restV rim)) (rd_assign rfl) rfl ?_
    refine Wx.rd (v := .int .i64 0) (rd_assign rfl) rfl ?_
    refine Wx.nil ?_
    have e1_0 : (restE rim) = (restV rim) := by rw [restE, if_pos hr0]
    have e1_1 : (rimE rim) = (0 : Int) := by exact hr0
    exact W.ret ⟨.tuple #[.string (restV rim), .int .i64 0], ResIs.two, hS.bel, (by rw [e1_0, e1_1])⟩

theorem F34 {rim : ByteArray} {w : World} (s_rim : rim.size ≤ maxLen) (hG : Laid w) : Calls Tryd.prog 34 #[.string rim] w (Ret w (fun r _ => r = .tuple #[.bool (fullP rim), .int .i64 (rimE rim)])) := by
  have hS := St.start0 w
  refine enterR Tryd.func34 rfl Tryd.ntmps34 Tryd.results34 rfl ?_
  refine W.seq ?_
  refine W.reg ?_
  refine Wx.rd (v := .bool false) (rd_assign rfl) rfl ?_
  refine Wx.rd (v := .int .i64 0) (rd_assign rfl) rfl ?_
  refine Wx.nil ?_
  refine W.seq ?_
  refine W.reg ?_
  refine Wx.rd (v := .string rim) (rd_move rfl) rfl ?_
  refine Wx.callF (run_callF Tryd.call32 rfl) (F32 (by first | assumption | (simp only [maxLen]; omega) | (simp only [ByteArray.size_extract, ByteArray.size_append, maxLen] at *; omega) | decide) (hG.ext hS.bel)) rfl ?_
  rintro r_1 w_2 hx_3 rfl
  have hS := hS.ext hx_3
  refine Wx.rd (v := .tuple #[.string (restE rim), .int .i64 (rimE rim)]) (rd_move rfl) rfl ?_
  refine Wx.rd (v := .string (restE rim)) (rd_extract rfl rfl) rfl ?_
  refine Wx.rd (v := .int .i64 (rimE rim)) (rd_extract rfl rfl) rfl ?_
  refine Wx.rd (v := .string (restE rim)) (rd_assign rfl) rfl ?_
  refine Wx.rd (v := .int .i64 (rimE rim)) (rd_assign rfl) rfl ?_
  refine Wx.nil ?_
  refine W.seq ?_
  refine W.reg ?_
  refine Wx.rd (v := .int .i64 (rimE rim)) (rd_move rfl) rfl ?_
  refine Wx.rd (v := .bool (decide ((rimE rim) = 0))) (rd_eql rfl rfl) rfl ?_
  refine Wx.rd (v := .bool (decide ((rimE rim) = 0))) (rd_move rfl) rfl ?_
  refine Wx.cut (X := Unit) 3 [14, 15, 16] (fun _ => [(16, .bool (decide ((rimE rim) = 0) && (restE rim) == ({ data := #[] } : ByteArray)))]) (fun _ w' => St w [] w' []) ?_ ?_
  · rcases Bool.eq_false_or_eq_true (decide ((rimE rim) = 0)) with g_4 | g_4
    · -- True
      have gp_5 := of_decide_eq_true g_4
      refine Wx.gyes rfl rfl (congrArg Value.bool g_4) ?_
      refine Wx.rd (v := .string (restE rim)) (rd_move rfl) rfl ?_
      refine Wx.gyes rfl rfl (congrArg Value.bool g_4) ?_
      refine Wx.rd (v := .bool ((restE rim) == ({ data := #[] } : ByteArray))) (rd_eqlS rfl rfl) rfl ?_
      refine Wx.rd (v := .bool ((restE rim) == ({ data := #[] } : ByteArray))) (rd_pickT (congrArg Value.bool g_4) rfl) rfl ?_
      refine Wx.nil ⟨(), hS, ⟨?_, trivial⟩, Out.look rfl Out.refl⟩
      show Value.bool ((restE rim) == ({ data := #[] } : ByteArray)) = Value.bool (decide ((rimE rim) = 0) && (restE rim) == ({ data := #[] } : ByteArray))
      rw [g_4]; rfl
    · -- False
      have gp_6 := of_decide_eq_false g_4
      refine Wx.gnoB rfl rfl (congrArg Value.bool g_4) rfl rfl ?_
      refine Wx.gnoB rfl rfl (congrArg Value.bool g_4) rfl rfl ?_
      refine Wx.rd (v := .bool false) (rd_pickF (congrArg Value.bool g_4) rfl) rfl ?_
      refine Wx.nil ⟨(), hS, ⟨?_, trivial⟩, Out.look rfl Out.refl⟩
      show Value.bool false = Value.bool (decide ((rimE rim) = 0) && (restE rim) == ({ data := #[] } : ByteArray))
      rw [g_4]; rfl
  rintro ⟨⟩ u_8 w_7 hS
  refine Wx.rd (v := .int .i64 (rimE rim)) (rd_move rfl) rfl ?_
  refine Wx.rd (v := .bool (decide ((rimE rim) = 0) && (restE rim) == ({ data := #[] } : ByteArray))) (rd_assign rfl) rfl ?_
  refine Wx.rd (v := .int .i64 (rimE rim)) (rd_assign rfl) rfl ?_
  refine Wx.nil ?_
  have e0_0 : (fullP rim) = (decide ((rimE rim) = 0) && (restE rim) == ({ data := #[] } : ByteArray)) := by rw [fullP, restE]; by_cases h : rimE rim = 0; (rw [if_pos h]; rfl); (rw [decide_eq_false h]; rfl)
  exact W.ret ⟨.tuple #[.bool (decide ((rimE rim) = 0) && (restE rim) == ({ data := #[] } : ByteArray)), .int .i64 (rimE rim)], ResIs.two, hS.bel, (by rw [e0_0])⟩

theorem F35 {rim : ByteArray} {O : List (Option Nat)} {w : World} (s_rim : rim.size ≤ maxLen) (hO : ∀ b, some b ∈ O → b < w.heap.size) : Calls Tryd.prog 35 #[.string rim] w (Ret w (fun r _ => r = .tuple #[.bool (fullR rim), .int .i64 (rimE rim)])) := by
  have hS := St.start w O hO
  refine enterR Tryd.func35 rfl Tryd.ntmps35 Tryd.results35 rfl ?_
  refine W.seq ?_
  refine W.reg ?_
  refine Wx.rd (v := .bool false) (rd_assign rfl) rfl ?_
  refine Wx.rd (v := .int .i64 0) (rd_assign rfl) rfl ?_
  refine Wx.nil ?_
  refine W.seq ?_
  refine W.reg ?_
  refine Wx.rd (v := .string rim) (rd_move rfl) rfl ?_
  refine Wx.callF (run_callF Tryd.call18 rfl) (F18 (by first | assumption | (simp only [maxLen]; omega) | (simp only [ByteArray.size_extract, ByteArray.size_append, maxLen] at *; omega) | decide)) rfl ?_
  rintro r_1 w_2 hx_3 rfl
  have hS := hS.ext hx_3
  refine Wx.rd (v := .int .i64 (rimE rim)) (rd_assign rfl) rfl ?_
  refine Wx.nil ?_
  refine W.seq ?_
  refine W.seq ?_
  refine W.reg ?_
  refine Wx.rd (v := .int .i64 (rimE rim)) (rd_move rfl) rfl ?_
  refine Wx.rd (v := .bool (decide ((rimE rim) ≠ 0))) (rd_neq rfl rfl) rfl ?_
  refine Wx.nil ?_
  refine W.condD rfl (fun c0 => ?_) (fun c0 => ?_)
  · -- yes
    refine W.seq ?_
    refine W.reg ?_
    refine Wx.rd (v := .int .i64 (rimE rim)) (rd_move rfl) rfl ?_
    refine Wx.rd (v := .bool false) (rd_assign rfl) rfl ?_
    refine Wx.rd (v := .int .i64 (rimE rim)) (rd_assign rfl) rfl ?_
    refine Wx.nil ?_
    have e0_0 : (fullR rim) = false := by rw [fullR, if_neg c0]
    exact W.ret ⟨.tuple #[.bool false, .int .i64 (rimE rim)], ResIs.two, hS.bel, (by rw [e0_0])⟩
  · -- no
    have hr0 : rimE rim = 0 := by omega
    obtain ⟨hr1, hr2⟩ := rimE_ok hr0
    have hmh := most_half rim
    refine W.skip ?_
    refine W.seq ?_
    refine W.reg ?_
    refine Wx.rd (v := .string rim) (rd_move rfl) rfl ?_
    refine Wx.callF (run_callF Tryd.call68 rfl) (F68 (by first | assumption | (simp only [maxLen]; omega) | (simp only [ByteArray.size_extract, ByteArray.size_append, maxLen] at *; omega) | decide) (by omega) hr2 hS.fb_lt) rfl ?_
    rintro r_4 w_5 hx_6 ⟨v_7, rfl, hv_8⟩
    have ln_10 := hv_8.len63
    have hS := hS.ext hx_6
    have hS := hS.add hv_8
    refine Wx.rd (v := .tuple #[v_7, .int .i64 ((allV rim).1)]) (rd_move rfl) rfl ?_
    refine Wx.rd (v := v_7) (rd_extract rfl rfl) rfl ?_
    refine Wx.rd (v := .int .i64 ((allV rim).1)) (rd_extract rfl rfl) rfl ?_
    refine Wx.rd (v := v_7) (rd_assign rfl) rfl ?_
    refine Wx.rd (v := .int .i64 ((allV rim).1)) (rd_assign rfl) rfl ?_
    refine Wx.nil ?_
    refine W.seq ?_
    refine W.reg ?_
    refine Wx.rd (v := .int .i64 ((allV rim).1)) (rd_move rfl) rfl ?_
    refine Wx.rd (v := .int .i64 (2 * ((allV rim).1))) (rd_mul rfl rfl (in_i64 (by omega) (by omega))) rfl ?_
    refine Wx.rd (v := .string rim) (rd_move rfl) rfl ?_
    refine Wx.rd (v := .int .i64 (rim.size : Int)) (rd_lenS rfl Tryd.underlying9) rfl ?_
    refine Wx.rd (v := .bool (decide ((2 * ((allV rim).1)) = (rim.size : Int)))) (rd_eql rfl rfl) rfl ?_
    refine Wx.rd (v := .bool (decide ((2 * ((allV rim).1)) = (rim.size : Int)))) (rd_assign rfl) rfl ?_
    refine Wx.rd (v := .int .i64 0) (rd_assign rfl) rfl ?_
    refine Wx.nil ?_
    have e1_0 : (fullR rim) = (decide ((2 * ((allV rim).1)) = (rim.size : Int))) := by rw [fullR, if_pos hr0]
    have e1_1 : (rimE rim) = (0 : Int) := by exact hr0
    exact W.ret ⟨.tuple #[.bool (decide ((2 * ((allV rim).1)) = (rim.size : Int))), .int .i64 0], ResIs.two, hS.bel, (by rw [e1_0, e1_1])⟩

theorem F36 {rim : ByteArray} {w : World} (s_rim : rim.size ≤ maxLen) (hG : Laid w) : Calls Tryd.prog 36 #[.string rim] w (Ret w (fun r _ => r = .tuple #[.string (coreV rim), .int .i64 (rimE rim)])) := by
  have hS := St.start0 w
  refine enterR Tryd.func36 rfl Tryd.ntmps36 Tryd.results36 rfl ?_
  refine W.seq ?_
  refine W.reg ?_
  refine Wx.rd (v := .string ({ data := #[] } : ByteArray)) (rd_assign rfl) rfl ?_
  refine Wx.rd (v := .int .i64 0) (rd_assign rfl) rfl ?_
  refine Wx.nil ?_
  refine W.seq ?_
  refine W.reg ?_
  refine Wx.rd (v := .string rim) (rd_move rfl) rfl ?_
  refine Wx.callF (run_callF Tryd.call32 rfl) (F32 (by first | assumption | (simp only [maxLen]; omega) | (simp only [ByteArray.size_extract, ByteArray.size_append, maxLen] at *; omega) | decide) (hG.ext hS.bel)) rfl ?_
  rintro r_1 w_2 hx_3 rfl
  have hS := hS.ext hx_3
  refine Wx.rd (v := .tuple #[.string (restE rim), .int .i64 (rimE rim)]) (rd_move rfl) rfl ?_
  refine Wx.rd (v := .string (restE rim)) (rd_extract rfl rfl) rfl ?_
  refine Wx.rd (v := .int .i64 (rimE rim)) (rd_extract rfl rfl) rfl ?_
  refine Wx.rd (v := .string (restE rim)) (rd_assign rfl) rfl ?_
  refine Wx.rd (v := .int .i64 (rimE rim)) (rd_assign rfl) rfl ?_
  refine Wx.nil ?_
  refine W.seq ?_
  refine W.seq ?_
  refine W.reg ?_
  refine Wx.rd (v := .int .i64 (rimE rim)) (rd_move rfl) rfl ?_
  refine Wx.rd (v := .bool (decide ((rimE rim) ≠ 0))) (rd_neq rfl rfl) rfl ?_
  refine Wx.nil ?_
  refine W.condD rfl (fun c0 => ?_) (fun c0 => ?_)
  · -- yes
    refine W.seq ?_
    refine W.reg ?_
    refine Wx.rd (v := .int .i64 (rimE rim)) (rd_move rfl) rfl ?_
    refine Wx.rd (v := .string ({ data := #[] } : ByteArray)) (rd_assign rfl) rfl ?_
    refine Wx.rd (v := .int .i64 (rimE rim)) (rd_assign rfl) rfl ?_
    refine Wx.nil ?_
    have e0_0 : (coreV rim) = ({ data := #[] } : ByteArray) := by rw [coreV, if_neg c0]; rfl
    exact W.ret ⟨.tuple #[.string ({ data := #[] } : ByteArray), .int .i64 (rimE rim)], ResIs.two, hS.bel, (by rw [e0_0])⟩
  · -- no
    have hr0 : rimE rim = 0 := by omega
    obtain ⟨hr1, hr2⟩ := rimE_ok hr0
    have hrs := rest_size (s := rim)
    have hre : restE rim = restV rim := if_pos hr0
    refine W.skip ?_
    refine W.seq ?_
    refine W.block ?_
    refine W.loop [4, 14, 15, 16, 17, 18, 19, 20, 21, 22, 23, 24, 25, 26, 27, 28] (fun (cur : ByteArray) => [(4, .string cur)]) (fun (cur : ByteArray) w' => St w [] w' [] ∧ coreF cur = coreF (restV rim) ∧ Lets cur ∧ (cur.size : Int) ≤ 12) (fun (cur : ByteArray) => cur.size) (restE rim) ⟨rfl, trivial⟩ ⟨hS, (by rw [hre]), (by rw [hre]; exact hr2.rest), (by rw [hre]; omega)⟩ ?_
    rintro cur u_5 w_4 ⟨hS, h1, h2, h3⟩
    refine W.seq ?_
    refine W.seq ?_
    refine W.reg ?_
    refine Wx.rd (v := .string cur) (rd_move rfl) rfl ?_
    refine Wx.rd (v := .int .i64 (cur.size : Int)) (rd_lenS rfl Tryd.underlying9) rfl ?_
    refine Wx.rd (v := .bool (decide (1 < (cur.size : Int)))) (rd_gtr rfl rfl) rfl ?_
    refine Wx.rd (v := .bool (decide (1 < (cur.size : Int)))) (rd_move rfl) rfl ?_
    refine Wx.cut (X := Unit) 6 [18, 19, 20, 21, 22, 23] (fun _ => [(23, .bool (decide (1 < (cur.size : Int)) && fitR cur 0 ((cur.size : Int) - 1)))]) (fun _ w' => St w [] w' []) ?_ ?_
    · rcases Bool.eq_false_or_eq_true (decide (1 < (cur.size : Int))) with g_6 | g_6
      · -- True
        have gp_7 := of_decide_eq_true g_6
        refine Wx.gyes rfl rfl (congrArg Value.bool g_6) ?_
        refine Wx.rd (v := .string cur) (rd_move rfl) rfl ?_
        refine Wx.gyes rfl rfl (congrArg Value.bool g_6) ?_
        refine Wx.rd (v := .string cur) (rd_move rfl) rfl ?_
        refine Wx.gyes rfl rfl (congrArg Value.bool g_6) ?_
        refine Wx.rd (v := .int .i64 (cur.size : Int)) (rd_lenS rfl Tryd.underlying9) rfl ?_
        refine Wx.gyes rfl rfl (congrArg Value.bool g_6) ?_
        refine Wx.rd (v := .int .i64 ((cur.size : Int) - 1)) (rd_sub rfl rfl (in_i64 (by omega) (by omega))) rfl ?_
        refine Wx.gyes rfl rfl (congrArg Value.bool g_6) ?_
        refine Wx.callF (run_callF Tryd.call61 rfl) (F61 (by first | assumption | (simp only [maxLen]; omega) | (simp only [ByteArray.size_extract, ByteArray.size_append, maxLen] at *; omega) | decide) (in_i64 (by omega) (by omega)) (in_i64 (by omega) (by omega)) (by omega) (by omega) (by omega) (by omega) (by omega) (hG.ext hS.bel)) rfl ?_
        rintro r_8 w_9 hx_10 rfl
        have hS := hS.ext hx_10
        refine Wx.rd (v := .bool (fitR cur 0 ((cur.size : Int) - 1))) (rd_pickT (congrArg Value.bool g_6) rfl) rfl ?_
        refine Wx.nil ⟨(), hS, ⟨?_, trivial⟩, Out.look rfl Out.refl⟩
        show Value.bool (fitR cur 0 ((cur.size : Int) - 1)) = Value.bool (decide (1 < (cur.size : Int)) && fitR cur 0 ((cur.size : Int) - 1))
        rw [g_6]; rfl
      · -- False
        have gp_11 := of_decide_eq_false g_6
        refine Wx.gnoB rfl rfl (congrArg Value.bool g_6) rfl rfl ?_
        refine Wx.gnoB rfl rfl (congrArg Value.bool g_6) rfl rfl ?_
        refine Wx.gnoB rfl rfl (congrArg Value.bool g_6) rfl rfl ?_
        refine Wx.gnoB rfl rfl (congrArg Value.bool g_6) rfl rfl ?_
        refine Wx.gnoB rfl rfl (congrArg Value.bool g_6) rfl rfl ?_
        refine Wx.rd (v := .bool false) (rd_pickF (congrArg Value.bool g_6) rfl) rfl ?_
        refine Wx.nil ⟨(), hS, ⟨?_, trivial⟩, Out.look rfl Out.refl⟩
        show Value.bool false = Value.bool (decide (1 < (cur.size : Int)) && fitR cur 0 ((cur.size : Int) - 1))
        rw [g_6]; rfl
    rintro ⟨⟩ u_13 w_12 hS
    refine Wx.nil ?_
    refine W.cond rfl (fun c1 => ?_) (fun c1 => ?_)
    · -- yes
      try simp only [Bool.and_eq_true, Bool.or_eq_true, Bool.not_eq_true', Bool.and_eq_false_iff, Bool.or_eq_false_iff, Bool.not_eq_false', decide_eq_true_eq, decide_eq_false_iff_not, not_or, Bool.false_eq_true, Bool.true_eq_false, false_or, or_false, not_false_eq_true] at c1
      refine W.skip ?_
      refine W.block ?_
      refine W.reg ?_
      refine Wx.rd (v := .string cur) (rd_move rfl) rfl ?_
      refine Wx.rd (v := .string cur) (rd_move rfl) rfl ?_
      refine Wx.rd (v := .int .i64 (cur.size : Int)) (rd_lenS rfl Tryd.underlying9) rfl ?_
      refine Wx.rd (v := .int .i64 ((cur.size : Int) - 1)) (rd_sub rfl rfl (in_i64 (by omega) (by omega))) rfl ?_
      refine Wx.rd (v := .string ((cur).extract (1 : Int).toNat ((cur.size : Int) - 1).toNat)) (rd_sliceS_LH Tryd.underlying9 rfl rfl rfl (by omega) (by omega) (by omega)) rfl ?_
      refine Wx.rd (v := .string ((cur).extract (1 : Int).toNat ((cur.size : Int) - 1).toNat)) (rd_assign rfl) rfl ?_
      refine Wx.nil ?_
      refine ⟨(cur).extract (1 : Int).toNat ((cur.size : Int) - 1).toNat, (by exact inner_lt c1.1), ?_, ?_, Out.look rfl (Out.hav rfl (Out.look rfl Out.self))⟩
      · exact ⟨hS, ((coreF_yes c1).trans h1), (h2.extract _ _), (inner_le h3)⟩
      · exact ⟨rfl, trivial⟩
    · -- no
      try simp only [Bool.and_eq_true, Bool.or_eq_true, Bool.not_eq_true', Bool.and_eq_false_iff, Bool.or_eq_false_iff, Bool.not_eq_false', decide_eq_true_eq, decide_eq_false_iff_not, not_or, Bool.false_eq_true, Bool.true_eq_false, false_or, or_false, not_false_eq_true] at c1
      refine W.exit rfl ?_
      refine W.seq ?_
      refine W.reg ?_
      refine Wx.rd (v := .string cur) (rd_move rfl) rfl ?_
      refine Wx.rd (v := .string cur) (rd_assign rfl) rfl ?_
      refine Wx.rd (v := .int .i64 0) (rd_assign rfl) rfl ?_
      refine Wx.nil ?_
      have e1_0 : (coreV rim) = cur := by rw [coreV, if_pos hr0, ← h1, coreF_no c1]
      have e1_1 : (rimE rim) = (0 : Int) := by exact hr0
      exact W.ret ⟨.tuple #[.string cur, .int .i64 0], ResIs.two, hS.bel, (by rw [e1_0, e1_1])⟩

theorem F77 {rim : ByteArray} {O : List (Option Nat)} {w : World} (s_rim : rim.size ≤ maxLen) (p_12 : (rim.size : Int) ≤ 12) (p_l : Lets rim) (hO : ∀ b, some b ∈ O → b < w.heap.size) : Calls Tryd.prog 77 #[.string rim] w (Ret w (fun r _ => r = .string (coreF (restV rim)))) := by
  have hrs := rest_size (s := rim)
  have hS := St.start w O hO
  refine enterR Tryd.func77 rfl Tryd.ntmps77 Tryd.results77 rfl ?_
  refine W.seq ?_
  refine W.reg ?_
  refine Wx.rd (v := .string ({ data := #[] } : ByteArray)) (rd_assign rfl) rfl ?_
  refine Wx.nil ?_
  refine W.seq ?_
  refine W.reg ?_
  refine Wx.rd (v := .string rim) (rd_move rfl) rfl ?_
  refine Wx.callF (run_callF Tryd.call76 rfl) (F76 (by first | assumption | (simp only [maxLen]; omega) | (simp only [ByteArray.size_extract, ByteArray.size_append, maxLen] at *; omega) | decide) (by omega) (by omega) hS.fb_lt) rfl ?_
  rintro r_1 w_2 hx_3 rfl
  have hS := hS.ext hx_3
  refine Wx.rd (v := .string (restV rim)) (rd_assign rfl) rfl ?_
  refine Wx.nil ?_
  refine W.seq ?_
  refine W.block ?_
  refine W.loop [3, 6, 7, 8, 9, 10, 11, 12, 13, 14, 15, 16, 17, 18, 19, 20] (fun (cur : ByteArray) => [(3, .string cur)]) (fun (cur : ByteArray) w' => St w O w' [] ∧ coreF cur = coreF (restV rim) ∧ Lets cur ∧ (cur.size : Int) ≤ 12) (fun (cur : ByteArray) => cur.size) (restV rim) ⟨rfl, trivial⟩ ⟨hS, (rfl), (p_l.rest), (by omega)⟩ ?_
  rintro cur u_5 w_4 ⟨hS, h1, h2, h3⟩
  refine W.seq ?_
  refine W.seq ?_
  refine W.reg ?_
  refine Wx.rd (v := .string cur) (rd_move rfl) rfl ?_
  refine Wx.rd (v := .int .i64 (cur.size : Int)) (rd_lenS rfl Tryd.underlying9) rfl ?_
  refine Wx.rd (v := .bool (decide (1 < (cur.size : Int)))) (rd_gtr rfl rfl) rfl ?_
  refine Wx.rd (v := .bool (decide (1 < (cur.size : Int)))) (rd_move rfl) rfl ?_
  refine Wx.cut (X := Unit) 6 [10, 11, 12, 13, 14, 15] (fun _ => [(15, .bool (decide (1 < (cur.size : Int)) && fitR cur 0 ((cur.size : Int) - 1)))]) (fun _ w' => St w O w' []) ?_ ?_
  · rcases Bool.eq_false_or_eq_true (decide (1 < (cur.size : Int))) with g_6 | g_6
    · -- True
      have gp_7 := of_decide_eq_true g_6
      refine Wx.gyes rfl rfl (congrArg Value.bool g_6) ?_
      refine Wx.rd (v := .string cur) (rd_move rfl) rfl ?_
      refine Wx.gyes rfl rfl (congrArg Value.bool g_6) ?_
      refine Wx.rd (v := .string cur) (rd_move rfl) rfl ?_
      refine Wx.gyes rfl rfl (congrArg Value.bool g_6) ?_
      refine Wx.rd (v := .int .i64 (cur.size : Int)) (rd_lenS rfl Tryd.underlying9) rfl ?_
      refine Wx.gyes rfl rfl (congrArg Value.bool g_6) ?_
      refine Wx.rd (v := .int .i64 ((cur.size : Int) - 1)) (rd_sub rfl rfl (in_i64 (by omega) (by omega))) rfl ?_
      refine Wx.gyes rfl rfl (congrArg Value.bool g_6) ?_
      refine Wx.callF (run_callF Tryd.call64 rfl) (F64 (by first | assumption | (simp only [maxLen]; omega) | (simp only [ByteArray.size_extract, ByteArray.size_append, maxLen] at *; omega) | decide) (in_i64 (by omega) (by omega)) (in_i64 (by omega) (by omega)) (by omega) (by omega) (by omega) (by omega) (by omega)) rfl ?_
      rintro r_8 w_9 hx_10 rfl
      have hS := hS.ext hx_10
      refine Wx.rd (v := .bool (fitR cur 0 ((cur.size : Int) - 1))) (rd_pickT (congrArg Value.bool g_6) rfl) rfl ?_
      refine Wx.nil ⟨(), hS, ⟨?_, trivial⟩, Out.look rfl Out.refl⟩
      show Value.bool (fitR cur 0 ((cur.size : Int) - 1)) = Value.bool (decide (1 < (cur.size : Int)) && fitR cur 0 ((cur.size : Int) - 1))
      rw [g_6]; rfl
    · -- False
      have gp_11 := of_decide_eq_false g_6
      refine Wx.gnoB rfl rfl (congrArg Value.bool g_6) rfl rfl ?_
      refine Wx.gnoB rfl rfl (congrArg Value.bool g_6) rfl rfl ?_
      refine Wx.gnoB rfl rfl (congrArg Value.bool g_6) rfl rfl ?_
      refine Wx.gnoB rfl rfl (congrArg Value.bool g_6) rfl rfl ?_
      refine Wx.gnoB rfl rfl (congrArg Value.bool g_6) rfl rfl ?_
      refine Wx.rd (v := .bool false) (rd_pickF (congrArg Value.bool g_6) rfl) rfl ?_
      refine Wx.nil ⟨(), hS, ⟨?_, trivial⟩, Out.look rfl Out.refl⟩
      show Value.bool false = Value.bool (decide (1 < (cur.size : Int)) && fitR cur 0 ((cur.size : Int) - 1))
      rw [g_6]; rfl
  rintro ⟨⟩ u_13 w_12 hS
  refine Wx.nil ?_
  refine W.cond rfl (fun c0 => ?_) (fun c0 => ?_)
  · -- yes
    try simp only [Bool.and_eq_true, Bool.or_eq_true, Bool.not_eq_true', Bool.and_eq_false_iff, Bool.or_eq_false_iff, Bool.not_eq_false', decide_eq_true_eq, decide_eq_false_iff_not, not_or, Bool.false_eq_true, Bool.true_eq_false, false_or, or_false, not_false_eq_true] at c0
    refine W.skip ?_
    refine W.block ?_
    refine W.reg ?_
    refine Wx.rd (v := .string cur) (rd_move rfl) rfl ?_
    refine Wx.rd (v := .string cur) (rd_move rfl) rfl ?_
    refine Wx.rd (v := .int .i64 (cur.size : Int)) (rd_lenS rfl Tryd.underlying9) rfl ?_
    refine Wx.rd (v := .int .i64 ((cur.size : Int) - 1)) (rd_sub rfl rfl (in_i64 (by omega) (by omega))) rfl ?_
    refine Wx.rd (v := .string ((cur).extract (1 : Int).toNat ((cur.size : Int) - 1).toNat)) (rd_sliceS_LH Tryd.underlying9 rfl rfl rfl (by omega) (by omega) (by omega)) rfl ?_
    refine Wx.rd (v := .string ((cur).extract (1 : Int).toNat ((cur.size : Int) - 1).toNat)) (rd_assign rfl) rfl ?_
    refine Wx.nil ?_
    refine ⟨(cur).extract (1 : Int).toNat ((cur.size : Int) - 1).toNat, (by exact inner_lt c0.1), ?_, ?_, Out.look rfl (Out.hav rfl (Out.look rfl Out.self))⟩
    · exact ⟨hS, ((coreF_yes c0).trans h1), (h2.extract _ _), (inner_le h3)⟩
    · exact ⟨rfl, trivial⟩
  · -- no
    try simp only [Bool.and_eq_true, Bool.or_eq_true, Bool.not_eq_true', Bool.and_eq_false_iff, Bool.or_eq_false_iff, Bool.not_eq_false', decide_eq_true_eq, decide_eq_false_iff_not, not_or, Bool.false_eq_true, Bool.true_eq_false, false_or, or_false, not_false_eq_true] at c0
    refine W.exit rfl ?_
    refine W.seq ?_
    refine W.reg ?_
    refine Wx.rd (v := .string cur) (rd_move rfl) rfl ?_
    refine Wx.rd (v := .string cur) (rd_assign rfl) rfl ?_
    refine Wx.nil ?_
    have e0_0 : (coreF (restV rim)) = cur := by rw [← h1, coreF_no c0]
    exact W.ret ⟨.string cur, ResIs.one, hS.bel, (by rw [e0_0])⟩

theorem F37 {rim : ByteArray} {O : List (Option Nat)} {w : World} (s_rim : rim.size ≤ maxLen) (hO : ∀ b, some b ∈ O → b < w.heap.size) : Calls Tryd.prog 37 #[.string rim] w (Ret w (fun r _ => r = .tuple #[.string (coreV rim), .int .i64 (rimE rim)])) := by
  have hS := St.start w O hO
  refine enterR Tryd.func37 rfl Tryd.ntmps37 Tryd.results37 rfl ?_
  refine W.seq ?_
  refine W.reg ?_
  refine Wx.rd (v := .string ({ data := #[] } : ByteArray)) (rd_assign rfl) rfl ?_
  refine Wx.rd (v := .int .i64 0) (rd_assign rfl) rfl ?_
  refine Wx.nil ?_
  refine W.seq ?_
  refine W.reg ?_
  refine Wx.rd (v := .string rim) (rd_move rfl) rfl ?_
  refine Wx.callF (run_callF Tryd.call18 rfl) (F18 (by first | assumption | (simp only [maxLen]; omega) | (simp only [ByteArray.size_extract, ByteArray.size_append, maxLen] at *; omega) | decide)) rfl ?_
  rintro r_1 w_2 hx_3 rfl
  have hS := hS.ext hx_3
  refine Wx.rd (v := .int .i64 (rimE rim)) (rd_assign rfl) rfl ?_
  refine Wx.nil ?_
  refine W.seq ?_
  refine W.seq ?_
  refine W.reg ?_
  refine Wx.rd (v := .int .i64 (rimE rim)) (rd_move rfl) rfl ?_
  refine Wx.rd (v := .bool (decide ((rimE rim) ≠ 0))) (rd_neq rfl rfl) rfl ?_
  refine Wx.nil ?_
  refine W.condD rfl (fun c0 => ?_) (fun c0 => ?_)
  · -- yes
    refine W.seq ?_
    refine W.reg ?_
    refine Wx.rd (v := .int .i64 (rimE rim)) (rd_move rfl) rfl ?_
    refine Wx.rd (v := .string ({ data := #[] } : ByteArray)) (rd_assign rfl) rfl ?_
    refine Wx.rd (v := .int .i64 (rimE rim)) (rd_assign rfl) rfl ?_
    refine Wx.nil ?_
    have e0_0 : (coreV rim) = ({ data := #[] } : ByteArray) := by rw [coreV, if_neg c0]; rfl
    exact W.ret ⟨.tuple #[.string ({ data := #[] } : ByteArray), .int .i64 (rimE rim)], ResIs.two, hS.bel, (by rw [e0_0])⟩
  · -- no
    have hr0 : rimE rim = 0 := by omega
    obtain ⟨hr1, hr2⟩ := rimE_ok hr0
    refine W.skip ?_
    refine W.seq ?_
    refine W.reg ?_
    refine Wx.rd (v := .string rim) (rd_move rfl) rfl ?_
    refine Wx.callF (run_callF Tryd.call77 rfl) (F77 (by first | assumption | (simp only [maxLen]; omega) | (simp only [ByteArray.size_extract, ByteArray.size_append, maxLen] at *; omega) | decide) (by omega) hr2 hS.fb_lt) rfl ?_
    rintro r_4 w_5 hx_6 rfl
    have hS := hS.ext hx_6
    refine Wx.rd (v := .string (coreF (restV rim))) (rd_assign rfl) rfl ?_
    refine Wx.rd (v := .int .i64 0) (rd_assign rfl) rfl ?_
    refine Wx.nil ?_
    have e1_0 : (coreV rim) = (coreF (restV rim)) := by rw [coreV, if_pos hr0]
    have e1_1 : (rimE rim) = (0 : Int) := by exact hr0
    exact W.ret ⟨.tuple #[.string (coreF (restV rim)), .int .i64 0], ResIs.two, hS.bel, (by rw [e1_0, e1_1])⟩
end Go.Proofs.YtokdjjebnomciaaDoor

namespace Go.Proofs.YtokdjjebnomciaaDoor
open Go.Wk Go.RowKit Go.Lib
set_option linter.unusedVariables false
set_option linter.unusedSimpArgs false
theorem mixedHi_ : Tryd.prog.follows .mixedOrders = true := by kernel_rfl

theorem F38 {rim : ByteArray} {d : Int} {w : World} (s_rim : rim.size ≤ maxLen) (i_d : InK .i64 d) (hG : Laid w) : Calls Tryd.prog 38 #[.string rim, .int .i64 d] w (Ret w (fun r _ => r = .tuple #[.string (turnS rim d), .int .i64 (turnE rim d)])) := by
  have b_d := bd_i64 i_d
  have hS := St.start0 w
  refine enterR Tryd.func38 rfl Tryd.ntmps38 Tryd.results38 rfl ?_
  refine W.seq ?_
  refine W.reg ?_
  refine Wx.rd (v := .string ({ data := #[] } : ByteArray)) (rd_assign rfl) rfl ?_
  refine Wx.rd (v := .int .i64 0) (rd_assign rfl) rfl ?_
  refine Wx.nil ?_
  refine W.seq ?_
  refine W.reg ?_
  refine Wx.rd (v := .string rim) (rd_move rfl) rfl ?_
  refine Wx.callF (run_callF Tryd.call17 rfl) (F17 (by first | assumption | (simp only [maxLen]; omega) | (simp only [ByteArray.size_extract, ByteArray.size_append, maxLen] at *; omega) | decide)) rfl ?_
  rintro r_1 w_2 hx_3 rfl
  have hS := hS.ext hx_3
  refine Wx.rd (v := .int .i64 (rimE rim)) (rd_assign rfl) rfl ?_
  refine Wx.nil ?_
  refine W.seq ?_
  refine W.block ?_
  refine W.seq ?_
  refine W.reg ?_
  refine Wx.rd (v := .int .i64 (rimE rim)) (rd_move rfl) rfl ?_
  refine Wx.rd (v := .bool (decide ((rimE rim) ≠ 0))) (rd_neq rfl rfl) rfl ?_
  refine Wx.rd (v := .bool (decide ((rimE rim) ≠ 0))) (rd_assign rfl) rfl ?_
  refine Wx.nil ?_
  refine W.condD rfl (fun c0 => ?_) (fun c0 => ?_)
  · -- yes
    refine W.seq ?_
    refine W.reg ?_
    refine Wx.rd (v := .int .i64 (rimE rim)) (rd_move rfl) rfl ?_
    refine Wx.rd (v := .string ({ data := #[] } : ByteArray)) (rd_assign rfl) rfl ?_
    refine Wx.rd (v := .int .i64 (rimE rim)) (rd_assign rfl) rfl ?_
    refine Wx.nil ?_
    have e0_0 : (turnS rim d) = ({ data := #[] } : ByteArray) := by exact (turn_err c0).1
    have e0_1 : (turnE rim d) = (rimE rim : Int) := by exact (turn_err c0).2
    exact W.ret ⟨.tuple #[.string ({ data := #[] } : ByteArray), .int .i64 (rimE rim)], ResIs.two, hS.bel, (by rw [e0_0, e0_1])⟩
  · -- no
    have hr0 : rimE rim = 0 := by omega
    obtain ⟨hr1, hr2⟩ := rimE_ok hr0
    refine W.seq ?_
    refine W.reg ?_
    refine Wx.rd (v := .int .i64 d) (rd_move rfl) rfl ?_
    refine Wx.rd (v := .bool (decide (d < 0))) (rd_lss rfl rfl) rfl ?_
    refine Wx.rd (v := .bool (decide (d < 0))) (rd_move rfl) rfl ?_
    refine Wx.cut (X := Unit) 9 [17, 18, 19, 20, 21, 22, 23, 24, 25] (fun _ => [(25, .bool (decide (d < 0) || (decide (0 < d) && decide ((rim.size : Int) ≤ d))))]) (fun _ w' => St w [] w' []) ?_ ?_
    · rcases Bool.eq_false_or_eq_true (decide (d < 0)) with g_4 | g_4
      · -- True
        have gp_5 := of_decide_eq_true g_4
        refine Wx.gnoB rfl rfl (congrArg Value.bool g_4) rfl rfl ?_
        refine Wx.gnoB rfl rfl (congrArg Value.bool g_4) rfl rfl ?_
        refine Wx.gnoB rfl rfl (congrArg Value.bool g_4) rfl rfl ?_
        refine Wx.gno rfl rfl rfl rfl ?_
        refine Wx.gno rfl rfl rfl rfl ?_
        refine Wx.gno rfl rfl rfl rfl ?_
        refine Wx.gno rfl rfl rfl rfl ?_
        refine Wx.gnoB rfl rfl (congrArg Value.bool g_4) rfl rfl ?_
        refine Wx.rd (v := .bool true) (rd_pickT (congrArg Value.bool g_4) rfl) rfl ?_
        refine Wx.nil ⟨(), hS, ⟨?_, trivial⟩, Out.look rfl Out.refl⟩
        show Value.bool true = Value.bool (decide (d < 0) || (decide (0 < d) && decide ((rim.size : Int) ≤ d)))
        rw [g_4]; rfl
      · -- False
        have gp_6 := of_decide_eq_false g_4
        refine Wx.gyes rfl rfl (congrArg Value.bool g_4) ?_
        refine Wx.rd (v := .int .i64 d) (rd_move rfl) rfl ?_
        refine Wx.gyes rfl rfl (congrArg Value.bool g_4) ?_
        refine Wx.rd (v := .bool (decide (0 < d))) (rd_gtr rfl rfl) rfl ?_
        refine Wx.gyes rfl rfl (congrArg Value.bool g_4) ?_
        refine Wx.rd (v := .bool (decide (0 < d))) (rd_move rfl) rfl ?_
        refine Wx.cut (X := Unit) 5 [20, 21, 22, 23, 24] (fun _ => [(24, .bool (decide (0 < d) && decide ((rim.size : Int) ≤ d)))]) (fun _ w' => St w [] w' []) ?_ ?_
        · rcases Bool.eq_false_or_eq_true (decide (0 < d)) with g_7 | g_7
          · -- True
            have gp_8 := of_decide_eq_true g_7
            refine Wx.gyes rfl rfl (congrArg Value.bool g_7) ?_
            refine Wx.rd (v := .int .i64 d) (rd_move rfl) rfl ?_
            refine Wx.gyes rfl rfl (congrArg Value.bool g_7) ?_
            refine Wx.rd (v := .string rim) (rd_move rfl) rfl ?_
            refine Wx.gyes rfl rfl (congrArg Value.bool g_7) ?_
            refine Wx.rd (v := .int .i64 (rim.size : Int)) (rd_lenS rfl Tryd.underlying9) rfl ?_
            refine Wx.gyes rfl rfl (congrArg Value.bool g_7) ?_
            refine Wx.rd (v := .bool (decide ((rim.size : Int) ≤ d))) (rd_geq rfl rfl) rfl ?_
            refine Wx.gyes rfl rfl (congrArg Value.bool g_4) ?_
            refine Wx.rd (v := .bool (decide ((rim.size : Int) ≤ d))) (rd_pickT (congrArg Value.bool g_7) rfl) rfl ?_
            refine Wx.nil ⟨(), hS, ⟨?_, trivial⟩, Out.look rfl Out.refl⟩
            show Value.bool (decide ((rim.size : Int) ≤ d)) = Value.bool (decide (0 < d) && decide ((rim.size : Int) ≤ d))
            rw [g_7]; rfl
          · -- False
            have gp_9 := of_decide_eq_false g_7
            refine Wx.gnoB rfl rfl (congrArg Value.bool g_7) rfl rfl ?_
            refine Wx.gnoB rfl rfl (congrArg Value.bool g_7) rfl rfl ?_
            refine Wx.gnoB rfl rfl (congrArg Value.bool g_7) rfl rfl ?_
            refine Wx.gnoB rfl rfl (congrArg Value.bool g_7) rfl rfl ?_
            refine Wx.gyes rfl rfl (congrArg Value.bool g_4) ?_
            refine Wx.rd (v := .bool false) (rd_pickF (congrArg Value.bool g_7) rfl) rfl ?_
            refine Wx.nil ⟨(), hS, ⟨?_, trivial⟩, Out.look rfl Out.refl⟩
            show Value.bool false = Value.bool (decide (0 < d) && decide ((rim.size : Int) ≤ d))
            rw [g_7]; rfl
        rintro ⟨⟩ u_11 w_10 hS
        refine Wx.rd (v := .bool (decide (0 < d) && decide ((rim.size : Int) ≤ d))) (rd_pickF (congrArg Value.bool g_4) rfl) rfl ?_
        refine Wx.nil ⟨(), hS, ⟨?_, trivial⟩, Out.look rfl (Out.hav rfl (Out.look rfl Out.refl))⟩
        show Value.bool (decide (0 < d) && decide ((rim.size : Int) ≤ d)) = Value.bool (decide (d < 0) || (decide (0 < d) && decide ((rim.size : Int) ≤ d)))
        rw [g_4]; rfl
    rintro ⟨⟩ u_13 w_12 hS
    refine Wx.rd (v := .bool (decide (d < 0) || (decide (0 < d) && decide ((rim.size : Int) ≤ d)))) (rd_assign rfl) rfl ?_
    refine Wx.nil ?_
    refine W.cond rfl (fun c1 => ?_) (fun c1 => ?_)
    · -- yes
      try simp only [Bool.and_eq_true, Bool.or_eq_true, Bool.not_eq_true', Bool.and_eq_false_iff, Bool.or_eq_false_iff, Bool.not_eq_false', decide_eq_true_eq, decide_eq_false_iff_not, not_or, Bool.false_eq_true, Bool.true_eq_false, false_or, or_false, not_false_eq_true] at c1
      refine W.seq ?_
      refine W.reg ?_
      refine Wx.rd (v := .string ({ data := #[] } : ByteArray)) (rd_assign rfl) rfl ?_
      refine Wx.rd (v := .int .i64 1) (rd_assign rfl) rfl ?_
      refine Wx.nil ?_
      have e1_0 : (turnS rim d) = ({ data := #[] } : ByteArray) := by exact (turn_bad hr0 c1).1
      have e1_1 : (turnE rim d) = (1 : Int) := by exact (turn_bad hr0 c1).2
      exact W.ret ⟨.tuple #[.string ({ data := #[] } : ByteArray), .int .i64 1], ResIs.two, hS.bel, (by rw [e1_0, e1_1])⟩
    · -- no
      try simp only [Bool.and_eq_true, Bool.or_eq_true, Bool.not_eq_true', Bool.and_eq_false_iff, Bool.or_eq_false_iff, Bool.not_eq_false', decide_eq_true_eq, decide_eq_false_iff_not, not_or, Bool.false_eq_true, Bool.true_eq_false, false_or, or_false, not_false_eq_true] at c1
      refine W.skip ?_
      refine W.seq ?_
      refine W.regQ mixedHi_ (by kernel_rfl) ?_
      refine Wx.rd (v := .string rim) (rd_move rfl) rfl ?_
      refine Wx.rd (v := .int .i64 d) (rd_move rfl) rfl ?_
      refine Wx.rd (v := .string ((rim).extract d.toNat rim.size)) (rd_sliceS_L Tryd.underlying9 rfl rfl (by omega) (by omega)) rfl ?_
      refine Wx.rd (v := .string rim) (rd_move rfl) rfl ?_
      refine Wx.rd (v := .int .i64 d) (rd_move rfl) rfl ?_
      refine Wx.rd (v := .string ((rim).extract 0 d.toNat)) (rd_sliceS_H Tryd.underlying9 rfl rfl (by omega) (by omega)) rfl ?_
      refine Wx.rd (v := .string (((rim).extract d.toNat rim.size) ++ ((rim).extract 0 d.toNat))) (rd_addS rfl rfl (by rw [ByteArray.size_extract, ByteArray.size_extract]; omega)) rfl ?_
      refine Wx.rd (v := .string (((rim).extract d.toNat rim.size) ++ ((rim).extract 0 d.toNat))) (rd_assign rfl) rfl ?_
      refine Wx.rd (v := .int .i64 0) (rd_assign rfl) rfl ?_
      refine Wx.nilQ (fun w_14 hx_15 => ?_)
      have hS := hS.ext hx_15
      have e2_0 : (turnS rim d) = (((rim).extract d.toNat rim.size) ++ ((rim).extract 0 d.toNat)) := by exact (turn_ok hr0 (by omega)).1
      have e2_1 : (turnE rim d) = (0 : Int) := by exact (turn_ok hr0 (by omega)).2
      exact W.ret ⟨.tuple #[.string (((rim).extract d.toNat rim.size) ++ ((rim).extract 0 d.toNat)), .int .i64 0], ResIs.two, hS.bel, (by rw [e2_0, e2_1])⟩

theorem F39 {rim : ByteArray} {d : Int} {w : World} (s_rim : rim.size ≤ maxLen) (i_d : InK .i64 d) : Calls Tryd.prog 39 #[.string rim, .int .i64 d] w (Ret w (fun r _ => r = .tuple #[.string (turnS rim d), .int .i64 (turnE rim d)])) := by
  have b_d := bd_i64 i_d
  have hsm : (rim.size : Int) ≤ 9223372036854775807 := by have := s_rim; simp only [maxLen] at this; omega
  have hS := St.start0 w
  refine enterR Tryd.func39 rfl Tryd.ntmps39 Tryd.results39 rfl ?_
  refine W.seq ?_
  refine W.reg ?_
  refine Wx.rd (v := .string ({ data := #[] } : ByteArray)) (rd_assign rfl) rfl ?_
  refine Wx.rd (v := .int .i64 0) (rd_assign rfl) rfl ?_
  refine Wx.nil ?_
  refine W.seq ?_
  refine W.reg ?_
  refine Wx.rd (v := .string rim) (rd_move rfl) rfl ?_
  refine Wx.callF (run_callF Tryd.call18 rfl) (F18 (by first | assumption | (simp only [maxLen]; omega) | (simp only [ByteArray.size_extract, ByteArray.size_append, maxLen] at *; omega) | decide)) rfl ?_
  rintro r_1 w_2 hx_3 rfl
  have hS := hS.ext hx_3
  refine Wx.rd (v := .int .i64 (rimE rim)) (rd_assign rfl) rfl ?_
  refine Wx.nil ?_
  refine W.seq ?_
  refine W.seq ?_
  refine W.reg ?_
  refine Wx.rd (v := .int .i64 (rimE rim)) (rd_move rfl) rfl ?_
  refine Wx.rd (v := .bool (decide ((rimE rim) = 0))) (rd_eql rfl rfl) rfl ?_
  refine Wx.rd (v := .bool (decide ((rimE rim) = 0))) (rd_move rfl) rfl ?_
  refine Wx.cut (X := Unit) 8 [12, 13, 14, 15, 16, 17, 18, 19] (fun _ => [(19, .bool (decide ((rimE rim) = 0) && !(decide (0 ≤ d) && decide (d ≤ (max 0 ((rim.size : Int) - 1))))))]) (fun _ w' => St w [] w' []) ?_ ?_
  · rcases Bool.eq_false_or_eq_true (decide ((rimE rim) = 0)) with g_4 | g_4
    · -- True
      have gp_5 := of_decide_eq_true g_4
      refine Wx.gyes rfl rfl (congrArg Value.bool g_4) ?_
      refine Wx.rd (v := .int .i64 d) (rd_move rfl) rfl ?_
      refine Wx.gyes rfl rfl (congrArg Value.bool g_4) ?_
      refine Wx.rd (v := .string rim) (rd_move rfl) rfl ?_
      refine Wx.gyes rfl rfl (congrArg Value.bool g_4) ?_
      refine Wx.rd (v := .int .i64 (rim.size : Int)) (rd_lenS rfl Tryd.underlying9) rfl ?_
      refine Wx.gyes rfl rfl (congrArg Value.bool g_4) ?_
      refine Wx.rd (v := .int .i64 ((rim.size : Int) - 1)) (rd_sub rfl rfl (in_i64 (by omega) (by omega))) rfl ?_
      refine Wx.gyes rfl rfl (congrArg Value.bool g_4) ?_
      refine Wx.rd (v := .int .i64 (max 0 ((rim.size : Int) - 1))) (rd_max rfl rfl) rfl ?_
      refine Wx.gyes rfl rfl (congrArg Value.bool g_4) ?_
      refine Wx.callF (run_callF Tryd.call62 rfl) (F62 (in_i64 (by omega) (by omega)) (in_i64 (by omega) (by omega)) (in_i64 (by omega) (by omega))) rfl ?_
      rintro r_6 w_7 hx_8 rfl
      have hS := hS.ext hx_8
      refine Wx.gyes rfl rfl (congrArg Value.bool g_4) ?_
      refine Wx.rd (v := .bool (!(decide (0 ≤ d) && decide (d ≤ (max 0 ((rim.size : Int) - 1)))))) (rd_not rfl) rfl ?_
      refine Wx.rd (v := .bool (!(decide (0 ≤ d) && decide (d ≤ (max 0 ((rim.size : Int) - 1)))))) (rd_pickT (congrArg Value.bool g_4) rfl) rfl ?_
      refine Wx.nil ⟨(), hS, ⟨?_, trivial⟩, Out.look rfl Out.refl⟩
      show Value.bool (!(decide (0 ≤ d) && decide (d ≤ (max 0 ((rim.size : Int) - 1))))) = Value.bool (decide ((rimE rim) = 0) && !(decide (0 ≤ d) && decide (d ≤ (max 0 ((rim.size : Int) - 1)))))
      rw [g_4]; rfl
    · -- False
      have gp_9 := of_decide_eq_false g_4
      refine Wx.gnoB rfl rfl (congrArg Value.bool g_4) rfl rfl ?_
      refine Wx.gnoB rfl rfl (congrArg Value.bool g_4) rfl rfl ?_
      refine Wx.gnoB rfl rfl (congrArg Value.bool g_4) rfl rfl ?_
      refine Wx.gnoB rfl rfl (congrArg Value.bool g_4) rfl rfl ?_
      refine Wx.gnoB rfl rfl (congrArg Value.bool g_4) rfl rfl ?_
      refine Wx.gnoB rfl rfl (congrArg Value.bool g_4) rfl rfl ?_
      refine Wx.gnoB rfl rfl (congrArg Value.bool g_4) rfl rfl ?_
      refine Wx.rd (v := .bool false) (rd_pickF (congrArg Value.bool g_4) rfl) rfl ?_
      refine Wx.nil ⟨(), hS, ⟨?_, trivial⟩, Out.look rfl Out.refl⟩
      show Value.bool false = Value.bool (decide ((rimE rim) = 0) && !(decide (0 ≤ d) && decide (d ≤ (max 0 ((rim.size : Int) - 1)))))
      rw [g_4]; rfl
  rintro ⟨⟩ u_11 w_10 hS
  refine Wx.nil ?_
  refine W.cond rfl (fun c0 => ?_) (fun c0 => ?_)
  · -- yes
    try simp only [Bool.and_eq_true, Bool.or_eq_true, Bool.not_eq_true', Bool.and_eq_false_iff, Bool.or_eq_false_iff, Bool.not_eq_false', decide_eq_true_eq, decide_eq_false_iff_not, not_or, Bool.false_eq_true, Bool.true_eq_false, false_or, or_false, not_false_eq_true] at c0
    obtain ⟨hr1, hr2⟩ := rimE_ok c0.1
    refine W.reg ?_
    refine Wx.rd (v := .int .i64 1) (rd_assign rfl) rfl ?_
    refine Wx.nil ?_
    refine W.seq ?_
    refine W.seq ?_
    refine W.reg ?_
    refine Wx.rd (v := .int .i64 1) (rd_move rfl) rfl ?_
    refine Wx.rd (v := .bool (decide ((1 : Int) ≠ 0))) (rd_neq rfl rfl) rfl ?_
    refine Wx.nil ?_
    refine W.condD rfl (fun c1 => ?_) (fun c1 => ?_)
    · -- yes
      refine W.seq ?_
      refine W.reg ?_
      refine Wx.rd (v := .int .i64 1) (rd_move rfl) rfl ?_
      refine Wx.rd (v := .string ({ data := #[] } : ByteArray)) (rd_assign rfl) rfl ?_
      refine Wx.rd (v := .int .i64 1) (rd_assign rfl) rfl ?_
      refine Wx.nil ?_
      have e0_0 : (turnS rim d) = ({ data := #[] } : ByteArray) := by exact (turn_bad c0.1 (by omega)).1
      have e0_1 : (turnE rim d) = (1 : Int) := by exact (turn_bad c0.1 (by omega)).2
      exact W.ret ⟨.tuple #[.string ({ data := #[] } : ByteArray), .int .i64 1], ResIs.two, hS.bel, (by rw [e0_0, e0_1])⟩
    · -- no
      refine W.skip ?_
      refine W.seq ?_
      refine W.regQ mixedHi_ (by kernel_rfl) ?_
      refine Wx.rd (v := .string rim) (rd_move rfl) rfl ?_
      refine Wx.rd (v := .int .i64 d) (rd_move rfl) rfl ?_
      refine Wx.rd (v := .string ((rim).extract d.toNat rim.size)) (rd_sliceS_L Tryd.underlying9 rfl rfl (by omega) (by omega)) rfl ?_
      refine Wx.rd (v := .string rim) (rd_move rfl) rfl ?_
      refine Wx.rd (v := .int .i64 d) (rd_move rfl) rfl ?_
      refine Wx.rd (v := .string ((rim).extract 0 d.toNat)) (rd_sliceS_H Tryd.underlying9 rfl rfl (by omega) (by omega)) rfl ?_
      refine Wx.rd (v := .string (((rim).extract d.toNat rim.size) ++ ((rim).extract 0 d.toNat))) (rd_addS rfl rfl (by rw [ByteArray.size_extract, ByteArray.size_extract]; omega)) rfl ?_
      refine Wx.rd (v := .string (((rim).extract d.toNat rim.size) ++ ((rim).extract 0 d.toNat))) (rd_assign rfl) rfl ?_
      refine Wx.rd (v := .int .i64 0) (rd_assign rfl) rfl ?_
      refine Wx.nilQ (fun w_12 hx_13 => ?_)
      have hS := hS.ext hx_13
      have e1_0 : (turnS rim d) = (((rim).extract d.toNat rim.size) ++ ((rim).extract 0 d.toNat)) := by exfalso; omega
      have e1_1 : (turnE rim d) = (0 : Int) := by exfalso; omega
      exact W.ret ⟨.tuple #[.string (((rim).extract d.toNat rim.size) ++ ((rim).extract 0 d.toNat)), .int .i64 0], ResIs.two, hS.bel, (by rw [e1_0, e1_1])⟩
  · -- no
    try simp only [Bool.and_eq_true, Bool.or_eq_true, Bool.not_eq_true', Bool.and_eq_false_iff, Bool.or_eq_false_iff, Bool.not_eq_false', decide_eq_true_eq, decide_eq_false_iff_not, not_or, Bool.false_eq_true, Bool.true_eq_false, false_or, or_false, not_false_eq_true] at c0
    have hrm := fun q => rimE_ok (s := rim) q
    refine W.skip ?_
    refine W.seq ?_
    refine W.seq ?_
    refine W.reg ?_
    refine Wx.rd (v := .int .i64 (rimE rim)) (rd_move rfl) rfl ?_
    refine Wx.rd (v := .bool (decide ((rimE rim) ≠ 0))) (rd_neq rfl rfl) rfl ?_
    refine Wx.nil ?_
    refine W.condD rfl (fun c2 => ?_) (fun c2 => ?_)
    · -- yes
      refine W.seq ?_
      refine W.reg ?_
      refine Wx.rd (v := .int .i64 (rimE rim)) (rd_move rfl) rfl ?_
      refine Wx.rd (v := .string ({ data := #[] } : ByteArray)) (rd_assign rfl) rfl ?_
      refine Wx.rd (v := .int .i64 (rimE rim)) (rd_assign rfl) rfl ?_
      refine Wx.nil ?_
      have e2_0 : (turnS rim d) = ({ data := #[] } : ByteArray) := by exact (turn_err c2).1
      have e2_1 : (turnE rim d) = (rimE rim : Int) := by exact (turn_err c2).2
      exact W.ret ⟨.tuple #[.string ({ data := #[] } : ByteArray), .int .i64 (rimE rim)], ResIs.two, hS.bel, (by rw [e2_0, e2_1])⟩
    · -- no
      have hr0 : rimE rim = 0 := by omega
      obtain ⟨hr1, hr2⟩ := rimE_ok hr0
      refine W.skip ?_
      refine W.seq ?_
      refine W.regQ mixedHi_ (by kernel_rfl) ?_
      refine Wx.rd (v := .string rim) (rd_move rfl) rfl ?_
      refine Wx.rd (v := .int .i64 d) (rd_move rfl) rfl ?_
      refine Wx.rd (v := .string ((rim).extract d.toNat rim.size)) (rd_sliceS_L Tryd.underlying9 rfl rfl (by omega) (by omega)) rfl ?_
      refine Wx.rd (v := .string rim) (rd_move rfl) rfl ?_
      refine Wx.rd (v := .int .i64 d) (rd_move rfl) rfl ?_
      refine Wx.rd (v := .string ((rim).extract 0 d.toNat)) (rd_sliceS_H Tryd.underlying9 rfl rfl (by omega) (by omega)) rfl ?_
      refine Wx.rd (v := .string (((rim).extract d.toNat rim.size) ++ ((rim).extract 0 d.toNat))) (rd_addS rfl rfl (by rw [ByteArray.size_extract, ByteArray.size_extract]; omega)) rfl ?_
      refine Wx.rd (v := .string (((rim).extract d.toNat rim.size) ++ ((rim).extract 0 d.toNat))) (rd_assign rfl) rfl ?_
      refine Wx.rd (v := .int .i64 0) (rd_assign rfl) rfl ?_
      refine Wx.nilQ (fun w_14 hx_15 => ?_)
      have hS := hS.ext hx_15
      have e3_0 : (turnS rim d) = (((rim).extract d.toNat rim.size) ++ ((rim).extract 0 d.toNat)) := by exact (turn_ok hr0 (by omega)).1
      have e3_1 : (turnE rim d) = (0 : Int) := by exact (turn_ok hr0 (by omega)).2
      exact W.ret ⟨.tuple #[.string (((rim).extract d.toNat rim.size) ++ ((rim).extract 0 d.toNat)), .int .i64 0], ResIs.two, hS.bel, (by rw [e3_0, e3_1])⟩

theorem F80 {v : Value} {ys : List Int}  {ob : List Ob} {w0 w : World} {O : List (Option Nat)}  (hS : St w0 O w (.row (tI .i32) 21 v ys :: ob)) : Calls Tryd.prog 80 #[v] w (Bk fun r w' => r = .tuple #[] ∧ St w0 O w' (.row (tI .i32) 21 v (ys.reverse) :: ob)) := by
  have hyl : (ys.length : Int) ≤ 9223372036854775807 := by have := hS.rowLen 0 rfl; simp only [maxLen] at this; omega
  refine enterB Tryd.func80 rfl Tryd.ntmps80 Tryd.results80 rfl ?_
  refine W.seq ?_
  refine W.reg ?_
  refine Wx.rd (v := v) (rd_move rfl) rfl ?_
  refine Wx.rd (v := .int .i64 (ys.length : Int)) (rd_lenR hS 0 rfl rfl Tryd.underlying98) rfl ?_
  refine Wx.rd (v := .int .i64 ((ys.length : Int) - 1)) (rd_sub rfl rfl (in_i64 (by omega) (by omega))) rfl ?_
  refine Wx.rd (v := .int .i64 0) (rd_assign rfl) rfl ?_
  refine Wx.rd (v := .int .i64 ((ys.length : Int) - 1)) (rd_assign rfl) rfl ?_
  refine Wx.nil ?_
  refine W.block ?_
  refine W.loop [2, 3, 7, 8, 9, 10, 11, 12, 13, 14, 15, 16, 17, 18, 19, 20, 21, 22, 23, 24, 25, 26, 27] (fun x : Int × Int × (List Int) => match x with | (i, j, z) => [(2, .int .i64 i), (3, .int .i64 j)]) (fun (x : Int × Int × (List Int)) w' => match x with | (i, j, z) => St w0 O w' (.row (tI .i32) 21 v z :: ob) ∧ 0 ≤ i ∧ j = (ys.length : Int) - 1 - i ∧ z = revS ys i ∧ z.length = ys.length) (fun x : Int × Int × (List Int) => match x with | (i, j, z) => (j - i).toNat) (0, (ys.length : Int) - 1, ys) ⟨rfl, rfl, trivial⟩ ⟨hS, (by first | omega | simp), (by first | omega | simp), ((revS_start ys).symm), (rfl)⟩ ?_
  rintro ⟨i, j, z⟩ u_2 w_1 ⟨hS, h0, h1, h2, h3⟩
  refine W.seq ?_
  refine W.seq ?_
  refine W.reg ?_
  refine Wx.rd (v := .int .i64 i) (rd_move rfl) rfl ?_
  refine Wx.rd (v := .int .i64 j) (rd_move rfl) rfl ?_
  refine Wx.rd (v := .bool (decide (i < j))) (rd_lss rfl rfl) rfl ?_
  refine Wx.nil ?_
  refine W.condD rfl (fun c0 => ?_) (fun c0 => ?_)
  · -- yes
    refine W.skip ?_
    refine W.seq ?_
    refine W.block ?_
    refine W.regP mixedHi_ (fun w_3 hx_4 => ?_)
    have hS := hS.ext hx_4
    obtain ⟨g_5, c_6, rfl, hc_7⟩ := hS.rowForm 0 rfl (by omega)
    refine Wp.rd (v := (.slice (some ⟨g_5, 0, none⟩) z.length c_6)) 0 rfl (by kernel_rfl) (fun _ => (rd_move rfl)) rfl ?_
    refine Wp.rd (v := .int .i64 i) 1 rfl (by kernel_rfl) (fun _ => (rd_move rfl)) rfl ?_
    refine Wp.rd (v := (.slice (some ⟨g_5, 0, none⟩) z.length c_6)) 2 rfl (by kernel_rfl) (fun _ => (rd_move rfl)) rfl ?_
    refine Wp.rd (v := .int .i64 j) 3 rfl (by kernel_rfl) (fun _ => (rd_move rfl)) rfl ?_
    refine Wp.rd (v := (.slice (some ⟨g_5, 0, none⟩) z.length c_6)) 4 rfl (by kernel_rfl) (fun _ => (rd_move rfl)) rfl ?_
    refine Wp.rd (v := .int .i64 j) 5 rfl (by kernel_rfl) (fun _ => (rd_move rfl)) rfl ?_
    refine Wp.rd (v := .pointer (some ⟨g_5, j.toNat * 1, none⟩)) 6 rfl (by kernel_rfl) (fun _ => (rd_indexO Tryd.underlying98 Tryd.sizeOf21 rfl rfl (by first | omega | (simp only [List.length_set, List.length_append, List.length_cons, List.length_nil, List.length_replicate]; omega)) (by first | omega | (simp only [List.length_set, List.length_append, List.length_cons, List.length_nil, List.length_replicate]; omega)))) rfl ?_
    refine Wp.rd (v := (.slice (some ⟨g_5, 0, none⟩) z.length c_6)) 8 rfl (by kernel_rfl) (fun _ => (rd_move rfl)) rfl ?_
    refine Wp.rd (v := .int .i64 i) 9 rfl (by kernel_rfl) (fun _ => (rd_move rfl)) rfl ?_
    refine Wp.rd (v := .pointer (some ⟨g_5, i.toNat * 1, none⟩)) 10 rfl (by kernel_rfl) (fun _ => (rd_indexO Tryd.underlying98 Tryd.sizeOf21 rfl rfl (by first | omega | (simp only [List.length_set, List.length_append, List.length_cons, List.length_nil, List.length_replicate]; omega)) (by first | omega | (simp only [List.length_set, List.length_append, List.length_cons, List.length_nil, List.length_replicate]; omega)))) rfl ?_
    refine Wp.br [7, 11] (by kernel_rfl) (by decide) ⟨⟨_, rfl, ?_⟩, ⟨_, rfl, ?_⟩, trivial⟩
    · -- operation 7
      refine Wx.rd (v := .int .i32 (ix 0 z j)) (rd_loadRI' hS 0 rfl rfl rfl (by first | omega | (simp only [List.length_set, List.length_append, List.length_cons, List.length_nil, List.length_replicate]; omega)) (by first | omega | (simp only [List.length_set, List.length_append, List.length_cons, List.length_nil, List.length_replicate]; omega)) Tryd.isAgg21 Tryd.sizeOf21) rfl ?_
      have bd_8 := bd_i32 (hS.rowInK' 0 rfl (by first | omega | (simp only [List.length_set, List.length_append, List.length_cons, List.length_nil, List.length_replicate]; omega)) (by first | omega | (simp only [List.length_set, List.length_append, List.length_cons, List.length_nil, List.length_replicate]; omega)) : InK .i32 (ix 0 z j))
      refine Wx.nil ?_
      refine Wp.br [11] (by kernel_rfl) (by decide) ⟨⟨_, rfl, ?_⟩, trivial⟩
      refine Wx.rd (v := .int .i32 (ix 0 z i)) (rd_loadRI' hS 0 rfl rfl rfl (by first | omega | (simp only [List.length_set, List.length_append, List.length_cons, List.length_nil, List.length_replicate]; omega)) (by first | omega | (simp only [List.length_set, List.length_append, List.length_cons, List.length_nil, List.length_replicate]; omega)) Tryd.isAgg21 Tryd.sizeOf21) rfl ?_
      have bd_9 := bd_i32 (hS.rowInK' 0 rfl (by first | omega | (simp only [List.length_set, List.length_append, List.length_cons, List.length_nil, List.length_replicate]; omega)) (by first | omega | (simp only [List.length_set, List.length_append, List.length_cons, List.length_nil, List.length_replicate]; omega)) : InK .i32 (ix 0 z i))
      refine Wx.nil ?_
      refine Wp.rd (v := .pointer (some ⟨g_5, i.toNat * 1, none⟩)) 12 rfl (by kernel_rfl) (fun _ => (rd_indexO Tryd.underlying98 Tryd.sizeOf21 rfl rfl (by first | omega | (simp only [List.length_set, List.length_append, List.length_cons, List.length_nil, List.length_replicate]; omega)) (by first | omega | (simp only [List.length_set, List.length_append, List.length_cons, List.length_nil, List.length_replicate]; omega)))) rfl ?_
      refine Wp.br [13] (by kernel_rfl) (by decide) ⟨⟨_, rfl, ?_⟩, trivial⟩
      refine Wx.storeR (j := i.toNat) (z := ix 0 z j) hS 0 rfl rfl rfl (by first | omega | (simp only [List.length_set, List.length_append, List.length_cons, List.length_nil, List.length_replicate]; omega)) rfl (V.mkInt (in_i32 (by omega) (by omega))) Tryd.sizeOf21 (fun w_10 hz_11 hS => ?_)
      refine Wx.nil ?_
      refine Wp.rd (v := .pointer (some ⟨g_5, j.toNat * 1, none⟩)) 14 rfl (by kernel_rfl) (fun _ => (rd_indexO Tryd.underlying98 Tryd.sizeOf21 rfl rfl (by first | omega | (simp only [List.length_set, List.length_append, List.length_cons, List.length_nil, List.length_replicate]; omega)) (by first | omega | (simp only [List.length_set, List.length_append, List.length_cons, List.length_nil, List.length_replicate]; omega)))) rfl ?_
      refine Wp.br [15] (by kernel_rfl) (by decide) ⟨⟨_, rfl, ?_⟩, trivial⟩
      refine Wx.storeR (j := j.toNat) (z := ix 0 z i) hS 0 rfl rfl rfl (by first | omega | (simp only [List.length_set, List.length_append, List.length_cons, List.length_nil, List.length_replicate]; omega)) rfl (V.mkInt (in_i32 (by omega) (by omega))) Tryd.sizeOf21 (fun w_12 hz_13 hS => ?_)
      refine Wx.nil ?_
      refine Wp.done (by kernel_rfl) ?_
      refine W.reg ?_
      refine Wx.rd (v := .int .i64 i) (rd_move rfl) rfl ?_
      refine Wx.rd (v := .int .i64 (i + 1)) (rd_add rfl rfl (in_i64 (by omega) (by omega))) rfl ?_
      refine Wx.rd (v := .int .i64 j) (rd_move rfl) rfl ?_
      refine Wx.rd (v := .int .i64 (j - 1)) (rd_sub rfl rfl (in_i64 (by omega) (by omega))) rfl ?_
      refine Wx.rd (v := .int .i64 (i + 1)) (rd_assign rfl) rfl ?_
      refine Wx.rd (v := .int .i64 (j - 1)) (rd_assign rfl) rfl ?_
      refine Wx.nil ?_
      refine ⟨(i + 1, j - 1, List.set (List.set z i.toNat (ix 0 z j)) j.toNat (ix 0 z i)), (by show ((j - 1) - (i + 1)).toNat < (j - i).toNat; omega), ?_, ?_, Out.look rfl Out.self⟩
      · exact ⟨hS, (by first | omega | assumption), (by first | omega | assumption), (by rw [h2]; exact revS_step h0 c0 h1), (by simp; omega)⟩
      · exact ⟨rfl, rfl, trivial⟩
    · -- operation 11
      refine Wx.rd (v := .int .i32 (ix 0 z i)) (rd_loadRI' hS 0 rfl rfl rfl (by first | omega | (simp only [List.length_set, List.length_append, List.length_cons, List.length_nil, List.length_replicate]; omega)) (by first | omega | (simp only [List.length_set, List.length_append, List.length_cons, List.length_nil, List.length_replicate]; omega)) Tryd.isAgg21 Tryd.sizeOf21) rfl ?_
      have bd_14 := bd_i32 (hS.rowInK' 0 rfl (by first | omega | (simp only [List.length_set, List.length_append, List.length_cons, List.length_nil, List.length_replicate]; omega)) (by first | omega | (simp only [List.length_set, List.length_append, List.length_cons, List.length_nil, List.length_replicate]; omega)) : InK .i32 (ix 0 z i))
      refine Wx.nil ?_
      refine Wp.br [7] (by kernel_rfl) (by decide) ⟨⟨_, rfl, ?_⟩, trivial⟩
      refine Wx.rd (v := .int .i32 (ix 0 z j)) (rd_loadRI' hS 0 rfl rfl rfl (by first | omega | (simp only [List.length_set, List.length_append, List.length_cons, List.length_nil, List.length_replicate]; omega)) (by first | omega | (simp only [List.length_set, List.length_append, List.length_cons, List.length_nil, List.length_replicate]; omega)) Tryd.isAgg21 Tryd.sizeOf21) rfl ?_
      have bd_15 := bd_i32 (hS.rowInK' 0 rfl (by first | omega | (simp only [List.length_set, List.length_append, List.length_cons, List.length_nil, List.length_replicate]; omega)) (by first | omega | (simp only [List.length_set, List.length_append, List.length_cons, List.length_nil, List.length_replicate]; omega)) : InK .i32 (ix 0 z j))
      refine Wx.nil ?_
      refine Wp.rd (v := .pointer (some ⟨g_5, i.toNat * 1, none⟩)) 12 rfl (by kernel_rfl) (fun _ => (rd_indexO Tryd.underlying98 Tryd.sizeOf21 rfl rfl (by first | omega | (simp only [List.length_set, List.length_append, List.length_cons, List.length_nil, List.length_replicate]; omega)) (by first | omega | (simp only [List.length_set, List.length_append, List.length_cons, List.length_nil, List.length_replicate]; omega)))) rfl ?_
      refine Wp.br [13] (by kernel_rfl) (by decide) ⟨⟨_, rfl, ?_⟩, trivial⟩
      refine Wx.storeR (j := i.toNat) (z := ix 0 z j) hS 0 rfl rfl rfl (by first | omega | (simp only [List.length_set, List.length_append, List.length_cons, List.length_nil, List.length_replicate]; omega)) rfl (V.mkInt (in_i32 (by omega) (by omega))) Tryd.sizeOf21 (fun w_16 hz_17 hS => ?_)
      refine Wx.nil ?_
      refine Wp.rd (v := .pointer (some ⟨g_5, j.toNat * 1, none⟩)) 14 rfl (by kernel_rfl) (fun _ => (rd_indexO Tryd.underlying98 Tryd.sizeOf21 rfl rfl (by first | omega | (simp only [List.length_set, List.length_append, List.length_cons, List.length_nil, List.length_replicate]; omega)) (by first | omega | (simp only [List.length_set, List.length_append, List.length_cons, List.length_nil, List.length_replicate]; omega)))) rfl ?_
      refine Wp.br [15] (by kernel_rfl) (by decide) ⟨⟨_, rfl, ?_⟩, trivial⟩
      refine Wx.storeR (j := j.toNat) (z := ix 0 z i) hS 0 rfl rfl rfl (by first | omega | (simp only [List.length_set, List.length_append, List.length_cons, List.length_nil, List.length_replicate]; omega)) rfl (V.mkInt (in_i32 (by omega) (by omega))) Tryd.sizeOf21 (fun w_18 hz_19 hS => ?_)
      refine Wx.nil ?_
      refine Wp.done (by kernel_rfl) ?_
      refine W.reg ?_
      refine Wx.rd (v := .int .i64 i) (rd_move rfl) rfl ?_
      refine Wx.rd (v := .int .i64 (i + 1)) (rd_add rfl rfl (in_i64 (by omega) (by omega))) rfl ?_
      refine Wx.rd (v := .int .i64 j) (rd_move rfl) rfl ?_
      refine Wx.rd (v := .int .i64 (j - 1)) (rd_sub rfl rfl (in_i64 (by omega) (by omega))) rfl ?_
      refine Wx.rd (v := .int .i64 (i + 1)) (rd_assign rfl) rfl ?_
      refine Wx.rd (v := .int .i64 (j - 1)) (rd_assign rfl) rfl ?_
      refine Wx.nil ?_
      refine ⟨(i + 1, j - 1, List.set (List.set z i.toNat (ix 0 z j)) j.toNat (ix 0 z i)), (by show ((j - 1) - (i + 1)).toNat < (j - i).toNat; omega), ?_, ?_, Out.look rfl Out.self⟩
      · exact ⟨hS, (by first | omega | assumption), (by first | omega | assumption), (by rw [h2]; exact revS_step h0 c0 h1), (by simp; omega)⟩
      · exact ⟨rfl, rfl, trivial⟩
  · -- no
    refine W.exit rfl ?_
    exact ⟨.tuple #[], ResIs.zero, rfl, hS.spell (ys' := ys.reverse) 0 rfl (by rw [h2]; exact revS_end (by omega))⟩

theorem F40 {rim : ByteArray} {w : World} (s_rim : rim.size ≤ maxLen) (hG : Laid w) : Calls Tryd.prog 40 #[.string rim] w (Ret w (fun r _ => r = .tuple #[.string (oppV rim), .int .i64 (rimE rim)])) := by
  have hS := St.start0 w
  refine enterR Tryd.func40 rfl Tryd.ntmps40 Tryd.results40 rfl ?_
  refine W.seq ?_
  refine W.reg ?_
  refine Wx.rd (v := .string ({ data := #[] } : ByteArray)) (rd_assign rfl) rfl ?_
  refine Wx.rd (v := .int .i64 0) (rd_assign rfl) rfl ?_
  refine Wx.nil ?_
  refine W.seq ?_
  refine W.seq ?_
  refine W.reg ?_
  refine Wx.rd (v := .string rim) (rd_move rfl) rfl ?_
  refine Wx.callF (run_callF Tryd.call17 rfl) (F17 (by first | assumption | (simp only [maxLen]; omega) | (simp only [ByteArray.size_extract, ByteArray.size_append, maxLen] at *; omega) | decide)) rfl ?_
  rintro r_1 w_2 hx_3 rfl
  have hS := hS.ext hx_3
  refine Wx.rd (v := .int .i64 (rimE rim)) (rd_assign rfl) rfl ?_
  refine Wx.nil ?_
  refine W.seq ?_
  refine W.reg ?_
  refine Wx.rd (v := .int .i64 (rimE rim)) (rd_move rfl) rfl ?_
  refine Wx.rd (v := .bool (decide ((rimE rim) ≠ 0))) (rd_neq rfl rfl) rfl ?_
  refine Wx.nil ?_
  refine W.condD rfl (fun c0 => ?_) (fun c0 => ?_)
  · -- yes
    refine W.seq ?_
    refine W.reg ?_
    refine Wx.rd (v := .int .i64 (rimE rim)) (rd_move rfl) rfl ?_
    refine Wx.rd (v := .string ({ data := #[] } : ByteArray)) (rd_assign rfl) rfl ?_
    refine Wx.rd (v := .int .i64 (rimE rim)) (rd_assign rfl) rfl ?_
    refine Wx.nil ?_
    have e0_0 : (oppV rim) = ({ data := #[] } : ByteArray) := by rw [oppV, if_neg c0]; rfl
    exact W.ret ⟨.tuple #[.string ({ data := #[] } : ByteArray), .int .i64 (rimE rim)], ResIs.two, hS.bel, (by rw [e0_0])⟩
  · -- no
    have hr0 : rimE rim = 0 := by omega
    obtain ⟨hr1, hr2⟩ := rimE_ok hr0
    have hol := opp_lets hr2
    have hsz : rim.size = rim.data.toList.length := (by simp)
    refine W.skip ?_
    refine W.seq ?_
    refine W.reg ?_
    refine Wx.rd (v := .string rim) (rd_move rfl) rfl ?_
    refine Wx.callF (run_callF Tryd.call78 rfl) (F78 (by first | assumption | (simp only [maxLen]; omega) | (simp only [ByteArray.size_extract, ByteArray.size_append, maxLen] at *; omega) | decide) (by omega) (hG.ext hS.bel)) rfl ?_
    rintro r_4 w_5 hx_6 rfl
    have hS := hS.ext hx_6
    rw [map_let (lets_mem hr2)]
    refine Wx.runes (ys := runesI (rim.data.toList.map swB)) hS rfl Tryd.underlying9 Tryd.underlying98 Tryd.underlying21 (runes_let (lets_of hol)) (fun y hy => by obtain ⟨b, hb, rfl⟩ := List.mem_map.1 hy; have := let_lt (hol b hb); exact in_i32 (by omega) (by omega)) (by rw [runesI, List.length_map, List.length_map]; omega) rfl (fun v_7 w_8 hx_9 hS => ?_)
    refine Wx.rd (v := v_7) (rd_assign rfl) rfl ?_
    refine Wx.nil ?_
    refine W.seq ?_
    refine W.reg ?_
    refine Wx.rd (v := v_7) (rd_move rfl) rfl ?_
    refine Wx.callB (run_callF Tryd.call80 rfl) (F80 (ob := [])  (hS.front 0 rfl)) rfl ?_
    rintro r_10 w_11 ⟨rfl, hS⟩
    have hS : St _ _ w_11 [.row (tI .i32) 21 v_7 (List.reverse (runesI (rim.data.toList.map swB)))] := St.putBack (obs := [.row (tI .i32) 21 v_7 (runesI (rim.data.toList.map swB))]) 0 hS (by simp)
    refine Wx.nil ?_
    refine W.seq ?_
    refine W.reg ?_
    refine Wx.rd (v := v_7) (rd_move rfl) rfl ?_
    refine Wx.rd (v := .string (runesBytes (List.reverse (runesI (rim.data.toList.map swB))))) (rd_runesStr hS 0 rfl rfl Tryd.underlying98 Tryd.underlying21 Tryd.underlying9) rfl ?_
    refine Wx.rd (v := .string (runesBytes (List.reverse (runesI (rim.data.toList.map swB))))) (rd_assign rfl) rfl ?_
    refine Wx.rd (v := .int .i64 0) (rd_assign rfl) rfl ?_
    refine Wx.nil ?_
    have e1_0 : (oppV rim) = (runesBytes (List.reverse (runesI (rim.data.toList.map swB)))) := by rw [oppV, if_pos hr0, opp_runes, runesBytes_let (fun b hb => hol b (List.mem_reverse.1 hb))]; rfl
    have e1_1 : (rimE rim) = (0 : Int) := by exact hr0
    exact W.ret ⟨.tuple #[.string (runesBytes (List.reverse (runesI (rim.data.toList.map swB)))), .int .i64 0], ResIs.two, hS.bel, (by rw [e1_0, e1_1])⟩

theorem F41 {rim : ByteArray} {w : World} (s_rim : rim.size ≤ maxLen) : Calls Tryd.prog 41 #[.string rim] w (Ret w (fun r _ => r = .tuple #[.string (oppV rim), .int .i64 (rimE rim)])) := by
  have hS := St.start0 w
  refine enterR Tryd.func41 rfl Tryd.ntmps41 Tryd.results41 rfl ?_
  refine W.seq ?_
  refine W.reg ?_
  refine Wx.rd (v := .string ({ data := #[] } : ByteArray)) (rd_assign rfl) rfl ?_
  refine Wx.rd (v := .int .i64 0) (rd_assign rfl) rfl ?_
  refine Wx.nil ?_
  refine W.seq ?_
  refine W.reg ?_
  refine Wx.rd (v := .string rim) (rd_move rfl) rfl ?_
  refine Wx.callF (run_callF Tryd.call18 rfl) (F18 (by first | assumption | (simp only [maxLen]; omega) | (simp only [ByteArray.size_extract, ByteArray.size_append, maxLen] at *; omega) | decide)) rfl ?_
  rintro r_1 w_2 hx_3 rfl
  have hS := hS.ext hx_3
  refine Wx.rd (v := .int .i64 (rimE rim)) (rd_assign rfl) rfl ?_
  refine Wx.nil ?_
  refine W.seq ?_
  refine W.seq ?_
  refine W.reg ?_
  refine Wx.rd (v := .int .i64 (rimE rim)) (rd_move rfl) rfl ?_
  refine Wx.rd (v := .bool (decide ((rimE rim) ≠ 0))) (rd_neq rfl rfl) rfl ?_
  refine Wx.nil ?_
  refine W.condD rfl (fun c0 => ?_) (fun c0 => ?_)
  · -- yes
    refine W.seq ?_
    refine W.reg ?_
    refine Wx.rd (v := .int .i64 (rimE rim)) (rd_move rfl) rfl ?_
    refine Wx.rd (v := .string ({ data := #[] } : ByteArray)) (rd_assign rfl) rfl ?_
    refine Wx.rd (v := .int .i64 (rimE rim)) (rd_assign rfl) rfl ?_
    refine Wx.nil ?_
    have e0_0 : (oppV rim) = ({ data := #[] } : ByteArray) := by rw [oppV, if_neg c0]; rfl
    exact W.ret ⟨.tuple #[.string ({ data := #[] } : ByteArray), .int .i64 (rimE rim)], ResIs.two, hS.bel, (by rw [e0_0])⟩
  · -- no
    have hr0 : rimE rim = 0 := by omega
    obtain ⟨hr1, hr2⟩ := rimE_ok hr0
    refine W.skip ?_
    refine W.seq ?_
    refine W.reg ?_
    refine Wx.rd (v := .string ({ data := #[] } : ByteArray)) (rd_assign rfl) rfl ?_
    refine Wx.nil ?_
    refine W.seq ?_
    refine W.seq ?_
    refine W.reg ?_
    refine Wx.rd (v := .string rim) (rd_move rfl) rfl ?_
    refine Wx.rd (v := .int .i64 (rim.size : Int)) (rd_lenS rfl Tryd.underlying9) rfl ?_
    refine Wx.rd (v := .int .i64 ((rim.size : Int) - 1)) (rd_sub rfl rfl (in_i64 (by omega) (by omega))) rfl ?_
    refine Wx.rd (v := .int .i64 ((rim.size : Int) - 1)) (rd_assign rfl) rfl ?_
    refine Wx.nil ?_
    refine W.block ?_
    refine W.loop [5, 6, 7, 16, 17, 18, 19, 20, 21, 22, 23, 24, 25, 26, 27, 28, 29, 30, 31, 32, 33, 34, 35, 36, 37, 38, 39] (fun x : ByteArray × Int => match x with | (out, i) => [(5, .string out), (6, .int .i64 i)]) (fun (x : ByteArray × Int) w' => match x with | (out, i) => St w [] w' [] ∧ -1 ≤ i ∧ i < rim.size ∧ out = mkB ((rim.data.toList.map swB).drop (i + 1).toNat).reverse) (fun x : ByteArray × Int => match x with | (out, i) => (i + 1).toNat) (({ data := #[] } : ByteArray), (rim.size : Int) - 1) ⟨rfl, rfl, trivial⟩ ⟨hS, (by first | omega | simp), (by first | omega | simp), (opp_start)⟩ ?_
    rintro ⟨out, i⟩ u_5 w_4 ⟨hS, h0, h1, h2⟩
    refine W.seq ?_
    refine W.seq ?_
    refine W.reg ?_
    refine Wx.rd (v := .int .i64 i) (rd_move rfl) rfl ?_
    refine Wx.rd (v := .bool (decide (0 ≤ i))) (rd_geq rfl rfl) rfl ?_
    refine Wx.nil ?_
    refine W.condD rfl (fun c1 => ?_) (fun c1 => ?_)
    · -- yes
      have hle := hr2 i c1 (by omega)
      have hnb := numC_bd (tabAt rim i)
      have hnz : numC (tabAt rim i) ≠ 0 := fun e => by rw [numC_zero.1 e] at hle; cases hle
      have hus : (upS.size : Int) = 10 := rfl
      have hls : (lowS.size : Int) = 10 := rfl
      have hos := opp_size h2
      refine W.skip ?_
      refine W.seq ?_
      refine W.block ?_
      refine W.seq ?_
      refine W.reg ?_
      refine Wx.rd (v := .string rim) (rd_move rfl) rfl ?_
      refine Wx.rd (v := .int .i64 i) (rd_move rfl) rfl ?_
      refine Wx.rd (v := .int .u8 (tabAt rim i)) (rd_indexS' (by kernel_rfl) rfl Tryd.underlying9 (by omega) (by omega)) rfl ?_
      have bd_6 := tabAt_bd rim i
      refine Wx.callF (run_callF Tryd.call60 rfl) (F60 (in_u8 (by omega) (by omega))) rfl ?_
      rintro r_7 w_8 hx_9 rfl
      have hS := hS.ext hx_9
      refine Wx.rd (v := .int .i64 (numC (tabAt rim i))) (rd_assign rfl) rfl ?_
      refine Wx.nil ?_
      refine W.seq ?_
      refine W.reg ?_
      refine Wx.rd (v := .int .i64 (numC (tabAt rim i))) (rd_move rfl) rfl ?_
      refine Wx.rd (v := .bool (decide (0 < (numC (tabAt rim i))))) (rd_gtr rfl rfl) rfl ?_
      refine Wx.nil ?_
      refine W.condD rfl (fun c2 => ?_) (fun c2 => ?_)
      · -- yes
        refine W.reg ?_
        refine Wx.rd (v := .string out) (rd_move rfl) rfl ?_
        refine Wx.rd (v := .int .i64 (numC (tabAt rim i))) (rd_move rfl) rfl ?_
        refine Wx.rd (v := .int .i64 ((numC (tabAt rim i)) - 1)) (rd_sub rfl rfl (in_i64 (by omega) (by omega))) rfl ?_
        refine Wx.rd (v := .int .i64 (numC (tabAt rim i))) (rd_move rfl) rfl ?_
        refine Wx.rd (v := .string ((upS).extract ((numC (tabAt rim i)) - 1).toNat (numC (tabAt rim i)).toNat)) (rd_sliceS_LH Tryd.underlying9 rfl rfl rfl (by omega) (by omega) (by omega)) rfl ?_
        refine Wx.rd (v := .string (out ++ ((upS).extract ((numC (tabAt rim i)) - 1).toNat (numC (tabAt rim i)).toNat))) (rd_addS rfl rfl (by rw [ByteArray.size_extract]; omega)) rfl ?_
        refine Wx.rd (v := .string (out ++ ((upS).extract ((numC (tabAt rim i)) - 1).toNat (numC (tabAt rim i)).toNat))) (rd_assign rfl) rfl ?_
        refine Wx.nil ?_
        refine W.reg ?_
        refine Wx.rd (v := .int .i64 i) (rd_move rfl) rfl ?_
        refine Wx.rd (v := .int .i64 (i - 1)) (rd_sub rfl rfl (in_i64 (by omega) (by omega))) rfl ?_
        refine Wx.rd (v := .int .i64 (i - 1)) (rd_assign rfl) rfl ?_
        refine Wx.nil ?_
        refine ⟨(out ++ ((upS).extract ((numC (tabAt rim i)) - 1).toNat (numC (tabAt rim i)).toNat), i - 1), (by show ((i - 1) + 1).toNat < (i + 1).toNat; omega), ?_, ?_, Out.look rfl Out.self⟩
        · exact ⟨hS, (by first | omega | assumption), (by first | omega | assumption), (opp_step c1 h1 h2 (sw_up hle c2))⟩
        · exact ⟨rfl, rfl, trivial⟩
      · -- no
        refine W.reg ?_
        refine Wx.rd (v := .string out) (rd_move rfl) rfl ?_
        refine Wx.rd (v := .int .i64 (numC (tabAt rim i))) (rd_move rfl) rfl ?_
        refine Wx.rd (v := .int .i64 (-(numC (tabAt rim i)))) (rd_neg rfl (in_i64 (by omega) (by omega))) rfl ?_
        refine Wx.rd (v := .int .i64 ((-(numC (tabAt rim i))) - 1)) (rd_sub rfl rfl (in_i64 (by omega) (by omega))) rfl ?_
        refine Wx.rd (v := .int .i64 (numC (tabAt rim i))) (rd_move rfl) rfl ?_
        refine Wx.rd (v := .int .i64 (-(numC (tabAt rim i)))) (rd_neg rfl (in_i64 (by omega) (by omega))) rfl ?_
        refine Wx.rd (v := .string ((lowS).extract ((-(numC (tabAt rim i))) - 1).toNat (-(numC (tabAt rim i))).toNat)) (rd_sliceS_LH Tryd.underlying9 rfl rfl rfl (by omega) (by omega) (by omega)) rfl ?_
        refine Wx.rd (v := .string (out ++ ((lowS).extract ((-(numC (tabAt rim i))) - 1).toNat (-(numC (tabAt rim i))).toNat))) (rd_addS rfl rfl (by rw [ByteArray.size_extract]; omega)) rfl ?_
        refine Wx.rd (v := .string (out ++ ((lowS).extract ((-(numC (tabAt rim i))) - 1).toNat (-(numC (tabAt rim i))).toNat))) (rd_assign rfl) rfl ?_
        refine Wx.nil ?_
        refine W.reg ?_
        refine Wx.rd (v := .int .i64 i) (rd_move rfl) rfl ?_
        refine Wx.rd (v := .int .i64 (i - 1)) (rd_sub rfl rfl (in_i64 (by omega) (by omega))) rfl ?_
        refine Wx.rd (v := .int .i64 (i - 1)) (rd_assign rfl) rfl ?_
        refine Wx.nil ?_
        refine ⟨(out ++ ((lowS).extract ((-(numC (tabAt rim i))) - 1).toNat (-(numC (tabAt rim i))).toNat), i - 1), (by show ((i - 1) + 1).toNat < (i + 1).toNat; omega), ?_, ?_, Out.look rfl Out.self⟩
        · exact ⟨hS, (by first | omega | assumption), (by first | omega | assumption), (opp_step c1 h1 h2 (sw_low hle c2))⟩
        · exact ⟨rfl, rfl, trivial⟩
    · -- no
      refine W.exit rfl ?_
      refine W.seq ?_
      refine W.reg ?_
      refine Wx.rd (v := .string out) (rd_move rfl) rfl ?_
      refine Wx.rd (v := .string out) (rd_assign rfl) rfl ?_
      refine Wx.rd (v := .int .i64 0) (rd_assign rfl) rfl ?_
      refine Wx.nil ?_
      have e1_0 : (oppV rim) = out := by rw [oppV, if_pos hr0, h2]; exact (opp_end (by omega)).symm
      have e1_1 : (rimE rim) = (0 : Int) := by exact hr0
      exact W.ret ⟨.tuple #[.string out, .int .i64 0], ResIs.two, hS.bel, (by rw [e1_0, e1_1])⟩

theorem F42 {a : ByteArray} {b : ByteArray} {w : World} (s_a : a.size ≤ maxLen) (s_b : b.size ≤ maxLen) (hG : Laid w) : Calls Tryd.prog 42 #[.string a, .string b] w (Ret w (fun r _ => r = .tuple #[.bool (alikeP a b), .int .i64 (alikeE a b)])) := by
  have hca := coreV_size a
  have hcb := coreV_size b
  have hS := St.start0 w
  refine enterR Tryd.func42 rfl Tryd.ntmps42 Tryd.results42 rfl ?_
  refine W.seq ?_
  refine W.reg ?_
  refine Wx.rd (v := .bool false) (rd_assign rfl) rfl ?_
  refine Wx.rd (v := .int .i64 0) (rd_assign rfl) rfl ?_
  refine Wx.nil ?_
  refine W.seq ?_
  refine W.reg ?_
  refine Wx.rd (v := .string a) (rd_move rfl) rfl ?_
  refine Wx.callF (run_callF Tryd.call36 rfl) (F36 (by first | assumption | (simp only [maxLen]; omega) | (simp only [ByteArray.size_extract, ByteArray.size_append, maxLen] at *; omega) | decide) (hG.ext hS.bel)) rfl ?_
  rintro r_1 w_2 hx_3 rfl
  have hS := hS.ext hx_3
  refine Wx.rd (v := .tuple #[.string (coreV a), .int .i64 (rimE a)]) (rd_move rfl) rfl ?_
  refine Wx.rd (v := .string (coreV a)) (rd_extract rfl rfl) rfl ?_
  refine Wx.rd (v := .int .i64 (rimE a)) (rd_extract rfl rfl) rfl ?_
  refine Wx.rd (v := .string (coreV a)) (rd_assign rfl) rfl ?_
  refine Wx.rd (v := .int .i64 (rimE a)) (rd_assign rfl) rfl ?_
  refine Wx.nil ?_
  refine W.seq ?_
  refine W.seq ?_
  refine W.reg ?_
  refine Wx.rd (v := .int .i64 (rimE a)) (rd_move rfl) rfl ?_
  refine Wx.rd (v := .bool (decide ((rimE a) ≠ 0))) (rd_neq rfl rfl) rfl ?_
  refine Wx.nil ?_
  refine W.condD rfl (fun c0 => ?_) (fun c0 => ?_)
  · -- yes
    refine W.seq ?_
    refine W.reg ?_
    refine Wx.rd (v := .int .i64 (rimE a)) (rd_move rfl) rfl ?_
    refine Wx.rd (v := .bool false) (rd_assign rfl) rfl ?_
    refine Wx.rd (v := .int .i64 (rimE a)) (rd_assign rfl) rfl ?_
    refine Wx.nil ?_
    have e0_0 : (alikeP a b) = false := by have e : alikeE a b = rimE a := if_neg c0; rw [alikeP, e, if_neg c0]
    have e0_1 : (alikeE a b) = (rimE a : Int) := by exact if_neg c0
    exact W.ret ⟨.tuple #[.bool false, .int .i64 (rimE a)], ResIs.two, hS.bel, (by rw [e0_0, e0_1])⟩
  · -- no
    refine W.skip ?_
    refine W.seq ?_
    refine W.reg ?_
    refine Wx.rd (v := .string b) (rd_move rfl) rfl ?_
    refine Wx.callF (run_callF Tryd.call36 rfl) (F36 (by first | assumption | (simp only [maxLen]; omega) | (simp only [ByteArray.size_extract, ByteArray.size_append, maxLen] at *; omega) | decide) (hG.ext hS.bel)) rfl ?_
    rintro r_4 w_5 hx_6 rfl
    have hS := hS.ext hx_6
    refine Wx.rd (v := .tuple #[.string (coreV b), .int .i64 (rimE b)]) (rd_move rfl) rfl ?_
    refine Wx.rd (v := .string (coreV b)) (rd_extract rfl rfl) rfl ?_
    refine Wx.rd (v := .int .i64 (rimE b)) (rd_extract rfl rfl) rfl ?_
    refine Wx.rd (v := .string (coreV b)) (rd_assign rfl) rfl ?_
    refine Wx.rd (v := .int .i64 (rimE b)) (rd_assign rfl) rfl ?_
    refine Wx.nil ?_
    refine W.seq ?_
    refine W.seq ?_
    refine W.reg ?_
    refine Wx.rd (v := .int .i64 (rimE b)) (rd_move rfl) rfl ?_
    refine Wx.rd (v := .bool (decide ((rimE b) ≠ 0))) (rd_neq rfl rfl) rfl ?_
    refine Wx.nil ?_
    refine W.condD rfl (fun c1 => ?_) (fun c1 => ?_)
    · -- yes
      refine W.seq ?_
      refine W.reg ?_
      refine Wx.rd (v := .int .i64 (rimE b)) (rd_move rfl) rfl ?_
      refine Wx.rd (v := .bool false) (rd_assign rfl) rfl ?_
      refine Wx.rd (v := .int .i64 (rimE b)) (rd_assign rfl) rfl ?_
      refine Wx.nil ?_
      have e1_0 : (alikeP a b) = false := by have e : alikeE a b = rimE b := if_pos (by omega); rw [alikeP, e, if_neg c1]
      have e1_1 : (alikeE a b) = (rimE b : Int) := by exact if_pos (by omega)
      exact W.ret ⟨.tuple #[.bool false, .int .i64 (rimE b)], ResIs.two, hS.bel, (by rw [e1_0, e1_1])⟩
    · -- no
      refine W.skip ?_
      refine W.seq ?_
      refine W.reg ?_
      refine Wx.rd (v := .string (coreV a)) (rd_move rfl) rfl ?_
      refine Wx.rd (v := .int .i64 ((coreV a).size : Int)) (rd_lenS rfl Tryd.underlying9) rfl ?_
      refine Wx.rd (v := .string (coreV b)) (rd_move rfl) rfl ?_
      refine Wx.rd (v := .int .i64 ((coreV b).size : Int)) (rd_lenS rfl Tryd.underlying9) rfl ?_
      refine Wx.rd (v := .bool (decide (((coreV a).size : Int) = ((coreV b).size : Int)))) (rd_eql rfl rfl) rfl ?_
      refine Wx.rd (v := .bool (decide (((coreV a).size : Int) = ((coreV b).size : Int)))) (rd_move rfl) rfl ?_
      refine Wx.cut (X := Unit) 6 [31, 32, 33, 34, 35, 36] (fun _ => [(36, .bool (decide (((coreV a).size : Int) = ((coreV b).size : Int)) && contains ((coreV a) ++ (coreV a)).data.toList (coreV b).data.toList))]) (fun _ w' => St w [] w' []) ?_ ?_
      · rcases Bool.eq_false_or_eq_true (decide (((coreV a).size : Int) = ((coreV b).size : Int))) with g_7 | g_7
        · -- True
          have gp_8 := of_decide_eq_true g_7
          refine Wx.gyes rfl rfl (congrArg Value.bool g_7) ?_
          refine Wx.rd (v := .string (coreV a)) (rd_move rfl) rfl ?_
          refine Wx.gyes rfl rfl (congrArg Value.bool g_7) ?_
          refine Wx.rd (v := .string (coreV a)) (rd_move rfl) rfl ?_
          refine Wx.gyes rfl rfl (congrArg Value.bool g_7) ?_
          refine Wx.rd (v := .string ((coreV a) ++ (coreV a))) (rd_addS rfl rfl (by omega)) rfl ?_
          refine Wx.gyes rfl rfl (congrArg Value.bool g_7) ?_
          refine Wx.rd (v := .string (coreV b)) (rd_move rfl) rfl ?_
          refine Wx.gyes rfl rfl (congrArg Value.bool g_7) ?_
          refine Wx.callF (run_callF Tryd.call47 rfl) (F47 (by first | assumption | (simp only [maxLen]; omega) | (simp only [ByteArray.size_extract, ByteArray.size_append, maxLen] at *; omega) | decide) (by first | assumption | (simp only [maxLen]; omega) | (simp only [ByteArray.size_extract, ByteArray.size_append, maxLen] at *; omega) | decide) (by rw [ByteArray.size_append]; omega) (hG.ext hS.bel)) rfl ?_
          rintro r_9 w_10 hx_11 rfl
          have hS := hS.ext hx_11
          refine Wx.rd (v := .bool (contains ((coreV a) ++ (coreV a)).data.toList (coreV b).data.toList)) (rd_pickT (congrArg Value.bool g_7) rfl) rfl ?_
          refine Wx.nil ⟨(), hS, ⟨?_, trivial⟩, Out.look rfl Out.refl⟩
          show Value.bool (contains ((coreV a) ++ (coreV a)).data.toList (coreV b).data.toList) = Value.bool (decide (((coreV a).size : Int) = ((coreV b).size : Int)) && contains ((coreV a) ++ (coreV a)).data.toList (coreV b).data.toList)
          rw [g_7]; rfl
        · -- False
          have gp_12 := of_decide_eq_false g_7
          refine Wx.gnoB rfl rfl (congrArg Value.bool g_7) rfl rfl ?_
          refine Wx.gnoB rfl rfl (congrArg Value.bool g_7) rfl rfl ?_
          refine Wx.gnoB rfl rfl (congrArg Value.bool g_7) rfl rfl ?_
          refine Wx.gnoB rfl rfl (congrArg Value.bool g_7) rfl rfl ?_
          refine Wx.gnoB rfl rfl (congrArg Value.bool g_7) rfl rfl ?_
          refine Wx.rd (v := .bool false) (rd_pickF (congrArg Value.bool g_7) rfl) rfl ?_
          refine Wx.nil ⟨(), hS, ⟨?_, trivial⟩, Out.look rfl Out.refl⟩
          show Value.bool false = Value.bool (decide (((coreV a).size : Int) = ((coreV b).size : Int)) && contains ((coreV a) ++ (coreV a)).data.toList (coreV b).data.toList)
          rw [g_7]; rfl
      rintro ⟨⟩ u_14 w_13 hS
      refine Wx.rd (v := .bool (decide (((coreV a).size : Int) = ((coreV b).size : Int)) && contains ((coreV a) ++ (coreV a)).data.toList (coreV b).data.toList)) (rd_assign rfl) rfl ?_
      refine Wx.rd (v := .int .i64 0) (rd_assign rfl) rfl ?_
      refine Wx.nil ?_
      have e2_0 : (alikeP a b) = (decide (((coreV a).size : Int) = ((coreV b).size : Int)) && contains ((coreV a) ++ (coreV a)).data.toList (coreV b).data.toList) := by have e : alikeE a b = 0 := (if_pos (by omega)).trans (by omega); rw [alikeP, if_pos e]
      have e2_1 : (alikeE a b) = (0 : Int) := by exact (if_pos (by omega)).trans (by omega)
      exact W.ret ⟨.tuple #[.bool (decide (((coreV a).size : Int) = ((coreV b).size : Int)) && contains ((coreV a) ++ (coreV a)).data.toList (coreV b).data.toList), .int .i64 0], ResIs.two, hS.bel, (by rw [e2_0, e2_1])⟩

theorem F43 {a : ByteArray} {b : ByteArray} {O : List (Option Nat)} {w : World} (s_a : a.size ≤ maxLen) (s_b : b.size ≤ maxLen) (hO : ∀ b, some b ∈ O → b < w.heap.size) : Calls Tryd.prog 43 #[.string a, .string b] w (Ret w (fun r _ => r = .tuple #[.bool (alikeR a b), .int .i64 (alikeE a b)])) := by
  have hS := St.start w O hO
  refine enterR Tryd.func43 rfl Tryd.ntmps43 Tryd.results43 rfl ?_
  refine W.seq ?_
  refine W.reg ?_
  refine Wx.rd (v := .bool false) (rd_assign rfl) rfl ?_
  refine Wx.rd (v := .int .i64 0) (rd_assign rfl) rfl ?_
  refine Wx.nil ?_
  refine W.seq ?_
  refine W.reg ?_
  refine Wx.rd (v := .string a) (rd_move rfl) rfl ?_
  refine Wx.callF (run_callF Tryd.call18 rfl) (F18 (by first | assumption | (simp only [maxLen]; omega) | (simp only [ByteArray.size_extract, ByteArray.size_append, maxLen] at *; omega) | decide)) rfl ?_
  rintro r_1 w_2 hx_3 rfl
  have hS := hS.ext hx_3
  refine Wx.rd (v := .int .i64 (rimE a)) (rd_assign rfl) rfl ?_
  refine Wx.nil ?_
  refine W.seq ?_
  refine W.seq ?_
  refine W.reg ?_
  refine Wx.rd (v := .int .i64 (rimE a)) (rd_move rfl) rfl ?_
  refine Wx.rd (v := .bool (decide ((rimE a) = 0))) (rd_eql rfl rfl) rfl ?_
  refine Wx.nil ?_
  refine W.condD rfl (fun c0 => ?_) (fun c0 => ?_)
  · -- yes
    refine W.reg ?_
    refine Wx.rd (v := .string b) (rd_move rfl) rfl ?_
    refine Wx.callF (run_callF Tryd.call18 rfl) (F18 (by first | assumption | (simp only [maxLen]; omega) | (simp only [ByteArray.size_extract, ByteArray.size_append, maxLen] at *; omega) | decide)) rfl ?_
    rintro r_4 w_5 hx_6 rfl
    have hS := hS.ext hx_6
    refine Wx.rd (v := .int .i64 (rimE b)) (rd_assign rfl) rfl ?_
    refine Wx.nil ?_
    refine W.seq ?_
    refine W.seq ?_
    refine W.reg ?_
    refine Wx.rd (v := .int .i64 (rimE b)) (rd_move rfl) rfl ?_
    refine Wx.rd (v := .bool (decide ((rimE b) ≠ 0))) (rd_neq rfl rfl) rfl ?_
    refine Wx.nil ?_
    refine W.condD rfl (fun c1 => ?_) (fun c1 => ?_)
    · -- yes
      refine W.seq ?_
      refine W.reg ?_
      refine Wx.rd (v := .int .i64 (rimE b)) (rd_move rfl) rfl ?_
      refine Wx.rd (v := .bool false) (rd_assign rfl) rfl ?_
      refine Wx.rd (v := .int .i64 (rimE b)) (rd_assign rfl) rfl ?_
      refine Wx.nil ?_
      have e0_0 : (alikeR a b) = false := by have e : alikeE a b = rimE b := if_pos c0; rw [alikeR, e, if_neg c1]
      have e0_1 : (alikeE a b) = (rimE b : Int) := by exact if_pos c0
      exact W.ret ⟨.tuple #[.bool false, .int .i64 (rimE b)], ResIs.two, hS.bel, (by rw [e0_0, e0_1])⟩
    · -- no
      have hb0 : rimE b = 0 := by omega
      obtain ⟨ha1, ha2⟩ := rimE_ok c0
      obtain ⟨hb1, hb2⟩ := rimE_ok hb0
      have hz1 := coreF_size (restV a)
      have hz2 := rest_size (s := a)
      have e : alikeE a b = 0 := (if_pos c0).trans hb0
      have hal : alikeR a b = rotB (coreF (restV a)) (coreF (restV b)) := if_pos e
      refine W.skip ?_
      refine W.seq ?_
      refine W.reg ?_
      refine Wx.rd (v := .string a) (rd_move rfl) rfl ?_
      refine Wx.callF (run_callF Tryd.call77 rfl) (F77 (by first | assumption | (simp only [maxLen]; omega) | (simp only [ByteArray.size_extract, ByteArray.size_append, maxLen] at *; omega) | decide) (by omega) ha2 hS.fb_lt) rfl ?_
      rintro r_7 w_8 hx_9 rfl
      have hS := hS.ext hx_9
      refine Wx.rd (v := .string b) (rd_move rfl) rfl ?_
      refine Wx.callF (run_callF Tryd.call77 rfl) (F77 (by first | assumption | (simp only [maxLen]; omega) | (simp only [ByteArray.size_extract, ByteArray.size_append, maxLen] at *; omega) | decide) (by omega) hb2 hS.fb_lt) rfl ?_
      rintro r_10 w_11 hx_12 rfl
      have hS := hS.ext hx_12
      refine Wx.rd (v := .string (coreF (restV a))) (rd_assign rfl) rfl ?_
      refine Wx.rd (v := .string (coreF (restV b))) (rd_assign rfl) rfl ?_
      refine Wx.nil ?_
      refine W.seq ?_
      refine W.seq ?_
      refine W.reg ?_
      refine Wx.rd (v := .string (coreF (restV a))) (rd_move rfl) rfl ?_
      refine Wx.rd (v := .string (coreF (restV b))) (rd_move rfl) rfl ?_
      refine Wx.rd (v := .bool ((coreF (restV a)) == (coreF (restV b)))) (rd_eqlS rfl rfl) rfl ?_
      refine Wx.nil ?_
      refine W.cond rfl (fun c2 => ?_) (fun c2 => ?_)
      · -- yes
        try simp only [Bool.and_eq_true, Bool.or_eq_true, Bool.not_eq_true', Bool.and_eq_false_iff, Bool.or_eq_false_iff, Bool.not_eq_false', decide_eq_true_eq, decide_eq_false_iff_not, not_or, Bool.false_eq_true, Bool.true_eq_false, false_or, or_false, not_false_eq_true] at c2
        refine W.seq ?_
        refine W.reg ?_
        refine Wx.rd (v := .bool true) (rd_assign rfl) rfl ?_
        refine Wx.rd (v := .int .i64 0) (rd_assign rfl) rfl ?_
        refine Wx.nil ?_
        have e1_0 : (alikeR a b) = true := by rw [hal, rotB, c2]; rfl
        have e1_1 : (alikeE a b) = (0 : Int) := by exact e
        exact W.ret ⟨.tuple #[.bool true, .int .i64 0], ResIs.two, hS.bel, (by rw [e1_0, e1_1])⟩
      · -- no
        try simp only [Bool.and_eq_true, Bool.or_eq_true, Bool.not_eq_true', Bool.and_eq_false_iff, Bool.or_eq_false_iff, Bool.not_eq_false', decide_eq_true_eq, decide_eq_false_iff_not, not_or, Bool.false_eq_true, Bool.true_eq_false, false_or, or_false, not_false_eq_true] at c2
        refine W.skip ?_
        refine W.seq ?_
        refine W.seq ?_
        refine W.reg ?_
        refine Wx.rd (v := .int .i64 1) (rd_assign rfl) rfl ?_
        refine Wx.nil ?_
        refine W.block ?_
        refine W.loop [4, 5, 9, 26, 27, 28, 29, 30, 31, 32, 33, 34, 35, 36, 37, 38, 39, 40] (fun (i : Int) => [(9, .int .i64 i)]) (fun (i : Int) w' => St w O w' [] ∧ 1 ≤ i ∧ (rng i (coreF (restV a)).size).any (fun i => rotS (coreF (restV a)) i == (coreF (restV b))) = (rng 1 (coreF (restV a)).size).any (fun i => rotS (coreF (restV a)) i == (coreF (restV b)))) (fun (i : Int) => ((coreF (restV a)).size - i).toNat) 1 ⟨rfl, trivial⟩ ⟨hS, (by first | omega | simp), (rfl)⟩ ?_
        rintro i u_14 w_13 ⟨hS, h0, h2⟩
        refine W.seq ?_
        refine W.seq ?_
        refine W.reg ?_
        refine Wx.rd (v := .int .i64 i) (rd_move rfl) rfl ?_
        refine Wx.rd (v := .string (coreF (restV a))) (rd_move rfl) rfl ?_
        refine Wx.rd (v := .int .i64 ((coreF (restV a)).size : Int)) (rd_lenS rfl Tryd.underlying9) rfl ?_
        refine Wx.rd (v := .bool (decide (i < ((coreF (restV a)).size : Int)))) (rd_lss rfl rfl) rfl ?_
        refine Wx.nil ?_
        refine W.condD rfl (fun c3 => ?_) (fun c3 => ?_)
        · -- yes
          refine W.skip ?_
          refine W.seq ?_
          refine W.block ?_
          refine W.seq ?_
          refine W.regQ mixedHi_ (by kernel_rfl) ?_
          refine Wx.rd (v := .string (coreF (restV a))) (rd_move rfl) rfl ?_
          refine Wx.rd (v := .int .i64 i) (rd_move rfl) rfl ?_
          refine Wx.rd (v := .string ((coreF (restV a)).extract i.toNat (coreF (restV a)).size)) (rd_sliceS_L Tryd.underlying9 rfl rfl (by omega) (by omega)) rfl ?_
          refine Wx.rd (v := .string (coreF (restV a))) (rd_move rfl) rfl ?_
          refine Wx.rd (v := .int .i64 i) (rd_move rfl) rfl ?_
          refine Wx.rd (v := .string ((coreF (restV a)).extract 0 i.toNat)) (rd_sliceS_H Tryd.underlying9 rfl rfl (by omega) (by omega)) rfl ?_
          refine Wx.rd (v := .string (((coreF (restV a)).extract i.toNat (coreF (restV a)).size) ++ ((coreF (restV a)).extract 0 i.toNat))) (rd_addS rfl rfl (by rw [ByteArray.size_extract, ByteArray.size_extract]; omega)) rfl ?_
          refine Wx.rd (v := .string (coreF (restV b))) (rd_move rfl) rfl ?_
          refine Wx.rd (v := .bool ((((coreF (restV a)).extract i.toNat (coreF (restV a)).size) ++ ((coreF (restV a)).extract 0 i.toNat)) == (coreF (restV b)))) (rd_eqlS rfl rfl) rfl ?_
          refine Wx.nilQ (fun w_15 hx_16 => ?_)
          have hS := hS.ext hx_16
          refine W.cond rfl (fun c4 => ?_) (fun c4 => ?_)
          · -- yes
            try simp only [Bool.and_eq_true, Bool.or_eq_true, Bool.not_eq_true', Bool.and_eq_false_iff, Bool.or_eq_false_iff, Bool.not_eq_false', decide_eq_true_eq, decide_eq_false_iff_not, not_or, Bool.false_eq_true, Bool.true_eq_false, false_or, or_false, not_false_eq_true] at c4
            refine W.seq ?_
            refine W.reg ?_
            refine Wx.rd (v := .bool true) (rd_assign rfl) rfl ?_
            refine Wx.rd (v := .int .i64 0) (rd_assign rfl) rfl ?_
            refine Wx.nil ?_
            have e2_0 : (alikeR a b) = true := by rw [hal, rotB, rot_any h2 c3 c4, Bool.or_true]
            have e2_1 : (alikeE a b) = (0 : Int) := by exact e
            exact W.ret ⟨.tuple #[.bool true, .int .i64 0], ResIs.two, hS.bel, (by rw [e2_0, e2_1])⟩
          · -- no
            try simp only [Bool.and_eq_true, Bool.or_eq_true, Bool.not_eq_true', Bool.and_eq_false_iff, Bool.or_eq_false_iff, Bool.not_eq_false', decide_eq_true_eq, decide_eq_false_iff_not, not_or, Bool.false_eq_true, Bool.true_eq_false, false_or, or_false, not_false_eq_true] at c4
            refine W.skip ?_
            refine W.reg ?_
            refine Wx.rd (v := .int .i64 i) (rd_move rfl) rfl ?_
            refine Wx.rd (v := .int .i64 (i + 1)) (rd_add rfl rfl (in_i64 (by omega) (by omega))) rfl ?_
            refine Wx.rd (v := .int .i64 (i + 1)) (rd_assign rfl) rfl ?_
            refine Wx.nil ?_
            refine ⟨i + 1, (by show ((coreF (restV a)).size - (i + 1)).toNat < ((coreF (restV a)).size - i).toNat; omega), ?_, ?_, Out.look rfl Out.self⟩
            · exact ⟨hS, (by first | omega | assumption), (rot_next h2 c3 c4)⟩
            · exact ⟨rfl, trivial⟩
        · -- no
          refine W.exit rfl ?_
          refine W.seq ?_
          refine W.reg ?_
          refine Wx.rd (v := .bool false) (rd_assign rfl) rfl ?_
          refine Wx.rd (v := .int .i64 0) (rd_assign rfl) rfl ?_
          refine Wx.nil ?_
          have e3_0 : (alikeR a b) = false := by rw [hal, rotB, c2, ← h2, rng_nil (by omega)]; rfl
          have e3_1 : (alikeE a b) = (0 : Int) := by exact e
          exact W.ret ⟨.tuple #[.bool false, .int .i64 0], ResIs.two, hS.bel, (by rw [e3_0, e3_1])⟩
  · -- no
    refine W.skip ?_
    refine W.seq ?_
    refine W.seq ?_
    refine W.reg ?_
    refine Wx.rd (v := .int .i64 (rimE a)) (rd_move rfl) rfl ?_
    refine Wx.rd (v := .bool (decide ((rimE a) ≠ 0))) (rd_neq rfl rfl) rfl ?_
    refine Wx.nil ?_
    refine W.condT rfl (decide_eq_true c0) ?_
    refine W.seq ?_
    refine W.reg ?_
    refine Wx.rd (v := .int .i64 (rimE a)) (rd_move rfl) rfl ?_
    refine Wx.rd (v := .bool false) (rd_assign rfl) rfl ?_
    refine Wx.rd (v := .int .i64 (rimE a)) (rd_assign rfl) rfl ?_
    refine Wx.nil ?_
    have e4_0 : (alikeR a b) = false := by have e : alikeE a b = rimE a := if_neg c0; rw [alikeR, e, if_neg c0]
    have e4_1 : (alikeE a b) = (rimE a : Int) := by exact if_neg c0
    exact W.ret ⟨.tuple #[.bool false, .int .i64 (rimE a)], ResIs.two, hS.bel, (by rw [e4_0, e4_1])⟩
end Go.Proofs.YtokdjjebnomciaaDoor

namespace Go.Proofs.YtokdjjebnomciaaDoor
open Go.Wk Go.RowKit Go.Lib
set_option linter.unusedVariables false
set_option linter.unusedSimpArgs false
theorem mixedHc_ : Tryd.prog.follows .mixedOrders = true := by kernel_rfl
theorem foHc_94_1 : fldOff Tryd.prog 94 1 = some 1 := by kernel_rfl
theorem foHc_82_0 : fldOff Tryd.prog 82 0 = some 0 := by kernel_rfl
theorem foHc_82_1 : fldOff Tryd.prog 82 1 = some 1 := by kernel_rfl
theorem foHc_94_0 : fldOff Tryd.prog 94 0 = some 0 := by kernel_rfl

theorem F91 {g : Nat} {s : ByteArray} {T : Tab} {i : Int} {j : Int} {n : Int} {w : World} (x_g : w.heap[g]? = some (.cells (tabC s T).toArray 94 (0, 0))) (i_i : InK .i64 i) (i_j : InK .i64 j) (i_n : InK .i64 n) (p_T : TabB T) (p_i : 0 ≤ i) (p_i2 : i < 12) (p_j : 0 ≤ j) (p_j2 : j < 12) (p_n : 0 ≤ n) (p_n2 : n ≤ 12) : Calls Tryd.prog 91 #[.pointer (some ⟨g, 0, none⟩), .int .i64 i, .int .i64 j, .int .i64 n] w (Ret w (fun r _ => r = .agg #[.int .i64 ((T (i + 1) j).1 + (T (j + 1) n).1 + 1), .int .i64 ((T (i + 1) j).2 * (T (j + 1) n).2)])) := by
  have b_n := bd_i64 i_n
  have b_j := bd_i64 i_j
  have b_i := bd_i64 i_i
  have hm := p_T.mul i j n
  have hS := St.start0 w
  refine enterR Tryd.func91 rfl Tryd.ntmps91 Tryd.results91 rfl ?_
  refine W.seq ?_
  refine W.reg ?_
  refine Wx.alloc (cs := [.int .i64 0, .int .i64 0]) hS Tryd.zeroValue82 rfl rfl (fun g_1 w_2 hx_4 hb_3 hS => ?_)
  refine Wx.nil ?_
  refine W.seq ?_
  refine W.regH mixedHc_ (fun w_5 hx_6 => ?_)
  have h0 := hS
  have hS := (St.start _ _ h0.fb_lt).ext hx_6
  refine Wh.rd (v := .pointer (some ⟨g, 0, none⟩)) 0 rfl (by kernel_rfl) hS.bel (rd_move rfl) rfl ?_
  refine Wh.rd (v := .int .i64 i) 1 rfl (by kernel_rfl) hS.bel (rd_move rfl) rfl ?_
  refine Wh.rd (v := .int .i64 (i + 1)) 2 rfl (by kernel_rfl) hS.bel (rd_add rfl rfl (in_i64 (by omega) (by omega))) rfl ?_
  refine Wh.rd (v := .int .i64 j) 3 rfl (by kernel_rfl) hS.bel (rd_move rfl) rfl ?_
  refine Wh.rd (v := .pointer (some ⟨g, 0, none⟩)) 4 rfl (by kernel_rfl) hS.bel (rd_nilCheck rfl rfl) rfl ?_
  refine Wh.rd (v := .pointer (some ⟨g, 1, none⟩)) 5 rfl (by kernel_rfl) hS.bel (rd_fieldAddr (o := 0) rfl foHc_94_1) rfl ?_
  refine Wh.rd (v := .pointer (some ⟨g, 1 + (i + 1).toNat * 26, none⟩)) 6 rfl (by kernel_rfl) hS.bel (rd_indexArr (o := 1) rfl rfl Tryd.underlying92 Tryd.sizeOf91 (by omega) (by omega)) rfl ?_
  refine Wh.rd (v := .pointer (some ⟨g, 1 + (i + 1).toNat * 26 + j.toNat * 2, none⟩)) 7 rfl (by kernel_rfl) hS.bel (rd_indexArr (o := 1 + (i + 1).toNat * 26) rfl rfl Tryd.underlying91 Tryd.sizeOf82 (by omega) (by omega)) rfl ?_
  refine Wh.rd (v := .agg #[.int .i64 ((T (i + 1) j).1), .int .i64 ((T (i + 1) j).2)]) 8 rfl (by kernel_rfl) hS.bel (rd_tabP (fun _ q => extAt x_g (Ext.trans h0.bel q)) rfl (by omega) (by omega) (by omega) (by omega) Tryd.isAgg82 Tryd.sizeOf82) rfl ?_
  have bt_7 := p_T (i + 1) j
  refine Wh.rd (v := .pointer (some ⟨g, 0, none⟩)) 9 rfl (by kernel_rfl) hS.bel (rd_move rfl) rfl ?_
  refine Wh.rd (v := .int .i64 j) 10 rfl (by kernel_rfl) hS.bel (rd_move rfl) rfl ?_
  refine Wh.rd (v := .int .i64 (j + 1)) 11 rfl (by kernel_rfl) hS.bel (rd_add rfl rfl (in_i64 (by omega) (by omega))) rfl ?_
  refine Wh.rd (v := .int .i64 n) 12 rfl (by kernel_rfl) hS.bel (rd_move rfl) rfl ?_
  refine Wh.rd (v := .pointer (some ⟨g, 0, none⟩)) 13 rfl (by kernel_rfl) hS.bel (rd_nilCheck rfl rfl) rfl ?_
  refine Wh.rd (v := .pointer (some ⟨g, 1, none⟩)) 14 rfl (by kernel_rfl) hS.bel (rd_fieldAddr (o := 0) rfl foHc_94_1) rfl ?_
  refine Wh.rd (v := .pointer (some ⟨g, 1 + (j + 1).toNat * 26, none⟩)) 15 rfl (by kernel_rfl) hS.bel (rd_indexArr (o := 1) rfl rfl Tryd.underlying92 Tryd.sizeOf91 (by omega) (by omega)) rfl ?_
  refine Wh.rd (v := .pointer (some ⟨g, 1 + (j + 1).toNat * 26 + n.toNat * 2, none⟩)) 16 rfl (by kernel_rfl) hS.bel (rd_indexArr (o := 1 + (j + 1).toNat * 26) rfl rfl Tryd.underlying91 Tryd.sizeOf82 (by omega) (by omega)) rfl ?_
  refine Wh.rd (v := .agg #[.int .i64 ((T (j + 1) n).1), .int .i64 ((T (j + 1) n).2)]) 17 rfl (by kernel_rfl) hS.bel (rd_tabP (fun _ q => extAt x_g (Ext.trans h0.bel q)) rfl (by omega) (by omega) (by omega) (by omega) Tryd.isAgg82 Tryd.sizeOf82) rfl ?_
  have bt_8 := p_T (j + 1) n
  refine Wh.br [18, 19] (by kernel_rfl) (by decide) ⟨⟨_, rfl, ?_⟩, ⟨_, rfl, ?_⟩, trivial⟩
  · -- operation 18
    refine Wx.alloc (cs := [.int .i64 0, .int .i64 0]) hS Tryd.zeroValue82 rfl rfl (fun g_9 w_10 hx_12 hb_11 hS => ?_)
    refine Wx.nil ⟨hS.bel, ?_⟩
    refine Wh.br [19] (by kernel_rfl) (by decide) ⟨⟨_, rfl, ?_⟩, trivial⟩
    refine Wx.alloc (cs := [.int .i64 0, .int .i64 0]) hS Tryd.zeroValue82 rfl rfl (fun g_13 w_14 hx_16 hb_15 hS => ?_)
    refine Wx.nil ⟨hS.bel, ?_⟩
    refine Wh.br [20] (by kernel_rfl) (by decide) ⟨⟨_, rfl, ?_⟩, trivial⟩
    refine Wx.storeX (cs' := [.int .i64 ((T (i + 1) j).1), .int .i64 ((T (i + 1) j).2)]) (ds := [.int .i64 ((T (i + 1) j).1), .int .i64 ((T (i + 1) j).2)]) hS 1 rfl rfl rfl rfl Tryd.sizeOf82 (Nat.le_of_ble_eq_true rfl) (one_cons rfl (one_cons rfl one_nil)) rfl (fun w_17 hz_18 hS => ?_)
    refine Wx.nil ⟨hS.bel, ?_⟩
    refine Wh.br [21] (by kernel_rfl) (by decide) ⟨⟨_, rfl, ?_⟩, trivial⟩
    refine Wx.storeX (cs' := [.int .i64 ((T (j + 1) n).1), .int .i64 ((T (j + 1) n).2)]) (ds := [.int .i64 ((T (j + 1) n).1), .int .i64 ((T (j + 1) n).2)]) hS 0 rfl rfl rfl rfl Tryd.sizeOf82 (Nat.le_of_ble_eq_true rfl) (one_cons rfl (one_cons rfl one_nil)) rfl (fun w_19 hz_20 hS => ?_)
    refine Wx.nil ⟨hS.bel, ?_⟩
    refine Wh.done (by kernel_rfl) ?_
    have hS := h0.merge hS
    refine W.seq ?_
    refine W.reg ?_
    refine Wx.rd (v := .pointer (some ⟨g_9, 0, none⟩)) (rd_fieldAddr rfl foHc_82_0) rfl ?_
    refine Wx.rd (v := .int .i64 ((T (i + 1) j).1)) (rd_loadX hS 1 rfl rfl rfl Tryd.isAgg3) rfl ?_
    refine Wx.rd (v := .pointer (some ⟨g_13, 0, none⟩)) (rd_fieldAddr rfl foHc_82_0) rfl ?_
    refine Wx.rd (v := .int .i64 ((T (j + 1) n).1)) (rd_loadX hS 0 rfl rfl rfl Tryd.isAgg3) rfl ?_
    refine Wx.rd (v := .int .i64 (((T (i + 1) j).1) + ((T (j + 1) n).1))) (rd_add rfl rfl (in_i64 (by omega) (by omega))) rfl ?_
    refine Wx.rd (v := .int .i64 ((((T (i + 1) j).1) + ((T (j + 1) n).1)) + 1)) (rd_add rfl rfl (in_i64 (by omega) (by omega))) rfl ?_
    refine Wx.rd (v := .pointer (some ⟨g_9, 1, none⟩)) (rd_fieldAddr rfl foHc_82_1) rfl ?_
    refine Wx.rd (v := .int .i64 ((T (i + 1) j).2)) (rd_loadX hS 1 rfl rfl rfl Tryd.isAgg3) rfl ?_
    refine Wx.rd (v := .pointer (some ⟨g_13, 1, none⟩)) (rd_fieldAddr rfl foHc_82_1) rfl ?_
    refine Wx.rd (v := .int .i64 ((T (j + 1) n).2)) (rd_loadX hS 0 rfl rfl rfl Tryd.isAgg3) rfl ?_
    refine Wx.rd (v := .int .i64 (((T (i + 1) j).2) * ((T (j + 1) n).2))) (rd_mul rfl rfl (in_i64 (by omega) (by omega))) rfl ?_
    refine Wx.rd (v := .agg #[.int .i64 ((((T (i + 1) j).1) + ((T (j + 1) n).1)) + 1), .int .i64 (((T (i + 1) j).2) * ((T (j + 1) n).2))]) (rd_build (vs := [(0, .int .i64 ((((T (i + 1) j).1) + ((T (j + 1) n).1)) + 1)), (1, .int .i64 (((T (i + 1) j).2) * ((T (j + 1) n).2)))]) rfl (by kernel_rfl)) rfl ?_
    refine Wx.storeX (cs' := [.int .i64 ((((T (i + 1) j).1) + ((T (j + 1) n).1)) + 1), .int .i64 (((T (i + 1) j).2) * ((T (j + 1) n).2))]) (ds := [.int .i64 ((((T (i + 1) j).1) + ((T (j + 1) n).1)) + 1), .int .i64 (((T (i + 1) j).2) * ((T (j + 1) n).2))]) hS 2 rfl rfl rfl rfl Tryd.sizeOf82 (Nat.le_of_ble_eq_true rfl) (one_cons rfl (one_cons rfl one_nil)) rfl (fun w_21 hz_22 hS => ?_)
    refine Wx.nil ?_
    have e0_0 : ((T (i + 1) j).1 + (T (j + 1) n).1 + 1) = ((((T (i + 1) j).1) + ((T (j + 1) n).1)) + 1 : Int) := by first | rfl | omega
    have e0_1 : ((T (i + 1) j).2 * (T (j + 1) n).2) = (((T (i + 1) j).2) * ((T (j + 1) n).2) : Int) := by first | rfl | omega
    exact W.ret ⟨.agg #[.int .i64 ((((T (i + 1) j).1) + ((T (j + 1) n).1)) + 1), .int .i64 (((T (i + 1) j).2) * ((T (j + 1) n).2))], (ResIs.cell1 hS 2 rfl rfl Tryd.isAgg82 Tryd.sizeOf82), hS.bel, (by rw [e0_0, e0_1])⟩
  · -- operation 19
    refine Wx.alloc (cs := [.int .i64 0, .int .i64 0]) hS Tryd.zeroValue82 rfl rfl (fun g_23 w_24 hx_26 hb_25 hS => ?_)
    refine Wx.nil ⟨hS.bel, ?_⟩
    refine Wh.br [18] (by kernel_rfl) (by decide) ⟨⟨_, rfl, ?_⟩, trivial⟩
    refine Wx.alloc (cs := [.int .i64 0, .int .i64 0]) hS Tryd.zeroValue82 rfl rfl (fun g_27 w_28 hx_30 hb_29 hS => ?_)
    refine Wx.nil ⟨hS.bel, ?_⟩
    refine Wh.br [20] (by kernel_rfl) (by decide) ⟨⟨_, rfl, ?_⟩, trivial⟩
    refine Wx.storeX (cs' := [.int .i64 ((T (i + 1) j).1), .int .i64 ((T (i + 1) j).2)]) (ds := [.int .i64 ((T (i + 1) j).1), .int .i64 ((T (i + 1) j).2)]) hS 0 rfl rfl rfl rfl Tryd.sizeOf82 (Nat.le_of_ble_eq_true rfl) (one_cons rfl (one_cons rfl one_nil)) rfl (fun w_31 hz_32 hS => ?_)
    refine Wx.nil ⟨hS.bel, ?_⟩
    refine Wh.br [21] (by kernel_rfl) (by decide) ⟨⟨_, rfl, ?_⟩, trivial⟩
    refine Wx.storeX (cs' := [.int .i64 ((T (j + 1) n).1), .int .i64 ((T (j + 1) n).2)]) (ds := [.int .i64 ((T (j + 1) n).1), .int .i64 ((T (j + 1) n).2)]) hS 1 rfl rfl rfl rfl Tryd.sizeOf82 (Nat.le_of_ble_eq_true rfl) (one_cons rfl (one_cons rfl one_nil)) rfl (fun w_33 hz_34 hS => ?_)
    refine Wx.nil ⟨hS.bel, ?_⟩
    refine Wh.done (by kernel_rfl) ?_
    have hS := h0.merge hS
    refine W.seq ?_
    refine W.reg ?_
    refine Wx.rd (v := .pointer (some ⟨g_27, 0, none⟩)) (rd_fieldAddr rfl foHc_82_0) rfl ?_
    refine Wx.rd (v := .int .i64 ((T (i + 1) j).1)) (rd_loadX hS 0 rfl rfl rfl Tryd.isAgg3) rfl ?_
    refine Wx.rd (v := .pointer (some ⟨g_23, 0, none⟩)) (rd_fieldAddr rfl foHc_82_0) rfl ?_
    refine Wx.rd (v := .int .i64 ((T (j + 1) n).1)) (rd_loadX hS 1 rfl rfl rfl Tryd.isAgg3) rfl ?_
    refine Wx.rd (v := .int .i64 (((T (i + 1) j).1) + ((T (j + 1) n).1))) (rd_add rfl rfl (in_i64 (by omega) (by omega))) rfl ?_
    refine Wx.rd (v := .int .i64 ((((T (i + 1) j).1) + ((T (j + 1) n).1)) + 1)) (rd_add rfl rfl (in_i64 (by omega) (by omega))) rfl ?_
    refine Wx.rd (v := .pointer (some ⟨g_27, 1, none⟩)) (rd_fieldAddr rfl foHc_82_1) rfl ?_
    refine Wx.rd (v := .int .i64 ((T (i + 1) j).2)) (rd_loadX hS 0 rfl rfl rfl Tryd.isAgg3) rfl ?_
    refine Wx.rd (v := .pointer (some ⟨g_23, 1, none⟩)) (rd_fieldAddr rfl foHc_82_1) rfl ?_
    refine Wx.rd (v := .int .i64 ((T (j + 1) n).2)) (rd_loadX hS 1 rfl rfl rfl Tryd.isAgg3) rfl ?_
    refine Wx.rd (v := .int .i64 (((T (i + 1) j).2) * ((T (j + 1) n).2))) (rd_mul rfl rfl (in_i64 (by omega) (by omega))) rfl ?_
    refine Wx.rd (v := .agg #[.int .i64 ((((T (i + 1) j).1) + ((T (j + 1) n).1)) + 1), .int .i64 (((T (i + 1) j).2) * ((T (j + 1) n).2))]) (rd_build (vs := [(0, .int .i64 ((((T (i + 1) j).1) + ((T (j + 1) n).1)) + 1)), (1, .int .i64 (((T (i + 1) j).2) * ((T (j + 1) n).2)))]) rfl (by kernel_rfl)) rfl ?_
    refine Wx.storeX (cs' := [.int .i64 ((((T (i + 1) j).1) + ((T (j + 1) n).1)) + 1), .int .i64 (((T (i + 1) j).2) * ((T (j + 1) n).2))]) (ds := [.int .i64 ((((T (i + 1) j).1) + ((T (j + 1) n).1)) + 1), .int .i64 (((T (i + 1) j).2) * ((T (j + 1) n).2))]) hS 2 rfl rfl rfl rfl Tryd.sizeOf82 (Nat.le_of_ble_eq_true rfl) (one_cons rfl (one_cons rfl one_nil)) rfl (fun w_35 hz_36 hS => ?_)
    refine Wx.nil ?_
    have e0_0 : ((T (i + 1) j).1 + (T (j + 1) n).1 + 1) = ((((T (i + 1) j).1) + ((T (j + 1) n).1)) + 1 : Int) := by first | rfl | omega
    have e0_1 : ((T (i + 1) j).2 * (T (j + 1) n).2) = (((T (i + 1) j).2) * ((T (j + 1) n).2) : Int) := by first | rfl | omega
    exact W.ret ⟨.agg #[.int .i64 ((((T (i + 1) j).1) + ((T (j + 1) n).1)) + 1), .int .i64 (((T (i + 1) j).2) * ((T (j + 1) n).2))], (ResIs.cell1 hS 2 rfl rfl Tryd.isAgg82 Tryd.sizeOf82), hS.bel, (by rw [e0_0, e0_1])⟩

theorem F67 {g : Nat} {s : ByteArray} {T : Tab} {w : World} (x_g : w.heap[g]? = some (.cells (tabC s T).toArray 94 (0, 0))) (p_T : TabB T) (p_s : (s.size : Int) ≤ 12) : Calls Tryd.prog 67 #[.pointer (some ⟨g, 0, none⟩)] w (Ret w (fun r _ => r = .agg #[.int .i64 ((T 0 s.size).1), .int .i64 ((T 0 s.size).2)])) := by
  have hS := St.start0 w
  refine enterR Tryd.func67 rfl Tryd.ntmps67 Tryd.results67 rfl ?_
  refine W.seq ?_
  refine W.reg ?_
  refine Wx.alloc (cs := [.int .i64 0, .int .i64 0]) hS Tryd.zeroValue82 rfl rfl (fun g_1 w_2 hx_4 hb_3 hS => ?_)
  refine Wx.nil ?_
  refine W.seq ?_
  refine W.regT 11 mixedHc_ (by kernel_rfl) ?_
  refine Wx.rd (v := .pointer (some ⟨g, 0, none⟩)) (rd_move rfl) rfl ?_
  refine Wx.rd (v := .pointer (some ⟨g, 0, none⟩)) (rd_move rfl) rfl ?_
  refine Wx.rd (v := .pointer (some ⟨g, 0, none⟩)) (rd_nilCheck rfl rfl) rfl ?_
  refine Wx.rd (v := .pointer (some ⟨g, 0, none⟩)) (rd_fieldAddr (o := 0) rfl foHc_94_0) rfl ?_
  refine Wx.rd (v := .string s) (rd_tabS (fun _ q => extAt x_g (Ext.trans hS.bel q)) rfl Tryd.isAgg9) rfl ?_
  refine Wx.rd (v := .int .i64 (s.size : Int)) (rd_lenS rfl Tryd.underlying9) rfl ?_
  refine Wx.rd (v := .pointer (some ⟨g, 0, none⟩)) (rd_nilCheck rfl rfl) rfl ?_
  refine Wx.rd (v := .pointer (some ⟨g, 1, none⟩)) (rd_fieldAddr (o := 0) rfl foHc_94_1) rfl ?_
  refine Wx.rd (v := .pointer (some ⟨g, 1 + (0 : Int).toNat * 26, none⟩)) (rd_indexArr (o := 1) rfl rfl Tryd.underlying92 Tryd.sizeOf91 (by omega) (by omega)) rfl ?_
  refine Wx.rd (v := .pointer (some ⟨g, 1 + (0 : Int).toNat * 26 + (s.size : Int).toNat * 2, none⟩)) (rd_indexArr (o := 1 + (0 : Int).toNat * 26) rfl rfl Tryd.underlying91 Tryd.sizeOf82 (by omega) (by omega)) rfl ?_
  refine Wx.rd (v := .agg #[.int .i64 ((T (0 : Int) (s.size : Int)).1), .int .i64 ((T (0 : Int) (s.size : Int)).2)]) (rd_tabP (fun _ q => extAt x_g (Ext.trans hS.bel q)) rfl (by omega) (by omega) (by omega) (by omega) Tryd.isAgg82 Tryd.sizeOf82) rfl ?_
  have bt_5 := p_T (0 : Int) (s.size : Int)
  refine Wx.nilQ (fun w_6 hx_7 => ?_)
  have hS := hS.ext hx_7
  refine Wx.storeX (cs' := [.int .i64 ((T (0 : Int) (s.size : Int)).1), .int .i64 ((T (0 : Int) (s.size : Int)).2)]) (ds := [.int .i64 ((T (0 : Int) (s.size : Int)).1), .int .i64 ((T (0 : Int) (s.size : Int)).2)]) hS 0 rfl rfl rfl rfl Tryd.sizeOf82 (Nat.le_of_ble_eq_true rfl) (one_cons rfl (one_cons rfl one_nil)) rfl (fun w_8 hz_9 hS => ?_)
  refine Wx.nil ?_
  have e0_0 : ((T 0 s.size).1) = ((T (0 : Int) (s.size : Int)).1 : Int) := by first | rfl | omega
  have e0_1 : ((T 0 s.size).2) = ((T (0 : Int) (s.size : Int)).2 : Int) := by first | rfl | omega
  exact W.ret ⟨.agg #[.int .i64 ((T (0 : Int) (s.size : Int)).1), .int .i64 ((T (0 : Int) (s.size : Int)).2)], (ResIs.cell1 hS 0 rfl rfl Tryd.isAgg82 Tryd.sizeOf82), hS.bel, (by rw [e0_0, e0_1])⟩

theorem F66 {rim : ByteArray} {w : World} (s_rim : rim.size ≤ maxLen) (p_12 : (rim.size : Int) ≤ 12) (p_l : Lets rim) (hG : Laid w) : Calls Tryd.prog 66 #[.string rim] w (Ret w (fun r w' => ∃ g T, r = .pointer (some ⟨g, 0, none⟩) ∧ w.heap.size ≤ g ∧ w'.heap[g]? = some (.cells (tabC rim T).toArray 94 (0, 0)) ∧ TabOK rim T)) := by
  have hS := St.start0 w
  refine enterR Tryd.func66 rfl Tryd.ntmps66 Tryd.results66 rfl ?_
  refine W.seq ?_
  refine W.reg ?_
  refine Wx.rd (v := (Go.Value.pointer none)) (rd_assign rfl) rfl ?_
  refine Wx.nil ?_
  refine W.seq ?_
  refine W.reg ?_
  refine Wx.rd (v := .string rim) (rd_move rfl) rfl ?_
  refine Wx.rd (v := .agg (tabC rim (fun _ _ => (0, 0))).toArray) (rd_build (vs := [(0, .string rim)]) rfl (by kernel_rfl)) rfl ?_
  refine Wx.box (cs := tabC rim (fun _ _ => (0, 0))) hS rfl rfl rfl (fun g_1 w_2 hx_4 hb_3 hS => ?_)
  refine Wx.rd (v := .pointer (some ⟨g_1, 0, none⟩)) (rd_assign rfl) rfl ?_
  refine Wx.nil ?_
  refine W.seq ?_
  refine W.seq ?_
  refine W.reg ?_
  refine Wx.rd (v := .string rim) (rd_move rfl) rfl ?_
  refine Wx.rd (v := .int .i64 (rim.size : Int)) (rd_lenS rfl Tryd.underlying9) rfl ?_
  refine Wx.rd (v := .int .i64 ((rim.size : Int) + 1)) (rd_add rfl rfl (in_i64 (by omega) (by omega))) rfl ?_
  refine Wx.rd (v := .int .i64 0) (rd_move rfl) rfl ?_
  refine Wx.nil ?_
  refine W.block ?_
  refine W.loop [4, 5, 6, 7, 8, 15, 16, 17, 18, 19, 20, 21, 22, 23, 24, 25, 26, 27, 28, 29, 30, 31, 32, 33, 34, 35, 36, 37, 38, 39, 40, 41, 42, 43, 44, 45, 46, 47, 48, 49, 50, 51, 52, 53, 54, 55, 56, 57, 58, 59, 60, 61, 62, 63, 64, 65, 66, 67, 68, 69, 70, 71, 72, 73, 74, 75, 76, 77, 78, 79, 80, 81, 82, 83, 84, 85] (fun x : Int × Tab => match x with | (n, T) => [(15, .int .i64 n)]) (fun (x : Int × Tab) w' => match x with | (n, T) => St w [] w' [.box g_1 94 (tabC rim T)] ∧ 0 ≤ n ∧ n ≤ rim.size + 1 ∧ TabB T ∧ (∀ a b, 0 ≤ a → a ≤ b → b < n → T a b = partP (fitR rim) a b)) (fun x : Int × Tab => match x with | (n, T) => (rim.size + 1 - n).toNat) (0, (fun _ _ => (0, 0))) ⟨rfl, trivial⟩ ⟨hS, (by first | omega | simp), (by first | omega | simp), (TabB.zero), (fun a b a0 ab b0 => by omega)⟩ ?_
  rintro ⟨n, T⟩ u_6 w_5 ⟨hS, h0, h1, hB, hT⟩
  refine W.seq ?_
  refine W.reg ?_
  refine Wx.rd (v := .bool (decide (n < ((rim.size : Int) + 1)))) (rd_lss rfl rfl) rfl ?_
  refine Wx.nil ?_
  refine W.seq ?_
  refine W.condD rfl (fun c0 => ?_) (fun c0 => ?_)
  · -- yes
    refine W.skip ?_
    refine W.seq ?_
    refine W.block ?_
    refine W.seq ?_
    refine W.reg ?_
    refine Wx.rd (v := .int .i64 n) (rd_move rfl) rfl ?_
    refine Wx.rd (v := .int .i64 n) (rd_assign rfl) rfl ?_
    refine Wx.nil ?_
    refine W.seq ?_
    refine W.reg ?_
    refine Wx.rd (v := .pointer (some ⟨g_1, 0, none⟩)) (rd_move rfl) rfl ?_
    refine Wx.rd (v := .int .i64 n) (rd_move rfl) rfl ?_
    refine Wx.rd (v := .int .i64 n) (rd_move rfl) rfl ?_
    refine Wx.rd (v := .agg #[.int .i64 0, .int .i64 1]) (rd_build (vs := [(0, .int .i64 0), (1, .int .i64 1)]) rfl (by kernel_rfl)) rfl ?_
    refine Wx.rd (v := .pointer (some ⟨g_1, 0, none⟩)) (rd_nilCheck rfl rfl) rfl ?_
    refine Wx.rd (v := .pointer (some ⟨g_1, 1, none⟩)) (rd_fieldAddr (o := 0) rfl foHc_94_1) rfl ?_
    refine Wx.rd (v := .pointer (some ⟨g_1, 1 + n.toNat * 26, none⟩)) (rd_indexArr (o := 1) rfl rfl Tryd.underlying92 Tryd.sizeOf91 (by omega) (by omega)) rfl ?_
    refine Wx.rd (v := .pointer (some ⟨g_1, 1 + n.toNat * 26 + n.toNat * 2, none⟩)) (rd_indexArr (o := 1 + n.toNat * 26) rfl rfl Tryd.underlying91 Tryd.sizeOf82 (by omega) (by omega)) rfl ?_
    refine Wx.storeX (cs' := tabC rim (updT T n n (0, 1))) (ds := [.int .i64 0, .int .i64 1]) hS 0 rfl rfl rfl rfl Tryd.sizeOf82 (by rw [tabC_len]; show _ + 2 ≤ 339; omega) (one_cons rfl (one_cons rfl one_nil)) (tabC_set rim T (by omega) (by omega) (by omega) (by omega) 0 1) (fun w_7 hz_8 hS => ?_)
    refine Wx.nil ?_
    refine W.seq ?_
    refine W.reg ?_
    refine Wx.rd (v := .int .i64 n) (rd_move rfl) rfl ?_
    refine Wx.rd (v := .int .i64 (n - 1)) (rd_sub rfl rfl (in_i64 (by omega) (by omega))) rfl ?_
    refine Wx.rd (v := .int .i64 (n - 1)) (rd_assign rfl) rfl ?_
    refine Wx.nil ?_
    refine W.block ?_
    refine W.loop [5, 6, 7, 8, 28, 29, 30, 31, 32, 33, 34, 35, 36, 37, 38, 39, 40, 41, 42, 43, 44, 45, 46, 47, 48, 49, 50, 51, 52, 53, 54, 55, 56, 57, 58, 59, 60, 61, 62, 63, 64, 65, 66, 67, 68, 69, 70, 71, 72, 73, 74, 75, 76, 77, 78, 79, 80, 81, 82, 83, 84] (fun x : Int × Tab => match x with | (i, T2) => [(5, .int .i64 i)]) (fun (x : Int × Tab) w' => match x with | (i, T2) => St w [] w' [.box g_1 94 (tabC rim T2)] ∧ -1 ≤ i ∧ i < n ∧ TabB T2 ∧ (∀ a b, 0 ≤ a → a ≤ b → b < n → T2 a b = partP (fitR rim) a b) ∧ (∀ a, i < a → a ≤ n → T2 a n = partP (fitR rim) a n)) (fun x : Int × Tab => match x with | (i, T2) => (i + 1).toNat) (n - 1, updT T n n (0, 1)) ⟨rfl, trivial⟩ ⟨hS, (by first | omega | simp), (by first | omega | simp), (hB.upd (by decide)), (fun a b a0 ab hb => by rw [updT_ne (by omega)]; exact hT a b a0 ab hb), (fun a h1 h2 => by rw [show a = n by omega, updT_at, partP_nil (by omega)])⟩ ?_
    rintro ⟨i, T2⟩ u_10 w_9 ⟨hS, g0, g1, hB, hT2, hN⟩
    refine W.seq ?_
    refine W.seq ?_
    refine W.reg ?_
    refine Wx.rd (v := .int .i64 i) (rd_move rfl) rfl ?_
    refine Wx.rd (v := .bool (decide (0 ≤ i))) (rd_geq rfl rfl) rfl ?_
    refine Wx.nil ?_
    refine W.condD rfl (fun c1 => ?_) (fun c1 => ?_)
    · -- yes
      refine W.skip ?_
      refine W.seq ?_
      refine W.block ?_
      refine W.seq ?_
      refine W.reg ?_
      refine Wx.rd (v := .pointer (some ⟨g_1, 0, none⟩)) (rd_move rfl) rfl ?_
      refine Wx.rd (v := .int .i64 i) (rd_move rfl) rfl ?_
      refine Wx.rd (v := .int .i64 (i + 1)) (rd_add rfl rfl (in_i64 (by omega) (by omega))) rfl ?_
      refine Wx.rd (v := .int .i64 n) (rd_move rfl) rfl ?_
      refine Wx.rd (v := .pointer (some ⟨g_1, 0, none⟩)) (rd_nilCheck rfl rfl) rfl ?_
      refine Wx.rd (v := .pointer (some ⟨g_1, 1, none⟩)) (rd_fieldAddr (o := 0) rfl foHc_94_1) rfl ?_
      refine Wx.rd (v := .pointer (some ⟨g_1, 1 + (i + 1).toNat * 26, none⟩)) (rd_indexArr (o := 1) rfl rfl Tryd.underlying92 Tryd.sizeOf91 (by omega) (by omega)) rfl ?_
      refine Wx.rd (v := .pointer (some ⟨g_1, 1 + (i + 1).toNat * 26 + n.toNat * 2, none⟩)) (rd_indexArr (o := 1 + (i + 1).toNat * 26) rfl rfl Tryd.underlying91 Tryd.sizeOf82 (by omega) (by omega)) rfl ?_
      refine Wx.rd (v := .agg #[.int .i64 ((T2 (i + 1) n).1), .int .i64 ((T2 (i + 1) n).2)]) (rd_tabP (fun _ q => boxAt hS 0 rfl q) rfl (by omega) (by omega) (by omega) (by omega) Tryd.isAgg82 Tryd.sizeOf82) rfl ?_
      have bt_11 := hB (i + 1) n
      refine Wx.alloc (cs := [.int .i64 0, .int .i64 0]) hS Tryd.zeroValue82 rfl rfl (fun g_12 w_13 hx_15 hb_14 hS => ?_)
      refine Wx.storeX (cs' := [.int .i64 ((T2 (i + 1) n).1), .int .i64 ((T2 (i + 1) n).2)]) (ds := [.int .i64 ((T2 (i + 1) n).1), .int .i64 ((T2 (i + 1) n).2)]) hS 0 rfl rfl rfl rfl Tryd.sizeOf82 (Nat.le_of_ble_eq_true rfl) (one_cons rfl (one_cons rfl one_nil)) rfl (fun w_16 hz_17 hS => ?_)
      refine Wx.nil ?_
      refine W.seq ?_
      refine W.seq ?_
      refine W.reg ?_
      refine Wx.rd (v := .int .i64 i) (rd_move rfl) rfl ?_
      refine Wx.rd (v := .int .i64 (i + 1)) (rd_add rfl rfl (in_i64 (by omega) (by omega))) rfl ?_
      refine Wx.rd (v := .int .i64 (i + 1)) (rd_assign rfl) rfl ?_
      refine Wx.nil ?_
      refine W.block ?_
      refine W.loop [7, 8, 43, 44, 45, 46, 47, 48, 49, 50, 51, 52, 53, 54, 55, 56, 57, 58, 59, 60, 61, 62, 63, 64, 65, 66, 67, 68, 69, 70, 71, 72, 73, 74, 75, 76] (fun x : Int × Int × Int => match x with | (j, bm, bc) => [(7, .int .i64 j)]) (fun (x : Int × Int × Int) w' => match x with | (j, bm, bc) => St w [] w' [.box g_12 82 [.int .i64 bm, .int .i64 bc], .box g_1 94 (tabC rim T2)] ∧ i + 1 ≤ j ∧ j ≤ n ∧ bm = (foldP (fitR rim) i n j).1 ∧ bc = (foldP (fitR rim) i n j).2) (fun x : Int × Int × Int => match x with | (j, bm, bc) => (n - j).toNat) (i + 1, (T2 (i + 1) n).1, (T2 (i + 1) n).2) ⟨rfl, trivial⟩ ⟨hS, (by first | omega | simp), (by first | omega | simp), (by rw [foldP_start, hN (i + 1) (by omega) (by omega)]), (by rw [foldP_start, hN (i + 1) (by omega) (by omega)])⟩ ?_
      rintro ⟨j, bm, bc⟩ u_19 w_18 ⟨hS, k0, k1, k2, k3⟩
      have hfb := foldP_bd (F := fitR rim) (i := i) (n := n) (j := j) (by omega) (by omega) k0 k1
      refine W.seq ?_
      refine W.seq ?_
      refine W.reg ?_
      refine Wx.rd (v := .int .i64 j) (rd_move rfl) rfl ?_
      refine Wx.rd (v := .int .i64 n) (rd_move rfl) rfl ?_
      refine Wx.rd (v := .bool (decide (j < n))) (rd_lss rfl rfl) rfl ?_
      refine Wx.nil ?_
      refine W.condD rfl (fun c2 => ?_) (fun c2 => ?_)
      · -- yes
        refine W.skip ?_
        refine W.seq ?_
        refine W.block ?_
        refine W.seq ?_
        refine W.seq ?_
        refine W.reg ?_
        refine Wx.rd (v := .string rim) (rd_move rfl) rfl ?_
        refine Wx.rd (v := .int .i64 i) (rd_move rfl) rfl ?_
        refine Wx.rd (v := .int .i64 j) (rd_move rfl) rfl ?_
        refine Wx.callF (run_callF Tryd.call61 rfl) (F61 (by first | assumption | (simp only [maxLen]; omega) | (simp only [ByteArray.size_extract, ByteArray.size_append, maxLen] at *; omega) | decide) (in_i64 (by omega) (by omega)) (in_i64 (by omega) (by omega)) (by omega) (by omega) (by omega) (by omega) (by omega) (hG.ext hS.bel)) rfl ?_
        rintro r_20 w_21 hx_22 rfl
        have hS := hS.ext hx_22
        refine Wx.rd (v := .bool (!(fitR rim i j))) (rd_not rfl) rfl ?_
        refine Wx.nil ?_
        refine W.cond rfl (fun c3 => ?_) (fun c3 => ?_)
        · -- yes
          try simp only [Bool.and_eq_true, Bool.or_eq_true, Bool.not_eq_true', Bool.and_eq_false_iff, Bool.or_eq_false_iff, Bool.not_eq_false', decide_eq_true_eq, decide_eq_false_iff_not, not_or, Bool.false_eq_true, Bool.true_eq_false, false_or, or_false, not_false_eq_true] at c3
          refine W.exit rfl ?_
          refine W.reg ?_
          refine Wx.rd (v := .int .i64 j) (rd_move rfl) rfl ?_
          refine Wx.rd (v := .int .i64 (j + 1)) (rd_add rfl rfl (in_i64 (by omega) (by omega))) rfl ?_
          refine Wx.rd (v := .int .i64 (j + 1)) (rd_assign rfl) rfl ?_
          refine Wx.nil ?_
          refine ⟨(j + 1, bm, bc), (by show (n - (j + 1)).toNat < (n - j).toNat; omega), ?_, ?_, Out.look rfl Out.self⟩
          · exact ⟨hS, (by first | omega | assumption), (by first | omega | assumption), ((step_no k0 k2 k3 c3).1), ((step_no k0 k2 k3 c3).2)⟩
          · exact ⟨rfl, trivial⟩
        · -- no
          try simp only [Bool.and_eq_true, Bool.or_eq_true, Bool.not_eq_true', Bool.and_eq_false_iff, Bool.or_eq_false_iff, Bool.not_eq_false', decide_eq_true_eq, decide_eq_false_iff_not, not_or, Bool.false_eq_true, Bool.true_eq_false, false_or, or_false, not_false_eq_true] at c3
          refine W.skip ?_
          refine W.seq ?_
          refine W.reg ?_
          refine Wx.rd (v := .pointer (some ⟨g_1, 0, none⟩)) (rd_move rfl) rfl ?_
          refine Wx.rd (v := .int .i64 i) (rd_move rfl) rfl ?_
          refine Wx.rd (v := .int .i64 j) (rd_move rfl) rfl ?_
          refine Wx.rd (v := .int .i64 n) (rd_move rfl) rfl ?_
          have hmb := hB.mul i j n
          have hjp : joinP (partP (fitR rim) (i + 1) j) (partP (fitR rim) (j + 1) n) = ((T2 (i + 1) j).1 + (T2 (j + 1) n).1 + 1, (T2 (i + 1) j).2 * (T2 (j + 1) n).2) := by rw [← hT2 (i + 1) j (by omega) k0 c2, ← hN (j + 1) (by omega) (by omega)]; rfl
          have hb1 := hB (i + 1) j
          have hb2 := hB (j + 1) n
          refine Wx.callF (run_callF Tryd.call91 rfl) (F91 (boxAt hS 1 rfl (Ext.refl _)) (in_i64 (by omega) (by omega)) (in_i64 (by omega) (by omega)) (in_i64 (by omega) (by omega)) hB (by omega) (by omega) (by omega) (by omega) (by omega) (by omega)) rfl ?_
          rintro r_23 w_24 hx_25 rfl
          have hS := hS.ext hx_25
          refine Wx.alloc (cs := [.int .i64 0, .int .i64 0]) hS Tryd.zeroValue82 rfl rfl (fun g_26 w_27 hx_29 hb_28 hS => ?_)
          refine Wx.storeX (cs' := [.int .i64 ((T2 (i + 1) j).1 + (T2 (j + 1) n).1 + 1), .int .i64 ((T2 (i + 1) j).2 * (T2 (j + 1) n).2)]) (ds := [.int .i64 ((T2 (i + 1) j).1 + (T2 (j + 1) n).1 + 1), .int .i64 ((T2 (i + 1) j).2 * (T2 (j + 1) n).2)]) hS 0 rfl rfl rfl rfl Tryd.sizeOf82 (Nat.le_of_ble_eq_true rfl) (one_cons rfl (one_cons rfl one_nil)) rfl (fun w_30 hz_31 hS => ?_)
          refine Wx.nil ?_
          refine W.block ?_
          refine W.seq ?_
          refine W.reg ?_
          refine Wx.rd (v := .pointer (some ⟨g_26, 0, none⟩)) (rd_fieldAddr rfl foHc_82_0) rfl ?_
          refine Wx.rd (v := .int .i64 ((T2 (i + 1) j).1 + (T2 (j + 1) n).1 + 1)) (rd_loadX hS 0 rfl rfl rfl Tryd.isAgg3) rfl ?_
          refine Wx.rd (v := .pointer (some ⟨g_12, 0, none⟩)) (rd_fieldAddr rfl foHc_82_0) rfl ?_
          refine Wx.rd (v := .int .i64 bm) (rd_loadX hS 1 rfl rfl rfl Tryd.isAgg3) rfl ?_
          refine Wx.rd (v := .bool (decide (bm < ((T2 (i + 1) j).1 + (T2 (j + 1) n).1 + 1)))) (rd_gtr rfl rfl) rfl ?_
          refine Wx.rd (v := .bool (decide (bm < ((T2 (i + 1) j).1 + (T2 (j + 1) n).1 + 1)))) (rd_assign rfl) rfl ?_
          refine Wx.nil ?_
          refine W.condD rfl (fun c4 => ?_) (fun c4 => ?_)
          · -- yes
            refine W.reg ?_
            refine Wx.rd (v := .agg #[.int .i64 ((T2 (i + 1) j).1 + (T2 (j + 1) n).1 + 1), .int .i64 ((T2 (i + 1) j).2 * (T2 (j + 1) n).2)]) (rd_loadXs (ds := [.int .i64 ((T2 (i + 1) j).1 + (T2 (j + 1) n).1 + 1), .int .i64 ((T2 (i + 1) j).2 * (T2 (j + 1) n).2)]) hS 0 rfl rfl rfl rfl Tryd.isAgg82 Tryd.sizeOf82) rfl ?_
            refine Wx.storeX (cs' := [.int .i64 ((T2 (i + 1) j).1 + (T2 (j + 1) n).1 + 1), .int .i64 ((T2 (i + 1) j).2 * (T2 (j + 1) n).2)]) (ds := [.int .i64 ((T2 (i + 1) j).1 + (T2 (j + 1) n).1 + 1), .int .i64 ((T2 (i + 1) j).2 * (T2 (j + 1) n).2)]) hS 1 rfl rfl rfl rfl Tryd.sizeOf82 (Nat.le_of_ble_eq_true rfl) (one_cons rfl (one_cons rfl one_nil)) rfl (fun w_32 hz_33 hS => ?_)
            refine Wx.nil ?_
            refine W.reg ?_
            refine Wx.rd (v := .int .i64 j) (rd_move rfl) rfl ?_
            refine Wx.rd (v := .int .i64 (j + 1)) (rd_add rfl rfl (in_i64 (by omega) (by omega))) rfl ?_
            refine Wx.rd (v := .int .i64 (j + 1)) (rd_assign rfl) rfl ?_
            refine Wx.nil ?_
            refine ⟨(j + 1, (T2 (i + 1) j).1 + (T2 (j + 1) n).1 + 1, (T2 (i + 1) j).2 * (T2 (j + 1) n).2), (by show (n - (j + 1)).toNat < (n - j).toNat; omega), ?_, ?_, Out.look rfl Out.self⟩
            · exact ⟨hS.tl, (by first | omega | assumption), (by first | omega | assumption), ((step_gt k0 k2 c3 hjp c4).1), ((step_gt k0 k2 c3 hjp c4).2)⟩
            · exact ⟨rfl, trivial⟩
          · -- no
            refine W.seq ?_
            refine W.reg ?_
            refine Wx.rd (v := .pointer (some ⟨g_26, 0, none⟩)) (rd_fieldAddr rfl foHc_82_0) rfl ?_
            refine Wx.rd (v := .int .i64 ((T2 (i + 1) j).1 + (T2 (j + 1) n).1 + 1)) (rd_loadX hS 0 rfl rfl rfl Tryd.isAgg3) rfl ?_
            refine Wx.rd (v := .pointer (some ⟨g_12, 0, none⟩)) (rd_fieldAddr rfl foHc_82_0) rfl ?_
            refine Wx.rd (v := .int .i64 bm) (rd_loadX hS 1 rfl rfl rfl Tryd.isAgg3) rfl ?_
            refine Wx.rd (v := .bool (decide (((T2 (i + 1) j).1 + (T2 (j + 1) n).1 + 1) = bm))) (rd_eql rfl rfl) rfl ?_
            refine Wx.rd (v := .bool (decide (((T2 (i + 1) j).1 + (T2 (j + 1) n).1 + 1) = bm))) (rd_assign rfl) rfl ?_
            refine Wx.nil ?_
            refine W.condD rfl (fun c5 => ?_) (fun c5 => ?_)
            · -- yes
              refine W.reg ?_
              refine Wx.rd (v := .pointer (some ⟨g_12, 1, none⟩)) (rd_fieldAddr rfl foHc_82_1) rfl ?_
              refine Wx.rd (v := .int .i64 bc) (rd_loadX hS 1 rfl rfl rfl Tryd.isAgg3) rfl ?_
              refine Wx.rd (v := .pointer (some ⟨g_26, 1, none⟩)) (rd_fieldAddr rfl foHc_82_1) rfl ?_
              refine Wx.rd (v := .int .i64 ((T2 (i + 1) j).2 * (T2 (j + 1) n).2)) (rd_loadX hS 0 rfl rfl rfl Tryd.isAgg3) rfl ?_
              refine Wx.rd (v := .int .i64 (bc + ((T2 (i + 1) j).2 * (T2 (j + 1) n).2))) (rd_add rfl rfl (in_i64 (by omega) (by omega))) rfl ?_
              refine Wx.rd (v := .pointer (some ⟨g_12, 1, none⟩)) (rd_fieldAddr rfl foHc_82_1) rfl ?_
              refine Wx.storeX (cs' := [.int .i64 bm, .int .i64 (bc + ((T2 (i + 1) j).2 * (T2 (j + 1) n).2))]) (ds := [.int .i64 (bc + ((T2 (i + 1) j).2 * (T2 (j + 1) n).2))]) hS 1 rfl rfl rfl rfl Tryd.sizeOf3 (Nat.le_of_ble_eq_true rfl) (one_cons rfl one_nil) rfl (fun w_34 hz_35 hS => ?_)
              refine Wx.nil ?_
              refine W.reg ?_
              refine Wx.rd (v := .int .i64 j) (rd_move rfl) rfl ?_
              refine Wx.rd (v := .int .i64 (j + 1)) (rd_add rfl rfl (in_i64 (by omega) (by omega))) rfl ?_
              refine Wx.rd (v := .int .i64 (j + 1)) (rd_assign rfl) rfl ?_
              refine Wx.nil ?_
              refine ⟨(j + 1, bm, bc + ((T2 (i + 1) j).2 * (T2 (j + 1) n).2)), (by show (n - (j + 1)).toNat < (n - j).toNat; omega), ?_, ?_, Out.look rfl Out.self⟩
              · exact ⟨hS.tl, (by first | omega | assumption), (by first | omega | assumption), ((step_eq k0 k2 k3 c3 hjp c4 c5).1), ((step_eq k0 k2 k3 c3 hjp c4 c5).2)⟩
              · exact ⟨rfl, trivial⟩
            · -- no
              refine W.skip ?_
              refine W.reg ?_
              refine Wx.rd (v := .int .i64 j) (rd_move rfl) rfl ?_
              refine Wx.rd (v := .int .i64 (j + 1)) (rd_add rfl rfl (in_i64 (by omega) (by omega))) rfl ?_
              refine Wx.rd (v := .int .i64 (j + 1)) (rd_assign rfl) rfl ?_
              refine Wx.nil ?_
              refine ⟨(j + 1, bm, bc), (by show (n - (j + 1)).toNat < (n - j).toNat; omega), ?_, ?_, Out.look rfl Out.self⟩
              · exact ⟨hS.tl, (by first | omega | assumption), (by first | omega | assumption), ((step_lt k0 k2 k3 c3 hjp c4 c5).1), ((step_lt k0 k2 k3 c3 hjp c4 c5).2)⟩
              · exact ⟨rfl, trivial⟩
      · -- no
        refine W.exit rfl ?_
        refine W.regT 8 mixedHc_ (by kernel_rfl) ?_
        refine Wx.rd (v := .pointer (some ⟨g_1, 0, none⟩)) (rd_move rfl) rfl ?_
        refine Wx.rd (v := .int .i64 i) (rd_move rfl) rfl ?_
        refine Wx.rd (v := .int .i64 n) (rd_move rfl) rfl ?_
        refine Wx.rd (v := .agg #[.int .i64 bm, .int .i64 bc]) (rd_loadXs (ds := [.int .i64 bm, .int .i64 bc]) hS 0 rfl rfl rfl rfl Tryd.isAgg82 Tryd.sizeOf82) rfl ?_
        refine Wx.rd (v := .pointer (some ⟨g_1, 0, none⟩)) (rd_nilCheck rfl rfl) rfl ?_
        refine Wx.rd (v := .pointer (some ⟨g_1, 1, none⟩)) (rd_fieldAddr (o := 0) rfl foHc_94_1) rfl ?_
        refine Wx.rd (v := .pointer (some ⟨g_1, 1 + i.toNat * 26, none⟩)) (rd_indexArr (o := 1) rfl rfl Tryd.underlying92 Tryd.sizeOf91 (by omega) (by omega)) rfl ?_
        refine Wx.rd (v := .pointer (some ⟨g_1, 1 + i.toNat * 26 + n.toNat * 2, none⟩)) (rd_indexArr (o := 1 + i.toNat * 26) rfl rfl Tryd.underlying91 Tryd.sizeOf82 (by omega) (by omega)) rfl ?_
        refine Wx.nilQ (fun w_36 hx_37 => ?_)
        have hS := hS.ext hx_37
        refine Wx.storeX (cs' := tabC rim (updT T2 i n (bm, bc))) (ds := [.int .i64 bm, .int .i64 bc]) hS 1 rfl rfl rfl rfl Tryd.sizeOf82 (by rw [tabC_len]; show _ + 2 ≤ 339; omega) (one_cons rfl (one_cons rfl one_nil)) (tabC_set rim T2 (by omega) (by omega) (by omega) (by omega) bm bc) (fun w_38 hz_39 hS => ?_)
        refine Wx.nil ?_
        refine W.reg ?_
        refine Wx.rd (v := .int .i64 i) (rd_move rfl) rfl ?_
        refine Wx.rd (v := .int .i64 (i - 1)) (rd_sub rfl rfl (in_i64 (by omega) (by omega))) rfl ?_
        refine Wx.rd (v := .int .i64 (i - 1)) (rd_assign rfl) rfl ?_
        refine Wx.nil ?_
        refine ⟨(i - 1, updT T2 i n (bm, bc)), (by show ((i - 1) + 1).toNat < (i + 1).toNat; omega), ?_, ?_, Out.look rfl (Out.hav rfl (Out.look rfl Out.self))⟩
        · exact ⟨hS.tl, (by first | omega | assumption), (by first | omega | assumption), (hB.upd (by rw [k2, k3]; exact hfb)), (fun a b a0 ab hb => by rw [updT_ne (by omega)]; exact hT2 a b a0 ab hb), (fun a h1 h2 => by by_cases h : a = i; (subst h; rw [updT_at, k2, k3, show j = n by omega, foldP_end (by omega)]); rw [updT_ne (by omega)]; exact hN a (by omega) h2)⟩
        · exact ⟨rfl, trivial⟩
    · -- no
      refine W.exit rfl ?_
      refine W.reg ?_
      refine Wx.rd (v := .int .i64 (n + 1)) (rd_add rfl rfl (in_i64 (by omega) (by omega))) rfl ?_
      refine Wx.rd (v := .int .i64 (n + 1)) (rd_move rfl) rfl ?_
      refine Wx.nil ?_
      refine ⟨(n + 1, T2), (by show (rim.size + 1 - (n + 1)).toNat < (rim.size + 1 - n).toNat; omega), ?_, ?_, Out.look rfl (Out.hav rfl (Out.look rfl Out.self))⟩
      · exact ⟨hS, (by first | omega | assumption), (by first | omega | assumption), (hB), (fun a b a0 ab hb => by by_cases h : b = n; (subst h; exact hN a (by omega) ab); exact hT2 a b a0 ab (by omega))⟩
      · exact ⟨rfl, trivial⟩
  · -- no
    refine W.exit rfl ?_
    refine W.seq ?_
    refine W.reg ?_
    refine Wx.rd (v := .pointer (some ⟨g_1, 0, none⟩)) (rd_move rfl) rfl ?_
    refine Wx.rd (v := .pointer (some ⟨g_1, 0, none⟩)) (rd_assign rfl) rfl ?_
    refine Wx.nil ?_
    exact W.ret ⟨.pointer (some ⟨g_1, 0, none⟩), ResIs.one, hS.bel, ⟨g_1, T, rfl, (hS.get 0 rfl).1, (hS.get 0 rfl).2, by exact ⟨hB, fun a b a0 ab bn => hT a b a0 ab (by omega)⟩⟩⟩
end Go.Proofs.YtokdjjebnomciaaDoor
