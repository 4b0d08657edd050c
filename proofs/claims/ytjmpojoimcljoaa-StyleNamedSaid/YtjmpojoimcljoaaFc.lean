/-
  WHAT IS PROVED HERE: what functions of layer 3 hand back, each out of its own code; the conditions stand in each statement.
-/
import Derived.Test.YtjmpojoimcljoaaProg
import Derived.Test.YtjmpojoimcljoaaWk9
import Derived.Test.YtjmpojoimcljoaaSpec6
import Derived.Test.YtjmpojoimcljoaaFa
import Derived.Test.YtjmpojoimcljoaaFb
namespace Go.Proofs.Ytjmpojoimcljoaa
open Go.Wk Go.RowKit
set_option linter.unusedVariables false
set_option linter.unusedSimpArgs false
theorem foFc_85_0 : fldOff Try.prog 85 0 = some 0 := by kernel_rfl
theorem elFc_28 : ElemI Try.prog 28 3 (.int .i64 0) 1 8 := ElemI.of Try.underlying28 (by kernel_rfl) (by first | rfl | kernel_rfl) (by decide)
theorem mixedFc_ : Try.prog.follows .mixedOrders = true := by kernel_rfl

theorem F61 {L : Int} {sv : Value} {ss : List Int} {Fr_sv : List (Option Nat)} {w : World} (i_L : InK .i64 L) (h_sv : V (tSl (tI .u8)) ss sv Fr_sv w) (p_1 : 1 ≤ L) (p_7 : L ≤ 7) : Calls Try.prog 61 #[.agg #[.int .i64 L, sv]] w (Ret w (fun r w' => ∃ ev, r = ev ∧ Fresh (tI .i64) 3 (endT L ss) ev w.heap.size w')) := by
  have b_L := bd_i64 i_L
  have hpw := powI_bd p_1 p_7
  have hpn := powI_nat L
  have a_sv := h_sv.any
  have l_sv := h_sv.len63
  have hS := St.start0 w
  refine enterR Try.func61 rfl Try.ntmps61 Try.results61 rfl ?_
  refine W.seq ?_
  refine W.reg ?_
  refine Wx.box (cs := [.int .i64 L, sv]) hS rfl rfl rfl (fun g_1 w_2 hx_4 hb_3 hS => ?_)
  refine Wx.rd (v := (.slice none 0 0)) (rd_assign rfl) rfl ?_
  refine Wx.nil ?_
  refine W.seq ?_
  refine W.reg ?_
  refine Wx.rd (v := .pointer (some ⟨g_1, 0, none⟩)) (rd_fieldAddr rfl foFc_85_0) rfl ?_
  refine Wx.rd (v := .int .i64 L) (rd_loadX hS 0 rfl rfl rfl Try.isAgg3) rfl ?_
  refine Wx.rd (v := .int .i64 (powI L)) (Rd.to (v := .int .i64 (IntKind.i64.wrap (1 * 2 ^ min L.toNat (IntKind.i64).bits))) (rd_shl rfl rfl (by omega)) (congrArg (Value.int .i64) (show (powI L : Int) = (IntKind.i64.wrap (1 * 2 ^ min L.toNat (IntKind.i64).bits) : Int) from (shl_powI (by omega) (by omega)).symm).symm)) rfl ?_
  have bd_5 := bd_i64 (wrap_inK .i64 (1 * 2 ^ min L.toNat (IntKind.i64).bits))
  refine Wx.make (t := (tI .i64)) (zy := 0) (m := (2 ^ L.toNat)) elFc_28 rfl rfl (fun _ _ => ⟨rfl, by decide, by decide⟩) hS (congrArg (Value.int .i64) hpn) (congrArg (Value.int .i64) hpn) (by omega) (by simp only [maxLen]; omega) rfl (fun v_6 w_7 hx_8 hS => ?_)
  refine Wx.rd (v := v_6) (rd_assign rfl) rfl ?_
  refine Wx.nil ?_
  refine W.seq ?_
  refine W.reg ?_
  refine Wx.rd (v := v_6) (rd_move rfl) rfl ?_
  refine Wx.rd (v := v_6) (rd_move rfl) rfl ?_
  have hrl : (List.replicate (2 ^ L.toNat) (0 : Int)).length = 2 ^ L.toNat := by simp
  refine Wx.rd (v := .int .i64 ((List.replicate (2 ^ L.toNat) 0).length : Int)) (rd_lenR hS 0 rfl rfl Try.underlying28) rfl ?_
  refine Wx.rd (v := .int .i64 (((List.replicate (2 ^ L.toNat) 0).length : Int) - 1)) (rd_sub rfl rfl (in_i64 (by omega) (by omega))) rfl ?_
  refine Wx.indexR hS 0 rfl rfl rfl Try.underlying28 Try.sizeOf3 (by first | omega | (simp only [List.length_set, List.length_append, List.length_cons, List.length_nil, List.length_replicate]; omega)) (by first | omega | (simp only [List.length_set, List.length_append, List.length_cons, List.length_nil, List.length_replicate]; omega)) rfl (fun g_11 hg_12 => ?_)
  refine Wx.storeR (j := (((List.replicate (2 ^ L.toNat) 0).length : Int) - 1).toNat) (z := 1) hS 0 rfl hg_12 rfl (by first | omega | (simp only [List.length_set, List.length_append, List.length_cons, List.length_nil, List.length_replicate]; omega)) rfl (V.mkInt (in_i64 (by omega) (by omega))) Try.sizeOf3 (fun w_13 hz_14 hS => ?_)
  have hS := hS.spell (ys' := fillE L.toNat ss (powI L - 2)) 0 rfl (by rw [fill_start (L := L.toNat) (fs := ss) (by omega) (by simp)]; congr 1; omega)
  refine Wx.nil ?_
  refine W.seq ?_
  refine W.seq ?_
  refine W.reg ?_
  refine Wx.rd (v := v_6) (rd_move rfl) rfl ?_
  have hle := fillE_len L.toNat ss (powI L - 2)
  refine Wx.rd (v := .int .i64 ((fillE L.toNat ss (powI L - 2)).length : Int)) (rd_lenR hS 0 rfl rfl Try.underlying28) rfl ?_
  refine Wx.rd (v := .int .i64 (((fillE L.toNat ss (powI L - 2)).length : Int) - 2)) (rd_sub rfl rfl (in_i64 (by omega) (by omega))) rfl ?_
  refine Wx.rd (v := .int .i64 (((fillE L.toNat ss (powI L - 2)).length : Int) - 2)) (rd_assign rfl) rfl ?_
  refine Wx.nil ?_
  refine W.block ?_
  refine W.loop [4, 5, 18, 19, 20, 21, 22, 23, 24, 25, 26, 27, 28, 29, 30, 31, 32, 33, 34, 35, 36, 37, 38, 39, 40, 41, 42, 43, 44, 45] (fun x : Int × (List Int) => match x with | (p, out) => [(4, .int .i64 p)]) (fun (x : Int × (List Int)) w' => match x with | (p, out) => St w [] w' [.row (tI .i64) 3 v_6 out, .box g_1 85 [.int .i64 L, sv]] ∧ -1 ≤ p ∧ p ≤ powI L - 2 ∧ out = fillE L.toNat ss p ∧ (out.length : Int) = powI L) (fun x : Int × (List Int) => match x with | (p, out) => (p + 1).toNat) (((fillE L.toNat ss (powI L - 2)).length : Int) - 2, fillE L.toNat ss (powI L - 2)) ⟨rfl, trivial⟩ ⟨hS, (by omega), (by omega), (by congr 1; omega), (by omega)⟩ ?_
  rintro ⟨p, out⟩ u_16 w_15 ⟨hS, g0m, g1, g2, g3⟩
  refine W.seq ?_
  refine W.seq ?_
  refine W.reg ?_
  refine Wx.rd (v := .int .i64 p) (rd_move rfl) rfl ?_
  refine Wx.rd (v := .bool (decide (0 ≤ p))) (rd_geq rfl rfl) rfl ?_
  refine Wx.nil ?_
  refine W.condD rfl (fun c0 => ?_) (fun c0 => ?_)
  · -- yes
    refine W.skip ?_
    refine W.seq ?_
    refine W.block ?_
    refine W.seq ?_
    refine W.reg ?_
    refine Wx.rd (v := .pointer (some ⟨g_1, 0, none⟩)) (rd_fieldAddr rfl foFc_85_0) rfl ?_
    refine Wx.rd (v := .int .i64 L) (rd_loadX hS 1 rfl rfl rfl Try.isAgg3) rfl ?_
    refine Wx.rd (v := .int .i64 0) (rd_move rfl) rfl ?_
    refine Wx.nil ?_
    refine W.block ?_
    refine W.loop [5, 24, 25, 26, 27, 28, 29, 30, 31, 32, 33, 34, 35, 36, 37, 38, 39, 40, 41, 42, 43, 44, 45] (fun x : Int × (List Int) => match x with | (k, out) => [(24, .int .i64 k)]) (fun (x : Int × (List Int)) w' => match x with | (k, out) => St w [] w' [.row (tI .i64) 3 v_6 out, .box g_1 85 [.int .i64 L, sv]] ∧ 0 ≤ k ∧ k ≤ L ∧ out = (fillE L.toNat ss p).set p.toNat (sumE L.toNat ss p k.toNat) ∧ (out.length : Int) = powI L) (fun x : Int × (List Int) => match x with | (k, out) => (L - k).toNat) (0, out) ⟨rfl, trivial⟩ ⟨hS, (by first | omega | simp), (by first | omega | simp), (by rw [g2]; exact (fill_set0 c0).symm), (g3)⟩ ?_
    rintro ⟨k, out⟩ u_18 w_17 ⟨hS, h0, h1, h2, h3⟩
    refine W.seq ?_
    refine W.reg ?_
    refine Wx.rd (v := .bool (decide (k < L))) (rd_lss rfl rfl) rfl ?_
    refine Wx.nil ?_
    refine W.seq ?_
    refine W.condD rfl (fun c1 => ?_) (fun c1 => ?_)
    · -- yes
      refine W.skip ?_
      refine W.seq ?_
      refine W.block ?_
      refine W.seq ?_
      refine W.reg ?_
      refine Wx.rd (v := .int .i64 k) (rd_move rfl) rfl ?_
      refine Wx.rd (v := .int .i64 k) (rd_assign rfl) rfl ?_
      refine Wx.nil ?_
      refine W.seq ?_
      refine W.reg ?_
      refine Wx.rd (v := .agg #[.int .i64 L, sv]) (rd_loadXs (ds := [.int .i64 L, sv]) hS 1 rfl rfl rfl rfl Try.isAgg85 Try.sizeOf85) rfl ?_
      refine Wx.rd (v := .int .i64 p) (rd_move rfl) rfl ?_
      refine Wx.rd (v := .int .u8 p) (rd_convIn rfl Try.underlying3 Try.underlying89 (in_u8 (by omega) (by omega))) rfl ?_
      refine Wx.rd (v := .int .i64 k) (rd_move rfl) rfl ?_
      refine Wx.callF (run_callF Try.call62 rfl) (F62 (in_i64 (by omega) (by omega)) (hS.arg a_sv) (in_u8 (by omega) (by omega)) (in_i64 (by omega) (by omega)) (by omega)) rfl ?_
      rintro r_19 w_20 hx_21 rfl
      have hS := hS.ext hx_21
      refine Wx.nil ?_
      refine W.cond rfl (fun c2 => ?_) (fun c2 => ?_)
      · -- yes
        try simp only [Bool.and_eq_true, Bool.or_eq_true, Bool.not_eq_true', Bool.and_eq_false_iff, Bool.or_eq_false_iff, Bool.not_eq_false', decide_eq_true_eq, decide_eq_false_iff_not, not_or, Bool.false_eq_true, Bool.true_eq_false, false_or, or_false, not_false_eq_true] at c2
        refine W.regT 13 mixedFc_ (by kernel_rfl) ?_
        refine Wx.rd (v := v_6) (rd_move rfl) rfl ?_
        refine Wx.rd (v := .int .i64 p) (rd_move rfl) rfl ?_
        have hll := fillE_len L.toNat ss p
        have hlt := orI_lt (n := k) p_1 p_7 c0 (by omega) h0 (by omega)
        have hof := orI_facts (n := k) c0 (by omega) h0 (by omega) (mayB_not c2)
        have ho : ix 0 out p = sumE L.toNat ss p k.toNat := by rw [h2]; exact set_ix_self c0 (by omega)
        have hoo : ix 0 out (orI p k) = endE L.toNat ss (orI p k) := by rw [h2, set_ix_ne c0 (by omega) (by omega), fillE_ix (by omega) (by rw [hpn] at hlt; simpa using hlt), if_pos hof.1]
        have hs1 := sumE_bd (L := L.toNat) (fs := ss) (by omega) p (k := k.toNat) (by omega)
        have hs2 := endE_bd (L := L.toNat) (fs := ss) (by omega) (orI p k)
        refine Wx.indexR hS 0 rfl rfl rfl Try.underlying28 Try.sizeOf3 (by first | omega | (simp only [List.length_set, List.length_append, List.length_cons, List.length_nil, List.length_replicate]; omega)) (by first | omega | (simp only [List.length_set, List.length_append, List.length_cons, List.length_nil, List.length_replicate]; omega)) rfl (fun g_22 hg_23 => ?_)
        refine Wx.rd (v := .int .i64 (ix 0 out p)) (rd_loadRI' hS 0 rfl hg_23 rfl (by first | omega | (simp only [List.length_set, List.length_append, List.length_cons, List.length_nil, List.length_replicate]; omega)) (by first | omega | (simp only [List.length_set, List.length_append, List.length_cons, List.length_nil, List.length_replicate]; omega)) Try.isAgg3 Try.sizeOf3) rfl ?_
        have bd_24 := bd_i64 (hS.rowInK' 0 rfl (by first | omega | (simp only [List.length_set, List.length_append, List.length_cons, List.length_nil, List.length_replicate]; omega)) (by first | omega | (simp only [List.length_set, List.length_append, List.length_cons, List.length_nil, List.length_replicate]; omega)) : InK .i64 (ix 0 out p))
        refine Wx.rd (v := v_6) (rd_move rfl) rfl ?_
        refine Wx.rd (v := .int .i64 p) (rd_move rfl) rfl ?_
        refine Wx.rd (v := .int .i64 k) (rd_move rfl) rfl ?_
        refine Wx.rd (v := .int .i64 (IntKind.i64.wrap (1 * 2 ^ min k.toNat (IntKind.i64).bits))) (rd_shl rfl rfl (by omega)) rfl ?_
        have bd_25 := bd_i64 (wrap_inK .i64 (1 * 2 ^ min k.toNat (IntKind.i64).bits))
        refine Wx.rd (v := .int .i64 (orI p k)) (Rd.to (v := .int .i64 (bits .or .i64 p (IntKind.i64.wrap (1 * 2 ^ min k.toNat (IntKind.i64).bits)))) (rd_or rfl rfl) (congrArg (Value.int .i64) (show (orI p k : Int) = (bits .or .i64 p (IntKind.i64.wrap (1 * 2 ^ min k.toNat (IntKind.i64).bits)) : Int) from rfl).symm)) rfl ?_
        have bd_26 := bd_i64 (bits_in .or .i64 p (IntKind.i64.wrap (1 * 2 ^ min k.toNat (IntKind.i64).bits)))
        refine Wx.indexR hS 0 rfl rfl rfl Try.underlying28 Try.sizeOf3 (by first | omega | (simp only [List.length_set, List.length_append, List.length_cons, List.length_nil, List.length_replicate]; omega)) (by first | omega | (simp only [List.length_set, List.length_append, List.length_cons, List.length_nil, List.length_replicate]; omega)) rfl (fun g_27 hg_28 => ?_)
        refine Wx.rd (v := .int .i64 (ix 0 out (orI p k))) (rd_loadRI' hS 0 rfl hg_28 rfl (by first | omega | (simp only [List.length_set, List.length_append, List.length_cons, List.length_nil, List.length_replicate]; omega)) (by first | omega | (simp only [List.length_set, List.length_append, List.length_cons, List.length_nil, List.length_replicate]; omega)) Try.isAgg3 Try.sizeOf3) rfl ?_
        have bd_29 := bd_i64 (hS.rowInK' 0 rfl (by first | omega | (simp only [List.length_set, List.length_append, List.length_cons, List.length_nil, List.length_replicate]; omega)) (by first | omega | (simp only [List.length_set, List.length_append, List.length_cons, List.length_nil, List.length_replicate]; omega)) : InK .i64 (ix 0 out (orI p k)))
        refine Wx.rd (v := .int .i64 ((ix 0 out p) + (ix 0 out (orI p k)))) (rd_add rfl rfl (in_i64 (by omega) (by omega))) rfl ?_
        refine Wx.indexR hS 0 rfl rfl rfl Try.underlying28 Try.sizeOf3 (by first | omega | (simp only [List.length_set, List.length_append, List.length_cons, List.length_nil, List.length_replicate]; omega)) (by first | omega | (simp only [List.length_set, List.length_append, List.length_cons, List.length_nil, List.length_replicate]; omega)) rfl (fun g_30 hg_31 => ?_)
        refine Wx.nilQ (fun w_32 hx_33 => ?_)
        have hS := hS.ext hx_33
        refine Wx.storeR (j := p.toNat) (z := (ix 0 out p) + (ix 0 out (orI p k))) hS 0 rfl hg_31 rfl (by first | omega | (simp only [List.length_set, List.length_append, List.length_cons, List.length_nil, List.length_replicate]; omega)) rfl (V.mkInt (in_i64 (by omega) (by omega))) Try.sizeOf3 (fun w_34 hz_35 hS => ?_)
        refine Wx.nil ?_
        refine W.reg ?_
        refine Wx.rd (v := .int .i64 (k + 1)) (rd_add rfl rfl (in_i64 (by omega) (by omega))) rfl ?_
        refine Wx.rd (v := .int .i64 (k + 1)) (rd_move rfl) rfl ?_
        refine Wx.nil ?_
        refine ⟨(k + 1, List.set out p.toNat ((ix 0 out p) + (ix 0 out (orI p k)))), (by show (L - (k + 1)).toNat < (L - k).toNat; omega), ?_, ?_, Out.look rfl Out.self⟩
        · exact ⟨hS, (by first | omega | assumption), (by first | omega | assumption), (by rw [ho, hoo, sumE_succ h0, if_pos c2, h2, List.set_set]), (by rw [List.length_set]; exact h3)⟩
        · exact ⟨rfl, trivial⟩
      · -- no
        try simp only [Bool.and_eq_true, Bool.or_eq_true, Bool.not_eq_true', Bool.and_eq_false_iff, Bool.or_eq_false_iff, Bool.not_eq_false', decide_eq_true_eq, decide_eq_false_iff_not, not_or, Bool.false_eq_true, Bool.true_eq_false, false_or, or_false, not_false_eq_true] at c2
        refine W.skip ?_
        refine W.reg ?_
        refine Wx.rd (v := .int .i64 (k + 1)) (rd_add rfl rfl (in_i64 (by omega) (by omega))) rfl ?_
        refine Wx.rd (v := .int .i64 (k + 1)) (rd_move rfl) rfl ?_
        refine Wx.nil ?_
        refine ⟨(k + 1, out), (by show (L - (k + 1)).toNat < (L - k).toNat; omega), ?_, ?_, Out.look rfl Out.self⟩
        · exact ⟨hS, (by first | omega | assumption), (by first | omega | assumption), (by rw [sumE_succ h0, if_neg (by simp [c2]), Int.add_zero]; exact h2), (h3)⟩
        · exact ⟨rfl, trivial⟩
    · -- no
      refine W.exit rfl ?_
      refine W.reg ?_
      refine Wx.rd (v := .int .i64 p) (rd_move rfl) rfl ?_
      refine Wx.rd (v := .int .i64 (p - 1)) (rd_sub rfl rfl (in_i64 (by omega) (by omega))) rfl ?_
      refine Wx.rd (v := .int .i64 (p - 1)) (rd_assign rfl) rfl ?_
      refine Wx.nil ?_
      refine ⟨(p - 1, out), (by show ((p - 1) + 1).toNat < (p + 1).toNat; omega), ?_, ?_, Out.look rfl (Out.hav rfl (Out.look rfl Out.self))⟩
      · exact ⟨hS, (by first | omega | assumption), (by first | omega | assumption), (by rw [h2, show k.toNat = L.toNat by omega, fill_next (by omega) c0 (by omega)]), (h3)⟩
      · exact ⟨rfl, trivial⟩
  · -- no
    refine W.exit rfl ?_
    refine W.seq ?_
    refine W.reg ?_
    refine Wx.rd (v := v_6) (rd_move rfl) rfl ?_
    refine Wx.rd (v := v_6) (rd_assign rfl) rfl ?_
    refine Wx.nil ?_
    have e0_0 : endT L ss = out := by rw [endT, g2]; congr 1; omega
    exact W.ret ⟨v_6, ResIs.one, hS.bel, ⟨v_6, rfl, (by rw [e0_0]; exact (hS.fr 0 rfl flat_int))⟩⟩
end Go.Proofs.Ytjmpojoimcljoaa
