/-
  WHAT IS PROVED HERE: what functions of layer 3 hand back, each out of its own code; the conditions stand in each statement.
-/
import Derived.Test.YtjmpojoimcljoaaProg
import Derived.Test.YtjmpojoimcljoaaWk9
import Derived.Test.YtjmpojoimcljoaaSpec6
import Derived.Test.YtjmpojoimcljoaaWk11
import Derived.Test.YtjmpojoimcljoaaSpec7
namespace Go.Proofs.Ytjmpojoimcljoaa
open Go.Wk Go.RowKit
set_option linter.unusedVariables false
set_option linter.unusedSimpArgs false
theorem elGh_22 : ElemI Try.prog 22 28 ((.slice none 0 0)) 1 24 := ElemI.of Try.underlying22 (by kernel_rfl) (by first | rfl | kernel_rfl) (by decide)
theorem elGh_28 : ElemI Try.prog 28 3 (.int .i64 0) 1 8 := ElemI.of Try.underlying28 (by kernel_rfl) (by first | rfl | kernel_rfl) (by decide)
theorem mixedGh_ : Try.prog.follows .mixedOrders = true := by kernel_rfl

theorem F52 {xv : Value} {xs : List (List Int)} {O : List (Option Nat)} {w : World} (h_xv : V (tSl (tSl (tI .i64))) xs xv O w) (p_1000 : (xs.length : Int) ≤ 1000) (hO : ∀ b, some b ∈ O → b < w.heap.size) : Calls Try.prog 52 #[xv] w (Ret w (fun r w' => ∃ rv, r = rv ∧ FreshO (tSl (tI .i64)) 28 xs rv O w.heap.size w')) := by
  have a_xv := h_xv
  have l_xv := h_xv.len63
  have hS := St.start w O hO
  refine enterR Try.func52 rfl Try.ntmps52 Try.results52 rfl ?_
  refine W.seq ?_
  refine W.reg ?_
  refine Wx.rd (v := (.slice none 0 0)) (rd_assign rfl) rfl ?_
  refine Wx.nil ?_
  refine W.seq ?_
  refine W.seq ?_
  refine W.reg ?_
  refine Wx.rd (v := xv) (rd_move rfl) rfl ?_
  refine Wx.ex (rd_eqlNilV (hS.arg a_xv) rfl rfl Try.underlying22) rfl (fun u_1 hu_u_1 => ?_)
  obtain ⟨b_2, rfl, hb_3⟩ := hu_u_1
  refine Wx.nil ?_
  refine W.cond rfl (fun c0 => ?_) (fun c0 => ?_)
  · -- yes
    try simp only [Bool.and_eq_true, Bool.or_eq_true, Bool.not_eq_true', Bool.and_eq_false_iff, Bool.or_eq_false_iff, Bool.not_eq_false', decide_eq_true_eq, decide_eq_false_iff_not, not_or, Bool.false_eq_true, Bool.true_eq_false, false_or, or_false, not_false_eq_true] at c0
    refine W.seq ?_
    refine W.reg ?_
    refine Wx.rd (v := (.slice none 0 0)) (rd_assign rfl) rfl ?_
    refine Wx.nil ?_
    have e0_0 : xs = [] := by solve_by_elim
    exact W.ret ⟨(.slice none 0 0), ResIs.one, hS.bel, ⟨(.slice none 0 0), rfl, (by rw [e0_0]; exact ((hS.addNil (tSl (tI .i64)) 28).frO 0 rfl))⟩⟩
  · -- no
    try simp only [Bool.and_eq_true, Bool.or_eq_true, Bool.not_eq_true', Bool.and_eq_false_iff, Bool.or_eq_false_iff, Bool.not_eq_false', decide_eq_true_eq, decide_eq_false_iff_not, not_or, Bool.false_eq_true, Bool.true_eq_false, false_or, or_false, not_false_eq_true] at c0
    refine W.skip ?_
    refine W.seq ?_
    refine W.reg ?_
    refine Wx.lit (t := (tSl (tI .i64))) (ys := []) (vs := []) elGh_22 hS rfl rfl trivial (by decide) rfl (fun v_4 w_5 hx_6 hS => ?_)
    refine Wx.rd (v := xv) (rd_move rfl) rfl ?_
    refine Wx.append elGh_22 hS 0 rfl rfl rfl (Src.ofV (hS.arg a_xv)) (by simp only [maxLen]; simp; omega) (by simp; omega) rfl (fun v_7 w_8 hz_9 hS => ?_)
    refine Wx.rd (v := v_7) (rd_assign rfl) rfl ?_
    refine Wx.nil ?_
    have e1_0 : xs = [] ++ xs := by first | rfl | omega
    exact W.ret ⟨v_7, ResIs.one, hS.bel, ⟨v_7, rfl, (by rw [e1_0]; exact (hS.frO 0 rfl))⟩⟩

theorem F55 {xv : Value} {xs : List Int} {Fr_xv : List (Option Nat)} {w : World} (h_xv : V (tSl (tI .i64)) xs xv Fr_xv w) (p_1000 : (xs.length : Int) ≤ 1000) : Calls Try.prog 55 #[xv] w (Ret w (fun r w' => ∃ rv, r = rv ∧ Fresh (tI .i64) 3 xs rv w.heap.size w')) := by
  have a_xv := h_xv.any
  have l_xv := h_xv.len63
  have hS := St.start0 w
  refine enterR Try.func55 rfl Try.ntmps55 Try.results55 rfl ?_
  refine W.seq ?_
  refine W.reg ?_
  refine Wx.rd (v := (.slice none 0 0)) (rd_assign rfl) rfl ?_
  refine Wx.nil ?_
  refine W.seq ?_
  refine W.seq ?_
  refine W.reg ?_
  refine Wx.rd (v := xv) (rd_move rfl) rfl ?_
  refine Wx.ex (rd_eqlNilV (hS.arg a_xv) rfl rfl Try.underlying28) rfl (fun u_1 hu_u_1 => ?_)
  obtain ⟨b_2, rfl, hb_3⟩ := hu_u_1
  refine Wx.nil ?_
  refine W.cond rfl (fun c0 => ?_) (fun c0 => ?_)
  · -- yes
    try simp only [Bool.and_eq_true, Bool.or_eq_true, Bool.not_eq_true', Bool.and_eq_false_iff, Bool.or_eq_false_iff, Bool.not_eq_false', decide_eq_true_eq, decide_eq_false_iff_not, not_or, Bool.false_eq_true, Bool.true_eq_false, false_or, or_false, not_false_eq_true] at c0
    refine W.seq ?_
    refine W.reg ?_
    refine Wx.rd (v := (.slice none 0 0)) (rd_assign rfl) rfl ?_
    refine Wx.nil ?_
    have e0_0 : xs = [] := by solve_by_elim
    exact W.ret ⟨(.slice none 0 0), ResIs.one, hS.bel, ⟨(.slice none 0 0), rfl, (by rw [e0_0]; exact ((hS.addNil (tI .i64) 3).fr 0 rfl flat_int))⟩⟩
  · -- no
    try simp only [Bool.and_eq_true, Bool.or_eq_true, Bool.not_eq_true', Bool.and_eq_false_iff, Bool.or_eq_false_iff, Bool.not_eq_false', decide_eq_true_eq, decide_eq_false_iff_not, not_or, Bool.false_eq_true, Bool.true_eq_false, false_or, or_false, not_false_eq_true] at c0
    refine W.skip ?_
    refine W.seq ?_
    refine W.reg ?_
    refine Wx.lit (t := (tI .i64)) (ys := []) (vs := []) elGh_28 hS rfl rfl trivial (by decide) rfl (fun v_4 w_5 hx_6 hS => ?_)
    refine Wx.rd (v := xv) (rd_move rfl) rfl ?_
    refine Wx.append elGh_28 hS 0 rfl rfl rfl (Src.ofV (hS.arg a_xv)) (by simp only [maxLen]; simp; omega) (by simp; omega) rfl (fun v_7 w_8 hz_9 hS => ?_)
    refine Wx.rd (v := v_7) (rd_assign rfl) rfl ?_
    refine Wx.nil ?_
    have e1_0 : xs = [] ++ xs := by first | rfl | omega
    exact W.ret ⟨v_7, ResIs.one, hS.bel, ⟨v_7, rfl, (by rw [e1_0]; exact (hS.fr 0 rfl flat_int))⟩⟩

theorem F84 {v : Value} {ys : List Int} {i : Int} {j : Int} {ob : List Ob} {w0 w : World} {O : List (Option Nat)} (i_i : InK .i64 i) (i_j : InK .i64 j) (p_i : 0 ≤ i) (p_j : i ≤ j) (p_n : j ≤ ys.length) (hS : St w0 O w (.row (tI .i64) 3 v ys :: ob)) : Calls Try.prog 84 #[v, .int .i64 i, .int .i64 j] w (Bk fun r w' => ∃ v', r = v' ∧ St w0 O w' (.row (tI .i64) 3 v' (ys.take i.toNat ++ ys.drop j.toNat) :: ob)) := by
  have b_i := bd_i64 i_i
  have b_j := bd_i64 i_j
  refine enterB Try.func84 rfl Try.ntmps84 Try.results84 rfl ?_
  refine W.seq ?_
  refine W.reg ?_
  refine Wx.rd (v := (.slice none 0 0)) (rd_assign rfl) rfl ?_
  refine Wx.nil ?_
  refine W.seq ?_
  refine W.reg ?_
  refine Wx.rd (v := v) (rd_move rfl) rfl ?_
  refine Wx.rd (v := .int .i64 i) (rd_move rfl) rfl ?_
  refine Wx.rd (v := .int .i64 j) (rd_move rfl) rfl ?_
  refine Wx.rd (v := v) (rd_move rfl) rfl ?_
  refine Wx.rd (v := .int .i64 (ys.length : Int)) (rd_lenR hS 0 rfl rfl Try.underlying28) rfl ?_
  refine Wx.ex (rd_slice3R hS 0 rfl Try.underlying28 Try.sizeOf3 rfl rfl rfl rfl (by omega) (by omega) (by omega) (by omega)) rfl (fun u_1 hu_2 => ?_)
  refine Wx.nil ?_
  refine W.seq ?_
  refine W.seq ?_
  refine W.reg ?_
  refine Wx.rd (v := .int .i64 i) (rd_move rfl) rfl ?_
  refine Wx.rd (v := .int .i64 j) (rd_move rfl) rfl ?_
  refine Wx.rd (v := .bool (decide (i = j))) (rd_eql rfl rfl) rfl ?_
  refine Wx.nil ?_
  refine W.condD rfl (fun c0 => ?_) (fun c0 => ?_)
  · -- yes
    refine W.seq ?_
    refine W.reg ?_
    refine Wx.rd (v := v) (rd_move rfl) rfl ?_
    refine Wx.rd (v := v) (rd_assign rfl) rfl ?_
    refine Wx.nil ?_
    exact W.ret ⟨v, ResIs.one, _, rfl, hS.spell (ys' := ys.take i.toNat ++ ys.drop j.toNat) 0 rfl (by rw [c0, List.take_append_drop])⟩
  · -- no
    refine W.skip ?_
    refine W.seq ?_
    refine W.reg ?_
    obtain ⟨g_3, c_4, rfl, hc_5⟩ := hS.rowForm 0 rfl (by omega)
    refine Wx.rd (v := (.slice (some ⟨g_3, 0, none⟩) ys.length c_4)) (rd_move rfl) rfl ?_
    refine Wx.rd (v := .int .i64 (ys.length : Int)) (rd_lenR hS 0 rfl rfl Try.underlying28) rfl ?_
    refine Wx.rd (v := .int .i64 (ys.length : Int)) (rd_assign rfl) rfl ?_
    refine Wx.nil ?_
    refine W.seq ?_
    refine W.regP mixedGh_ (fun w_6 hx_7 => ?_)
    have hS := hS.ext hx_7
    refine Wp.rd (v := (.slice (some ⟨g_3, 0, none⟩) ys.length c_4)) 0 rfl (by kernel_rfl) (fun _ => (rd_move rfl)) rfl ?_
    refine Wp.rd (v := .int .i64 i) 1 rfl (by kernel_rfl) (fun _ => (rd_move rfl)) rfl ?_
    refine Wp.rd (v := .slice (some ⟨g_3, 0, none⟩) i.toNat c_4) 2 rfl (by kernel_rfl) (fun _ => (rd_headO Try.underlying28 Try.sizeOf3 rfl rfl (by omega) (by omega))) rfl ?_
    refine Wp.rd (v := (.slice (some ⟨g_3, 0, none⟩) ys.length c_4)) 3 rfl (by kernel_rfl) (fun _ => (rd_move rfl)) rfl ?_
    refine Wp.rd (v := .int .i64 j) 4 rfl (by kernel_rfl) (fun _ => (rd_move rfl)) rfl ?_
    refine Wp.rd (v := .slice (some (if c_4 = j.toNat then ⟨g_3, 0, none⟩ else ⟨g_3, j.toNat * 1, none⟩)) (ys.length - j.toNat) (c_4 - j.toNat)) 5 rfl (by kernel_rfl) (fun _ => (rd_tailO Try.underlying28 Try.sizeOf3 rfl rfl (by omega) (by omega) (by omega))) rfl ?_
    refine Wp.br [6] (by kernel_rfl) (by decide) ⟨⟨_, rfl, ?_⟩, trivial⟩
    refine Wx.appendIn (a := i.toNat) (b := j.toNat) elGh_28 hS 0 rfl rfl rfl (by omega) (by omega) rfl (fun w_8 hz_9 hS => ?_)
    refine Wx.nil ?_
    refine Wp.rd (v := (.slice (some ⟨g_3, 0, none⟩) (i.toNat + (ys.length - j.toNat)) c_4)) 7 rfl (by kernel_rfl) (fun _ => (rd_assign rfl)) rfl ?_
    refine Wp.done (by kernel_rfl) ?_
    refine W.seq ?_
    refine W.reg ?_
    refine Wx.rd (v := (.slice (some ⟨g_3, 0, none⟩) (i.toNat + (ys.length - j.toNat)) c_4)) (rd_move rfl) rfl ?_
    refine Wx.rd (v := (.slice (some ⟨g_3, 0, none⟩) (i.toNat + (ys.length - j.toNat)) c_4)) (rd_move rfl) rfl ?_
    refine Wx.rd (v := .int .i64 ((List.take i.toNat ys ++ List.drop j.toNat ys).length : Int)) (rd_lenR hS 0 rfl rfl Try.underlying28) rfl ?_
    refine Wx.rd (v := .int .i64 (ys.length : Int)) (rd_move rfl) rfl ?_
    refine Wx.rd (v := .slice (some ⟨g_3, ((List.take i.toNat ys ++ List.drop j.toNat ys).length : Int).toNat * 1, none⟩) ((ys.length : Int).toNat - ((List.take i.toNat ys ++ List.drop j.toNat ys).length : Int).toNat) (c_4 - ((List.take i.toNat ys ++ List.drop j.toNat ys).length : Int).toNat)) (rd_spareO Try.underlying28 Try.sizeOf3 rfl rfl rfl (by omega) (by simp; omega) (by omega)) rfl ?_
    refine Wx.clearR (o := ((List.take i.toNat ys ++ List.drop j.toNat ys).length : Int).toNat) elGh_28 hS 0 rfl rfl (by simp; omega) (by simp; omega) (by simp; omega) (by simp [Value.cells, Value.oneCell']) (fun w_10 hz_11 hS => ?_)
    refine Wx.nil ?_
    refine W.seq ?_
    refine W.reg ?_
    refine Wx.rd (v := (.slice (some ⟨g_3, 0, none⟩) (i.toNat + (ys.length - j.toNat)) c_4)) (rd_move rfl) rfl ?_
    refine Wx.rd (v := (.slice (some ⟨g_3, 0, none⟩) (i.toNat + (ys.length - j.toNat)) c_4)) (rd_assign rfl) rfl ?_
    refine Wx.nil ?_
    exact W.ret ⟨(.slice (some ⟨g_3, 0, none⟩) (i.toNat + (ys.length - j.toNat)) c_4), ResIs.one, _, rfl, hS⟩

theorem F53 {v : Value} {ys : List (List Int)} {i : Int} {j : Int} {ob : List Ob} {w0 w : World} {O : List (Option Nat)} (i_i : InK .i64 i) (i_j : InK .i64 j) (p_i : 0 ≤ i) (p_j : i ≤ j) (p_n : j ≤ ys.length) (hS : St w0 O w (.row (tSl (tI .i64)) 28 v ys :: ob)) : Calls Try.prog 53 #[v, .int .i64 i, .int .i64 j] w (Bk fun r w' => ∃ v', r = v' ∧ St w0 O w' (.row (tSl (tI .i64)) 28 v' (ys.take i.toNat ++ ys.drop j.toNat) :: ob)) := by
  have b_i := bd_i64 i_i
  have b_j := bd_i64 i_j
  refine enterB Try.func53 rfl Try.ntmps53 Try.results53 rfl ?_
  refine W.seq ?_
  refine W.reg ?_
  refine Wx.rd (v := (.slice none 0 0)) (rd_assign rfl) rfl ?_
  refine Wx.nil ?_
  refine W.seq ?_
  refine W.reg ?_
  refine Wx.rd (v := v) (rd_move rfl) rfl ?_
  refine Wx.rd (v := .int .i64 i) (rd_move rfl) rfl ?_
  refine Wx.rd (v := .int .i64 j) (rd_move rfl) rfl ?_
  refine Wx.rd (v := v) (rd_move rfl) rfl ?_
  refine Wx.rd (v := .int .i64 (ys.length : Int)) (rd_lenR hS 0 rfl rfl Try.underlying22) rfl ?_
  refine Wx.ex (rd_slice3R hS 0 rfl Try.underlying22 Try.sizeOf28 rfl rfl rfl rfl (by omega) (by omega) (by omega) (by omega)) rfl (fun u_1 hu_2 => ?_)
  refine Wx.nil ?_
  refine W.seq ?_
  refine W.seq ?_
  refine W.reg ?_
  refine Wx.rd (v := .int .i64 i) (rd_move rfl) rfl ?_
  refine Wx.rd (v := .int .i64 j) (rd_move rfl) rfl ?_
  refine Wx.rd (v := .bool (decide (i = j))) (rd_eql rfl rfl) rfl ?_
  refine Wx.nil ?_
  refine W.condD rfl (fun c0 => ?_) (fun c0 => ?_)
  · -- yes
    refine W.seq ?_
    refine W.reg ?_
    refine Wx.rd (v := v) (rd_move rfl) rfl ?_
    refine Wx.rd (v := v) (rd_assign rfl) rfl ?_
    refine Wx.nil ?_
    exact W.ret ⟨v, ResIs.one, _, rfl, hS.spell (ys' := ys.take i.toNat ++ ys.drop j.toNat) 0 rfl (by rw [c0, List.take_append_drop])⟩
  · -- no
    refine W.skip ?_
    refine W.seq ?_
    refine W.reg ?_
    obtain ⟨g_3, c_4, rfl, hc_5⟩ := hS.rowForm 0 rfl (by omega)
    refine Wx.rd (v := (.slice (some ⟨g_3, 0, none⟩) ys.length c_4)) (rd_move rfl) rfl ?_
    refine Wx.rd (v := .int .i64 (ys.length : Int)) (rd_lenR hS 0 rfl rfl Try.underlying22) rfl ?_
    refine Wx.rd (v := .int .i64 (ys.length : Int)) (rd_assign rfl) rfl ?_
    refine Wx.nil ?_
    refine W.seq ?_
    refine W.regP mixedGh_ (fun w_6 hx_7 => ?_)
    have hS := hS.ext hx_7
    refine Wp.rd (v := (.slice (some ⟨g_3, 0, none⟩) ys.length c_4)) 0 rfl (by kernel_rfl) (fun _ => (rd_move rfl)) rfl ?_
    refine Wp.rd (v := .int .i64 i) 1 rfl (by kernel_rfl) (fun _ => (rd_move rfl)) rfl ?_
    refine Wp.rd (v := .slice (some ⟨g_3, 0, none⟩) i.toNat c_4) 2 rfl (by kernel_rfl) (fun _ => (rd_headO Try.underlying22 Try.sizeOf28 rfl rfl (by omega) (by omega))) rfl ?_
    refine Wp.rd (v := (.slice (some ⟨g_3, 0, none⟩) ys.length c_4)) 3 rfl (by kernel_rfl) (fun _ => (rd_move rfl)) rfl ?_
    refine Wp.rd (v := .int .i64 j) 4 rfl (by kernel_rfl) (fun _ => (rd_move rfl)) rfl ?_
    refine Wp.rd (v := .slice (some (if c_4 = j.toNat then ⟨g_3, 0, none⟩ else ⟨g_3, j.toNat * 1, none⟩)) (ys.length - j.toNat) (c_4 - j.toNat)) 5 rfl (by kernel_rfl) (fun _ => (rd_tailO Try.underlying22 Try.sizeOf28 rfl rfl (by omega) (by omega) (by omega))) rfl ?_
    refine Wp.br [6] (by kernel_rfl) (by decide) ⟨⟨_, rfl, ?_⟩, trivial⟩
    refine Wx.appendIn (a := i.toNat) (b := j.toNat) elGh_22 hS 0 rfl rfl rfl (by omega) (by omega) rfl (fun w_8 hz_9 hS => ?_)
    refine Wx.nil ?_
    refine Wp.rd (v := (.slice (some ⟨g_3, 0, none⟩) (i.toNat + (ys.length - j.toNat)) c_4)) 7 rfl (by kernel_rfl) (fun _ => (rd_assign rfl)) rfl ?_
    refine Wp.done (by kernel_rfl) ?_
    refine W.seq ?_
    refine W.reg ?_
    refine Wx.rd (v := (.slice (some ⟨g_3, 0, none⟩) (i.toNat + (ys.length - j.toNat)) c_4)) (rd_move rfl) rfl ?_
    refine Wx.rd (v := (.slice (some ⟨g_3, 0, none⟩) (i.toNat + (ys.length - j.toNat)) c_4)) (rd_move rfl) rfl ?_
    refine Wx.rd (v := .int .i64 ((List.take i.toNat ys ++ List.drop j.toNat ys).length : Int)) (rd_lenR hS 0 rfl rfl Try.underlying22) rfl ?_
    refine Wx.rd (v := .int .i64 (ys.length : Int)) (rd_move rfl) rfl ?_
    refine Wx.rd (v := .slice (some ⟨g_3, ((List.take i.toNat ys ++ List.drop j.toNat ys).length : Int).toNat * 1, none⟩) ((ys.length : Int).toNat - ((List.take i.toNat ys ++ List.drop j.toNat ys).length : Int).toNat) (c_4 - ((List.take i.toNat ys ++ List.drop j.toNat ys).length : Int).toNat)) (rd_spareO Try.underlying22 Try.sizeOf28 rfl rfl rfl (by omega) (by simp; omega) (by omega)) rfl ?_
    refine Wx.clearR (o := ((List.take i.toNat ys ++ List.drop j.toNat ys).length : Int).toNat) elGh_22 hS 0 rfl rfl (by simp; omega) (by simp; omega) (by simp; omega) (by simp [Value.cells, Value.oneCell']) (fun w_10 hz_11 hS => ?_)
    refine Wx.nil ?_
    refine W.seq ?_
    refine W.reg ?_
    refine Wx.rd (v := (.slice (some ⟨g_3, 0, none⟩) (i.toNat + (ys.length - j.toNat)) c_4)) (rd_move rfl) rfl ?_
    refine Wx.rd (v := (.slice (some ⟨g_3, 0, none⟩) (i.toNat + (ys.length - j.toNat)) c_4)) (rd_assign rfl) rfl ?_
    refine Wx.nil ?_
    exact W.ret ⟨(.slice (some ⟨g_3, 0, none⟩) (i.toNat + (ys.length - j.toNat)) c_4), ResIs.one, _, rfl, hS⟩

theorem F54 {n : Int} {y0 : Int} {y1 : Int} {y2 : Int} {y3 : Int} {y4 : Int} {y5 : Int} {y6 : Int} {w : World} (i_n : InK .i64 n) (i_y0 : InK .u8 y0) (i_y1 : InK .u8 y1) (i_y2 : InK .u8 y2) (i_y3 : InK .u8 y3) (i_y4 : InK .u8 y4) (i_y5 : InK .u8 y5) (i_y6 : InK .u8 y6) (p_n : 0 ≤ n) (p_7 : n ≤ 7) : Calls Try.prog 54 #[.int .i64 n, .agg #[.int .u8 y0, .int .u8 y1, .int .u8 y2, .int .u8 y3, .int .u8 y4, .int .u8 y5, .int .u8 y6]] w (Ret w (fun r w' => ∃ rv, r = rv ∧ Fresh (tI .i64) 3 (ordW n [y0, y1, y2, y3, y4, y5, y6]) rv w.heap.size w')) := by
  have b_y6 := bd_u8 i_y6
  have b_y5 := bd_u8 i_y5
  have b_y4 := bd_u8 i_y4
  have b_y3 := bd_u8 i_y3
  have b_y2 := bd_u8 i_y2
  have b_y1 := bd_u8 i_y1
  have b_y0 := bd_u8 i_y0
  have b_n := bd_i64 i_n
  have hS := St.start0 w
  refine enterR Try.func54 rfl Try.ntmps54 Try.results54 rfl ?_
  refine W.seq ?_
  refine W.reg ?_
  refine Wx.box (cs := [.int .u8 y0, .int .u8 y1, .int .u8 y2, .int .u8 y3, .int .u8 y4, .int .u8 y5, .int .u8 y6]) hS rfl rfl rfl (fun g_1 w_2 hx_4 hb_3 hS => ?_)
  refine Wx.rd (v := (.slice none 0 0)) (rd_assign rfl) rfl ?_
  refine Wx.nil ?_
  refine W.seq ?_
  refine W.reg ?_
  refine Wx.rd (v := (.slice none 0 0)) (rd_assign rfl) rfl ?_
  refine Wx.rd (v := (.slice none 0 0)) (rd_assign rfl) rfl ?_
  refine Wx.nil ?_
  refine W.seq ?_
  refine W.seq ?_
  refine W.reg ?_
  refine Wx.rd (v := .int .i64 n) (rd_move rfl) rfl ?_
  refine Wx.rd (v := .int .i64 0) (rd_move rfl) rfl ?_
  refine Wx.nil ?_
  refine W.block ?_
  have hS := hS.addNil (tI .i64) 3
  refine W.loop [5, 7, 11, 12, 13, 14, 15, 16, 17, 18] (fun x : Int × Value × (List Int) => match x with | (x, lv, l) => [(11, .int .i64 x), (5, lv)]) (fun (x : Int × Value × (List Int)) w' => match x with | (x, lv, l) => St w [] w' [.row (tI .i64) 3 lv l, .box g_1 78 [.int .u8 y0, .int .u8 y1, .int .u8 y2, .int .u8 y3, .int .u8 y4, .int .u8 y5, .int .u8 y6]] ∧ 0 ≤ x ∧ x ≤ n ∧ l = up x x.toNat) (fun x : Int × Value × (List Int) => match x with | (x, lv, l) => (n - x).toNat) (0, (.slice none 0 0), []) ⟨rfl, rfl, trivial⟩ ⟨hS, (by first | omega | simp), (by first | omega | simp), (rfl)⟩ ?_
  rintro ⟨x, lv, l⟩ u_6 w_5 ⟨hS, h0, h1, h2⟩
  have hll : l.length = x.toNat := by rw [h2, up_len]
  refine W.seq ?_
  refine W.reg ?_
  refine Wx.rd (v := .bool (decide (x < n))) (rd_lss rfl rfl) rfl ?_
  refine Wx.nil ?_
  refine W.seq ?_
  refine W.condD rfl (fun c0 => ?_) (fun c0 => ?_)
  · -- yes
    refine W.skip ?_
    refine W.seq ?_
    refine W.block ?_
    refine W.seq ?_
    refine W.reg ?_
    refine Wx.rd (v := .int .i64 x) (rd_move rfl) rfl ?_
    refine Wx.rd (v := .int .i64 x) (rd_assign rfl) rfl ?_
    refine Wx.nil ?_
    refine W.reg ?_
    refine Wx.rd (v := lv) (rd_move rfl) rfl ?_
    refine Wx.rd (v := .int .i64 x) (rd_move rfl) rfl ?_
    refine Wx.lit (t := (tI .i64)) (ys := [x]) (vs := [.int .i64 x]) elGh_28 hS rfl rfl ⟨(V.mkInt (in_i64 (by omega) (by omega))), trivial⟩ (by decide) rfl (fun v_7 w_8 hx_9 hS => ?_)
    refine Wx.append elGh_28 hS 1 rfl rfl rfl (Src.ofR hS 0 rfl) (by simp only [maxLen]; simp; omega) (by simp; omega) rfl (fun v_10 w_11 hz_12 hS => ?_)
    refine Wx.rd (v := v_10) (rd_assign rfl) rfl ?_
    refine Wx.nil ?_
    refine W.reg ?_
    refine Wx.rd (v := .int .i64 (x + 1)) (rd_add rfl rfl (in_i64 (by omega) (by omega))) rfl ?_
    refine Wx.rd (v := .int .i64 (x + 1)) (rd_move rfl) rfl ?_
    refine Wx.nil ?_
    refine ⟨(x + 1, v_10, l ++ [x]), (by show (n - (x + 1)).toNat < (n - x).toNat; omega), ?_, ?_, Out.look rfl Out.self⟩
    · exact ⟨hS.tl, (by first | omega | assumption), (by first | omega | assumption), (by rw [h2]; exact (up_snoc' h0).symm)⟩
    · exact ⟨rfl, rfl, trivial⟩
  · -- no
    refine W.exit rfl ?_
    refine W.seq ?_
    refine W.seq ?_
    refine W.reg ?_
    refine Wx.rd (v := .int .i64 n) (rd_move rfl) rfl ?_
    refine Wx.rd (v := .int .i64 0) (rd_move rfl) rfl ?_
    refine Wx.nil ?_
    refine W.block ?_
    have hS := hS.addNil (tI .i64) 3
    refine W.loop [5, 6, 8, 9, 20, 21, 22, 23, 24, 25, 26, 27, 28, 29, 30, 31, 32, 33, 34, 35, 36, 37, 38, 39, 40, 41, 42] (fun x : Int × Value × (List Int) × Value × (List Int) => match x with | (i, lv2, l2, ov, out) => [(20, .int .i64 i), (5, lv2), (6, ov)]) (fun (x : Int × Value × (List Int) × Value × (List Int)) w' => match x with | (i, lv2, l2, ov, out) => St w [] w' [.row (tI .i64) 3 ov out, .row (tI .i64) 3 lv2 l2, .box g_1 78 [.int .u8 y0, .int .u8 y1, .int .u8 y2, .int .u8 y3, .int .u8 y4, .int .u8 y5, .int .u8 y6]] ∧ 0 ≤ i ∧ i ≤ n ∧ out ++ ordB l2 (([y0, y1, y2, y3, y4, y5, y6].take n.toNat).drop i.toNat) = ordW n [y0, y1, y2, y3, y4, y5, y6] ∧ (l2.length : Int) = n - i ∧ (out.length : Int) = i) (fun x : Int × Value × (List Int) × Value × (List Int) => match x with | (i, lv2, l2, ov, out) => (n - i).toNat) (0, lv, l, (.slice none 0 0), []) ⟨rfl, rfl, rfl, trivial⟩ ⟨hS, (by first | omega | simp), (by first | omega | simp), (by rw [h2, show x = n by omega]; rfl), (by rw [h2, up_len]; omega), (rfl)⟩ ?_
    rintro ⟨i, lv2, l2, ov, out⟩ u_14 w_13 ⟨hS, g0, g1, g2, g3, g4⟩
    refine W.seq ?_
    refine W.reg ?_
    refine Wx.rd (v := .bool (decide (i < n))) (rd_lss rfl rfl) rfl ?_
    refine Wx.nil ?_
    refine W.seq ?_
    refine W.condD rfl (fun c1 => ?_) (fun c1 => ?_)
    · -- yes
      refine W.skip ?_
      refine W.seq ?_
      refine W.block ?_
      refine W.seq ?_
      refine W.reg ?_
      refine Wx.rd (v := .int .i64 i) (rd_move rfl) rfl ?_
      refine Wx.rd (v := .int .i64 i) (rd_assign rfl) rfl ?_
      refine Wx.nil ?_
      refine W.seq ?_
      refine W.reg ?_
      have hby : 0 ≤ ix 0 [y0, y1, y2, y3, y4, y5, y6] i ∧ ix 0 [y0, y1, y2, y3, y4, y5, y6] i ≤ 255 := u8_of (by simp only [List.mem_cons, List.not_mem_nil, or_false, forall_eq_or_imp, forall_eq]; exact ⟨i_y0, i_y1, i_y2, i_y3, i_y4, i_y5, i_y6⟩) g0 (by simp; omega)
      refine Wx.rd (v := .int .i64 i) (rd_move rfl) rfl ?_
      refine Wx.rd (v := .pointer (some ⟨g_1, 0 + i.toNat * 1, none⟩)) (rd_indexArr (n := i) rfl rfl Try.underlying78 Try.sizeOf5 (by omega) (by omega)) rfl ?_
      refine Wx.rd (v := .int .u8 (ix 0 [y0, y1, y2, y3, y4, y5, y6] i)) (rd_loadXi (d := (0 : Int)) (f := Value.int .u8) (xs := [y0, y1, y2, y3, y4, y5, y6]) hS 2 rfl rfl rfl (by omega) (by simp; omega) Try.isAgg5) rfl ?_
      refine Wx.rd (v := .int .i64 (ix 0 [y0, y1, y2, y3, y4, y5, y6] i)) (rd_convIn rfl Try.underlying5 Try.underlying3 (in_i64 (by omega) (by omega))) rfl ?_
      refine Wx.rd (v := lv2) (rd_move rfl) rfl ?_
      refine Wx.rd (v := .int .i64 (l2.length : Int)) (rd_lenR hS 1 rfl rfl Try.underlying28) rfl ?_
      refine Wx.rd (v := .int .i64 ((ix 0 [y0, y1, y2, y3, y4, y5, y6] i) % (l2.length : Int))) (rd_rem rfl rfl (by omega) (by omega)) rfl ?_
      have hk0 : 0 ≤ (ix 0 [y0, y1, y2, y3, y4, y5, y6] i % (l2.length : Int)) := Int.emod_nonneg _ (by omega)
      have hk1 : (ix 0 [y0, y1, y2, y3, y4, y5, y6] i % (l2.length : Int)) < (l2.length : Int) := Int.emod_lt_of_pos _ (by omega)
      refine Wx.rd (v := .int .i64 ((ix 0 [y0, y1, y2, y3, y4, y5, y6] i) % (l2.length : Int))) (rd_assign rfl) rfl ?_
      refine Wx.nil ?_
      refine W.seq ?_
      refine W.reg ?_
      refine Wx.rd (v := ov) (rd_move rfl) rfl ?_
      refine Wx.rd (v := lv2) (rd_move rfl) rfl ?_
      refine Wx.rd (v := .int .i64 ((ix 0 [y0, y1, y2, y3, y4, y5, y6] i) % (l2.length : Int))) (rd_move rfl) rfl ?_
      refine Wx.indexR hS 1 rfl rfl rfl Try.underlying28 Try.sizeOf3 (by first | omega | (simp only [List.length_set, List.length_append, List.length_cons, List.length_nil, List.length_replicate]; omega)) (by first | omega | (simp only [List.length_set, List.length_append, List.length_cons, List.length_nil, List.length_replicate]; omega)) rfl (fun g_15 hg_16 => ?_)
      refine Wx.rd (v := .int .i64 (ix 0 l2 ((ix 0 [y0, y1, y2, y3, y4, y5, y6] i) % (l2.length : Int)))) (rd_loadRI' hS 1 rfl hg_16 rfl (by first | omega | (simp only [List.length_set, List.length_append, List.length_cons, List.length_nil, List.length_replicate]; omega)) (by first | omega | (simp only [List.length_set, List.length_append, List.length_cons, List.length_nil, List.length_replicate]; omega)) Try.isAgg3 Try.sizeOf3) rfl ?_
      have bd_17 := bd_i64 (hS.rowInK' 1 rfl (by first | omega | (simp only [List.length_set, List.length_append, List.length_cons, List.length_nil, List.length_replicate]; omega)) (by first | omega | (simp only [List.length_set, List.length_append, List.length_cons, List.length_nil, List.length_replicate]; omega)) : InK .i64 (ix 0 l2 ((ix 0 [y0, y1, y2, y3, y4, y5, y6] i) % (l2.length : Int))))
      refine Wx.lit (t := (tI .i64)) (ys := [ix 0 l2 ((ix 0 [y0, y1, y2, y3, y4, y5, y6] i) % (l2.length : Int))]) (vs := [.int .i64 (ix 0 l2 ((ix 0 [y0, y1, y2, y3, y4, y5, y6] i) % (l2.length : Int)))]) elGh_28 hS rfl rfl ⟨(V.mkInt (in_i64 (by omega) (by omega))), trivial⟩ (by decide) rfl (fun v_18 w_19 hx_20 hS => ?_)
      refine Wx.append elGh_28 hS 1 rfl rfl rfl (Src.ofR hS 0 rfl) (by simp only [maxLen]; simp; omega) (by simp; omega) rfl (fun v_21 w_22 hz_23 hS => ?_)
      refine Wx.rd (v := v_21) (rd_assign rfl) rfl ?_
      refine Wx.nil ?_
      refine W.reg ?_
      refine Wx.rd (v := lv2) (rd_move rfl) rfl ?_
      refine Wx.rd (v := .int .i64 ((ix 0 [y0, y1, y2, y3, y4, y5, y6] i) % (l2.length : Int))) (rd_move rfl) rfl ?_
      refine Wx.rd (v := .int .i64 ((ix 0 [y0, y1, y2, y3, y4, y5, y6] i) % (l2.length : Int))) (rd_move rfl) rfl ?_
      refine Wx.rd (v := .int .i64 (((ix 0 [y0, y1, y2, y3, y4, y5, y6] i) % (l2.length : Int)) + 1)) (rd_add rfl rfl (in_i64 (by omega) (by omega))) rfl ?_
      refine Wx.callB (run_callF Try.call84 rfl) (F84 (ob := [.row (tI .i64) 3 v_18 [ix 0 l2 ((ix 0 [y0, y1, y2, y3, y4, y5, y6] i) % (l2.length : Int))], .row (tI .i64) 3 v_21 (out ++ [ix 0 l2 ((ix 0 [y0, y1, y2, y3, y4, y5, y6] i) % (l2.length : Int))]), .box g_1 78 [.int .u8 y0, .int .u8 y1, .int .u8 y2, .int .u8 y3, .int .u8 y4, .int .u8 y5, .int .u8 y6]]) (in_i64 (by omega) (by omega)) (in_i64 (by omega) (by omega)) (by omega) (by omega) (by omega) (hS.front 2 rfl)) rfl ?_
      rintro r_24 w_25 ⟨_, rfl, hS⟩
      have hS : St _ _ w_25 [.row (tI .i64) 3 v_18 [ix 0 l2 ((ix 0 [y0, y1, y2, y3, y4, y5, y6] i) % (l2.length : Int))], .row (tI .i64) 3 v_21 (out ++ [ix 0 l2 ((ix 0 [y0, y1, y2, y3, y4, y5, y6] i) % (l2.length : Int))]), .row (tI .i64) 3 r_24 (List.take ((ix 0 [y0, y1, y2, y3, y4, y5, y6] i) % (l2.length : Int)).toNat l2 ++ List.drop (((ix 0 [y0, y1, y2, y3, y4, y5, y6] i) % (l2.length : Int)) + 1).toNat l2), .box g_1 78 [.int .u8 y0, .int .u8 y1, .int .u8 y2, .int .u8 y3, .int .u8 y4, .int .u8 y5, .int .u8 y6]] := St.putBack (obs := [.row (tI .i64) 3 v_18 [ix 0 l2 ((ix 0 [y0, y1, y2, y3, y4, y5, y6] i) % (l2.length : Int))], .row (tI .i64) 3 v_21 (out ++ [ix 0 l2 ((ix 0 [y0, y1, y2, y3, y4, y5, y6] i) % (l2.length : Int))]), .row (tI .i64) 3 lv2 l2, .box g_1 78 [.int .u8 y0, .int .u8 y1, .int .u8 y2, .int .u8 y3, .int .u8 y4, .int .u8 y5, .int .u8 y6]]) 2 hS (by simp)
      refine Wx.rd (v := r_24) (rd_assign rfl) rfl ?_
      refine Wx.nil ?_
      refine W.reg ?_
      refine Wx.rd (v := .int .i64 (i + 1)) (rd_add rfl rfl (in_i64 (by omega) (by omega))) rfl ?_
      refine Wx.rd (v := .int .i64 (i + 1)) (rd_move rfl) rfl ?_
      refine Wx.nil ?_
      refine ⟨(i + 1, r_24, List.take ((ix 0 [y0, y1, y2, y3, y4, y5, y6] i) % (l2.length : Int)).toNat l2 ++ List.drop (((ix 0 [y0, y1, y2, y3, y4, y5, y6] i) % (l2.length : Int)) + 1).toNat l2, v_21, out ++ [ix 0 l2 ((ix 0 [y0, y1, y2, y3, y4, y5, y6] i) % (l2.length : Int))]), (by show (n - (i + 1)).toNat < (n - i).toNat; omega), ?_, ?_, Out.look rfl Out.self⟩
      · exact ⟨hS.tl, (by first | omega | assumption), (by first | omega | assumption), (by rw [← g2, by_next g0 (by omega) (by simp; omega), ordB, List.append_assoc, show ((ix 0 [y0, y1, y2, y3, y4, y5, y6] i % (l2.length : Int)) + 1).toNat = (ix 0 [y0, y1, y2, y3, y4, y5, y6] i % (l2.length : Int)).toNat + 1 by omega]; rfl), (by simp; omega), (by simp; omega)⟩
      · exact ⟨rfl, rfl, rfl, trivial⟩
    · -- no
      refine W.exit rfl ?_
      refine W.seq ?_
      refine W.reg ?_
      refine Wx.rd (v := ov) (rd_move rfl) rfl ?_
      refine Wx.rd (v := ov) (rd_assign rfl) rfl ?_
      refine Wx.nil ?_
      have e0_0 : ordW n [y0, y1, y2, y3, y4, y5, y6] = out := by rw [← g2, show i = n by omega, by_end (by simp; omega), ordB, List.append_nil]
      exact W.ret ⟨ov, ResIs.one, hS.bel, ⟨ov, rfl, (by rw [e0_0]; exact (hS.fr 0 rfl flat_int))⟩⟩

theorem F56 {v : Value} {ys : List Int}  {ob : List Ob} {w0 w : World} {O : List (Option Nat)}  (hS : St w0 O w (.row (tI .i64) 3 v ys :: ob)) : Calls Try.prog 56 #[v] w (Bk fun r w' => r = .tuple #[] ∧ St w0 O w' (.row (tI .i64) 3 v (ys.reverse) :: ob)) := by
  have hyl : (ys.length : Int) ≤ 9223372036854775807 := by have := hS.rowLen 0 rfl; simp only [maxLen] at this; omega
  refine enterB Try.func56 rfl Try.ntmps56 Try.results56 rfl ?_
  refine W.seq ?_
  refine W.reg ?_
  refine Wx.rd (v := v) (rd_move rfl) rfl ?_
  refine Wx.rd (v := .int .i64 (ys.length : Int)) (rd_lenR hS 0 rfl rfl Try.underlying28) rfl ?_
  refine Wx.rd (v := .int .i64 ((ys.length : Int) - 1)) (rd_sub rfl rfl (in_i64 (by omega) (by omega))) rfl ?_
  refine Wx.rd (v := .int .i64 0) (rd_assign rfl) rfl ?_
  refine Wx.rd (v := .int .i64 ((ys.length : Int) - 1)) (rd_assign rfl) rfl ?_
  refine Wx.nil ?_
  refine W.block ?_
  refine W.loop [2, 3, 7, 8, 9, 10, 11, 12, 13, 14, 15, 16, 17, 18, 19, 20, 21, 22, 23, 24, 25, 26, 27] (fun x : Int × Int × (List Int) => match x with | (i, j, z) => [(2, .int .i64 i), (3, .int .i64 j)]) (fun (x : Int × Int × (List Int)) w' => match x with | (i, j, z) => St w0 O w' (.row (tI .i64) 3 v z :: ob) ∧ 0 ≤ i ∧ j = (ys.length : Int) - 1 - i ∧ z = revS ys i ∧ z.length = ys.length) (fun x : Int × Int × (List Int) => match x with | (i, j, z) => (j - i).toNat) (0, (ys.length : Int) - 1, ys) ⟨rfl, rfl, trivial⟩ ⟨hS, (by first | omega | simp), (by first | omega | simp), ((revS_start ys).symm), (rfl)⟩ ?_
  rintro ⟨i, j, z⟩ u_2 w_1 ⟨hS, h0, h1, h2, h3⟩
  refine W.seq ?_
  refine W.seq ?_
  refine W.reg ?_
  refine Wx.rd (v := .int .i64 i) (rd_move rfl) rfl ?_
  refine Wx.rd (v := .int .i64 j) (rd_move rfl) rfl ?_
  refine Wx.rd (v := .bool (decide (i < j))) (rd_lss rfl rfl) rfl ?_
  refine Wx.nil ?_
  refine W.condD rfl (fun c0 => ?_) (fun c0 => ?_)
  · -- yes
    refine W.skip ?_
    refine W.seq ?_
    refine W.block ?_
    refine W.regP mixedGh_ (fun w_3 hx_4 => ?_)
    have hS := hS.ext hx_4
    obtain ⟨g_5, c_6, rfl, hc_7⟩ := hS.rowForm 0 rfl (by omega)
    refine Wp.rd (v := (.slice (some ⟨g_5, 0, none⟩) z.length c_6)) 0 rfl (by kernel_rfl) (fun _ => (rd_move rfl)) rfl ?_
    refine Wp.rd (v := .int .i64 i) 1 rfl (by kernel_rfl) (fun _ => (rd_move rfl)) rfl ?_
    refine Wp.rd (v := (.slice (some ⟨g_5, 0, none⟩) z.length c_6)) 2 rfl (by kernel_rfl) (fun _ => (rd_move rfl)) rfl ?_
    refine Wp.rd (v := .int .i64 j) 3 rfl (by kernel_rfl) (fun _ => (rd_move rfl)) rfl ?_
    refine Wp.rd (v := (.slice (some ⟨g_5, 0, none⟩) z.length c_6)) 4 rfl (by kernel_rfl) (fun _ => (rd_move rfl)) rfl ?_
    refine Wp.rd (v := .int .i64 j) 5 rfl (by kernel_rfl) (fun _ => (rd_move rfl)) rfl ?_
    refine Wp.rd (v := .pointer (some ⟨g_5, j.toNat * 1, none⟩)) 6 rfl (by kernel_rfl) (fun _ => (rd_indexO Try.underlying28 Try.sizeOf3 rfl rfl (by first | omega | (simp only [List.length_set, List.length_append, List.length_cons, List.length_nil, List.length_replicate]; omega)) (by first | omega | (simp only [List.length_set, List.length_append, List.length_cons, List.length_nil, List.length_replicate]; omega)))) rfl ?_
    refine Wp.rd (v := (.slice (some ⟨g_5, 0, none⟩) z.length c_6)) 8 rfl (by kernel_rfl) (fun _ => (rd_move rfl)) rfl ?_
    refine Wp.rd (v := .int .i64 i) 9 rfl (by kernel_rfl) (fun _ => (rd_move rfl)) rfl ?_
    refine Wp.rd (v := .pointer (some ⟨g_5, i.toNat * 1, none⟩)) 10 rfl (by kernel_rfl) (fun _ => (rd_indexO Try.underlying28 Try.sizeOf3 rfl rfl (by first | omega | (simp only [List.length_set, List.length_append, List.length_cons, List.length_nil, List.length_replicate]; omega)) (by first | omega | (simp only [List.length_set, List.length_append, List.length_cons, List.length_nil, List.length_replicate]; omega)))) rfl ?_
    refine Wp.br [7, 11] (by kernel_rfl) (by decide) ⟨⟨_, rfl, ?_⟩, ⟨_, rfl, ?_⟩, trivial⟩
    · -- operation 7
      refine Wx.rd (v := .int .i64 (ix 0 z j)) (rd_loadRI' hS 0 rfl rfl rfl (by first | omega | (simp only [List.length_set, List.length_append, List.length_cons, List.length_nil, List.length_replicate]; omega)) (by first | omega | (simp only [List.length_set, List.length_append, List.length_cons, List.length_nil, List.length_replicate]; omega)) Try.isAgg3 Try.sizeOf3) rfl ?_
      have bd_8 := bd_i64 (hS.rowInK' 0 rfl (by first | omega | (simp only [List.length_set, List.length_append, List.length_cons, List.length_nil, List.length_replicate]; omega)) (by first | omega | (simp only [List.length_set, List.length_append, List.length_cons, List.length_nil, List.length_replicate]; omega)) : InK .i64 (ix 0 z j))
      refine Wx.nil ?_
      refine Wp.br [11] (by kernel_rfl) (by decide) ⟨⟨_, rfl, ?_⟩, trivial⟩
      refine Wx.rd (v := .int .i64 (ix 0 z i)) (rd_loadRI' hS 0 rfl rfl rfl (by first | omega | (simp only [List.length_set, List.length_append, List.length_cons, List.length_nil, List.length_replicate]; omega)) (by first | omega | (simp only [List.length_set, List.length_append, List.length_cons, List.length_nil, List.length_replicate]; omega)) Try.isAgg3 Try.sizeOf3) rfl ?_
      have bd_9 := bd_i64 (hS.rowInK' 0 rfl (by first | omega | (simp only [List.length_set, List.length_append, List.length_cons, List.length_nil, List.length_replicate]; omega)) (by first | omega | (simp only [List.length_set, List.length_append, List.length_cons, List.length_nil, List.length_replicate]; omega)) : InK .i64 (ix 0 z i))
      refine Wx.nil ?_
      refine Wp.rd (v := .pointer (some ⟨g_5, i.toNat * 1, none⟩)) 12 rfl (by kernel_rfl) (fun _ => (rd_indexO Try.underlying28 Try.sizeOf3 rfl rfl (by first | omega | (simp only [List.length_set, List.length_append, List.length_cons, List.length_nil, List.length_replicate]; omega)) (by first | omega | (simp only [List.length_set, List.length_append, List.length_cons, List.length_nil, List.length_replicate]; omega)))) rfl ?_
      refine Wp.br [13] (by kernel_rfl) (by decide) ⟨⟨_, rfl, ?_⟩, trivial⟩
      refine Wx.storeR (j := i.toNat) (z := ix 0 z j) hS 0 rfl rfl rfl (by first | omega | (simp only [List.length_set, List.length_append, List.length_cons, List.length_nil, List.length_replicate]; omega)) rfl (V.mkInt (in_i64 (by omega) (by omega))) Try.sizeOf3 (fun w_10 hz_11 hS => ?_)
      refine Wx.nil ?_
      refine Wp.rd (v := .pointer (some ⟨g_5, j.toNat * 1, none⟩)) 14 rfl (by kernel_rfl) (fun _ => (rd_indexO Try.underlying28 Try.sizeOf3 rfl rfl (by first | omega | (simp only [List.length_set, List.length_append, List.length_cons, List.length_nil, List.length_replicate]; omega)) (by first | omega | (simp only [List.length_set, List.length_append, List.length_cons, List.length_nil, List.length_replicate]; omega)))) rfl ?_
      refine Wp.br [15] (by kernel_rfl) (by decide) ⟨⟨_, rfl, ?_⟩, trivial⟩
      refine Wx.storeR (j := j.toNat) (z := ix 0 z i) hS 0 rfl rfl rfl (by first | omega | (simp only [List.length_set, List.length_append, List.length_cons, List.length_nil, List.length_replicate]; omega)) rfl (V.mkInt (in_i64 (by omega) (by omega))) Try.sizeOf3 (fun w_12 hz_13 hS => ?_)
      refine Wx.nil ?_
      refine Wp.done (by kernel_rfl) ?_
      refine W.reg ?_
      refine Wx.rd (v := .int .i64 i) (rd_move rfl) rfl ?_
      refine Wx.rd (v := .int .i64 (i + 1)) (rd_add rfl rfl (in_i64 (by omega) (by omega))) rfl ?_
      refine Wx.rd (v := .int .i64 j) (rd_move rfl) rfl ?_
      refine Wx.rd (v := .int .i64 (j - 1)) (rd_sub rfl rfl (in_i64 (by omega) (by omega))) rfl ?_
      refine Wx.rd (v := .int .i64 (i + 1)) (rd_assign rfl) rfl ?_
      refine Wx.rd (v := .int .i64 (j - 1)) (rd_assign rfl) rfl ?_
      refine Wx.nil ?_
      refine ⟨(i + 1, j - 1, List.set (List.set z i.toNat (ix 0 z j)) j.toNat (ix 0 z i)), (by show ((j - 1) - (i + 1)).toNat < (j - i).toNat; omega), ?_, ?_, Out.look rfl Out.self⟩
      · exact ⟨hS, (by first | omega | assumption), (by first | omega | assumption), (by rw [h2]; exact revS_step h0 c0 h1), (by simp; omega)⟩
      · exact ⟨rfl, rfl, trivial⟩
    · -- operation 11
      refine Wx.rd (v := .int .i64 (ix 0 z i)) (rd_loadRI' hS 0 rfl rfl rfl (by first | omega | (simp only [List.length_set, List.length_append, List.length_cons, List.length_nil, List.length_replicate]; omega)) (by first | omega | (simp only [List.length_set, List.length_append, List.length_cons, List.length_nil, List.length_replicate]; omega)) Try.isAgg3 Try.sizeOf3) rfl ?_
      have bd_14 := bd_i64 (hS.rowInK' 0 rfl (by first | omega | (simp only [List.length_set, List.length_append, List.length_cons, List.length_nil, List.length_replicate]; omega)) (by first | omega | (simp only [List.length_set, List.length_append, List.length_cons, List.length_nil, List.length_replicate]; omega)) : InK .i64 (ix 0 z i))
      refine Wx.nil ?_
      refine Wp.br [7] (by kernel_rfl) (by decide) ⟨⟨_, rfl, ?_⟩, trivial⟩
      refine Wx.rd (v := .int .i64 (ix 0 z j)) (rd_loadRI' hS 0 rfl rfl rfl (by first | omega | (simp only [List.length_set, List.length_append, List.length_cons, List.length_nil, List.length_replicate]; omega)) (by first | omega | (simp only [List.length_set, List.length_append, List.length_cons, List.length_nil, List.length_replicate]; omega)) Try.isAgg3 Try.sizeOf3) rfl ?_
      have bd_15 := bd_i64 (hS.rowInK' 0 rfl (by first | omega | (simp only [List.length_set, List.length_append, List.length_cons, List.length_nil, List.length_replicate]; omega)) (by first | omega | (simp only [List.length_set, List.length_append, List.length_cons, List.length_nil, List.length_replicate]; omega)) : InK .i64 (ix 0 z j))
      refine Wx.nil ?_
      refine Wp.rd (v := .pointer (some ⟨g_5, i.toNat * 1, none⟩)) 12 rfl (by kernel_rfl) (fun _ => (rd_indexO Try.underlying28 Try.sizeOf3 rfl rfl (by first | omega | (simp only [List.length_set, List.length_append, List.length_cons, List.length_nil, List.length_replicate]; omega)) (by first | omega | (simp only [List.length_set, List.length_append, List.length_cons, List.length_nil, List.length_replicate]; omega)))) rfl ?_
      refine Wp.br [13] (by kernel_rfl) (by decide) ⟨⟨_, rfl, ?_⟩, trivial⟩
      refine Wx.storeR (j := i.toNat) (z := ix 0 z j) hS 0 rfl rfl rfl (by first | omega | (simp only [List.length_set, List.length_append, List.length_cons, List.length_nil, List.length_replicate]; omega)) rfl (V.mkInt (in_i64 (by omega) (by omega))) Try.sizeOf3 (fun w_16 hz_17 hS => ?_)
      refine Wx.nil ?_
      refine Wp.rd (v := .pointer (some ⟨g_5, j.toNat * 1, none⟩)) 14 rfl (by kernel_rfl) (fun _ => (rd_indexO Try.underlying28 Try.sizeOf3 rfl rfl (by first | omega | (simp only [List.length_set, List.length_append, List.length_cons, List.length_nil, List.length_replicate]; omega)) (by first | omega | (simp only [List.length_set, List.length_append, List.length_cons, List.length_nil, List.length_replicate]; omega)))) rfl ?_
      refine Wp.br [15] (by kernel_rfl) (by decide) ⟨⟨_, rfl, ?_⟩, trivial⟩
      refine Wx.storeR (j := j.toNat) (z := ix 0 z i) hS 0 rfl rfl rfl (by first | omega | (simp only [List.length_set, List.length_append, List.length_cons, List.length_nil, List.length_replicate]; omega)) rfl (V.mkInt (in_i64 (by omega) (by omega))) Try.sizeOf3 (fun w_18 hz_19 hS => ?_)
      refine Wx.nil ?_
      refine Wp.done (by kernel_rfl) ?_
      refine W.reg ?_
      refine Wx.rd (v := .int .i64 i) (rd_move rfl) rfl ?_
      refine Wx.rd (v := .int .i64 (i + 1)) (rd_add rfl rfl (in_i64 (by omega) (by omega))) rfl ?_
      refine Wx.rd (v := .int .i64 j) (rd_move rfl) rfl ?_
      refine Wx.rd (v := .int .i64 (j - 1)) (rd_sub rfl rfl (in_i64 (by omega) (by omega))) rfl ?_
      refine Wx.rd (v := .int .i64 (i + 1)) (rd_assign rfl) rfl ?_
      refine Wx.rd (v := .int .i64 (j - 1)) (rd_assign rfl) rfl ?_
      refine Wx.nil ?_
      refine ⟨(i + 1, j - 1, List.set (List.set z i.toNat (ix 0 z j)) j.toNat (ix 0 z i)), (by show ((j - 1) - (i + 1)).toNat < (j - i).toNat; omega), ?_, ?_, Out.look rfl Out.self⟩
      · exact ⟨hS, (by first | omega | assumption), (by first | omega | assumption), (by rw [h2]; exact revS_step h0 c0 h1), (by simp; omega)⟩
      · exact ⟨rfl, rfl, trivial⟩
  · -- no
    refine W.exit rfl ?_
    exact ⟨.tuple #[], ResIs.zero, rfl, hS.spell (ys' := ys.reverse) 0 rfl (by rw [h2]; exact revS_end (by omega))⟩
end Go.Proofs.Ytjmpojoimcljoaa
