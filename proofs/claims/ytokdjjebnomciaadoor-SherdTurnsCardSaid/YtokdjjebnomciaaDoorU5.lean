/-
  WHAT IS PROVED HERE, TEXT BY TEXT (several texts of one prover, joined to one file; the conditions stand in each statement):
  * WHAT IS PROVED HERE: what functions of layer 5 hand back, each out of its own code; the conditions stand in each statement.
  * WHAT IS PROVED HERE: the tail of a slice of the call's own, where it does not begin at the capacity's end. Conditions stand in the statement; it holds over any program.
  * WHAT IS PROVED HERE: what functions of layer 5 hand back, each out of its own code; the conditions stand in each statement.
  * WHAT IS PROVED HERE: what functions of layer 5 hand back, each out of its own code; the conditions stand in each statement.
  * WHAT IS PROVED HERE: what functions of layer 5 hand back, each out of its own code; the conditions stand in each statement.
  * WHAT IS PROVED HERE: what functions of layer 5 hand back, each out of its own code; the conditions stand in each statement.
  * WHAT IS PROVED HERE: an argument that reads as data is, in the world at the start, a value that stands for a plain list, number, or pair (V of Wk2). Conditions: the types' closed facts, as hypotheses.
-/
import Derived.Test.YtokdjjebnomciaaDoorProg
import Derived.Test.YtokdjjebnomciaaDoorU2
import Derived.Test.YtokdjjebnomciaaDoorU4
import Derived.Test.YtokdjjebnomciaaDoorU3
import Derived.Test.YtokdjjebnomciaaDoorU1
import Derived.Deep.Slices
import Derived.Deep.Strs
import Derived.Lib.SmallJoins
import Derived.OpenShut
import Derived.Carry
import Derived.ProofKit

set_option linter.unusedVariables false
set_option linter.unusedSimpArgs false

namespace Go.Proofs.YtokdjjebnomciaaDoor
open Go.Wk Go.RowKit Go.Lib
set_option linter.unusedVariables false
set_option linter.unusedSimpArgs false
theorem mixedHd_ : Tryd.prog.follows .mixedOrders = true := by kernel_rfl
theorem foHd_94_0 : fldOff Tryd.prog 94 0 = some 0 := by kernel_rfl
theorem ftHd_82_0 : fldTy Tryd.prog 82 0 = some (3, 0) := by kernel_rfl
theorem foHd_94_1 : fldOff Tryd.prog 94 1 = some 1 := by kernel_rfl
theorem foHd_82_0 : fldOff Tryd.prog 82 0 = some 0 := by kernel_rfl
theorem elHd_22 : ElemI Tryd.prog 22 58 (.agg #[.int .i64 0, .int .i64 0]) 2 16 := ElemI.of Tryd.underlying22 (by kernel_rfl) (by first | rfl | kernel_rfl) (by decide)
theorem ftHd_82_1 : fldTy Tryd.prog 82 1 = some (3, 1) := by kernel_rfl

theorem F69  : ∀ (fuel : Nat) {i n : Int} {v : Value} {ys : List (Int × Int)} {g : Nat} {s : ByteArray} {T : Tab} {ob : List Ob} {w0 w : World} {O : List (Option Nat)} (i_i : InK .i64 i) (i_n : InK .i64 n) (p_i : 0 ≤ i) (p_n : i ≤ n) (p_s : n ≤ s.size) (p_y : (ys.length : Int) + n - i ≤ 100) (p_ok : TabOK s T) (p_l : Lets s) (p_12 : (s.size : Int) ≤ 12) (hG : Laid w0) (hS : St w0 O w (.row (tP (tI .i64) (tI .i64)) 58 v ys :: .box g 94 (tabC s T) :: ob)) (hf : (n - i).toNat < fuel), Calls Tryd.prog 69 #[.pointer (some ⟨g, 0, none⟩), v, .int .i64 i, .int .i64 n] w (Bk fun r w' => ∃ v', r = v' ∧ St w0 O w' (.row (tP (tI .i64) (tI .i64)) 58 v' (ys ++ firstP (fitR s) i n) :: .box g 94 (tabC s T) :: ob)) := by
  intro fuel
  induction fuel with
  | zero => intros; omega
  | succ fuel IH =>
  intro i n v ys g s T ob w0 w O i_i i_n p_i p_n p_s p_y p_ok p_l p_12 hG hS hf
  have b_i := bd_i64 i_i
  have b_n := bd_i64 i_n
  have hB := p_ok.1
  refine enterB Tryd.func69 rfl Tryd.ntmps69 Tryd.results69 rfl ?_
  refine W.seq ?_
  refine W.reg ?_
  refine Wx.rd (v := (.slice none 0 0)) (rd_assign rfl) rfl ?_
  refine Wx.nil ?_
  refine W.seq ?_
  refine W.seq ?_
  refine W.reg ?_
  refine Wx.rd (v := .int .i64 i) (rd_move rfl) rfl ?_
  refine Wx.rd (v := .int .i64 n) (rd_move rfl) rfl ?_
  refine Wx.rd (v := .bool (decide (n ≤ i))) (rd_geq rfl rfl) rfl ?_
  refine Wx.nil ?_
  refine W.condD rfl (fun c0 => ?_) (fun c0 => ?_)
  · -- yes
    refine W.seq ?_
    refine W.reg ?_
    refine Wx.rd (v := v) (rd_move rfl) rfl ?_
    refine Wx.rd (v := v) (rd_assign rfl) rfl ?_
    refine Wx.nil ?_
    exact W.ret ⟨v, ResIs.one, _, rfl, hS.spell (ys' := ys ++ firstP (fitR s) i n) 0 rfl (by rw [firstP_nil (by omega), List.append_nil])⟩
  · -- no
    refine W.skip ?_
    refine W.seq ?_
    refine W.seq ?_
    refine W.reg ?_
    refine Wx.rd (v := .int .i64 i) (rd_move rfl) rfl ?_
    refine Wx.rd (v := .int .i64 (i + 1)) (rd_add rfl rfl (in_i64 (by omega) (by omega))) rfl ?_
    refine Wx.rd (v := .int .i64 (i + 1)) (rd_assign rfl) rfl ?_
    refine Wx.nil ?_
    refine W.block ?_
    refine W.loop [1, 8, 9, 16, 17, 18, 19, 20, 21, 22, 23, 24, 25, 26, 27, 28, 29, 30, 31, 32, 33, 34, 35, 36, 37, 38, 39, 40, 41, 42, 43, 44, 45, 46, 47, 48, 49, 50, 51, 52, 53, 54, 55, 56, 57, 58, 59, 60, 61, 62] (fun (j : Int) => [(9, .int .i64 j), (1, v)]) (fun (j : Int) w' => St w0 O w' (.row (tP (tI .i64) (tI .i64)) 58 v ys :: .box g 94 (tabC s T) :: ob) ∧ i + 1 ≤ j ∧ j ≤ n ∧ (∀ q, i < q → q < j → isF (fitR s) i n q = false)) (fun (j : Int) => (n - j).toNat) (i + 1) ⟨rfl, rfl, trivial⟩ ⟨hS, (by first | omega | simp), (by first | omega | simp), (fun q q0 q1 => by omega)⟩ ?_
    rintro j u_2 w_1 ⟨hS, h1, h1b, h2⟩
    refine W.seq ?_
    refine W.seq ?_
    refine W.reg ?_
    refine Wx.rd (v := .int .i64 j) (rd_move rfl) rfl ?_
    refine Wx.rd (v := .int .i64 n) (rd_move rfl) rfl ?_
    refine Wx.rd (v := .bool (decide (j < n))) (rd_lss rfl rfl) rfl ?_
    refine Wx.nil ?_
    refine W.condD rfl (fun c1 => ?_) (fun c1 => ?_)
    · -- yes
      refine W.skip ?_
      refine W.seq ?_
      refine W.block ?_
      refine W.seq ?_
      refine W.regQ mixedHd_ (by kernel_rfl) ?_
      refine Wx.rd (v := .pointer (some ⟨g, 0, none⟩)) (rd_move rfl) rfl ?_
      refine Wx.rd (v := .pointer (some ⟨g, 0, none⟩)) (rd_nilCheck rfl rfl) rfl ?_
      refine Wx.rd (v := .pointer (some ⟨g, 0, none⟩)) (rd_fieldAddr (o := 0) rfl foHd_94_0) rfl ?_
      refine Wx.rd (v := .string s) (rd_tabS (fun _ q => boxAt hS 1 rfl q) rfl Tryd.isAgg9) rfl ?_
      refine Wx.rd (v := .int .i64 i) (rd_move rfl) rfl ?_
      refine Wx.rd (v := .int .i64 j) (rd_move rfl) rfl ?_
      refine Wx.callV (v := .bool (fitR s i j)) (run_callF Tryd.call61 rfl) (fun w_3 hw_4 => (F61 (by first | assumption | (simp only [maxLen]; omega) | (simp only [ByteArray.size_extract, ByteArray.size_append, maxLen] at *; omega) | decide) (in_i64 (by omega) (by omega)) (in_i64 (by omega) (by omega)) (by omega) (by omega) (by omega) (by omega) (by omega) (hG.ext (Ext.trans hS.bel hw_4)))) rfl ?_
      refine Wx.rd (v := .bool (fitR s i j)) (rd_move rfl) rfl ?_
      refine Wx.cutQ (X := Unit) 17 [29, 30, 31, 32, 33, 34, 35, 36, 37, 38, 39, 40, 41, 42, 43, 44, 45] (fun _ => [(45, .bool (fitR s i j && decide (((T (i + 1) j).1 + (T (j + 1) n).1 + 1) = ((T i n).1))))]) (fun _ => True) ?_ ?_
      · rcases Bool.eq_false_or_eq_true (fitR s i j) with g_5 | g_5
        · -- True
          have gp_6 := g_5
          try simp only [Bool.and_eq_true, Bool.or_eq_true, Bool.not_eq_true', Bool.and_eq_false_iff, Bool.or_eq_false_iff, Bool.not_eq_false', decide_eq_true_eq, decide_eq_false_iff_not, not_or, Bool.false_eq_true, Bool.true_eq_false, false_or, or_false, not_false_eq_true] at gp_6
          refine Wx.gyes rfl rfl (congrArg Value.bool g_5) ?_
          refine Wx.rd (v := .pointer (some ⟨g, 0, none⟩)) (rd_move rfl) rfl ?_
          refine Wx.gyes rfl rfl (congrArg Value.bool g_5) ?_
          refine Wx.rd (v := .int .i64 i) (rd_move rfl) rfl ?_
          refine Wx.gyes rfl rfl (congrArg Value.bool g_5) ?_
          refine Wx.rd (v := .int .i64 j) (rd_move rfl) rfl ?_
          refine Wx.gyes rfl rfl (congrArg Value.bool g_5) ?_
          refine Wx.rd (v := .int .i64 n) (rd_move rfl) rfl ?_
          refine Wx.gyes rfl rfl (congrArg Value.bool g_5) ?_
          refine Wx.callV (v := .agg #[.int .i64 ((T (i + 1) j).1 + (T (j + 1) n).1 + 1), .int .i64 ((T (i + 1) j).2 * (T (j + 1) n).2)]) (run_callF Tryd.call91 rfl) (fun w_7 hw_8 => (F91 (boxAt hS 1 rfl hw_8) (in_i64 (by omega) (by omega)) (in_i64 (by omega) (by omega)) (in_i64 (by omega) (by omega)) hB (by omega) (by omega) (by omega) (by omega) (by omega) (by omega))) rfl ?_
          refine Wx.gyes rfl rfl (congrArg Value.bool g_5) ?_
          refine Wx.rd (v := .int .i64 ((T (i + 1) j).1 + (T (j + 1) n).1 + 1)) (rd_fieldV rfl ftHd_82_0 Tryd.isAgg3 rfl) rfl ?_
          refine Wx.gyes rfl rfl (congrArg Value.bool g_5) ?_
          refine Wx.rd (v := .pointer (some ⟨g, 0, none⟩)) (rd_move rfl) rfl ?_
          refine Wx.gyes rfl rfl (congrArg Value.bool g_5) ?_
          refine Wx.rd (v := .int .i64 i) (rd_move rfl) rfl ?_
          refine Wx.gyes rfl rfl (congrArg Value.bool g_5) ?_
          refine Wx.rd (v := .int .i64 n) (rd_move rfl) rfl ?_
          refine Wx.gyes rfl rfl (congrArg Value.bool g_5) ?_
          refine Wx.rd (v := .pointer (some ⟨g, 0, none⟩)) (rd_nilCheck rfl rfl) rfl ?_
          refine Wx.gyes rfl rfl (congrArg Value.bool g_5) ?_
          refine Wx.rd (v := .pointer (some ⟨g, 1, none⟩)) (rd_fieldAddr (o := 0) rfl foHd_94_1) rfl ?_
          refine Wx.gyes rfl rfl (congrArg Value.bool g_5) ?_
          refine Wx.rd (v := .pointer (some ⟨g, 1 + i.toNat * 26, none⟩)) (rd_indexArr (o := 1) rfl rfl Tryd.underlying92 Tryd.sizeOf91 (by omega) (by omega)) rfl ?_
          refine Wx.gyes rfl rfl (congrArg Value.bool g_5) ?_
          refine Wx.rd (v := .pointer (some ⟨g, 1 + i.toNat * 26 + n.toNat * 2, none⟩)) (rd_indexArr (o := 1 + i.toNat * 26) rfl rfl Tryd.underlying91 Tryd.sizeOf82 (by omega) (by omega)) rfl ?_
          refine Wx.gyes rfl rfl (congrArg Value.bool g_5) ?_
          refine Wx.rd (v := .pointer (some ⟨g, 1 + i.toNat * 26 + n.toNat * 2, none⟩)) (rd_fieldAddr (o := 1 + i.toNat * 26 + n.toNat * 2) rfl foHd_82_0) rfl ?_
          refine Wx.gyes rfl rfl (congrArg Value.bool g_5) ?_
          refine Wx.rd (v := .int .i64 ((T i n).1)) (rd_tab1 (fun _ q => boxAt hS 1 rfl q) rfl (by omega) (by omega) (by omega) (by omega) Tryd.isAgg3) rfl ?_
          have bt_9 := hB i n
          refine Wx.gyes rfl rfl (congrArg Value.bool g_5) ?_
          refine Wx.rd (v := .bool (decide (((T (i + 1) j).1 + (T (j + 1) n).1 + 1) = ((T i n).1)))) (rd_eql rfl rfl) rfl ?_
          refine Wx.rd (v := .bool (decide (((T (i + 1) j).1 + (T (j + 1) n).1 + 1) = ((T i n).1)))) (rd_pickT (congrArg Value.bool g_5) rfl) rfl ?_
          refine Wx.nilQ (fun _ _ => ⟨(), trivial, ⟨?_, trivial⟩, Out.look rfl Out.refl⟩)
          show Value.bool (decide (((T (i + 1) j).1 + (T (j + 1) n).1 + 1) = ((T i n).1))) = Value.bool (fitR s i j && decide (((T (i + 1) j).1 + (T (j + 1) n).1 + 1) = ((T i n).1)))
          rw [g_5]; rfl
        · -- False
          have gp_10 := g_5
          try simp only [Bool.and_eq_true, Bool.or_eq_true, Bool.not_eq_true', Bool.and_eq_false_iff, Bool.or_eq_false_iff, Bool.not_eq_false', decide_eq_true_eq, decide_eq_false_iff_not, not_or, Bool.false_eq_true, Bool.true_eq_false, false_or, or_false, not_false_eq_true] at gp_10
          refine Wx.gnoB rfl rfl (congrArg Value.bool g_5) rfl rfl ?_
          refine Wx.gnoB rfl rfl (congrArg Value.bool g_5) rfl rfl ?_
          refine Wx.gnoB rfl rfl (congrArg Value.bool g_5) rfl rfl ?_
          refine Wx.gnoB rfl rfl (congrArg Value.bool g_5) rfl rfl ?_
          refine Wx.gnoB rfl rfl (congrArg Value.bool g_5) rfl rfl ?_
          refine Wx.gnoB rfl rfl (congrArg Value.bool g_5) rfl rfl ?_
          refine Wx.gnoB rfl rfl (congrArg Value.bool g_5) rfl rfl ?_
          refine Wx.gnoB rfl rfl (congrArg Value.bool g_5) rfl rfl ?_
          refine Wx.gnoB rfl rfl (congrArg Value.bool g_5) rfl rfl ?_
          refine Wx.gnoB rfl rfl (congrArg Value.bool g_5) rfl rfl ?_
          refine Wx.gnoB rfl rfl (congrArg Value.bool g_5) rfl rfl ?_
          refine Wx.gnoB rfl rfl (congrArg Value.bool g_5) rfl rfl ?_
          refine Wx.gnoB rfl rfl (congrArg Value.bool g_5) rfl rfl ?_
          refine Wx.gnoB rfl rfl (congrArg Value.bool g_5) rfl rfl ?_
          refine Wx.gnoB rfl rfl (congrArg Value.bool g_5) rfl rfl ?_
          refine Wx.gnoB rfl rfl (congrArg Value.bool g_5) rfl rfl ?_
          refine Wx.rd (v := .bool false) (rd_pickF (congrArg Value.bool g_5) rfl) rfl ?_
          refine Wx.nilQ (fun _ _ => ⟨(), trivial, ⟨?_, trivial⟩, Out.look rfl Out.refl⟩)
          show Value.bool false = Value.bool (fitR s i j && decide (((T (i + 1) j).1 + (T (j + 1) n).1 + 1) = ((T i n).1)))
          rw [g_5]; rfl
      rintro ⟨⟩ u_12 -
      refine Wx.nilQ (fun w_13 hx_14 => ?_)
      have hS := hS.ext hx_14
      refine W.cond rfl (fun c2 => ?_) (fun c2 => ?_)
      · -- yes
        try simp only [Bool.and_eq_true, Bool.or_eq_true, Bool.not_eq_true', Bool.and_eq_false_iff, Bool.or_eq_false_iff, Bool.not_eq_false', decide_eq_true_eq, decide_eq_false_iff_not, not_or, Bool.false_eq_true, Bool.true_eq_false, false_or, or_false, not_false_eq_true] at c2
        refine W.seq ?_
        refine W.reg ?_
        refine Wx.rd (v := .pointer (some ⟨g, 0, none⟩)) (rd_move rfl) rfl ?_
        refine Wx.rd (v := v) (rd_move rfl) rfl ?_
        refine Wx.rd (v := .int .i64 i) (rd_move rfl) rfl ?_
        refine Wx.rd (v := .int .i64 j) (rd_move rfl) rfl ?_
        refine Wx.rd (v := .agg #[.int .i64 i, .int .i64 j]) (rd_build (vs := [(0, .int .i64 i), (1, .int .i64 j)]) rfl (by kernel_rfl)) rfl ?_
        refine Wx.lit (t := (tP (tI .i64) (tI .i64))) (ys := [(i, j)]) (vs := [.agg #[.int .i64 i, .int .i64 j]]) elHd_22 hS rfl rfl ⟨(V.mk2 (in_i64 (by omega) (by omega)) (in_i64 (by omega) (by omega))), trivial⟩ (by decide) rfl (fun v_15 w_16 hx_17 hS => ?_)
        refine Wx.append elHd_22 hS 1 rfl rfl rfl (Src.ofR hS 0 rfl) (by simp only [maxLen]; simp; omega) (by simp; omega) rfl (fun v_18 w_19 hz_20 hS => ?_)
        refine Wx.rd (v := .int .i64 i) (rd_move rfl) rfl ?_
        refine Wx.rd (v := .int .i64 (i + 1)) (rd_add rfl rfl (in_i64 (by omega) (by omega))) rfl ?_
        refine Wx.rd (v := .int .i64 j) (rd_move rfl) rfl ?_
        refine Wx.callB (run_callF Tryd.call69 rfl) (IH (ob := (.row (tP (tI .i64) (tI .i64)) 58 v_15 [(i, j)] :: ob)) (in_i64 (by omega) (by omega)) (in_i64 (by omega) (by omega)) (by omega) (by omega) (by omega) (by rw [List.length_append]; show ((ys.length + 1 : Nat) : Int) + _ - _ ≤ 100; omega) p_ok p_l (by omega) hG ((hS.front 2 rfl).front 2 rfl) (by omega)) rfl ?_
        rintro r_21 w_22 ⟨_, rfl, hS⟩
        have hS : St _ _ w_22 (.row (tP (tI .i64) (tI .i64)) 58 r_21 ((ys ++ [(i, j)]) ++ firstP (fitR s) (i + 1) j) :: .box g 94 (tabC s T) :: .row (tP (tI .i64) (tI .i64)) 58 v_15 [(i, j)] :: ob) := hS
        have hS := hS.front 2 rfl
        refine Wx.rd (v := r_21) (rd_assign rfl) rfl ?_
        refine Wx.nil ?_
        refine W.seq ?_
        refine W.reg ?_
        refine Wx.rd (v := .pointer (some ⟨g, 0, none⟩)) (rd_move rfl) rfl ?_
        refine Wx.rd (v := r_21) (rd_move rfl) rfl ?_
        refine Wx.rd (v := .int .i64 j) (rd_move rfl) rfl ?_
        refine Wx.rd (v := .int .i64 (j + 1)) (rd_add rfl rfl (in_i64 (by omega) (by omega))) rfl ?_
        refine Wx.rd (v := .int .i64 n) (rd_move rfl) rfl ?_
        refine Wx.callB (run_callF Tryd.call69 rfl) (IH (ob := (.row (tP (tI .i64) (tI .i64)) 58 v_15 [(i, j)] :: ob)) (in_i64 (by omega) (by omega)) (in_i64 (by omega) (by omega)) (by omega) (by omega) (by omega) (by have := firstP_len (F := fitR s) (i := i + 1) (n := j) (by omega); rw [List.length_append, List.length_append]; show ((ys.length + 1 + _ : Nat) : Int) + _ - _ ≤ 100; omega) p_ok p_l (by omega) hG ((hS.front 2 rfl).front 2 rfl) (by omega)) rfl ?_
        rintro r_23 w_24 ⟨_, rfl, hS⟩
        have hS : St _ _ w_24 (.row (tP (tI .i64) (tI .i64)) 58 r_23 (((ys ++ [(i, j)]) ++ firstP (fitR s) (i + 1) j) ++ firstP (fitR s) (j + 1) n) :: .box g 94 (tabC s T) :: .row (tP (tI .i64) (tI .i64)) 58 v_15 [(i, j)] :: ob) := hS
        have hS := hS.front 2 rfl
        refine Wx.rd (v := r_23) (rd_assign rfl) rfl ?_
        refine Wx.nil ?_
        exact W.ret ⟨r_23, ResIs.one, _, rfl, (St.tl hS).spell (ys' := ys ++ firstP (fitR s) i n) 0 rfl (by rw [firstP_found (by omega) c1 h2 ((isF_iff p_ok p_i (by omega) c1 p_s).2 c2)]; simp)⟩
      · -- no
        try simp only [Bool.and_eq_true, Bool.or_eq_true, Bool.not_eq_true', Bool.and_eq_false_iff, Bool.or_eq_false_iff, Bool.not_eq_false', decide_eq_true_eq, decide_eq_false_iff_not, not_or, Bool.false_eq_true, Bool.true_eq_false, false_or, or_false, not_false_eq_true] at c2
        refine W.skip ?_
        refine W.reg ?_
        refine Wx.rd (v := .int .i64 j) (rd_move rfl) rfl ?_
        refine Wx.rd (v := .int .i64 (j + 1)) (rd_add rfl rfl (in_i64 (by omega) (by omega))) rfl ?_
        refine Wx.rd (v := .int .i64 (j + 1)) (rd_assign rfl) rfl ?_
        refine Wx.nil ?_
        refine ⟨j + 1, (by show (n - (j + 1)).toNat < (n - j).toNat; omega), ?_, ?_, Out.look rfl (Out.hav rfl (Out.look rfl Out.self))⟩
        · exact ⟨hS, (by first | omega | assumption), (by first | omega | assumption), (fun q q1 q2 => by by_cases hq : q = j; (subst hq; exact isF_no p_ok p_i q1 c1 p_s c2); exact h2 q q1 (by omega))⟩
        · exact ⟨rfl, rfl, trivial⟩
    · -- no
      refine W.exit rfl ?_
      refine W.seq ?_
      refine W.reg ?_
      refine Wx.rd (v := .pointer (some ⟨g, 0, none⟩)) (rd_move rfl) rfl ?_
      refine Wx.rd (v := v) (rd_move rfl) rfl ?_
      refine Wx.rd (v := .int .i64 i) (rd_move rfl) rfl ?_
      refine Wx.rd (v := .int .i64 (i + 1)) (rd_add rfl rfl (in_i64 (by omega) (by omega))) rfl ?_
      refine Wx.rd (v := .int .i64 n) (rd_move rfl) rfl ?_
      refine Wx.callB (run_callF Tryd.call69 rfl) (IH (ob := (ob)) (in_i64 (by omega) (by omega)) (in_i64 (by omega) (by omega)) (by omega) (by omega) (by omega) (by omega) p_ok p_l (by omega) hG ((hS.front 1 rfl).front 1 rfl) (by omega)) rfl ?_
      rintro r_25 w_26 ⟨_, rfl, hS⟩
      have hS : St _ _ w_26 (.row (tP (tI .i64) (tI .i64)) 58 r_25 (ys ++ firstP (fitR s) (i + 1) n) :: .box g 94 (tabC s T) :: ob) := hS
      refine Wx.rd (v := r_25) (rd_assign rfl) rfl ?_
      refine Wx.nil ?_
      exact W.ret ⟨r_25, ResIs.one, _, rfl, hS.spell (ys' := ys ++ firstP (fitR s) i n) 0 rfl (by rw [firstP_none (by omega) (fun q q1 q2 => h2 q q1 (by omega))])⟩

theorem F21 {rim : ByteArray} {w : World} (s_rim : rim.size ≤ maxLen) (hG : Laid w) : Calls Tryd.prog 21 #[.string rim] w (Ret w (fun r _ => r = .tuple #[.int .i64 (mostV rim), .int .i64 (rimE rim)])) := by
  have hS := St.start0 w
  refine enterR Tryd.func21 rfl Tryd.ntmps21 Tryd.results21 rfl ?_
  refine W.seq ?_
  refine W.reg ?_
  refine Wx.rd (v := .int .i64 0) (rd_assign rfl) rfl ?_
  refine Wx.rd (v := .int .i64 0) (rd_assign rfl) rfl ?_
  refine Wx.nil ?_
  refine W.seq ?_
  refine W.seq ?_
  refine W.reg ?_
  refine Wx.rd (v := .string rim) (rd_move rfl) rfl ?_
  refine Wx.callF (run_callF Tryd.call17 rfl) (F17 (by first | assumption | (simp only [maxLen]; omega) | (simp only [ByteArray.size_extract, ByteArray.size_append, maxLen] at *; omega) | decide)) rfl ?_
  rintro r_1 w_2 hx_3 rfl
  have hS := hS.ext hx_3
  refine Wx.rd (v := .int .i64 (rimE rim)) (rd_assign rfl) rfl ?_
  refine Wx.nil ?_
  refine W.seq ?_
  refine W.reg ?_
  refine Wx.rd (v := .int .i64 (rimE rim)) (rd_move rfl) rfl ?_
  refine Wx.rd (v := .bool (decide ((rimE rim) ≠ 0))) (rd_neq rfl rfl) rfl ?_
  refine Wx.nil ?_
  refine W.condD rfl (fun c0 => ?_) (fun c0 => ?_)
  · -- yes
    refine W.seq ?_
    refine W.reg ?_
    refine Wx.rd (v := .int .i64 (rimE rim)) (rd_move rfl) rfl ?_
    refine Wx.rd (v := .int .i64 0) (rd_assign rfl) rfl ?_
    refine Wx.rd (v := .int .i64 (rimE rim)) (rd_assign rfl) rfl ?_
    refine Wx.nil ?_
    have e0_0 : (mostV rim) = (0 : Int) := by rw [mostV, if_neg c0]
    exact W.ret ⟨.tuple #[.int .i64 0, .int .i64 (rimE rim)], ResIs.two, hS.bel, (by rw [e0_0])⟩
  · -- no
    have hr0 : rimE rim = 0 := by omega
    obtain ⟨hr1, hr2⟩ := rimE_ok hr0
    refine W.skip ?_
    refine W.seq ?_
    refine W.reg ?_
    refine Wx.rd (v := .string rim) (rd_move rfl) rfl ?_
    refine Wx.callF (run_callF Tryd.call66 rfl) (F66 (by first | assumption | (simp only [maxLen]; omega) | (simp only [ByteArray.size_extract, ByteArray.size_append, maxLen] at *; omega) | decide) (by omega) hr2 (hG.ext hS.bel)) rfl ?_
    rintro r_4 w_5 hx_6 ⟨g_tb, T_tb, rfl, hg_7, hh_8, hT_tb⟩
    have hS := hS.pushBox hx_6 hg_7 hh_8
    have hB_tb := hT_tb.1
    refine Wx.callF (run_callF Tryd.call67 rfl) (F67 (boxAt hS 0 rfl (Ext.refl _)) hB_tb (by omega)) rfl ?_
    rintro r_9 w_10 hx_11 rfl
    have hS := hS.ext hx_11
    refine Wx.rd (v := .int .i64 ((T_tb 0 rim.size).1)) (rd_fieldV rfl ftHd_82_0 Tryd.isAgg3 rfl) rfl ?_
    refine Wx.rd (v := .int .i64 ((T_tb 0 rim.size).1)) (rd_assign rfl) rfl ?_
    refine Wx.rd (v := .int .i64 0) (rd_assign rfl) rfl ?_
    refine Wx.nil ?_
    have e1_0 : (mostV rim) = ((T_tb 0 rim.size).1 : Int) := by rw [mostV, if_pos hr0, hT_tb.all]
    have e1_1 : (rimE rim) = (0 : Int) := by exact hr0
    exact W.ret ⟨.tuple #[.int .i64 ((T_tb 0 rim.size).1), .int .i64 0], ResIs.two, hS.bel, (by rw [e1_0, e1_1])⟩

theorem F23 {rim : ByteArray} {w : World} (s_rim : rim.size ≤ maxLen) (hG : Laid w) : Calls Tryd.prog 23 #[.string rim] w (Ret w (fun r _ => r = .tuple #[.int .i64 (countV rim), .int .i64 (rimE rim)])) := by
  have hS := St.start0 w
  refine enterR Tryd.func23 rfl Tryd.ntmps23 Tryd.results23 rfl ?_
  refine W.seq ?_
  refine W.reg ?_
  refine Wx.rd (v := .int .i64 0) (rd_assign rfl) rfl ?_
  refine Wx.rd (v := .int .i64 0) (rd_assign rfl) rfl ?_
  refine Wx.nil ?_
  refine W.seq ?_
  refine W.seq ?_
  refine W.reg ?_
  refine Wx.rd (v := .string rim) (rd_move rfl) rfl ?_
  refine Wx.callF (run_callF Tryd.call17 rfl) (F17 (by first | assumption | (simp only [maxLen]; omega) | (simp only [ByteArray.size_extract, ByteArray.size_append, maxLen] at *; omega) | decide)) rfl ?_
  rintro r_1 w_2 hx_3 rfl
  have hS := hS.ext hx_3
  refine Wx.rd (v := .int .i64 (rimE rim)) (rd_assign rfl) rfl ?_
  refine Wx.nil ?_
  refine W.seq ?_
  refine W.reg ?_
  refine Wx.rd (v := .int .i64 (rimE rim)) (rd_move rfl) rfl ?_
  refine Wx.rd (v := .bool (decide ((rimE rim) ≠ 0))) (rd_neq rfl rfl) rfl ?_
  refine Wx.nil ?_
  refine W.condD rfl (fun c0 => ?_) (fun c0 => ?_)
  · -- yes
    refine W.seq ?_
    refine W.reg ?_
    refine Wx.rd (v := .int .i64 (rimE rim)) (rd_move rfl) rfl ?_
    refine Wx.rd (v := .int .i64 0) (rd_assign rfl) rfl ?_
    refine Wx.rd (v := .int .i64 (rimE rim)) (rd_assign rfl) rfl ?_
    refine Wx.nil ?_
    have e0_0 : (countV rim) = (0 : Int) := by rw [countV, if_neg c0]
    exact W.ret ⟨.tuple #[.int .i64 0, .int .i64 (rimE rim)], ResIs.two, hS.bel, (by rw [e0_0])⟩
  · -- no
    have hr0 : rimE rim = 0 := by omega
    obtain ⟨hr1, hr2⟩ := rimE_ok hr0
    refine W.skip ?_
    refine W.seq ?_
    refine W.reg ?_
    refine Wx.rd (v := .string rim) (rd_move rfl) rfl ?_
    refine Wx.callF (run_callF Tryd.call66 rfl) (F66 (by first | assumption | (simp only [maxLen]; omega) | (simp only [ByteArray.size_extract, ByteArray.size_append, maxLen] at *; omega) | decide) (by omega) hr2 (hG.ext hS.bel)) rfl ?_
    rintro r_4 w_5 hx_6 ⟨g_tb, T_tb, rfl, hg_7, hh_8, hT_tb⟩
    have hS := hS.pushBox hx_6 hg_7 hh_8
    have hB_tb := hT_tb.1
    refine Wx.callF (run_callF Tryd.call67 rfl) (F67 (boxAt hS 0 rfl (Ext.refl _)) hB_tb (by omega)) rfl ?_
    rintro r_9 w_10 hx_11 rfl
    have hS := hS.ext hx_11
    refine Wx.rd (v := .int .i64 ((T_tb 0 rim.size).2)) (rd_fieldV rfl ftHd_82_1 Tryd.isAgg3 rfl) rfl ?_
    refine Wx.rd (v := .int .i64 ((T_tb 0 rim.size).2)) (rd_assign rfl) rfl ?_
    refine Wx.rd (v := .int .i64 0) (rd_assign rfl) rfl ?_
    refine Wx.nil ?_
    have e1_0 : (countV rim) = ((T_tb 0 rim.size).2 : Int) := by rw [countV, if_pos hr0, hT_tb.all]
    have e1_1 : (rimE rim) = (0 : Int) := by exact hr0
    exact W.ret ⟨.tuple #[.int .i64 ((T_tb 0 rim.size).2), .int .i64 0], ResIs.two, hS.bel, (by rw [e1_0, e1_1])⟩

theorem F25 {rim : ByteArray} {w : World} (s_rim : rim.size ≤ maxLen) (hG : Laid w) : Calls Tryd.prog 25 #[.string rim] w (Ret w (fun r w' => ∃ rv, r = .tuple #[rv, .int .i64 (rimE rim)] ∧ Fresh (tP (tI .i64) (tI .i64)) 58 (firstV rim) rv w.heap.size w')) := by
  have hS := St.start0 w
  refine enterR Tryd.func25 rfl Tryd.ntmps25 Tryd.results25 rfl ?_
  refine W.seq ?_
  refine W.reg ?_
  refine Wx.rd (v := (.slice none 0 0)) (rd_assign rfl) rfl ?_
  refine Wx.rd (v := .int .i64 0) (rd_assign rfl) rfl ?_
  refine Wx.nil ?_
  refine W.seq ?_
  refine W.seq ?_
  refine W.reg ?_
  refine Wx.rd (v := .string rim) (rd_move rfl) rfl ?_
  refine Wx.callF (run_callF Tryd.call17 rfl) (F17 (by first | assumption | (simp only [maxLen]; omega) | (simp only [ByteArray.size_extract, ByteArray.size_append, maxLen] at *; omega) | decide)) rfl ?_
  rintro r_1 w_2 hx_3 rfl
  have hS := hS.ext hx_3
  refine Wx.rd (v := .int .i64 (rimE rim)) (rd_assign rfl) rfl ?_
  refine Wx.nil ?_
  refine W.seq ?_
  refine W.reg ?_
  refine Wx.rd (v := .int .i64 (rimE rim)) (rd_move rfl) rfl ?_
  refine Wx.rd (v := .bool (decide ((rimE rim) ≠ 0))) (rd_neq rfl rfl) rfl ?_
  refine Wx.nil ?_
  refine W.condD rfl (fun c0 => ?_) (fun c0 => ?_)
  · -- yes
    refine W.seq ?_
    refine W.reg ?_
    refine Wx.rd (v := .int .i64 (rimE rim)) (rd_move rfl) rfl ?_
    refine Wx.rd (v := (.slice none 0 0)) (rd_assign rfl) rfl ?_
    refine Wx.rd (v := .int .i64 (rimE rim)) (rd_assign rfl) rfl ?_
    refine Wx.nil ?_
    have e0_0 : firstV rim = [] := by rw [firstV, if_neg c0]
    exact W.ret ⟨.tuple #[(.slice none 0 0), .int .i64 (rimE rim)], ResIs.two, hS.bel, ⟨(.slice none 0 0), rfl, (by rw [e0_0]; exact ((hS.addNil (tP (tI .i64) (tI .i64)) 58).fr 0 rfl flat_i2))⟩⟩
  · -- no
    have hr0 : rimE rim = 0 := by omega
    obtain ⟨hr1, hr2⟩ := rimE_ok hr0
    refine W.skip ?_
    refine W.seq ?_
    refine W.reg ?_
    refine Wx.rd (v := .string rim) (rd_move rfl) rfl ?_
    refine Wx.callF (run_callF Tryd.call66 rfl) (F66 (by first | assumption | (simp only [maxLen]; omega) | (simp only [ByteArray.size_extract, ByteArray.size_append, maxLen] at *; omega) | decide) (by omega) hr2 (hG.ext hS.bel)) rfl ?_
    rintro r_4 w_5 hx_6 ⟨g_tb, T_tb, rfl, hg_7, hh_8, hT_tb⟩
    have hS := hS.pushBox hx_6 hg_7 hh_8
    have hB_tb := hT_tb.1
    refine Wx.rd (v := .string rim) (rd_move rfl) rfl ?_
    refine Wx.rd (v := .int .i64 (rim.size : Int)) (rd_lenS rfl Tryd.underlying9) rfl ?_
    have hS := hS.addNil (tP (tI .i64) (tI .i64)) 58
    refine Wx.callB (run_callF Tryd.call69 rfl) (F69 _ (ob := []) (in_i64 (by omega) (by omega)) (in_i64 (by omega) (by omega)) (by omega) (by omega) (by omega) (by show (0 : Int) + _ - 0 ≤ 100; omega) hT_tb hr2 (by omega) hG ((hS.front 1 rfl).front 1 rfl) (Nat.lt_succ_self _)) rfl ?_
    rintro r_9 w_10 ⟨_, rfl, hS⟩
    have hS : St _ _ w_10 [.row (tP (tI .i64) (tI .i64)) 58 r_9 ([] ++ firstP (fitR rim) (0 : Int) (rim.size : Int)), .box g_tb 94 (tabC rim T_tb)] := hS
    refine Wx.rd (v := r_9) (rd_assign rfl) rfl ?_
    refine Wx.rd (v := .int .i64 0) (rd_assign rfl) rfl ?_
    refine Wx.nil ?_
    have e1_0 : firstV rim = [] ++ firstP (fitR rim) (0 : Int) (rim.size : Int) := by rw [firstV, if_pos hr0]; rfl
    have e1_1 : (rimE rim) = (0 : Int) := by exact hr0
    exact W.ret ⟨.tuple #[r_9, .int .i64 0], ResIs.two, hS.bel, ⟨r_9, (by rw [e1_1]), (by rw [e1_0]; exact (hS.fr 0 rfl flat_i2))⟩⟩
end Go.Proofs.YtokdjjebnomciaaDoor

namespace Go.Wk
open Go.RowKit Go.Lib
set_option linter.unusedVariables false
section
variable {P : Program} {σ : Fr} {w : World} {z lo : Operand} {ty T : TypeId}
theorem rd_tailP {g len c sz : Nat} {e : TypeId} {m : Int} {kk : IntKind} (hu : P.underlying T = some (.slice e)) (hsz : ∀ w', (sizeOf e).run P w' = .ok sz w') (hx : ev σ z = .slice (some ⟨g, 0, none⟩) len c) (hl : ev σ lo = .int kk m) (h0 : 0 ≤ m) (h1 : m < len) (h2 : len ≤ c) :
    Rd P σ (.slice T z (some lo) none none) ty w (.slice (some ⟨g, m.toNat * sz, none⟩) (len - m.toNat) (c - m.toNat)) := by
  have := rd_tailO (P := P) (ty := ty) (w := w) hu hsz hx hl h0 (Int.le_of_lt h1) h2
  rwa [if_neg (by omega)] at this
end
end Go.Wk

namespace Go.Proofs.YtokdjjebnomciaaDoor
open Go.Wk Go.RowKit Go.Lib
set_option linter.unusedVariables false
set_option linter.unusedSimpArgs false
theorem mixedHj_ : Tryd.prog.follows .mixedOrders = true := by kernel_rfl
theorem foHj_94_1 : fldOff Tryd.prog 94 1 = some 1 := by kernel_rfl
theorem foHj_82_1 : fldOff Tryd.prog 82 1 = some 1 := by kernel_rfl
theorem ftHj_82_1 : fldTy Tryd.prog 82 1 = some (3, 1) := by kernel_rfl
theorem elHj_22 : ElemI Tryd.prog 22 58 (.agg #[.int .i64 0, .int .i64 0]) 2 16 := ElemI.of Tryd.underlying22 (by kernel_rfl) (by first | rfl | kernel_rfl) (by decide)

theorem F71 {a : Int} {b : Int} {gt : Nat} {g : Nat} {rim : ByteArray} {T : Tab} {gr : Nat} {w : World} (i_a : InK .i64 a) (i_b : InK .i64 b) (x_g : w.heap[g]? = some (.cells (tabC rim T).toArray 94 (0, 0))) (x_gt : w.heap[gt]? = some (.cells #[.pointer (some ⟨g, 0, none⟩)] 83 (0, 0))) (s_rim : rim.size ≤ maxLen) (x_gr : w.heap[gr]? = some (.cells #[.string rim] 9 (0, 0))) (p_12 : (rim.size : Int) ≤ 12) (p_l : Lets rim) (p_ok : TabOK rim T) (p_a : 0 ≤ a) (p_b : a < b) (p_s : b < rim.size) (hG : Laid w) : Calls Tryd.prog 71 #[.agg #[.int .i64 a, .int .i64 b], .pointer (some ⟨gt, 0, none⟩), .pointer (some ⟨gr, 0, none⟩)] w (Ret w (fun r _ => r = .bool (!frcN rim (a, b)))) := by
  have b_b := bd_i64 i_b
  have b_a := bd_i64 i_a
  have hB := p_ok.1
  have p_T := p_ok.1
  have hcs := cut_size (s := rim) p_a p_b p_s
  have hcb := allV_bd (s := cutS rim a b) (by omega)
  have hml := mul_bd (hB (a + 1) b).2.2.1 (hB (a + 1) b).2.2.2 hcb.2.2.1 hcb.2.2.2
  have hcs2 : (((rim.extract 0 a.toNat) ++ (rim.extract (b + 1).toNat rim.size)).size : Int) = rim.size - (b - a + 1) := hcs
  have hS := St.start0 w
  refine enterR Tryd.func71 rfl Tryd.ntmps71 Tryd.results71 rfl ?_
  refine W.seq ?_
  refine W.reg ?_
  refine Wx.box (cs := [.int .i64 a, .int .i64 b]) hS rfl rfl rfl (fun g_1 w_2 hx_4 hb_3 hS => ?_)
  refine Wx.rd (v := .bool false) (rd_assign rfl) rfl ?_
  refine Wx.nil ?_
  refine W.seq ?_
  refine W.regH mixedHj_ (fun w_5 hx_6 => ?_)
  have h0 := hS
  have hS := (St.start _ _ h0.fb_lt).ext hx_6
  refine Wh.rd (v := .pointer (some ⟨g, 0, none⟩)) 0 rfl (by kernel_rfl) hS.bel (rd_loadO x_gt h0.bel rfl rfl Tryd.isAgg83) rfl ?_
  refine Wh.rd (v := .pointer (some ⟨g_1, 0, none⟩)) 1 rfl (by kernel_rfl) hS.bel (rd_indexArr (n := 0) rfl rfl Tryd.underlying58 Tryd.sizeOf3 (by decide) (by decide)) rfl ?_
  refine Wh.rd (v := .int .i64 a) 2 rfl (by kernel_rfl) hS.bel (rd_loadX h0 0 rfl rfl rfl Tryd.isAgg3) rfl ?_
  refine Wh.rd (v := .int .i64 (a + 1)) 3 rfl (by kernel_rfl) hS.bel (rd_add rfl rfl (in_i64 (by omega) (by omega))) rfl ?_
  refine Wh.rd (v := .pointer (some ⟨g_1, 1, none⟩)) 4 rfl (by kernel_rfl) hS.bel (rd_indexArr (n := 1) rfl rfl Tryd.underlying58 Tryd.sizeOf3 (by decide) (by decide)) rfl ?_
  refine Wh.rd (v := .int .i64 b) 5 rfl (by kernel_rfl) hS.bel (rd_loadX h0 0 rfl rfl rfl Tryd.isAgg3) rfl ?_
  refine Wh.rd (v := .pointer (some ⟨g, 0, none⟩)) 6 rfl (by kernel_rfl) hS.bel (rd_nilCheck rfl rfl) rfl ?_
  refine Wh.rd (v := .pointer (some ⟨g, 1, none⟩)) 7 rfl (by kernel_rfl) hS.bel (rd_fieldAddr (o := 0) rfl foHj_94_1) rfl ?_
  refine Wh.rd (v := .pointer (some ⟨g, 1 + (a + 1).toNat * 26, none⟩)) 8 rfl (by kernel_rfl) hS.bel (rd_indexArr (o := 1) rfl rfl Tryd.underlying92 Tryd.sizeOf91 (by omega) (by omega)) rfl ?_
  refine Wh.rd (v := .pointer (some ⟨g, 1 + (a + 1).toNat * 26 + b.toNat * 2, none⟩)) 9 rfl (by kernel_rfl) hS.bel (rd_indexArr (o := 1 + (a + 1).toNat * 26) rfl rfl Tryd.underlying91 Tryd.sizeOf82 (by omega) (by omega)) rfl ?_
  refine Wh.rd (v := .agg #[.int .i64 ((T (a + 1) b).1), .int .i64 ((T (a + 1) b).2)]) 10 rfl (by kernel_rfl) hS.bel (rd_tabP (fun _ q => extAt x_g (Ext.trans h0.bel q)) rfl (by omega) (by omega) (by omega) (by omega) Tryd.isAgg82 Tryd.sizeOf82) rfl ?_
  have bt_7 := p_T (a + 1) b
  refine Wh.br [11] (by kernel_rfl) (by decide) ⟨⟨_, rfl, ?_⟩, trivial⟩
  refine Wx.alloc (cs := [.int .i64 0, .int .i64 0]) hS Tryd.zeroValue82 rfl rfl (fun g_8 w_9 hx_11 hb_10 hS => ?_)
  refine Wx.nil ⟨hS.bel, ?_⟩
  refine Wh.br [12] (by kernel_rfl) (by decide) ⟨⟨_, rfl, ?_⟩, trivial⟩
  refine Wx.storeX (cs' := [.int .i64 ((T (a + 1) b).1), .int .i64 ((T (a + 1) b).2)]) (ds := [.int .i64 ((T (a + 1) b).1), .int .i64 ((T (a + 1) b).2)]) hS 0 rfl rfl rfl rfl Tryd.sizeOf82 (Nat.le_of_ble_eq_true rfl) (one_cons rfl (one_cons rfl one_nil)) rfl (fun w_12 hz_13 hS => ?_)
  refine Wx.nil ⟨hS.bel, ?_⟩
  refine Wh.done (by kernel_rfl) ?_
  have hS := h0.merge hS
  refine W.seq ?_
  refine W.regH mixedHj_ (fun w_14 hx_15 => ?_)
  have h0 := hS
  have hS := (St.start _ _ h0.fb_lt).ext hx_15
  refine Wh.rd (v := .string rim) 0 rfl (by kernel_rfl) hS.bel (rd_loadO x_gr h0.bel rfl rfl Tryd.isAgg9) rfl ?_
  refine Wh.rd (v := .pointer (some ⟨g_1, 0, none⟩)) 1 rfl (by kernel_rfl) hS.bel (rd_indexArr (n := 0) rfl rfl Tryd.underlying58 Tryd.sizeOf3 (by decide) (by decide)) rfl ?_
  refine Wh.rd (v := .int .i64 a) 2 rfl (by kernel_rfl) hS.bel (rd_loadX h0 1 rfl rfl rfl Tryd.isAgg3) rfl ?_
  refine Wh.rd (v := .string ((rim).extract 0 a.toNat)) 3 rfl (by kernel_rfl) hS.bel (rd_sliceS_H Tryd.underlying9 rfl rfl (by omega) (by omega)) rfl ?_
  refine Wh.rd (v := .string rim) 4 rfl (by kernel_rfl) hS.bel (rd_loadO x_gr h0.bel rfl rfl Tryd.isAgg9) rfl ?_
  refine Wh.rd (v := .pointer (some ⟨g_1, 1, none⟩)) 5 rfl (by kernel_rfl) hS.bel (rd_indexArr (n := 1) rfl rfl Tryd.underlying58 Tryd.sizeOf3 (by decide) (by decide)) rfl ?_
  refine Wh.rd (v := .int .i64 b) 6 rfl (by kernel_rfl) hS.bel (rd_loadX h0 1 rfl rfl rfl Tryd.isAgg3) rfl ?_
  refine Wh.rd (v := .int .i64 (b + 1)) 7 rfl (by kernel_rfl) hS.bel (rd_add rfl rfl (in_i64 (by omega) (by omega))) rfl ?_
  refine Wh.rd (v := .string ((rim).extract (b + 1).toNat rim.size)) 8 rfl (by kernel_rfl) hS.bel (rd_sliceS_L Tryd.underlying9 rfl rfl (by omega) (by omega)) rfl ?_
  refine Wh.rd (v := .string (((rim).extract 0 a.toNat) ++ ((rim).extract (b + 1).toNat rim.size))) 9 rfl (by kernel_rfl) hS.bel (rd_addS rfl rfl (by rw [ByteArray.size_extract, ByteArray.size_extract]; omega)) rfl ?_
  refine Wh.br [10, 12] (by kernel_rfl) (by decide) ⟨⟨_, rfl, ?_⟩, ⟨_, rfl, ?_⟩, trivial⟩
  · -- operation 10
    refine Wx.callF (run_callF Tryd.call66 rfl) (F66 (by first | assumption | (simp only [maxLen]; omega) | (simp only [ByteArray.size_extract, ByteArray.size_append, maxLen] at *; omega) | decide) (by omega) (p_l.cut a b) (hG.ext (Ext.trans h0.bel hS.bel))) rfl ?_
    rintro r_16 w_17 hx_18 ⟨g_tc, T_tc, rfl, hg_19, hh_20, hT_tc⟩
    have hS := hS.pushBox hx_18 hg_19 hh_20
    have hB_tc := hT_tc.1
    have hca := hT_tc.all
    refine Wx.nil ⟨hS.bel, ?_⟩
    refine Wh.br [11, 12] (by kernel_rfl) (by decide) ⟨⟨_, rfl, ?_⟩, ⟨_, rfl, ?_⟩, trivial⟩
    · -- operation 11
      refine Wx.callF (run_callF Tryd.call67 rfl) (F67 (boxAt hS 0 rfl (Ext.refl _)) hB_tc (by omega)) rfl ?_
      rintro r_21 w_22 hx_23 rfl
      have hS := hS.ext hx_23
      refine Wx.nil ⟨hS.bel, ?_⟩
      refine Wh.br [12] (by kernel_rfl) (by decide) ⟨⟨_, rfl, ?_⟩, trivial⟩
      refine Wx.alloc (cs := [.int .i64 0, .int .i64 0]) hS Tryd.zeroValue82 rfl rfl (fun g_24 w_25 hx_27 hb_26 hS => ?_)
      refine Wx.nil ⟨hS.bel, ?_⟩
      refine Wh.br [13] (by kernel_rfl) (by decide) ⟨⟨_, rfl, ?_⟩, trivial⟩
      refine Wx.storeX (cs' := [.int .i64 ((T_tc 0 (((rim).extract 0 a.toNat) ++ ((rim).extract (b + 1).toNat rim.size)).size).1), .int .i64 ((T_tc 0 (((rim).extract 0 a.toNat) ++ ((rim).extract (b + 1).toNat rim.size)).size).2)]) (ds := [.int .i64 ((T_tc 0 (((rim).extract 0 a.toNat) ++ ((rim).extract (b + 1).toNat rim.size)).size).1), .int .i64 ((T_tc 0 (((rim).extract 0 a.toNat) ++ ((rim).extract (b + 1).toNat rim.size)).size).2)]) hS 0 rfl rfl rfl rfl Tryd.sizeOf82 (Nat.le_of_ble_eq_true rfl) (one_cons rfl (one_cons rfl one_nil)) rfl (fun w_28 hz_29 hS => ?_)
      refine Wx.nil ⟨hS.bel, ?_⟩
      refine Wh.done (by kernel_rfl) ?_
      have hS := h0.merge hS
      refine W.seq ?_
      refine W.regQ mixedHj_ (by kernel_rfl) ?_
      refine Wx.rd (v := .pointer (some ⟨g_8, 1, none⟩)) (rd_fieldAddr rfl foHj_82_1) rfl ?_
      refine Wx.rd (v := .int .i64 ((T (a + 1) b).2)) (rd_loadX hS 2 rfl rfl rfl Tryd.isAgg3) rfl ?_
      refine Wx.rd (v := .pointer (some ⟨g_24, 1, none⟩)) (rd_fieldAddr rfl foHj_82_1) rfl ?_
      refine Wx.rd (v := .int .i64 ((T_tc 0 (((rim).extract 0 a.toNat) ++ ((rim).extract (b + 1).toNat rim.size)).size).2)) (rd_loadX hS 0 rfl rfl rfl Tryd.isAgg3) rfl ?_
      refine Wx.rd (v := .int .i64 (((T (a + 1) b).2) * ((T_tc 0 (((rim).extract 0 a.toNat) ++ ((rim).extract (b + 1).toNat rim.size)).size).2))) (rd_mul rfl rfl (by rw [hca]; exact in_i64 (by show -9223372036854775808 ≤ (T (a + 1) b).2 * (allV (cutS rim a b)).2; omega) (by show (T (a + 1) b).2 * (allV (cutS rim a b)).2 ≤ _; omega))) rfl ?_
      refine Wx.rd (v := .pointer (some ⟨g, 0, none⟩)) (rd_loadO x_gt hS.bel rfl rfl Tryd.isAgg83) rfl ?_
      refine Wx.callV (v := .agg #[.int .i64 ((T 0 rim.size).1), .int .i64 ((T 0 rim.size).2)]) (run_callF Tryd.call67 rfl) (fun w_30 hw_31 => (F67 (extAt x_g (Ext.trans hS.bel hw_31)) hB (by omega))) rfl ?_
      refine Wx.rd (v := .int .i64 ((T 0 rim.size).2)) (rd_fieldV rfl ftHj_82_1 Tryd.isAgg3 rfl) rfl ?_
      refine Wx.rd (v := .bool (decide ((((T (a + 1) b).2) * ((T_tc 0 (((rim).extract 0 a.toNat) ++ ((rim).extract (b + 1).toNat rim.size)).size).2)) ≠ ((T 0 rim.size).2)))) (rd_neq rfl rfl) rfl ?_
      refine Wx.rd (v := .bool (decide ((((T (a + 1) b).2) * ((T_tc 0 (((rim).extract 0 a.toNat) ++ ((rim).extract (b + 1).toNat rim.size)).size).2)) ≠ ((T 0 rim.size).2)))) (rd_assign rfl) rfl ?_
      refine Wx.nilQ (fun w_32 hx_33 => ?_)
      have hS := hS.ext hx_33
      have e0_0 : (!frcN rim (a, b)) = (decide ((((T (a + 1) b).2) * ((T_tc 0 (((rim).extract 0 a.toNat) ++ ((rim).extract (b + 1).toNat rim.size)).size).2)) ≠ ((T 0 rim.size).2))) := by rw [frcN, p_ok.all, hca, p_ok.2 (a + 1) b (by omega) (by omega) (by omega)]; exact decide_not.symm
      exact W.ret ⟨.bool (decide ((((T (a + 1) b).2) * ((T_tc 0 (((rim).extract 0 a.toNat) ++ ((rim).extract (b + 1).toNat rim.size)).size).2)) ≠ ((T 0 rim.size).2))), ResIs.one, hS.bel, (by rw [e0_0])⟩
    · -- operation 12
      refine Wx.alloc (cs := [.int .i64 0, .int .i64 0]) hS Tryd.zeroValue82 rfl rfl (fun g_34 w_35 hx_37 hb_36 hS => ?_)
      refine Wx.nil ⟨hS.bel, ?_⟩
      refine Wh.br [11] (by kernel_rfl) (by decide) ⟨⟨_, rfl, ?_⟩, trivial⟩
      refine Wx.callF (run_callF Tryd.call67 rfl) (F67 (boxAt hS 1 rfl (Ext.refl _)) hB_tc (by omega)) rfl ?_
      rintro r_38 w_39 hx_40 rfl
      have hS := hS.ext hx_40
      refine Wx.nil ⟨hS.bel, ?_⟩
      refine Wh.br [13] (by kernel_rfl) (by decide) ⟨⟨_, rfl, ?_⟩, trivial⟩
      refine Wx.storeX (cs' := [.int .i64 ((T_tc 0 (((rim).extract 0 a.toNat) ++ ((rim).extract (b + 1).toNat rim.size)).size).1), .int .i64 ((T_tc 0 (((rim).extract 0 a.toNat) ++ ((rim).extract (b + 1).toNat rim.size)).size).2)]) (ds := [.int .i64 ((T_tc 0 (((rim).extract 0 a.toNat) ++ ((rim).extract (b + 1).toNat rim.size)).size).1), .int .i64 ((T_tc 0 (((rim).extract 0 a.toNat) ++ ((rim).extract (b + 1).toNat rim.size)).size).2)]) hS 0 rfl rfl rfl rfl Tryd.sizeOf82 (Nat.le_of_ble_eq_true rfl) (one_cons rfl (one_cons rfl one_nil)) rfl (fun w_41 hz_42 hS => ?_)
      refine Wx.nil ⟨hS.bel, ?_⟩
      refine Wh.done (by kernel_rfl) ?_
      have hS := h0.merge hS
      refine W.seq ?_
      refine W.regQ mixedHj_ (by kernel_rfl) ?_
      refine Wx.rd (v := .pointer (some ⟨g_8, 1, none⟩)) (rd_fieldAddr rfl foHj_82_1) rfl ?_
      refine Wx.rd (v := .int .i64 ((T (a + 1) b).2)) (rd_loadX hS 2 rfl rfl rfl Tryd.isAgg3) rfl ?_
      refine Wx.rd (v := .pointer (some ⟨g_34, 1, none⟩)) (rd_fieldAddr rfl foHj_82_1) rfl ?_
      refine Wx.rd (v := .int .i64 ((T_tc 0 (((rim).extract 0 a.toNat) ++ ((rim).extract (b + 1).toNat rim.size)).size).2)) (rd_loadX hS 0 rfl rfl rfl Tryd.isAgg3) rfl ?_
      refine Wx.rd (v := .int .i64 (((T (a + 1) b).2) * ((T_tc 0 (((rim).extract 0 a.toNat) ++ ((rim).extract (b + 1).toNat rim.size)).size).2))) (rd_mul rfl rfl (by rw [hca]; exact in_i64 (by show -9223372036854775808 ≤ (T (a + 1) b).2 * (allV (cutS rim a b)).2; omega) (by show (T (a + 1) b).2 * (allV (cutS rim a b)).2 ≤ _; omega))) rfl ?_
      refine Wx.rd (v := .pointer (some ⟨g, 0, none⟩)) (rd_loadO x_gt hS.bel rfl rfl Tryd.isAgg83) rfl ?_
      refine Wx.callV (v := .agg #[.int .i64 ((T 0 rim.size).1), .int .i64 ((T 0 rim.size).2)]) (run_callF Tryd.call67 rfl) (fun w_43 hw_44 => (F67 (extAt x_g (Ext.trans hS.bel hw_44)) hB (by omega))) rfl ?_
      refine Wx.rd (v := .int .i64 ((T 0 rim.size).2)) (rd_fieldV rfl ftHj_82_1 Tryd.isAgg3 rfl) rfl ?_
      refine Wx.rd (v := .bool (decide ((((T (a + 1) b).2) * ((T_tc 0 (((rim).extract 0 a.toNat) ++ ((rim).extract (b + 1).toNat rim.size)).size).2)) ≠ ((T 0 rim.size).2)))) (rd_neq rfl rfl) rfl ?_
      refine Wx.rd (v := .bool (decide ((((T (a + 1) b).2) * ((T_tc 0 (((rim).extract 0 a.toNat) ++ ((rim).extract (b + 1).toNat rim.size)).size).2)) ≠ ((T 0 rim.size).2)))) (rd_assign rfl) rfl ?_
      refine Wx.nilQ (fun w_45 hx_46 => ?_)
      have hS := hS.ext hx_46
      have e0_0 : (!frcN rim (a, b)) = (decide ((((T (a + 1) b).2) * ((T_tc 0 (((rim).extract 0 a.toNat) ++ ((rim).extract (b + 1).toNat rim.size)).size).2)) ≠ ((T 0 rim.size).2))) := by rw [frcN, p_ok.all, hca, p_ok.2 (a + 1) b (by omega) (by omega) (by omega)]; exact decide_not.symm
      exact W.ret ⟨.bool (decide ((((T (a + 1) b).2) * ((T_tc 0 (((rim).extract 0 a.toNat) ++ ((rim).extract (b + 1).toNat rim.size)).size).2)) ≠ ((T 0 rim.size).2))), ResIs.one, hS.bel, (by rw [e0_0])⟩
  · -- operation 12
    refine Wx.alloc (cs := [.int .i64 0, .int .i64 0]) hS Tryd.zeroValue82 rfl rfl (fun g_47 w_48 hx_50 hb_49 hS => ?_)
    refine Wx.nil ⟨hS.bel, ?_⟩
    refine Wh.br [10] (by kernel_rfl) (by decide) ⟨⟨_, rfl, ?_⟩, trivial⟩
    refine Wx.callF (run_callF Tryd.call66 rfl) (F66 (by first | assumption | (simp only [maxLen]; omega) | (simp only [ByteArray.size_extract, ByteArray.size_append, maxLen] at *; omega) | decide) (by omega) (p_l.cut a b) (hG.ext (Ext.trans h0.bel hS.bel))) rfl ?_
    rintro r_51 w_52 hx_53 ⟨g_tc, T_tc, rfl, hg_54, hh_55, hT_tc⟩
    have hS := hS.pushBox hx_53 hg_54 hh_55
    have hB_tc := hT_tc.1
    have hca := hT_tc.all
    refine Wx.nil ⟨hS.bel, ?_⟩
    refine Wh.br [11] (by kernel_rfl) (by decide) ⟨⟨_, rfl, ?_⟩, trivial⟩
    refine Wx.callF (run_callF Tryd.call67 rfl) (F67 (boxAt hS 0 rfl (Ext.refl _)) hB_tc (by omega)) rfl ?_
    rintro r_56 w_57 hx_58 rfl
    have hS := hS.ext hx_58
    refine Wx.nil ⟨hS.bel, ?_⟩
    refine Wh.br [13] (by kernel_rfl) (by decide) ⟨⟨_, rfl, ?_⟩, trivial⟩
    refine Wx.storeX (cs' := [.int .i64 ((T_tc 0 (((rim).extract 0 a.toNat) ++ ((rim).extract (b + 1).toNat rim.size)).size).1), .int .i64 ((T_tc 0 (((rim).extract 0 a.toNat) ++ ((rim).extract (b + 1).toNat rim.size)).size).2)]) (ds := [.int .i64 ((T_tc 0 (((rim).extract 0 a.toNat) ++ ((rim).extract (b + 1).toNat rim.size)).size).1), .int .i64 ((T_tc 0 (((rim).extract 0 a.toNat) ++ ((rim).extract (b + 1).toNat rim.size)).size).2)]) hS 1 rfl rfl rfl rfl Tryd.sizeOf82 (Nat.le_of_ble_eq_true rfl) (one_cons rfl (one_cons rfl one_nil)) rfl (fun w_59 hz_60 hS => ?_)
    refine Wx.nil ⟨hS.bel, ?_⟩
    refine Wh.done (by kernel_rfl) ?_
    have hS := h0.merge hS
    refine W.seq ?_
    refine W.regQ mixedHj_ (by kernel_rfl) ?_
    refine Wx.rd (v := .pointer (some ⟨g_8, 1, none⟩)) (rd_fieldAddr rfl foHj_82_1) rfl ?_
    refine Wx.rd (v := .int .i64 ((T (a + 1) b).2)) (rd_loadX hS 2 rfl rfl rfl Tryd.isAgg3) rfl ?_
    refine Wx.rd (v := .pointer (some ⟨g_47, 1, none⟩)) (rd_fieldAddr rfl foHj_82_1) rfl ?_
    refine Wx.rd (v := .int .i64 ((T_tc 0 (((rim).extract 0 a.toNat) ++ ((rim).extract (b + 1).toNat rim.size)).size).2)) (rd_loadX hS 1 rfl rfl rfl Tryd.isAgg3) rfl ?_
    refine Wx.rd (v := .int .i64 (((T (a + 1) b).2) * ((T_tc 0 (((rim).extract 0 a.toNat) ++ ((rim).extract (b + 1).toNat rim.size)).size).2))) (rd_mul rfl rfl (by rw [hca]; exact in_i64 (by show -9223372036854775808 ≤ (T (a + 1) b).2 * (allV (cutS rim a b)).2; omega) (by show (T (a + 1) b).2 * (allV (cutS rim a b)).2 ≤ _; omega))) rfl ?_
    refine Wx.rd (v := .pointer (some ⟨g, 0, none⟩)) (rd_loadO x_gt hS.bel rfl rfl Tryd.isAgg83) rfl ?_
    refine Wx.callV (v := .agg #[.int .i64 ((T 0 rim.size).1), .int .i64 ((T 0 rim.size).2)]) (run_callF Tryd.call67 rfl) (fun w_61 hw_62 => (F67 (extAt x_g (Ext.trans hS.bel hw_62)) hB (by omega))) rfl ?_
    refine Wx.rd (v := .int .i64 ((T 0 rim.size).2)) (rd_fieldV rfl ftHj_82_1 Tryd.isAgg3 rfl) rfl ?_
    refine Wx.rd (v := .bool (decide ((((T (a + 1) b).2) * ((T_tc 0 (((rim).extract 0 a.toNat) ++ ((rim).extract (b + 1).toNat rim.size)).size).2)) ≠ ((T 0 rim.size).2)))) (rd_neq rfl rfl) rfl ?_
    refine Wx.rd (v := .bool (decide ((((T (a + 1) b).2) * ((T_tc 0 (((rim).extract 0 a.toNat) ++ ((rim).extract (b + 1).toNat rim.size)).size).2)) ≠ ((T 0 rim.size).2)))) (rd_assign rfl) rfl ?_
    refine Wx.nilQ (fun w_63 hx_64 => ?_)
    have hS := hS.ext hx_64
    have e0_0 : (!frcN rim (a, b)) = (decide ((((T (a + 1) b).2) * ((T_tc 0 (((rim).extract 0 a.toNat) ++ ((rim).extract (b + 1).toNat rim.size)).size).2)) ≠ ((T 0 rim.size).2))) := by rw [frcN, p_ok.all, hca, p_ok.2 (a + 1) b (by omega) (by omega) (by omega)]; exact decide_not.symm
    exact W.ret ⟨.bool (decide ((((T (a + 1) b).2) * ((T_tc 0 (((rim).extract 0 a.toNat) ++ ((rim).extract (b + 1).toNat rim.size)).size).2)) ≠ ((T 0 rim.size).2))), ResIs.one, hS.bel, (by rw [e0_0])⟩

theorem F93 {lv : Value} {l : List (Int × Int)} {Fr_lv : List (Option Nat)} {gt : Nat} {g : Nat} {rim : ByteArray} {T : Tab} {gr : Nat} {w : World} (h_lv : V (tSl (tP (tI .i64) (tI .i64))) l lv Fr_lv w) (x_g : w.heap[g]? = some (.cells (tabC rim T).toArray 94 (0, 0))) (x_gt : w.heap[gt]? = some (.cells #[.pointer (some ⟨g, 0, none⟩)] 83 (0, 0))) (s_rim : rim.size ≤ maxLen) (x_gr : w.heap[gr]? = some (.cells #[.string rim] 9 (0, 0))) (p_12 : (rim.size : Int) ≤ 12) (p_l : Lets rim) (p_ok : TabOK rim T) (p_in : ∀ x ∈ l, 0 ≤ x.1 ∧ x.1 < x.2 ∧ x.2 < rim.size) (hG : Laid w) : Calls Tryd.prog 93 #[lv, .func (.func 71) #[] #[.pointer (some ⟨gt, 0, none⟩), .pointer (some ⟨gr, 0, none⟩)]] w (Ret w (fun r _ => r = .int .i64 (idxF (frcN rim) l 0))) := by
  have a_lv := h_lv.any
  have l_lv := h_lv.len63
  have hS := St.start0 w
  refine enterR Tryd.func93 rfl Tryd.ntmps93 Tryd.results93 rfl ?_
  refine W.seq ?_
  refine W.reg ?_
  refine Wx.rd (v := .int .i64 0) (rd_assign rfl) rfl ?_
  refine Wx.nil ?_
  refine W.seq ?_
  refine W.seq ?_
  refine W.reg ?_
  refine Wx.rd (v := lv) (rd_move rfl) rfl ?_
  refine Wx.rd (v := .int .i64 (l.length : Int)) (rd_lenV rfl (hS.arg a_lv) Tryd.underlying22) rfl ?_
  refine Wx.rd (v := .int .i64 0) (rd_move rfl) rfl ?_
  refine Wx.nil ?_
  refine W.block ?_
  refine W.loop [4, 5, 8, 9, 10, 11, 12, 13, 14, 15, 16, 17, 18] (fun (k : Int) => [(8, .int .i64 k)]) (fun (k : Int) w' => St w [] w' [] ∧ 0 ≤ k ∧ k ≤ l.length ∧ idxF (frcN rim) (l.drop k.toNat) k = idxF (frcN rim) l 0) (fun (k : Int) => (l.length - k).toNat) 0 ⟨rfl, trivial⟩ ⟨hS, (by first | omega | simp), (by first | omega | simp), (rfl)⟩ ?_
  rintro k u_2 w_1 ⟨hS, h0, h1, h2⟩
  refine W.seq ?_
  refine W.reg ?_
  refine Wx.rd (v := .bool (decide (k < (l.length : Int)))) (rd_lss rfl rfl) rfl ?_
  refine Wx.nil ?_
  refine W.seq ?_
  refine W.condD rfl (fun c0 => ?_) (fun c0 => ?_)
  · -- yes
    have hin := p_in _ (ix_mem (d := (0, 0)) h0 c0)
    refine W.skip ?_
    refine W.seq ?_
    refine W.block ?_
    refine W.seq ?_
    refine W.reg ?_
    refine Wx.rd (v := .int .i64 k) (rd_move rfl) rfl ?_
    refine Wx.rd (v := .int .i64 k) (rd_assign rfl) rfl ?_
    refine Wx.nil ?_
    refine W.seq ?_
    refine W.reg ?_
    refine Wx.rd (v := .func (.func 71) #[] #[.pointer (some ⟨gt, 0, none⟩), .pointer (some ⟨gr, 0, none⟩)]) (rd_move rfl) rfl ?_
    refine Wx.rd (v := lv) (rd_move rfl) rfl ?_
    refine Wx.rd (v := .int .i64 k) (rd_move rfl) rfl ?_
    refine Wx.ex (rd_index (0, 0) (hS.arg a_lv) rfl rfl Tryd.underlying22 Tryd.sizeOf58 (by first | omega | (simp only [List.length_set, List.length_append, List.length_cons, List.length_nil, List.length_replicate]; omega)) (by first | omega | (simp only [List.length_set, List.length_append, List.length_cons, List.length_nil, List.length_replicate]; omega))) rfl (fun p_3 hp_4 => ?_)
    refine Wx.ex (rd_load hp_4 rfl Tryd.isAgg58 Tryd.sizeOf58) rfl (fun v_5 hv_6 => ?_)
    obtain ⟨rfl, bd_7, bd_8⟩ := hv_6.i2
    have bd_7 := bd_i64 bd_7
    have bd_8 := bd_i64 bd_8
    refine Wx.callF (run_callC (fs := []) (cs := [.pointer (some ⟨gt, 0, none⟩), .pointer (some ⟨gr, 0, none⟩)]) (vs := [.agg #[.int .i64 ((ix (0, 0) l k).1), .int .i64 ((ix (0, 0) l k).2)], .pointer (some ⟨gt, 0, none⟩), .pointer (some ⟨gr, 0, none⟩)]) Tryd.call71 rfl rfl) (F71 (in_i64 (by omega) (by omega)) (in_i64 (by omega) (by omega)) (extAt x_g hS.bel) (extAt x_gt hS.bel) (by first | assumption | (simp only [maxLen]; omega) | (simp only [ByteArray.size_extract, ByteArray.size_append, maxLen] at *; omega) | decide) (extAt x_gr hS.bel) (by omega) (by omega) (by omega) (by omega) (by omega) (by omega) (hG.ext hS.bel)) rfl ?_
    rintro r_9 w_10 hx_11 rfl
    have hS := hS.ext hx_11
    refine Wx.nil ?_
    refine W.cond rfl (fun c1 => ?_) (fun c1 => ?_)
    · -- yes
      try simp only [Bool.and_eq_true, Bool.or_eq_true, Bool.not_eq_true', Bool.and_eq_false_iff, Bool.or_eq_false_iff, Bool.not_eq_false', decide_eq_true_eq, decide_eq_false_iff_not, not_or, Bool.false_eq_true, Bool.true_eq_false, false_or, or_false, not_false_eq_true] at c1
      refine W.seq ?_
      refine W.reg ?_
      refine Wx.rd (v := .int .i64 k) (rd_move rfl) rfl ?_
      refine Wx.rd (v := .int .i64 k) (rd_assign rfl) rfl ?_
      refine Wx.nil ?_
      have e0_0 : (idxF (frcN rim) l 0) = (k : Int) := by exact idxF_no h0 c0 h2 c1
      exact W.ret ⟨.int .i64 k, ResIs.one, hS.bel, (by rw [e0_0])⟩
    · -- no
      try simp only [Bool.and_eq_true, Bool.or_eq_true, Bool.not_eq_true', Bool.and_eq_false_iff, Bool.or_eq_false_iff, Bool.not_eq_false', decide_eq_true_eq, decide_eq_false_iff_not, not_or, Bool.false_eq_true, Bool.true_eq_false, false_or, or_false, not_false_eq_true] at c1
      refine W.skip ?_
      refine W.reg ?_
      refine Wx.rd (v := .int .i64 (k + 1)) (rd_add rfl rfl (in_i64 (by omega) (by omega))) rfl ?_
      refine Wx.rd (v := .int .i64 (k + 1)) (rd_move rfl) rfl ?_
      refine Wx.nil ?_
      refine ⟨k + 1, (by show (l.length - (k + 1)).toNat < (l.length - k).toNat; omega), ?_, ?_, Out.look rfl Out.self⟩
      · exact ⟨hS, (by first | omega | assumption), (by first | omega | assumption), (idxF_yes h0 c0 h2 c1)⟩
      · exact ⟨rfl, trivial⟩
  · -- no
    refine W.exit rfl ?_
    refine W.seq ?_
    refine W.reg ?_
    refine Wx.rd (v := .int .i64 (-1)) (rd_assign rfl) rfl ?_
    refine Wx.nil ?_
    have e1_0 : (idxF (frcN rim) l 0) = (-1 : Int) := by exact idxF_end (by omega) h2
    exact W.ret ⟨.int .i64 (-1), ResIs.one, hS.bel, (by rw [e1_0])⟩

theorem F70 {v : Value} {ys : List (Int × Int)} {gt gr g : Nat} {rim : ByteArray} {T : Tab} {ob : List Ob} {w0 w : World} {O : List (Option Nat)} (s_rim : rim.size ≤ maxLen) (p_12 : (rim.size : Int) ≤ 12) (p_l : Lets rim) (p_ok : TabOK rim T) (p_in : ∀ x ∈ ys, 0 ≤ x.1 ∧ x.1 < x.2 ∧ x.2 < rim.size) (p_len : (ys.length : Int) ≤ 100) (hG : Laid w0) (hS : St w0 O w (.row (tP (tI .i64) (tI .i64)) 58 v (ys) :: .box gt 83 [.pointer (some ⟨g, 0, none⟩)] :: .box gr 9 [.string rim] :: .box g 94 (tabC rim T) :: ob)) : Calls Tryd.prog 70 #[v, .func (.func 71) #[] #[.pointer (some ⟨gt, 0, none⟩), .pointer (some ⟨gr, 0, none⟩)]] w (Bk fun r w' => ∃ v', r = v' ∧ St w0 O w' (.row (tP (tI .i64) (tI .i64)) 58 v' (ys.filter (frcN rim)) :: .box gt 83 [.pointer (some ⟨g, 0, none⟩)] :: .box gr 9 [.string rim] :: .box g 94 (tabC rim T) :: ob)) := by
  have hB := p_ok.1
  refine enterB Tryd.func70 rfl Tryd.ntmps70 Tryd.results70 rfl ?_
  refine W.seq ?_
  refine W.reg ?_
  refine Wx.rd (v := (.slice none 0 0)) (rd_assign rfl) rfl ?_
  refine Wx.nil ?_
  refine W.seq ?_
  refine W.reg ?_
  refine Wx.rd (v := v) (rd_move rfl) rfl ?_
  refine Wx.rd (v := .func (.func 71) #[] #[.pointer (some ⟨gt, 0, none⟩), .pointer (some ⟨gr, 0, none⟩)]) (rd_move rfl) rfl ?_
  refine Wx.callF (run_callF Tryd.call93 rfl) (F93 (hS.lend 0 rfl) (boxAt hS 3 rfl (Ext.refl _)) (boxAt hS 1 rfl (Ext.refl _)) (by first | assumption | (simp only [maxLen]; omega) | (simp only [ByteArray.size_extract, ByteArray.size_append, maxLen] at *; omega) | decide) (boxAt hS 2 rfl (Ext.refl _)) (by omega) p_l p_ok p_in (hG.ext hS.bel)) rfl ?_
  rintro r_1 w_2 hx_3 rfl
  have hS := hS.ext hx_3
  refine Wx.rd (v := .int .i64 (idxF (frcN rim) ys 0)) (rd_assign rfl) rfl ?_
  refine Wx.nil ?_
  refine W.seq ?_
  refine W.seq ?_
  refine W.reg ?_
  refine Wx.rd (v := .int .i64 (idxF (frcN rim) ys 0)) (rd_move rfl) rfl ?_
  refine Wx.rd (v := .bool (decide ((idxF (frcN rim) ys 0) = (-1)))) (rd_eql rfl rfl) rfl ?_
  refine Wx.nil ?_
  refine W.condD rfl (fun c0 => ?_) (fun c0 => ?_)
  · -- yes
    refine W.seq ?_
    refine W.reg ?_
    refine Wx.rd (v := v) (rd_move rfl) rfl ?_
    refine Wx.rd (v := v) (rd_assign rfl) rfl ?_
    refine Wx.nil ?_
    exact W.ret ⟨v, ResIs.one, _, rfl, hS.spell (ys' := ys.filter (frcN rim)) 0 rfl (del_none c0).symm⟩
  · -- no
    obtain ⟨hi0, hi1, hi2⟩ := del_start c0
    refine W.skip ?_
    refine W.seq ?_
    refine W.seq ?_
    refine W.reg ?_
    obtain ⟨g_4, c_5, rfl, hc_6⟩ := hS.rowForm 0 rfl (by omega)
    refine Wx.rd (v := .int .i64 (idxF (frcN rim) ys 0)) (rd_move rfl) rfl ?_
    refine Wx.rd (v := .int .i64 ((idxF (frcN rim) ys 0) + 1)) (rd_add rfl rfl (in_i64 (by omega) (by omega))) rfl ?_
    refine Wx.rd (v := .int .i64 ((idxF (frcN rim) ys 0) + 1)) (rd_assign rfl) rfl ?_
    refine Wx.nil ?_
    refine W.block ?_
    refine W.loop [5, 6, 7, 16, 17, 18, 19, 20, 21, 22, 23, 24, 25, 26, 27, 28, 29, 30, 31, 32, 33, 34, 35] (fun x : Int × Int × (List (Int × Int)) => match x with | (i, j, z) => [(5, .int .i64 i), (6, .int .i64 j)]) (fun (x : Int × Int × (List (Int × Int))) w' => match x with | (i, j, z) => St w0 O w' (.row (tP (tI .i64) (tI .i64)) 58 (.slice (some ⟨g_4, 0, none⟩) ys.length c_5) z :: .box gt 83 [.pointer (some ⟨g, 0, none⟩)] :: .box gr 9 [.string rim] :: .box g 94 (tabC rim T) :: ob) ∧ 0 ≤ i ∧ i < j ∧ j ≤ ys.length ∧ z.length = ys.length ∧ z.take i.toNat = (ys.take j.toNat).filter (frcN rim) ∧ z.drop j.toNat = ys.drop j.toNat) (fun x : Int × Int × (List (Int × Int)) => match x with | (i, j, z) => (ys.length - j).toNat) (idxF (frcN rim) ys 0, (idxF (frcN rim) ys 0) + 1, ys) ⟨rfl, rfl, trivial⟩ ⟨hS, (by first | omega | simp), (by first | omega | simp), (by first | omega | simp), (rfl), (hi2), (rfl)⟩ ?_
    rintro ⟨i, j, z⟩ u_8 w_7 ⟨hS, h0, h1, h1b, hl, hT, hD⟩
    refine W.seq ?_
    refine W.seq ?_
    refine W.reg ?_
    refine Wx.rd (v := .int .i64 j) (rd_move rfl) rfl ?_
    refine Wx.rd (v := (.slice (some ⟨g_4, 0, none⟩) ys.length c_5)) (rd_move rfl) rfl ?_
    refine Wx.rd (v := .int .i64 (z.length : Int)) (rd_lenR hS 0 rfl rfl Tryd.underlying22) rfl ?_
    refine Wx.rd (v := .bool (decide (j < (z.length : Int)))) (rd_lss rfl rfl) rfl ?_
    refine Wx.nil ?_
    refine W.condD rfl (fun c1 => ?_) (fun c1 => ?_)
    · -- yes
      have hix := del_ix (by omega) (by omega) hl hD
      have hin := p_in _ (ix_mem (d := (0, 0)) (xs := ys) (j := j) (by omega) (by omega))
      rw [← hix] at hin
      refine W.skip ?_
      refine W.seq ?_
      refine W.block ?_
      refine W.seq ?_
      refine W.reg ?_
      refine Wx.rd (v := (.slice (some ⟨g_4, 0, none⟩) ys.length c_5)) (rd_move rfl) rfl ?_
      refine Wx.rd (v := .int .i64 j) (rd_move rfl) rfl ?_
      refine Wx.rd (v := .pointer (some ⟨g_4, j.toNat * 2, none⟩)) (rd_indexO Tryd.underlying22 Tryd.sizeOf58 rfl rfl (by first | omega | (simp only [List.length_set, List.length_append, List.length_cons, List.length_nil, List.length_replicate]; omega)) (by first | omega | (simp only [List.length_set, List.length_append, List.length_cons, List.length_nil, List.length_replicate]; omega))) rfl ?_
      refine Wx.ex (rd_loadR' (0, 0) hS 0 rfl rfl rfl (by first | omega | (simp only [List.length_set, List.length_append, List.length_cons, List.length_nil, List.length_replicate]; omega)) (by first | omega | (simp only [List.length_set, List.length_append, List.length_cons, List.length_nil, List.length_replicate]; omega)) Tryd.isAgg58 Tryd.sizeOf58) rfl (fun v_9 hv_10 => ?_)
      obtain ⟨rfl, bd_11, bd_12⟩ := hv_10.i2
      have bd_11 := bd_i64 bd_11
      have bd_12 := bd_i64 bd_12
      refine Wx.alloc (cs := [.int .i64 0, .int .i64 0]) hS Tryd.zeroValue58 rfl rfl (fun g_13 w_14 hx_16 hb_15 hS => ?_)
      refine Wx.storeX (cs' := [.int .i64 ((ix (0, 0) z j).1), .int .i64 ((ix (0, 0) z j).2)]) (ds := [.int .i64 ((ix (0, 0) z j).1), .int .i64 ((ix (0, 0) z j).2)]) hS 0 rfl rfl rfl rfl Tryd.sizeOf58 (Nat.le_of_ble_eq_true rfl) (one_cons rfl (one_cons rfl one_nil)) rfl (fun w_17 hz_18 hS => ?_)
      refine Wx.nil ?_
      refine W.seq ?_
      refine W.reg ?_
      refine Wx.rd (v := .func (.func 71) #[] #[.pointer (some ⟨gt, 0, none⟩), .pointer (some ⟨gr, 0, none⟩)]) (rd_move rfl) rfl ?_
      refine Wx.rd (v := .agg #[.int .i64 ((ix (0, 0) z j).1), .int .i64 ((ix (0, 0) z j).2)]) (rd_loadXs (ds := [.int .i64 ((ix (0, 0) z j).1), .int .i64 ((ix (0, 0) z j).2)]) hS 0 rfl rfl rfl rfl Tryd.isAgg58 Tryd.sizeOf58) rfl ?_
      refine Wx.callF (run_callC (fs := []) (cs := [.pointer (some ⟨gt, 0, none⟩), .pointer (some ⟨gr, 0, none⟩)]) (vs := [.agg #[.int .i64 ((ix (0, 0) z j).1), .int .i64 ((ix (0, 0) z j).2)], .pointer (some ⟨gt, 0, none⟩), .pointer (some ⟨gr, 0, none⟩)]) Tryd.call71 rfl rfl) (F71 (in_i64 (by omega) (by omega)) (in_i64 (by omega) (by omega)) (boxAt hS 4 rfl (Ext.refl _)) (boxAt hS 2 rfl (Ext.refl _)) (by first | assumption | (simp only [maxLen]; omega) | (simp only [ByteArray.size_extract, ByteArray.size_append, maxLen] at *; omega) | decide) (boxAt hS 3 rfl (Ext.refl _)) (by omega) p_l p_ok (by omega) (by omega) (by omega) (hG.ext hS.bel)) rfl ?_
      rintro r_19 w_20 hx_21 rfl
      have hS := hS.ext hx_21
      refine Wx.rd (v := .bool (!(!frcN rim (((ix (0, 0) z j).1), ((ix (0, 0) z j).2))))) (rd_not rfl) rfl ?_
      refine Wx.nil ?_
      refine W.cond rfl (fun c2 => ?_) (fun c2 => ?_)
      · -- yes
        try simp only [Bool.and_eq_true, Bool.or_eq_true, Bool.not_eq_true', Bool.and_eq_false_iff, Bool.or_eq_false_iff, Bool.not_eq_false', decide_eq_true_eq, decide_eq_false_iff_not, not_or, Bool.false_eq_true, Bool.true_eq_false, false_or, or_false, not_false_eq_true] at c2
        refine W.seq ?_
        refine W.reg ?_
        refine Wx.rd (v := (.slice (some ⟨g_4, 0, none⟩) ys.length c_5)) (rd_move rfl) rfl ?_
        refine Wx.rd (v := .int .i64 i) (rd_move rfl) rfl ?_
        refine Wx.rd (v := .agg #[.int .i64 ((ix (0, 0) z j).1), .int .i64 ((ix (0, 0) z j).2)]) (rd_loadXs (ds := [.int .i64 ((ix (0, 0) z j).1), .int .i64 ((ix (0, 0) z j).2)]) hS 0 rfl rfl rfl rfl Tryd.isAgg58 Tryd.sizeOf58) rfl ?_
        refine Wx.rd (v := .pointer (some ⟨g_4, i.toNat * 2, none⟩)) (rd_indexO Tryd.underlying22 Tryd.sizeOf58 rfl rfl (by first | omega | (simp only [List.length_set, List.length_append, List.length_cons, List.length_nil, List.length_replicate]; omega)) (by first | omega | (simp only [List.length_set, List.length_append, List.length_cons, List.length_nil, List.length_replicate]; omega))) rfl ?_
        refine Wx.storeR (j := i.toNat) (z := ((ix (0, 0) z j).1, (ix (0, 0) z j).2)) hS 1 rfl rfl rfl (by first | omega | (simp only [List.length_set, List.length_append, List.length_cons, List.length_nil, List.length_replicate]; omega)) rfl (V.mk2 (in_i64 (by omega) (by omega)) (in_i64 (by omega) (by omega))) Tryd.sizeOf58 (fun w_22 hz_23 hS => ?_)
        refine Wx.nil ?_
        refine W.reg ?_
        refine Wx.rd (v := .int .i64 i) (rd_move rfl) rfl ?_
        refine Wx.rd (v := .int .i64 (i + 1)) (rd_add rfl rfl (in_i64 (by omega) (by omega))) rfl ?_
        refine Wx.rd (v := .int .i64 (i + 1)) (rd_assign rfl) rfl ?_
        refine Wx.nil ?_
        refine W.reg ?_
        refine Wx.rd (v := .int .i64 j) (rd_move rfl) rfl ?_
        refine Wx.rd (v := .int .i64 (j + 1)) (rd_add rfl rfl (in_i64 (by omega) (by omega))) rfl ?_
        refine Wx.rd (v := .int .i64 (j + 1)) (rd_assign rfl) rfl ?_
        refine Wx.nil ?_
        refine ⟨(i + 1, j + 1, List.set z i.toNat ((ix (0, 0) z j).1, (ix (0, 0) z j).2)), (by show (ys.length - (j + 1)).toNat < (ys.length - j).toNat; omega), ?_, ?_, Out.look rfl Out.self⟩
        · exact ⟨hS.tl, (by first | omega | assumption), (by first | omega | assumption), (by first | omega | assumption), (by rw [List.length_set]; exact hl), ((del_yes h0 h1 (by omega) hl hT hD c2).1), ((del_yes h0 h1 (by omega) hl hT hD c2).2)⟩
        · exact ⟨rfl, rfl, trivial⟩
      · -- no
        try simp only [Bool.and_eq_true, Bool.or_eq_true, Bool.not_eq_true', Bool.and_eq_false_iff, Bool.or_eq_false_iff, Bool.not_eq_false', decide_eq_true_eq, decide_eq_false_iff_not, not_or, Bool.false_eq_true, Bool.true_eq_false, false_or, or_false, not_false_eq_true] at c2
        refine W.skip ?_
        refine W.reg ?_
        refine Wx.rd (v := .int .i64 j) (rd_move rfl) rfl ?_
        refine Wx.rd (v := .int .i64 (j + 1)) (rd_add rfl rfl (in_i64 (by omega) (by omega))) rfl ?_
        refine Wx.rd (v := .int .i64 (j + 1)) (rd_assign rfl) rfl ?_
        refine Wx.nil ?_
        refine ⟨(i, j + 1, z), (by show (ys.length - (j + 1)).toNat < (ys.length - j).toNat; omega), ?_, ?_, Out.look rfl Out.self⟩
        · exact ⟨hS.tl, (by first | omega | assumption), (by first | omega | assumption), (by first | omega | assumption), (by first | omega | assumption), ((del_no (by omega) (by omega) hl hT hD (by rw [c2]; decide)).1), ((del_no (by omega) (by omega) hl hT hD (by rw [c2]; decide)).2)⟩
        · exact ⟨rfl, rfl, trivial⟩
    · -- no
      refine W.exit rfl ?_
      refine W.seq ?_
      refine W.reg ?_
      refine Wx.rd (v := (.slice (some ⟨g_4, 0, none⟩) ys.length c_5)) (rd_move rfl) rfl ?_
      refine Wx.rd (v := .int .i64 i) (rd_move rfl) rfl ?_
      refine Wx.rd (v := .slice (some ⟨g_4, i.toNat * 2, none⟩) (ys.length - i.toNat) (c_5 - i.toNat)) (rd_tailP Tryd.underlying22 Tryd.sizeOf58 rfl rfl (by omega) (by omega) (by omega)) rfl ?_
      have hS : St _ _ _ (.row (tP (tI .i64) (tI .i64)) 58 (.slice (some ⟨g_4, 0, none⟩) i.toNat c_5) (List.take i.toNat z) :: .box gt 83 [.pointer (some ⟨g, 0, none⟩)] :: .box gr 9 [.string rim] :: .box g 94 (tabC rim T) :: ob) := hS.shrink (m := i.toNat) 0 rfl (by omega)
      refine Wx.clearR (o := i.toNat) elHj_22 hS 0 rfl rfl (Nat.le_refl _) (by omega) (by omega) (by simp [Value.cells, Value.oneCell']) (fun w_24 hz_25 hS => ?_)
      refine Wx.nil ?_
      refine W.seq ?_
      refine W.reg ?_
      refine Wx.rd (v := (.slice (some ⟨g_4, 0, none⟩) ys.length c_5)) (rd_move rfl) rfl ?_
      refine Wx.rd (v := .int .i64 i) (rd_move rfl) rfl ?_
      refine Wx.rd (v := (.slice (some ⟨g_4, 0, none⟩) i.toNat c_5)) (rd_headO Tryd.underlying22 Tryd.sizeOf58 rfl rfl (by omega) (by omega)) rfl ?_
      refine Wx.rd (v := (.slice (some ⟨g_4, 0, none⟩) i.toNat c_5)) (rd_assign rfl) rfl ?_
      refine Wx.nil ?_
      exact W.ret ⟨(.slice (some ⟨g_4, 0, none⟩) i.toNat c_5), ResIs.one, _, rfl, hS.spell (ys' := ys.filter (frcN rim)) 0 rfl (by rw [hT, List.take_of_length_le (by omega)])⟩

theorem F27 {rim : ByteArray} {w : World} (s_rim : rim.size ≤ maxLen) (hG : Laid w) : Calls Tryd.prog 27 #[.string rim] w (Ret w (fun r w' => ∃ rv, r = .tuple #[rv, .int .i64 (rimE rim)] ∧ Fresh (tP (tI .i64) (tI .i64)) 58 (forcedP rim) rv w.heap.size w')) := by
  have hS := St.start0 w
  refine enterR Tryd.func27 rfl Tryd.ntmps27 Tryd.results27 rfl ?_
  refine W.seq ?_
  refine W.reg ?_
  refine Wx.box (cs := [.string rim]) hS rfl rfl rfl (fun g_1 w_2 hx_4 hb_3 hS => ?_)
  refine Wx.rd (v := (.slice none 0 0)) (rd_assign rfl) rfl ?_
  refine Wx.rd (v := .int .i64 0) (rd_assign rfl) rfl ?_
  refine Wx.nil ?_
  refine W.seq ?_
  refine W.reg ?_
  refine Wx.rd (v := .string rim) (rd_loadX hS 0 rfl rfl rfl Tryd.isAgg9) rfl ?_
  refine Wx.callF (run_callF Tryd.call25 rfl) (F25 (by first | assumption | (simp only [maxLen]; omega) | (simp only [ByteArray.size_extract, ByteArray.size_append, maxLen] at *; omega) | decide) (hG.ext hS.bel)) rfl ?_
  rintro r_5 w_6 hx_7 ⟨v_8, rfl, hv_9⟩
  have hS := hS.pushFr hx_7 hv_9
  refine Wx.rd (v := .tuple #[v_8, .int .i64 (rimE rim)]) (rd_move rfl) rfl ?_
  refine Wx.rd (v := v_8) (rd_extract rfl rfl) rfl ?_
  refine Wx.rd (v := .int .i64 (rimE rim)) (rd_extract rfl rfl) rfl ?_
  refine Wx.rd (v := v_8) (rd_assign rfl) rfl ?_
  refine Wx.rd (v := .int .i64 (rimE rim)) (rd_assign rfl) rfl ?_
  refine Wx.nil ?_
  refine W.seq ?_
  refine W.seq ?_
  refine W.reg ?_
  refine Wx.rd (v := .int .i64 (rimE rim)) (rd_move rfl) rfl ?_
  refine Wx.rd (v := .bool (decide ((rimE rim) ≠ 0))) (rd_neq rfl rfl) rfl ?_
  refine Wx.nil ?_
  refine W.condD rfl (fun c0 => ?_) (fun c0 => ?_)
  · -- yes
    refine W.seq ?_
    refine W.reg ?_
    refine Wx.rd (v := .int .i64 (rimE rim)) (rd_move rfl) rfl ?_
    refine Wx.rd (v := (.slice none 0 0)) (rd_assign rfl) rfl ?_
    refine Wx.rd (v := .int .i64 (rimE rim)) (rd_assign rfl) rfl ?_
    refine Wx.nil ?_
    have e0_0 : forcedP rim = [] := by exact if_neg c0
    exact W.ret ⟨.tuple #[(.slice none 0 0), .int .i64 (rimE rim)], ResIs.two, hS.bel, ⟨(.slice none 0 0), rfl, (by rw [e0_0]; exact ((hS.addNil (tP (tI .i64) (tI .i64)) 58).fr 0 rfl flat_i2))⟩⟩
  · -- no
    have hr0 : rimE rim = 0 := by omega
    obtain ⟨hr1, hr2⟩ := rimE_ok hr0
    have hfe : firstV rim = firstP (fitR rim) 0 rim.size := if_pos hr0
    have hfl := firstP_len (F := fitR rim) (i := 0) (n := rim.size) (by omega)
    have hfi := first_in rim
    refine W.skip ?_
    refine W.seq ?_
    refine W.reg ?_
    refine Wx.rd (v := .string rim) (rd_loadX hS 1 rfl rfl rfl Tryd.isAgg9) rfl ?_
    refine Wx.callF (run_callF Tryd.call66 rfl) (F66 (by first | assumption | (simp only [maxLen]; omega) | (simp only [ByteArray.size_extract, ByteArray.size_append, maxLen] at *; omega) | decide) (by omega) hr2 (hG.ext hS.bel)) rfl ?_
    rintro r_11 w_12 hx_13 ⟨g_tb, T_tb, rfl, hg_14, hh_15, hT_tb⟩
    have hS := hS.pushBox hx_13 hg_14 hh_15
    have hB_tb := hT_tb.1
    refine Wx.alloc (cs := [(.pointer none)]) hS Tryd.zeroValue83 rfl rfl (fun g_16 w_17 hx_19 hb_18 hS => ?_)
    refine Wx.storeX (cs' := [.pointer (some ⟨g_tb, 0, none⟩)]) (ds := [.pointer (some ⟨g_tb, 0, none⟩)]) hS 0 rfl rfl rfl rfl Tryd.sizeOf83 (Nat.le_of_ble_eq_true rfl) (one_cons rfl one_nil) rfl (fun w_20 hz_21 hS => ?_)
    refine Wx.nil ?_
    refine W.seq ?_
    refine W.reg ?_
    refine Wx.rd (v := v_8) (rd_move rfl) rfl ?_
    refine Wx.rd (v := .func (.func 71) #[] #[.pointer (some ⟨g_16, 0, none⟩), .pointer (some ⟨g_1, 0, none⟩)]) (rd_makeFunc (vs := []) (us := [.pointer (some ⟨g_16, 0, none⟩), .pointer (some ⟨g_1, 0, none⟩)]) rfl rfl) rfl ?_
    refine Wx.callB (run_callF Tryd.call70 rfl) (F70 (ob := []) s_rim hr1 hr2 hT_tb (by rw [hfe]; exact hfi) (by rw [hfe]; omega) hG ((((hS.front 1 rfl).front 3 rfl).front 2 rfl).front 3 rfl)) rfl ?_
    rintro r_22 w_23 ⟨_, rfl, hS⟩
    have hS : St _ _ w_23 [.row (tP (tI .i64) (tI .i64)) 58 r_22 (List.filter (frcN rim) (firstV rim)), .box g_16 83 [.pointer (some ⟨g_tb, 0, none⟩)], .box g_1 9 [.string rim], .box g_tb 94 (tabC rim T_tb)] := hS
    refine Wx.rd (v := r_22) (rd_assign rfl) rfl ?_
    refine Wx.rd (v := .int .i64 0) (rd_assign rfl) rfl ?_
    refine Wx.nil ?_
    have e1_0 : forcedP rim = List.filter (frcN rim) (firstV rim) := by rw [forcedP, if_pos hr0, hfe]
    have e1_1 : (rimE rim) = (0 : Int) := by exact hr0
    exact W.ret ⟨.tuple #[r_22, .int .i64 0], ResIs.two, hS.bel, ⟨r_22, (by rw [e1_1]), (by rw [e1_0]; exact (hS.fr 0 rfl flat_i2))⟩⟩
end Go.Proofs.YtokdjjebnomciaaDoor

namespace Go.Proofs.YtokdjjebnomciaaDoor
open Go.Wk Go.RowKit Go.Lib
set_option linter.unusedVariables false
set_option linter.unusedSimpArgs false
theorem mixedHk_ : Tryd.prog.follows .mixedOrders = true := by kernel_rfl
theorem elHk_22 : ElemI Tryd.prog 22 58 (.agg #[.int .i64 0, .int .i64 0]) 2 16 := ElemI.of Tryd.underlying22 (by kernel_rfl) (by first | rfl | kernel_rfl) (by decide)

theorem F29 {xv : Value} {xs : List (Int × Int)} {Fr_xv : List (Option Nat)} {yv : Value} {ys : List (Int × Int)} {Fr_yv : List (Option Nat)} {w : World} (h_xv : V (tSl (tP (tI .i64) (tI .i64))) xs xv Fr_xv w) (h_yv : V (tSl (tP (tI .i64) (tI .i64))) ys yv Fr_yv w) : Calls Tryd.prog 29 #[xv, yv] w (Ret w (fun r _ => r = .bool (decide (xs = ys)))) := by
  have a_xv := h_xv.any
  have l_xv := h_xv.len63
  have a_yv := h_yv.any
  have l_yv := h_yv.len63
  have hS := St.start0 w
  refine enterR Tryd.func29 rfl Tryd.ntmps29 Tryd.results29 rfl ?_
  refine W.seq ?_
  refine W.reg ?_
  refine Wx.rd (v := .bool false) (rd_assign rfl) rfl ?_
  refine Wx.nil ?_
  refine W.seq ?_
  refine W.seq ?_
  refine W.reg ?_
  refine Wx.rd (v := xv) (rd_move rfl) rfl ?_
  refine Wx.rd (v := .int .i64 (xs.length : Int)) (rd_lenV rfl (hS.arg a_xv) Tryd.underlying22) rfl ?_
  refine Wx.rd (v := yv) (rd_move rfl) rfl ?_
  refine Wx.rd (v := .int .i64 (ys.length : Int)) (rd_lenV rfl (hS.arg a_yv) Tryd.underlying22) rfl ?_
  refine Wx.rd (v := .bool (decide ((xs.length : Int) ≠ (ys.length : Int)))) (rd_neq rfl rfl) rfl ?_
  refine Wx.nil ?_
  refine W.condD rfl (fun c0 => ?_) (fun c0 => ?_)
  · -- yes
    refine W.seq ?_
    refine W.reg ?_
    refine Wx.rd (v := .bool false) (rd_assign rfl) rfl ?_
    refine Wx.nil ?_
    have e0_0 : (decide (xs = ys)) = false := by exact decide_eq_false (fun h : xs = ys => c0 (by rw [h]))
    exact W.ret ⟨.bool false, ResIs.one, hS.bel, (by rw [e0_0])⟩
  · -- no
    refine W.skip ?_
    refine W.seq ?_
    refine W.seq ?_
    refine W.reg ?_
    refine Wx.rd (v := .int .i64 0) (rd_assign rfl) rfl ?_
    refine Wx.nil ?_
    refine W.block ?_
    refine W.loop [4, 5, 11, 12, 13, 14, 15, 16, 17, 18, 19, 20, 21, 22, 23, 24, 25] (fun (k : Int) => [(5, .int .i64 k)]) (fun (k : Int) w' => St w [] w' [] ∧ 0 ≤ k ∧ k ≤ xs.length ∧ decide (xs.drop k.toNat = ys.drop k.toNat) = decide (xs = ys)) (fun (k : Int) => (xs.length - k).toNat) 0 ⟨rfl, trivial⟩ ⟨hS, (by first | omega | simp), (by first | omega | simp), (by simp)⟩ ?_
    rintro k u_2 w_1 ⟨hS, h0, h1, h2⟩
    refine W.seq ?_
    refine W.seq ?_
    refine W.reg ?_
    refine Wx.rd (v := .int .i64 k) (rd_move rfl) rfl ?_
    refine Wx.rd (v := xv) (rd_move rfl) rfl ?_
    refine Wx.rd (v := .int .i64 (xs.length : Int)) (rd_lenV rfl (hS.arg a_xv) Tryd.underlying22) rfl ?_
    refine Wx.rd (v := .bool (decide (k < (xs.length : Int)))) (rd_lss rfl rfl) rfl ?_
    refine Wx.nil ?_
    refine W.condD rfl (fun c1 => ?_) (fun c1 => ?_)
    · -- yes
      refine W.skip ?_
      refine W.seq ?_
      refine W.block ?_
      refine W.seq ?_
      refine W.regQ mixedHk_ (by kernel_rfl) ?_
      refine Wx.rd (v := xv) (rd_move rfl) rfl ?_
      refine Wx.rd (v := .int .i64 k) (rd_move rfl) rfl ?_
      refine Wx.ex (rd_index (0, 0) (hS.arg a_xv) rfl rfl Tryd.underlying22 Tryd.sizeOf58 (by first | omega | (simp only [List.length_set, List.length_append, List.length_cons, List.length_nil, List.length_replicate]; omega)) (by first | omega | (simp only [List.length_set, List.length_append, List.length_cons, List.length_nil, List.length_replicate]; omega))) rfl (fun p_3 hp_4 => ?_)
      refine Wx.ex (rd_load hp_4 rfl Tryd.isAgg58 Tryd.sizeOf58) rfl (fun v_5 hv_6 => ?_)
      obtain ⟨rfl, bd_7, bd_8⟩ := hv_6.i2
      have bd_7 := bd_i64 bd_7
      have bd_8 := bd_i64 bd_8
      refine Wx.rd (v := yv) (rd_move rfl) rfl ?_
      refine Wx.rd (v := .int .i64 k) (rd_move rfl) rfl ?_
      refine Wx.ex (rd_index (0, 0) (hS.arg a_yv) rfl rfl Tryd.underlying22 Tryd.sizeOf58 (by first | omega | (simp only [List.length_set, List.length_append, List.length_cons, List.length_nil, List.length_replicate]; omega)) (by first | omega | (simp only [List.length_set, List.length_append, List.length_cons, List.length_nil, List.length_replicate]; omega))) rfl (fun p_9 hp_10 => ?_)
      refine Wx.ex (rd_load hp_10 rfl Tryd.isAgg58 Tryd.sizeOf58) rfl (fun v_11 hv_12 => ?_)
      obtain ⟨rfl, bd_13, bd_14⟩ := hv_12.i2
      have bd_13 := bd_i64 bd_13
      have bd_14 := bd_i64 bd_14
      refine Wx.rd (v := .bool (!(decide ((ix (0, 0) xs k).1 = (ix (0, 0) ys k).1) && decide ((ix (0, 0) xs k).2 = (ix (0, 0) ys k).2)))) (rd_neqA2 rfl rfl Tryd.underlying58 Tryd.underlying3 Tryd.sizeOf3 Tryd.eqGuardType58) rfl ?_
      refine Wx.nilQ (fun w_15 hx_16 => ?_)
      have hS := hS.ext hx_16
      refine W.cond rfl (fun c2 => ?_) (fun c2 => ?_)
      · -- yes
        try simp only [Bool.and_eq_true, Bool.or_eq_true, Bool.not_eq_true', Bool.and_eq_false_iff, Bool.or_eq_false_iff, Bool.not_eq_false', decide_eq_true_eq, decide_eq_false_iff_not, not_or, Bool.false_eq_true, Bool.true_eq_false, false_or, or_false, not_false_eq_true] at c2
        refine W.seq ?_
        refine W.reg ?_
        refine Wx.rd (v := .bool false) (rd_assign rfl) rfl ?_
        refine Wx.nil ?_
        have he : ¬ ix (0, 0) xs k = ix (0, 0) ys k := fun hh => by rw [hh] at c2; omega
        have e1_0 : (decide (xs = ys)) = false := by rw [← h2, drop_ix (d := (0, 0)) h0 c1, drop_ix (d := (0, 0)) (xs := ys) h0 (by omega)]; simp [he]
        exact W.ret ⟨.bool false, ResIs.one, hS.bel, (by rw [e1_0])⟩
      · -- no
        try simp only [Bool.and_eq_true, Bool.or_eq_true, Bool.not_eq_true', Bool.and_eq_false_iff, Bool.or_eq_false_iff, Bool.not_eq_false', decide_eq_true_eq, decide_eq_false_iff_not, not_or, Bool.false_eq_true, Bool.true_eq_false, false_or, or_false, not_false_eq_true] at c2
        refine W.skip ?_
        refine W.reg ?_
        refine Wx.rd (v := .int .i64 k) (rd_move rfl) rfl ?_
        refine Wx.rd (v := .int .i64 (k + 1)) (rd_add rfl rfl (in_i64 (by omega) (by omega))) rfl ?_
        refine Wx.rd (v := .int .i64 (k + 1)) (rd_assign rfl) rfl ?_
        refine Wx.nil ?_
        have he : ix (0, 0) xs k = ix (0, 0) ys k := Prod.ext (by omega) (by omega)
        refine ⟨k + 1, (by show (xs.length - (k + 1)).toNat < (xs.length - k).toNat; omega), ?_, ?_, Out.look rfl Out.self⟩
        · exact ⟨hS, (by first | omega | assumption), (by first | omega | assumption), (by rw [← h2, drop_ix (d := (0, 0)) h0 c1, drop_ix (d := (0, 0)) (xs := ys) h0 (by omega)]; simp [he])⟩
        · exact ⟨rfl, trivial⟩
    · -- no
      refine W.exit rfl ?_
      refine W.seq ?_
      refine W.reg ?_
      refine Wx.rd (v := .bool true) (rd_assign rfl) rfl ?_
      refine Wx.nil ?_
      have e2_0 : (decide (xs = ys)) = true := by rw [← h2, drop_end (by omega), drop_end (xs := ys) (by omega)]; simp
      exact W.ret ⟨.bool true, ResIs.one, hS.bel, (by rw [e2_0])⟩

theorem F48 {lv : Value} {l : List Int} {O : List (Option Nat)} {w : World} (h_lv : V (tSl (tI .i64)) l lv O w) (p_l : (l.length : Int) ≤ 100) (hO : ∀ b, some b ∈ O → b < w.heap.size) : Calls Tryd.prog 48 #[lv] w (Ret w (fun r w' => ∃ rv, r = rv ∧ Fresh (tP (tI .i64) (tI .i64)) 58 (pairsU l) rv w.heap.size w')) := by
  have a_lv := h_lv
  have l_lv := h_lv.len63
  have hS := St.start w O hO
  refine enterR Tryd.func48 rfl Tryd.ntmps48 Tryd.results48 rfl ?_
  refine W.seq ?_
  refine W.reg ?_
  refine Wx.rd (v := (.slice none 0 0)) (rd_assign rfl) rfl ?_
  refine Wx.nil ?_
  refine W.seq ?_
  refine W.reg ?_
  refine Wx.rd (v := (.slice none 0 0)) (rd_assign rfl) rfl ?_
  refine Wx.nil ?_
  refine W.seq ?_
  refine W.seq ?_
  refine W.reg ?_
  refine Wx.rd (v := .int .i64 0) (rd_assign rfl) rfl ?_
  refine Wx.nil ?_
  refine W.block ?_
  have hS := hS.addNil (tP (tI .i64) (tI .i64)) 58
  refine W.loop [3, 4, 5, 6, 7, 8, 9, 10, 11, 12, 13, 14, 15, 16, 17, 18, 19, 20, 21, 22, 23, 24] (fun x : Int × Value × (List (Int × Int)) => match x with | (i, ov, out) => [(4, .int .i64 i), (3, ov)]) (fun (x : Int × Value × (List (Int × Int))) w' => match x with | (i, ov, out) => St w O w' [.row (tP (tI .i64) (tI .i64)) 58 ov out] ∧ 0 ≤ i ∧ i ≤ l.length ∧ out ++ pairsU (l.drop i.toNat) = pairsU l ∧ (out.length : Int) ≤ i) (fun x : Int × Value × (List (Int × Int)) => match x with | (i, ov, out) => (l.length - i).toNat) (0, (.slice none 0 0), []) ⟨rfl, rfl, trivial⟩ ⟨hS, (by first | omega | simp), (by first | omega | simp), (rfl), (Int.le_refl 0)⟩ ?_
  rintro ⟨i, ov, out⟩ u_2 w_1 ⟨hS, h0, h1, h2, h3⟩
  refine W.seq ?_
  refine W.seq ?_
  refine W.reg ?_
  refine Wx.rd (v := .int .i64 i) (rd_move rfl) rfl ?_
  refine Wx.rd (v := .int .i64 (i + 1)) (rd_add rfl rfl (in_i64 (by omega) (by omega))) rfl ?_
  refine Wx.rd (v := lv) (rd_move rfl) rfl ?_
  refine Wx.rd (v := .int .i64 (l.length : Int)) (rd_lenV rfl (hS.arg a_lv) Tryd.underlying60) rfl ?_
  refine Wx.rd (v := .bool (decide ((i + 1) < (l.length : Int)))) (rd_lss rfl rfl) rfl ?_
  refine Wx.nil ?_
  refine W.condD rfl (fun c0 => ?_) (fun c0 => ?_)
  · -- yes
    refine W.skip ?_
    refine W.seq ?_
    refine W.block ?_
    refine W.regP mixedHk_ (fun w_3 hx_4 => ?_)
    have hS := hS.ext hx_4
    refine Wp.rd (v := ov) 0 rfl (by kernel_rfl) (fun _ => (rd_move rfl)) rfl ?_
    refine Wp.rd (v := lv) 1 rfl (by kernel_rfl) (fun _ => (rd_move rfl)) rfl ?_
    refine Wp.rd (v := .int .i64 i) 2 rfl (by kernel_rfl) (fun _ => (rd_move rfl)) rfl ?_
    refine Wp.rd (v := lv) 5 rfl (by kernel_rfl) (fun _ => (rd_move rfl)) rfl ?_
    refine Wp.rd (v := .int .i64 i) 6 rfl (by kernel_rfl) (fun _ => (rd_move rfl)) rfl ?_
    refine Wp.rd (v := .int .i64 (i + 1)) 7 rfl (by kernel_rfl) (fun _ => (rd_add rfl rfl (in_i64 (by omega) (by omega)))) rfl ?_
    refine Wp.br [3, 8] (by kernel_rfl) (by decide) ⟨⟨_, rfl, ?_⟩, ⟨_, rfl, ?_⟩, trivial⟩
    · -- operation 3
      refine Wx.ex (rd_index 0 (hS.arg a_lv) rfl rfl Tryd.underlying60 Tryd.sizeOf3 (by first | omega | (simp only [List.length_set, List.length_append, List.length_cons, List.length_nil, List.length_replicate]; omega)) (by first | omega | (simp only [List.length_set, List.length_append, List.length_cons, List.length_nil, List.length_replicate]; omega))) rfl (fun p_5 hp_6 => ?_)
      refine Wx.nil ?_
      refine Wp.br [4, 8] (by kernel_rfl) (by decide) ⟨⟨_, rfl, ?_⟩, ⟨_, rfl, ?_⟩, trivial⟩
      · -- operation 4
        refine Wx.rd (v := .int .i64 (ix 0 l i)) (rd_loadI hp_6 rfl Tryd.isAgg3 Tryd.sizeOf3) rfl ?_
        have bd_7 := bd_i64 hp_6.inK
        refine Wx.nil ?_
        refine Wp.br [8] (by kernel_rfl) (by decide) ⟨⟨_, rfl, ?_⟩, trivial⟩
        refine Wx.ex (rd_index 0 (hS.arg a_lv) rfl rfl Tryd.underlying60 Tryd.sizeOf3 (by first | omega | (simp only [List.length_set, List.length_append, List.length_cons, List.length_nil, List.length_replicate]; omega)) (by first | omega | (simp only [List.length_set, List.length_append, List.length_cons, List.length_nil, List.length_replicate]; omega))) rfl (fun p_8 hp_9 => ?_)
        refine Wx.nil ?_
        refine Wp.br [9] (by kernel_rfl) (by decide) ⟨⟨_, rfl, ?_⟩, trivial⟩
        refine Wx.rd (v := .int .i64 (ix 0 l (i + 1))) (rd_loadI hp_9 rfl Tryd.isAgg3 Tryd.sizeOf3) rfl ?_
        have bd_10 := bd_i64 hp_9.inK
        refine Wx.nil ?_
        refine Wp.rd (v := .agg #[.int .i64 (ix 0 l i), .int .i64 (ix 0 l (i + 1))]) 10 rfl (by kernel_rfl) (fun _ => (rd_build (vs := [(0, .int .i64 (ix 0 l i)), (1, .int .i64 (ix 0 l (i + 1)))]) rfl (by kernel_rfl))) rfl ?_
        refine Wp.br [11] (by kernel_rfl) (by decide) ⟨⟨_, rfl, ?_⟩, trivial⟩
        refine Wx.lit (t := (tP (tI .i64) (tI .i64))) (ys := [(ix 0 l i, ix 0 l (i + 1))]) (vs := [.agg #[.int .i64 (ix 0 l i), .int .i64 (ix 0 l (i + 1))]]) elHk_22 hS rfl rfl ⟨(V.mk2 (in_i64 (by omega) (by omega)) (in_i64 (by omega) (by omega))), trivial⟩ (by decide) rfl (fun v_11 w_12 hx_13 hS => ?_)
        refine Wx.nil ?_
        refine Wp.br [12] (by kernel_rfl) (by decide) ⟨⟨_, rfl, ?_⟩, trivial⟩
        refine Wx.append elHk_22 hS 1 rfl rfl rfl (Src.ofR hS 0 rfl) (by simp only [maxLen]; simp; omega) (by simp; omega) rfl (fun v_14 w_15 hz_16 hS => ?_)
        refine Wx.nil ?_
        refine Wp.rd (v := v_14) 13 rfl (by kernel_rfl) (fun _ => (rd_assign rfl)) rfl ?_
        refine Wp.done (by kernel_rfl) ?_
        refine W.reg ?_
        refine Wx.rd (v := .int .i64 i) (rd_move rfl) rfl ?_
        refine Wx.rd (v := .int .i64 (i + 2)) (rd_add rfl rfl (in_i64 (by omega) (by omega))) rfl ?_
        refine Wx.rd (v := .int .i64 (i + 2)) (rd_assign rfl) rfl ?_
        refine Wx.nil ?_
        refine ⟨(i + 2, v_14, out ++ [(ix 0 l i, ix 0 l (i + 1))]), (by show (l.length - (i + 2)).toNat < (l.length - i).toNat; omega), ?_, ?_, Out.look rfl Out.self⟩
        · exact ⟨hS.tl, (by first | omega | assumption), (by first | omega | assumption), (by rw [← h2, pairsU_step h0 c0]; simp), (by simp only [List.length_append, List.length_cons, List.length_nil]; omega)⟩
        · exact ⟨rfl, rfl, trivial⟩
      · -- operation 8
        refine Wx.ex (rd_index 0 (hS.arg a_lv) rfl rfl Tryd.underlying60 Tryd.sizeOf3 (by first | omega | (simp only [List.length_set, List.length_append, List.length_cons, List.length_nil, List.length_replicate]; omega)) (by first | omega | (simp only [List.length_set, List.length_append, List.length_cons, List.length_nil, List.length_replicate]; omega))) rfl (fun p_17 hp_18 => ?_)
        refine Wx.nil ?_
        refine Wp.br [4, 9] (by kernel_rfl) (by decide) ⟨⟨_, rfl, ?_⟩, ⟨_, rfl, ?_⟩, trivial⟩
        · -- operation 4
          refine Wx.rd (v := .int .i64 (ix 0 l i)) (rd_loadI hp_6 rfl Tryd.isAgg3 Tryd.sizeOf3) rfl ?_
          have bd_19 := bd_i64 hp_6.inK
          refine Wx.nil ?_
          refine Wp.br [9] (by kernel_rfl) (by decide) ⟨⟨_, rfl, ?_⟩, trivial⟩
          refine Wx.rd (v := .int .i64 (ix 0 l (i + 1))) (rd_loadI hp_18 rfl Tryd.isAgg3 Tryd.sizeOf3) rfl ?_
          have bd_20 := bd_i64 hp_18.inK
          refine Wx.nil ?_
          refine Wp.rd (v := .agg #[.int .i64 (ix 0 l i), .int .i64 (ix 0 l (i + 1))]) 10 rfl (by kernel_rfl) (fun _ => (rd_build (vs := [(0, .int .i64 (ix 0 l i)), (1, .int .i64 (ix 0 l (i + 1)))]) rfl (by kernel_rfl))) rfl ?_
          refine Wp.br [11] (by kernel_rfl) (by decide) ⟨⟨_, rfl, ?_⟩, trivial⟩
          refine Wx.lit (t := (tP (tI .i64) (tI .i64))) (ys := [(ix 0 l i, ix 0 l (i + 1))]) (vs := [.agg #[.int .i64 (ix 0 l i), .int .i64 (ix 0 l (i + 1))]]) elHk_22 hS rfl rfl ⟨(V.mk2 (in_i64 (by omega) (by omega)) (in_i64 (by omega) (by omega))), trivial⟩ (by decide) rfl (fun v_21 w_22 hx_23 hS => ?_)
          refine Wx.nil ?_
          refine Wp.br [12] (by kernel_rfl) (by decide) ⟨⟨_, rfl, ?_⟩, trivial⟩
          refine Wx.append elHk_22 hS 1 rfl rfl rfl (Src.ofR hS 0 rfl) (by simp only [maxLen]; simp; omega) (by simp; omega) rfl (fun v_24 w_25 hz_26 hS => ?_)
          refine Wx.nil ?_
          refine Wp.rd (v := v_24) 13 rfl (by kernel_rfl) (fun _ => (rd_assign rfl)) rfl ?_
          refine Wp.done (by kernel_rfl) ?_
          refine W.reg ?_
          refine Wx.rd (v := .int .i64 i) (rd_move rfl) rfl ?_
          refine Wx.rd (v := .int .i64 (i + 2)) (rd_add rfl rfl (in_i64 (by omega) (by omega))) rfl ?_
          refine Wx.rd (v := .int .i64 (i + 2)) (rd_assign rfl) rfl ?_
          refine Wx.nil ?_
          refine ⟨(i + 2, v_24, out ++ [(ix 0 l i, ix 0 l (i + 1))]), (by show (l.length - (i + 2)).toNat < (l.length - i).toNat; omega), ?_, ?_, Out.look rfl Out.self⟩
          · exact ⟨hS.tl, (by first | omega | assumption), (by first | omega | assumption), (by rw [← h2, pairsU_step h0 c0]; simp), (by simp only [List.length_append, List.length_cons, List.length_nil]; omega)⟩
          · exact ⟨rfl, rfl, trivial⟩
        · -- operation 9
          refine Wx.rd (v := .int .i64 (ix 0 l (i + 1))) (rd_loadI hp_18 rfl Tryd.isAgg3 Tryd.sizeOf3) rfl ?_
          have bd_27 := bd_i64 hp_18.inK
          refine Wx.nil ?_
          refine Wp.br [4] (by kernel_rfl) (by decide) ⟨⟨_, rfl, ?_⟩, trivial⟩
          refine Wx.rd (v := .int .i64 (ix 0 l i)) (rd_loadI hp_6 rfl Tryd.isAgg3 Tryd.sizeOf3) rfl ?_
          have bd_28 := bd_i64 hp_6.inK
          refine Wx.nil ?_
          refine Wp.rd (v := .agg #[.int .i64 (ix 0 l i), .int .i64 (ix 0 l (i + 1))]) 10 rfl (by kernel_rfl) (fun _ => (rd_build (vs := [(0, .int .i64 (ix 0 l i)), (1, .int .i64 (ix 0 l (i + 1)))]) rfl (by kernel_rfl))) rfl ?_
          refine Wp.br [11] (by kernel_rfl) (by decide) ⟨⟨_, rfl, ?_⟩, trivial⟩
          refine Wx.lit (t := (tP (tI .i64) (tI .i64))) (ys := [(ix 0 l i, ix 0 l (i + 1))]) (vs := [.agg #[.int .i64 (ix 0 l i), .int .i64 (ix 0 l (i + 1))]]) elHk_22 hS rfl rfl ⟨(V.mk2 (in_i64 (by omega) (by omega)) (in_i64 (by omega) (by omega))), trivial⟩ (by decide) rfl (fun v_29 w_30 hx_31 hS => ?_)
          refine Wx.nil ?_
          refine Wp.br [12] (by kernel_rfl) (by decide) ⟨⟨_, rfl, ?_⟩, trivial⟩
          refine Wx.append elHk_22 hS 1 rfl rfl rfl (Src.ofR hS 0 rfl) (by simp only [maxLen]; simp; omega) (by simp; omega) rfl (fun v_32 w_33 hz_34 hS => ?_)
          refine Wx.nil ?_
          refine Wp.rd (v := v_32) 13 rfl (by kernel_rfl) (fun _ => (rd_assign rfl)) rfl ?_
          refine Wp.done (by kernel_rfl) ?_
          refine W.reg ?_
          refine Wx.rd (v := .int .i64 i) (rd_move rfl) rfl ?_
          refine Wx.rd (v := .int .i64 (i + 2)) (rd_add rfl rfl (in_i64 (by omega) (by omega))) rfl ?_
          refine Wx.rd (v := .int .i64 (i + 2)) (rd_assign rfl) rfl ?_
          refine Wx.nil ?_
          refine ⟨(i + 2, v_32, out ++ [(ix 0 l i, ix 0 l (i + 1))]), (by show (l.length - (i + 2)).toNat < (l.length - i).toNat; omega), ?_, ?_, Out.look rfl Out.self⟩
          · exact ⟨hS.tl, (by first | omega | assumption), (by first | omega | assumption), (by rw [← h2, pairsU_step h0 c0]; simp), (by simp only [List.length_append, List.length_cons, List.length_nil]; omega)⟩
          · exact ⟨rfl, rfl, trivial⟩
    · -- operation 8
      refine Wx.ex (rd_index 0 (hS.arg a_lv) rfl rfl Tryd.underlying60 Tryd.sizeOf3 (by first | omega | (simp only [List.length_set, List.length_append, List.length_cons, List.length_nil, List.length_replicate]; omega)) (by first | omega | (simp only [List.length_set, List.length_append, List.length_cons, List.length_nil, List.length_replicate]; omega))) rfl (fun p_35 hp_36 => ?_)
      refine Wx.nil ?_
      refine Wp.br [3, 9] (by kernel_rfl) (by decide) ⟨⟨_, rfl, ?_⟩, ⟨_, rfl, ?_⟩, trivial⟩
      · -- operation 3
        refine Wx.ex (rd_index 0 (hS.arg a_lv) rfl rfl Tryd.underlying60 Tryd.sizeOf3 (by first | omega | (simp only [List.length_set, List.length_append, List.length_cons, List.length_nil, List.length_replicate]; omega)) (by first | omega | (simp only [List.length_set, List.length_append, List.length_cons, List.length_nil, List.length_replicate]; omega))) rfl (fun p_37 hp_38 => ?_)
        refine Wx.nil ?_
        refine Wp.br [4, 9] (by kernel_rfl) (by decide) ⟨⟨_, rfl, ?_⟩, ⟨_, rfl, ?_⟩, trivial⟩
        · -- operation 4
          refine Wx.rd (v := .int .i64 (ix 0 l i)) (rd_loadI hp_38 rfl Tryd.isAgg3 Tryd.sizeOf3) rfl ?_
          have bd_39 := bd_i64 hp_38.inK
          refine Wx.nil ?_
          refine Wp.br [9] (by kernel_rfl) (by decide) ⟨⟨_, rfl, ?_⟩, trivial⟩
          refine Wx.rd (v := .int .i64 (ix 0 l (i + 1))) (rd_loadI hp_36 rfl Tryd.isAgg3 Tryd.sizeOf3) rfl ?_
          have bd_40 := bd_i64 hp_36.inK
          refine Wx.nil ?_
          refine Wp.rd (v := .agg #[.int .i64 (ix 0 l i), .int .i64 (ix 0 l (i + 1))]) 10 rfl (by kernel_rfl) (fun _ => (rd_build (vs := [(0, .int .i64 (ix 0 l i)), (1, .int .i64 (ix 0 l (i + 1)))]) rfl (by kernel_rfl))) rfl ?_
          refine Wp.br [11] (by kernel_rfl) (by decide) ⟨⟨_, rfl, ?_⟩, trivial⟩
          refine Wx.lit (t := (tP (tI .i64) (tI .i64))) (ys := [(ix 0 l i, ix 0 l (i + 1))]) (vs := [.agg #[.int .i64 (ix 0 l i), .int .i64 (ix 0 l (i + 1))]]) elHk_22 hS rfl rfl ⟨(V.mk2 (in_i64 (by omega) (by omega)) (in_i64 (by omega) (by omega))), trivial⟩ (by decide) rfl (fun v_41 w_42 hx_43 hS => ?_)
          refine Wx.nil ?_
          refine Wp.br [12] (by kernel_rfl) (by decide) ⟨⟨_, rfl, ?_⟩, trivial⟩
          refine Wx.append elHk_22 hS 1 rfl rfl rfl (Src.ofR hS 0 rfl) (by simp only [maxLen]; simp; omega) (by simp; omega) rfl (fun v_44 w_45 hz_46 hS => ?_)
          refine Wx.nil ?_
          refine Wp.rd (v := v_44) 13 rfl (by kernel_rfl) (fun _ => (rd_assign rfl)) rfl ?_
          refine Wp.done (by kernel_rfl) ?_
          refine W.reg ?_
          refine Wx.rd (v := .int .i64 i) (rd_move rfl) rfl ?_
          refine Wx.rd (v := .int .i64 (i + 2)) (rd_add rfl rfl (in_i64 (by omega) (by omega))) rfl ?_
          refine Wx.rd (v := .int .i64 (i + 2)) (rd_assign rfl) rfl ?_
          refine Wx.nil ?_
          refine ⟨(i + 2, v_44, out ++ [(ix 0 l i, ix 0 l (i + 1))]), (by show (l.length - (i + 2)).toNat < (l.length - i).toNat; omega), ?_, ?_, Out.look rfl Out.self⟩
          · exact ⟨hS.tl, (by first | omega | assumption), (by first | omega | assumption), (by rw [← h2, pairsU_step h0 c0]; simp), (by simp only [List.length_append, List.length_cons, List.length_nil]; omega)⟩
          · exact ⟨rfl, rfl, trivial⟩
        · -- operation 9
          refine Wx.rd (v := .int .i64 (ix 0 l (i + 1))) (rd_loadI hp_36 rfl Tryd.isAgg3 Tryd.sizeOf3) rfl ?_
          have bd_47 := bd_i64 hp_36.inK
          refine Wx.nil ?_
          refine Wp.br [4] (by kernel_rfl) (by decide) ⟨⟨_, rfl, ?_⟩, trivial⟩
          refine Wx.rd (v := .int .i64 (ix 0 l i)) (rd_loadI hp_38 rfl Tryd.isAgg3 Tryd.sizeOf3) rfl ?_
          have bd_48 := bd_i64 hp_38.inK
          refine Wx.nil ?_
          refine Wp.rd (v := .agg #[.int .i64 (ix 0 l i), .int .i64 (ix 0 l (i + 1))]) 10 rfl (by kernel_rfl) (fun _ => (rd_build (vs := [(0, .int .i64 (ix 0 l i)), (1, .int .i64 (ix 0 l (i + 1)))]) rfl (by kernel_rfl))) rfl ?_
          refine Wp.br [11] (by kernel_rfl) (by decide) ⟨⟨_, rfl, ?_⟩, trivial⟩
          refine Wx.lit (t := (tP (tI .i64) (tI .i64))) (ys := [(ix 0 l i, ix 0 l (i + 1))]) (vs := [.agg #[.int .i64 (ix 0 l i), .int .i64 (ix 0 l (i + 1))]]) elHk_22 hS rfl rfl ⟨(V.mk2 (in_i64 (by omega) (by omega)) (in_i64 (by omega) (by omega))), trivial⟩ (by decide) rfl (fun v_49 w_50 hx_51 hS => ?_)
          refine Wx.nil ?_
          refine Wp.br [12] (by kernel_rfl) (by decide) ⟨⟨_, rfl, ?_⟩, trivial⟩
          refine Wx.append elHk_22 hS 1 rfl rfl rfl (Src.ofR hS 0 rfl) (by simp only [maxLen]; simp; omega) (by simp; omega) rfl (fun v_52 w_53 hz_54 hS => ?_)
          refine Wx.nil ?_
          refine Wp.rd (v := v_52) 13 rfl (by kernel_rfl) (fun _ => (rd_assign rfl)) rfl ?_
          refine Wp.done (by kernel_rfl) ?_
          refine W.reg ?_
          refine Wx.rd (v := .int .i64 i) (rd_move rfl) rfl ?_
          refine Wx.rd (v := .int .i64 (i + 2)) (rd_add rfl rfl (in_i64 (by omega) (by omega))) rfl ?_
          refine Wx.rd (v := .int .i64 (i + 2)) (rd_assign rfl) rfl ?_
          refine Wx.nil ?_
          refine ⟨(i + 2, v_52, out ++ [(ix 0 l i, ix 0 l (i + 1))]), (by show (l.length - (i + 2)).toNat < (l.length - i).toNat; omega), ?_, ?_, Out.look rfl Out.self⟩
          · exact ⟨hS.tl, (by first | omega | assumption), (by first | omega | assumption), (by rw [← h2, pairsU_step h0 c0]; simp), (by simp only [List.length_append, List.length_cons, List.length_nil]; omega)⟩
          · exact ⟨rfl, rfl, trivial⟩
      · -- operation 9
        refine Wx.rd (v := .int .i64 (ix 0 l (i + 1))) (rd_loadI hp_36 rfl Tryd.isAgg3 Tryd.sizeOf3) rfl ?_
        have bd_55 := bd_i64 hp_36.inK
        refine Wx.nil ?_
        refine Wp.br [3] (by kernel_rfl) (by decide) ⟨⟨_, rfl, ?_⟩, trivial⟩
        refine Wx.ex (rd_index 0 (hS.arg a_lv) rfl rfl Tryd.underlying60 Tryd.sizeOf3 (by first | omega | (simp only [List.length_set, List.length_append, List.length_cons, List.length_nil, List.length_replicate]; omega)) (by first | omega | (simp only [List.length_set, List.length_append, List.length_cons, List.length_nil, List.length_replicate]; omega))) rfl (fun p_56 hp_57 => ?_)
        refine Wx.nil ?_
        refine Wp.br [4] (by kernel_rfl) (by decide) ⟨⟨_, rfl, ?_⟩, trivial⟩
        refine Wx.rd (v := .int .i64 (ix 0 l i)) (rd_loadI hp_57 rfl Tryd.isAgg3 Tryd.sizeOf3) rfl ?_
        have bd_58 := bd_i64 hp_57.inK
        refine Wx.nil ?_
        refine Wp.rd (v := .agg #[.int .i64 (ix 0 l i), .int .i64 (ix 0 l (i + 1))]) 10 rfl (by kernel_rfl) (fun _ => (rd_build (vs := [(0, .int .i64 (ix 0 l i)), (1, .int .i64 (ix 0 l (i + 1)))]) rfl (by kernel_rfl))) rfl ?_
        refine Wp.br [11] (by kernel_rfl) (by decide) ⟨⟨_, rfl, ?_⟩, trivial⟩
        refine Wx.lit (t := (tP (tI .i64) (tI .i64))) (ys := [(ix 0 l i, ix 0 l (i + 1))]) (vs := [.agg #[.int .i64 (ix 0 l i), .int .i64 (ix 0 l (i + 1))]]) elHk_22 hS rfl rfl ⟨(V.mk2 (in_i64 (by omega) (by omega)) (in_i64 (by omega) (by omega))), trivial⟩ (by decide) rfl (fun v_59 w_60 hx_61 hS => ?_)
        refine Wx.nil ?_
        refine Wp.br [12] (by kernel_rfl) (by decide) ⟨⟨_, rfl, ?_⟩, trivial⟩
        refine Wx.append elHk_22 hS 1 rfl rfl rfl (Src.ofR hS 0 rfl) (by simp only [maxLen]; simp; omega) (by simp; omega) rfl (fun v_62 w_63 hz_64 hS => ?_)
        refine Wx.nil ?_
        refine Wp.rd (v := v_62) 13 rfl (by kernel_rfl) (fun _ => (rd_assign rfl)) rfl ?_
        refine Wp.done (by kernel_rfl) ?_
        refine W.reg ?_
        refine Wx.rd (v := .int .i64 i) (rd_move rfl) rfl ?_
        refine Wx.rd (v := .int .i64 (i + 2)) (rd_add rfl rfl (in_i64 (by omega) (by omega))) rfl ?_
        refine Wx.rd (v := .int .i64 (i + 2)) (rd_assign rfl) rfl ?_
        refine Wx.nil ?_
        refine ⟨(i + 2, v_62, out ++ [(ix 0 l i, ix 0 l (i + 1))]), (by show (l.length - (i + 2)).toNat < (l.length - i).toNat; omega), ?_, ?_, Out.look rfl Out.self⟩
        · exact ⟨hS.tl, (by first | omega | assumption), (by first | omega | assumption), (by rw [← h2, pairsU_step h0 c0]; simp), (by simp only [List.length_append, List.length_cons, List.length_nil]; omega)⟩
        · exact ⟨rfl, rfl, trivial⟩
  · -- no
    refine W.exit rfl ?_
    refine W.seq ?_
    refine W.reg ?_
    refine Wx.rd (v := ov) (rd_move rfl) rfl ?_
    refine Wx.rd (v := ov) (rd_assign rfl) rfl ?_
    refine Wx.nil ?_
    have e0_0 : pairsU l = out := by rw [← h2, pairsU_end h0 c0, List.append_nil]
    exact W.ret ⟨ov, ResIs.one, hS.bel, ⟨ov, rfl, (by rw [e0_0]; exact (hS.fr 0 rfl flat_i2))⟩⟩
end Go.Proofs.YtokdjjebnomciaaDoor

namespace Go.Proofs.YtokdjjebnomciaaDoor
open Go.Wk Go.RowKit Go.Lib
set_option linter.unusedVariables false
set_option linter.unusedSimpArgs false
theorem elHm_60 : ElemI Tryd.prog 60 3 (.int .i64 0) 1 8 := ElemI.of Tryd.underlying60 (by kernel_rfl) (by first | rfl | kernel_rfl) (by decide)

theorem F16 {O : List (Option Nat)} {w : World} (hO : ∀ b, some b ∈ O → b < w.heap.size) (hG : Laid w) : Calls Tryd.prog 16 #[] w (Ret w (fun r _ => r = .bool true)) := by
  have hS := St.start w O hO
  refine enterR Tryd.func16 rfl Tryd.ntmps16 Tryd.results16 rfl ?_
  refine W.seq ?_
  refine W.reg ?_
  refine Wx.rd (v := .bool false) (rd_assign rfl) rfl ?_
  refine Wx.nil ?_
  refine W.seq ?_
  refine W.reg ?_
  refine Wx.callF (run_callF Tryd.call21 rfl) (F21 (by first | assumption | (simp only [maxLen]; omega) | (simp only [ByteArray.size_extract, ByteArray.size_append, maxLen] at *; omega) | decide) (hG.ext hS.bel)) rfl ?_
  rintro r_1 w_2 hx_3 rfl
  have hS := hS.ext hx_3
  refine Wx.rd (v := .tuple #[.int .i64 (mostV rQ), .int .i64 (rimE rQ)]) (rd_move rfl) rfl ?_
  refine Wx.rd (v := .int .i64 (mostV rQ)) (rd_extract rfl rfl) rfl ?_
  refine Wx.rd (v := .int .i64 (rimE rQ)) (rd_extract rfl rfl) rfl ?_
  refine Wx.rd (v := .int .i64 1) (Rd.to (v := .int .i64 (mostV rQ)) (rd_assign rfl) (congrArg (Value.int .i64) (show (1 : Int) = (mostV rQ : Int) from (by decide +kernel)).symm)) rfl ?_
  refine Wx.rd (v := .int .i64 0) (Rd.to (v := .int .i64 (rimE rQ)) (rd_assign rfl) (congrArg (Value.int .i64) (show (0 : Int) = (rimE rQ : Int) from (by decide +kernel)).symm)) rfl ?_
  refine Wx.nil ?_
  refine W.seq ?_
  refine W.reg ?_
  refine Wx.callF (run_callF Tryd.call25 rfl) (F25 (by first | assumption | (simp only [maxLen]; omega) | (simp only [ByteArray.size_extract, ByteArray.size_append, maxLen] at *; omega) | decide) (hG.ext hS.bel)) rfl ?_
  rintro r_4 w_5 hx_6 ⟨v_7, rfl, hv_8⟩
  have hS := hS.pushFr hx_6 hv_8
  refine Wx.rd (v := .tuple #[v_7, .int .i64 (rimE rR)]) (rd_move rfl) rfl ?_
  refine Wx.rd (v := v_7) (rd_extract rfl rfl) rfl ?_
  refine Wx.rd (v := .int .i64 (rimE rR)) (rd_extract rfl rfl) rfl ?_
  refine Wx.rd (v := v_7) (rd_assign rfl) rfl ?_
  refine Wx.rd (v := .int .i64 0) (Rd.to (v := .int .i64 (rimE rR)) (rd_assign rfl) (congrArg (Value.int .i64) (show (0 : Int) = (rimE rR : Int) from (by decide +kernel)).symm)) rfl ?_
  refine Wx.nil ?_
  refine W.seq ?_
  refine W.reg ?_
  refine Wx.callF (run_callF Tryd.call23 rfl) (F23 (by first | assumption | (simp only [maxLen]; omega) | (simp only [ByteArray.size_extract, ByteArray.size_append, maxLen] at *; omega) | decide) (hG.ext hS.bel)) rfl ?_
  rintro r_10 w_11 hx_12 rfl
  have hS := hS.ext hx_12
  refine Wx.rd (v := .tuple #[.int .i64 (countV rR), .int .i64 (rimE rR)]) (rd_move rfl) rfl ?_
  refine Wx.rd (v := .int .i64 (countV rR)) (rd_extract rfl rfl) rfl ?_
  refine Wx.rd (v := .int .i64 (rimE rR)) (rd_extract rfl rfl) rfl ?_
  refine Wx.rd (v := .int .i64 2) (Rd.to (v := .int .i64 (countV rR)) (rd_assign rfl) (congrArg (Value.int .i64) (show (2 : Int) = (countV rR : Int) from (by decide +kernel)).symm)) rfl ?_
  refine Wx.rd (v := .int .i64 0) (Rd.to (v := .int .i64 (rimE rR)) (rd_assign rfl) (congrArg (Value.int .i64) (show (0 : Int) = (rimE rR : Int) from (by decide +kernel)).symm)) rfl ?_
  refine Wx.nil ?_
  refine W.seq ?_
  refine W.reg ?_
  refine Wx.callF (run_callF Tryd.call27 rfl) (F27 (by first | assumption | (simp only [maxLen]; omega) | (simp only [ByteArray.size_extract, ByteArray.size_append, maxLen] at *; omega) | decide) (hG.ext hS.bel)) rfl ?_
  rintro r_13 w_14 hx_15 ⟨v_16, rfl, hv_17⟩
  have hS := hS.pushFr hx_15 hv_17
  refine Wx.rd (v := .tuple #[v_16, .int .i64 (rimE rP)]) (rd_move rfl) rfl ?_
  refine Wx.rd (v := v_16) (rd_extract rfl rfl) rfl ?_
  refine Wx.rd (v := .int .i64 (rimE rP)) (rd_extract rfl rfl) rfl ?_
  refine Wx.rd (v := v_16) (rd_assign rfl) rfl ?_
  refine Wx.rd (v := .int .i64 0) (Rd.to (v := .int .i64 (rimE rP)) (rd_assign rfl) (congrArg (Value.int .i64) (show (0 : Int) = (rimE rP : Int) from (by decide +kernel)).symm)) rfl ?_
  refine Wx.nil ?_
  refine W.seq ?_
  refine W.reg ?_
  refine Wx.callF (run_callF Tryd.call30 rfl) (F30 (by first | assumption | (simp only [maxLen]; omega) | (simp only [ByteArray.size_extract, ByteArray.size_append, maxLen] at *; omega) | decide) hS.fb_lt (hG.ext hS.bel)) rfl ?_
  rintro r_19 w_20 hx_21 ⟨v_22, rfl, hv_23⟩
  have ln_25 := hv_23.len63
  have hS := hS.ext hx_21
  have hS := hS.add hv_23
  refine Wx.rd (v := .tuple #[v_22, .int .i64 (rimE rP)]) (rd_move rfl) rfl ?_
  refine Wx.rd (v := v_22) (rd_extract rfl rfl) rfl ?_
  refine Wx.rd (v := .int .i64 (rimE rP)) (rd_extract rfl rfl) rfl ?_
  refine Wx.rd (v := v_22) (rd_assign rfl) rfl ?_
  refine Wx.rd (v := .int .i64 0) (Rd.to (v := .int .i64 (rimE rP)) (rd_assign rfl) (congrArg (Value.int .i64) (show (0 : Int) = (rimE rP : Int) from (by decide +kernel)).symm)) rfl ?_
  refine Wx.nil ?_
  refine W.seq ?_
  refine W.reg ?_
  refine Wx.callF (run_callF Tryd.call32 rfl) (F32 (by first | assumption | (simp only [maxLen]; omega) | (simp only [ByteArray.size_extract, ByteArray.size_append, maxLen] at *; omega) | decide) (hG.ext hS.bel)) rfl ?_
  rintro r_26 w_27 hx_28 rfl
  have hS := hS.ext hx_28
  refine Wx.rd (v := .tuple #[.string (restE rQ), .int .i64 (rimE rQ)]) (rd_move rfl) rfl ?_
  refine Wx.rd (v := .string (restE rQ)) (rd_extract rfl rfl) rfl ?_
  refine Wx.rd (v := .int .i64 (rimE rQ)) (rd_extract rfl rfl) rfl ?_
  refine Wx.rd (v := .string (restE rQ)) (rd_assign rfl) rfl ?_
  refine Wx.rd (v := .int .i64 0) (Rd.to (v := .int .i64 (rimE rQ)) (rd_assign rfl) (congrArg (Value.int .i64) (show (0 : Int) = (rimE rQ : Int) from (by decide +kernel)).symm)) rfl ?_
  refine Wx.nil ?_
  refine W.seq ?_
  refine W.seq ?_
  refine W.reg ?_
  refine Wx.rd (v := .int .i64 0) (rd_move rfl) rfl ?_
  refine Wx.rd (v := .bool (decide ((0 : Int) ≠ 0))) (rd_neq rfl rfl) rfl ?_
  refine Wx.rd (v := .bool (decide ((0 : Int) ≠ 0))) (rd_move rfl) rfl ?_
  refine Wx.cut (X := Unit) 3 [48, 49, 50] (fun _ => [(50, .bool (decide ((0 : Int) ≠ 0) || decide ((0 : Int) ≠ 0)))]) (fun _ w' => St w O w' [Ob.v (tSl (tP (tI .i64) (tI .i64))) (stepsV rP) v_22, .row (tP (tI .i64) (tI .i64)) 58 v_16 (forcedP rP), .row (tP (tI .i64) (tI .i64)) 58 v_7 (firstV rR)]) ?_ ?_
  · rcases Bool.eq_false_or_eq_true (decide ((0 : Int) ≠ 0)) with g_29 | g_29
    · -- True
      have gp_30 := of_decide_eq_true g_29
      refine Wx.gnoB rfl rfl (congrArg Value.bool g_29) rfl rfl ?_
      refine Wx.gnoB rfl rfl (congrArg Value.bool g_29) rfl rfl ?_
      refine Wx.rd (v := .bool true) (rd_pickT (congrArg Value.bool g_29) rfl) rfl ?_
      refine Wx.nil ⟨(), hS, ⟨?_, trivial⟩, Out.look rfl Out.refl⟩
      show Value.bool true = Value.bool (decide ((0 : Int) ≠ 0) || decide ((0 : Int) ≠ 0))
      rw [g_29]; rfl
    · -- False
      have gp_31 := of_decide_eq_false g_29
      refine Wx.gyes rfl rfl (congrArg Value.bool g_29) ?_
      refine Wx.rd (v := .int .i64 0) (rd_move rfl) rfl ?_
      refine Wx.gyes rfl rfl (congrArg Value.bool g_29) ?_
      refine Wx.rd (v := .bool (decide ((0 : Int) ≠ 0))) (rd_neq rfl rfl) rfl ?_
      refine Wx.rd (v := .bool (decide ((0 : Int) ≠ 0))) (rd_pickF (congrArg Value.bool g_29) rfl) rfl ?_
      refine Wx.nil ⟨(), hS, ⟨?_, trivial⟩, Out.look rfl Out.refl⟩
      show Value.bool (decide ((0 : Int) ≠ 0)) = Value.bool (decide ((0 : Int) ≠ 0) || decide ((0 : Int) ≠ 0))
      rw [g_29]; rfl
  rintro ⟨⟩ u_33 w_32 hS
  refine Wx.rd (v := .bool (decide ((0 : Int) ≠ 0) || decide ((0 : Int) ≠ 0))) (rd_move rfl) rfl ?_
  refine Wx.cut (X := Unit) 3 [52, 53, 54] (fun _ => [(54, .bool ((decide ((0 : Int) ≠ 0) || decide ((0 : Int) ≠ 0)) || decide ((0 : Int) ≠ 0)))]) (fun _ w' => St w O w' [Ob.v (tSl (tP (tI .i64) (tI .i64))) (stepsV rP) v_22, .row (tP (tI .i64) (tI .i64)) 58 v_16 (forcedP rP), .row (tP (tI .i64) (tI .i64)) 58 v_7 (firstV rR)]) ?_ ?_
  · rcases Bool.eq_false_or_eq_true (decide ((0 : Int) ≠ 0) || decide ((0 : Int) ≠ 0)) with g_34 | g_34
    · -- True
      have gp_35 := g_34
      try simp only [Bool.and_eq_true, Bool.or_eq_true, Bool.not_eq_true', Bool.and_eq_false_iff, Bool.or_eq_false_iff, Bool.not_eq_false', decide_eq_true_eq, decide_eq_false_iff_not, not_or, Bool.false_eq_true, Bool.true_eq_false, false_or, or_false, not_false_eq_true] at gp_35
      refine Wx.gnoB rfl rfl (congrArg Value.bool g_34) rfl rfl ?_
      refine Wx.gnoB rfl rfl (congrArg Value.bool g_34) rfl rfl ?_
      refine Wx.rd (v := .bool true) (rd_pickT (congrArg Value.bool g_34) rfl) rfl ?_
      refine Wx.nil ⟨(), hS, ⟨?_, trivial⟩, Out.look rfl Out.refl⟩
      show Value.bool true = Value.bool ((decide ((0 : Int) ≠ 0) || decide ((0 : Int) ≠ 0)) || decide ((0 : Int) ≠ 0))
      rw [g_34]; rfl
    · -- False
      have gp_36 := g_34
      try simp only [Bool.and_eq_true, Bool.or_eq_true, Bool.not_eq_true', Bool.and_eq_false_iff, Bool.or_eq_false_iff, Bool.not_eq_false', decide_eq_true_eq, decide_eq_false_iff_not, not_or, Bool.false_eq_true, Bool.true_eq_false, false_or, or_false, not_false_eq_true] at gp_36
      refine Wx.gyes rfl rfl (congrArg Value.bool g_34) ?_
      refine Wx.rd (v := .int .i64 0) (rd_move rfl) rfl ?_
      refine Wx.gyes rfl rfl (congrArg Value.bool g_34) ?_
      refine Wx.rd (v := .bool (decide ((0 : Int) ≠ 0))) (rd_neq rfl rfl) rfl ?_
      refine Wx.rd (v := .bool (decide ((0 : Int) ≠ 0))) (rd_pickF (congrArg Value.bool g_34) rfl) rfl ?_
      refine Wx.nil ⟨(), hS, ⟨?_, trivial⟩, Out.look rfl Out.refl⟩
      show Value.bool (decide ((0 : Int) ≠ 0)) = Value.bool ((decide ((0 : Int) ≠ 0) || decide ((0 : Int) ≠ 0)) || decide ((0 : Int) ≠ 0))
      rw [g_34]; rfl
  rintro ⟨⟩ u_38 w_37 hS
  refine Wx.rd (v := .bool ((decide ((0 : Int) ≠ 0) || decide ((0 : Int) ≠ 0)) || decide ((0 : Int) ≠ 0))) (rd_move rfl) rfl ?_
  refine Wx.cut (X := Unit) 3 [56, 57, 58] (fun _ => [(58, .bool (((decide ((0 : Int) ≠ 0) || decide ((0 : Int) ≠ 0)) || decide ((0 : Int) ≠ 0)) || decide ((0 : Int) ≠ 0)))]) (fun _ w' => St w O w' [Ob.v (tSl (tP (tI .i64) (tI .i64))) (stepsV rP) v_22, .row (tP (tI .i64) (tI .i64)) 58 v_16 (forcedP rP), .row (tP (tI .i64) (tI .i64)) 58 v_7 (firstV rR)]) ?_ ?_
  · rcases Bool.eq_false_or_eq_true ((decide ((0 : Int) ≠ 0) || decide ((0 : Int) ≠ 0)) || decide ((0 : Int) ≠ 0)) with g_39 | g_39
    · -- True
      have gp_40 := g_39
      try simp only [Bool.and_eq_true, Bool.or_eq_true, Bool.not_eq_true', Bool.and_eq_false_iff, Bool.or_eq_false_iff, Bool.not_eq_false', decide_eq_true_eq, decide_eq_false_iff_not, not_or, Bool.false_eq_true, Bool.true_eq_false, false_or, or_false, not_false_eq_true] at gp_40
      refine Wx.gnoB rfl rfl (congrArg Value.bool g_39) rfl rfl ?_
      refine Wx.gnoB rfl rfl (congrArg Value.bool g_39) rfl rfl ?_
      refine Wx.rd (v := .bool true) (rd_pickT (congrArg Value.bool g_39) rfl) rfl ?_
      refine Wx.nil ⟨(), hS, ⟨?_, trivial⟩, Out.look rfl Out.refl⟩
      show Value.bool true = Value.bool (((decide ((0 : Int) ≠ 0) || decide ((0 : Int) ≠ 0)) || decide ((0 : Int) ≠ 0)) || decide ((0 : Int) ≠ 0))
      rw [g_39]; rfl
    · -- False
      have gp_41 := g_39
      try simp only [Bool.and_eq_true, Bool.or_eq_true, Bool.not_eq_true', Bool.and_eq_false_iff, Bool.or_eq_false_iff, Bool.not_eq_false', decide_eq_true_eq, decide_eq_false_iff_not, not_or, Bool.false_eq_true, Bool.true_eq_false, false_or, or_false, not_false_eq_true] at gp_41
      refine Wx.gyes rfl rfl (congrArg Value.bool g_39) ?_
      refine Wx.rd (v := .int .i64 0) (rd_move rfl) rfl ?_
      refine Wx.gyes rfl rfl (congrArg Value.bool g_39) ?_
      refine Wx.rd (v := .bool (decide ((0 : Int) ≠ 0))) (rd_neq rfl rfl) rfl ?_
      refine Wx.rd (v := .bool (decide ((0 : Int) ≠ 0))) (rd_pickF (congrArg Value.bool g_39) rfl) rfl ?_
      refine Wx.nil ⟨(), hS, ⟨?_, trivial⟩, Out.look rfl Out.refl⟩
      show Value.bool (decide ((0 : Int) ≠ 0)) = Value.bool (((decide ((0 : Int) ≠ 0) || decide ((0 : Int) ≠ 0)) || decide ((0 : Int) ≠ 0)) || decide ((0 : Int) ≠ 0))
      rw [g_39]; rfl
  rintro ⟨⟩ u_43 w_42 hS
  refine Wx.rd (v := .bool (((decide ((0 : Int) ≠ 0) || decide ((0 : Int) ≠ 0)) || decide ((0 : Int) ≠ 0)) || decide ((0 : Int) ≠ 0))) (rd_move rfl) rfl ?_
  refine Wx.cut (X := Unit) 3 [60, 61, 62] (fun _ => [(62, .bool ((((decide ((0 : Int) ≠ 0) || decide ((0 : Int) ≠ 0)) || decide ((0 : Int) ≠ 0)) || decide ((0 : Int) ≠ 0)) || decide ((0 : Int) ≠ 0)))]) (fun _ w' => St w O w' [Ob.v (tSl (tP (tI .i64) (tI .i64))) (stepsV rP) v_22, .row (tP (tI .i64) (tI .i64)) 58 v_16 (forcedP rP), .row (tP (tI .i64) (tI .i64)) 58 v_7 (firstV rR)]) ?_ ?_
  · rcases Bool.eq_false_or_eq_true (((decide ((0 : Int) ≠ 0) || decide ((0 : Int) ≠ 0)) || decide ((0 : Int) ≠ 0)) || decide ((0 : Int) ≠ 0)) with g_44 | g_44
    · -- True
      have gp_45 := g_44
      try simp only [Bool.and_eq_true, Bool.or_eq_true, Bool.not_eq_true', Bool.and_eq_false_iff, Bool.or_eq_false_iff, Bool.not_eq_false', decide_eq_true_eq, decide_eq_false_iff_not, not_or, Bool.false_eq_true, Bool.true_eq_false, false_or, or_false, not_false_eq_true] at gp_45
      refine Wx.gnoB rfl rfl (congrArg Value.bool g_44) rfl rfl ?_
      refine Wx.gnoB rfl rfl (congrArg Value.bool g_44) rfl rfl ?_
      refine Wx.rd (v := .bool true) (rd_pickT (congrArg Value.bool g_44) rfl) rfl ?_
      refine Wx.nil ⟨(), hS, ⟨?_, trivial⟩, Out.look rfl Out.refl⟩
      show Value.bool true = Value.bool ((((decide ((0 : Int) ≠ 0) || decide ((0 : Int) ≠ 0)) || decide ((0 : Int) ≠ 0)) || decide ((0 : Int) ≠ 0)) || decide ((0 : Int) ≠ 0))
      rw [g_44]; rfl
    · -- False
      have gp_46 := g_44
      try simp only [Bool.and_eq_true, Bool.or_eq_true, Bool.not_eq_true', Bool.and_eq_false_iff, Bool.or_eq_false_iff, Bool.not_eq_false', decide_eq_true_eq, decide_eq_false_iff_not, not_or, Bool.false_eq_true, Bool.true_eq_false, false_or, or_false, not_false_eq_true] at gp_46
      refine Wx.gyes rfl rfl (congrArg Value.bool g_44) ?_
      refine Wx.rd (v := .int .i64 0) (rd_move rfl) rfl ?_
      refine Wx.gyes rfl rfl (congrArg Value.bool g_44) ?_
      refine Wx.rd (v := .bool (decide ((0 : Int) ≠ 0))) (rd_neq rfl rfl) rfl ?_
      refine Wx.rd (v := .bool (decide ((0 : Int) ≠ 0))) (rd_pickF (congrArg Value.bool g_44) rfl) rfl ?_
      refine Wx.nil ⟨(), hS, ⟨?_, trivial⟩, Out.look rfl Out.refl⟩
      show Value.bool (decide ((0 : Int) ≠ 0)) = Value.bool ((((decide ((0 : Int) ≠ 0) || decide ((0 : Int) ≠ 0)) || decide ((0 : Int) ≠ 0)) || decide ((0 : Int) ≠ 0)) || decide ((0 : Int) ≠ 0))
      rw [g_44]; rfl
  rintro ⟨⟩ u_48 w_47 hS
  refine Wx.rd (v := .bool ((((decide ((0 : Int) ≠ 0) || decide ((0 : Int) ≠ 0)) || decide ((0 : Int) ≠ 0)) || decide ((0 : Int) ≠ 0)) || decide ((0 : Int) ≠ 0))) (rd_move rfl) rfl ?_
  refine Wx.cut (X := Unit) 3 [64, 65, 66] (fun _ => [(66, .bool (((((decide ((0 : Int) ≠ 0) || decide ((0 : Int) ≠ 0)) || decide ((0 : Int) ≠ 0)) || decide ((0 : Int) ≠ 0)) || decide ((0 : Int) ≠ 0)) || decide ((0 : Int) ≠ 0)))]) (fun _ w' => St w O w' [Ob.v (tSl (tP (tI .i64) (tI .i64))) (stepsV rP) v_22, .row (tP (tI .i64) (tI .i64)) 58 v_16 (forcedP rP), .row (tP (tI .i64) (tI .i64)) 58 v_7 (firstV rR)]) ?_ ?_
  · rcases Bool.eq_false_or_eq_true ((((decide ((0 : Int) ≠ 0) || decide ((0 : Int) ≠ 0)) || decide ((0 : Int) ≠ 0)) || decide ((0 : Int) ≠ 0)) || decide ((0 : Int) ≠ 0)) with g_49 | g_49
    · -- True
      have gp_50 := g_49
      try simp only [Bool.and_eq_true, Bool.or_eq_true, Bool.not_eq_true', Bool.and_eq_false_iff, Bool.or_eq_false_iff, Bool.not_eq_false', decide_eq_true_eq, decide_eq_false_iff_not, not_or, Bool.false_eq_true, Bool.true_eq_false, false_or, or_false, not_false_eq_true] at gp_50
      refine Wx.gnoB rfl rfl (congrArg Value.bool g_49) rfl rfl ?_
      refine Wx.gnoB rfl rfl (congrArg Value.bool g_49) rfl rfl ?_
      refine Wx.rd (v := .bool true) (rd_pickT (congrArg Value.bool g_49) rfl) rfl ?_
      refine Wx.nil ⟨(), hS, ⟨?_, trivial⟩, Out.look rfl Out.refl⟩
      show Value.bool true = Value.bool (((((decide ((0 : Int) ≠ 0) || decide ((0 : Int) ≠ 0)) || decide ((0 : Int) ≠ 0)) || decide ((0 : Int) ≠ 0)) || decide ((0 : Int) ≠ 0)) || decide ((0 : Int) ≠ 0))
      rw [g_49]; rfl
    · -- False
      have gp_51 := g_49
      try simp only [Bool.and_eq_true, Bool.or_eq_true, Bool.not_eq_true', Bool.and_eq_false_iff, Bool.or_eq_false_iff, Bool.not_eq_false', decide_eq_true_eq, decide_eq_false_iff_not, not_or, Bool.false_eq_true, Bool.true_eq_false, false_or, or_false, not_false_eq_true] at gp_51
      refine Wx.gyes rfl rfl (congrArg Value.bool g_49) ?_
      refine Wx.rd (v := .int .i64 0) (rd_move rfl) rfl ?_
      refine Wx.gyes rfl rfl (congrArg Value.bool g_49) ?_
      refine Wx.rd (v := .bool (decide ((0 : Int) ≠ 0))) (rd_neq rfl rfl) rfl ?_
      refine Wx.rd (v := .bool (decide ((0 : Int) ≠ 0))) (rd_pickF (congrArg Value.bool g_49) rfl) rfl ?_
      refine Wx.nil ⟨(), hS, ⟨?_, trivial⟩, Out.look rfl Out.refl⟩
      show Value.bool (decide ((0 : Int) ≠ 0)) = Value.bool (((((decide ((0 : Int) ≠ 0) || decide ((0 : Int) ≠ 0)) || decide ((0 : Int) ≠ 0)) || decide ((0 : Int) ≠ 0)) || decide ((0 : Int) ≠ 0)) || decide ((0 : Int) ≠ 0))
      rw [g_49]; rfl
  rintro ⟨⟩ u_53 w_52 hS
  refine Wx.nil ?_
  refine W.cond rfl (fun c0 => ?_) (fun c0 => ?_)
  · -- yes
    try simp only [Bool.and_eq_true, Bool.or_eq_true, Bool.not_eq_true', Bool.and_eq_false_iff, Bool.or_eq_false_iff, Bool.not_eq_false', decide_eq_true_eq, decide_eq_false_iff_not, not_or, Bool.false_eq_true, Bool.true_eq_false, false_or, or_false, not_false_eq_true] at c0
    refine W.seq ?_
    refine W.reg ?_
    refine Wx.rd (v := .bool false) (rd_assign rfl) rfl ?_
    refine Wx.nil ?_
    have e0_0 : false = true := by first | rfl | omega
    exact W.ret ⟨.bool false, ResIs.one, hS.bel, (by rw [e0_0])⟩
  · -- no
    try simp only [Bool.and_eq_true, Bool.or_eq_true, Bool.not_eq_true', Bool.and_eq_false_iff, Bool.or_eq_false_iff, Bool.not_eq_false', decide_eq_true_eq, decide_eq_false_iff_not, not_or, Bool.false_eq_true, Bool.true_eq_false, false_or, or_false, not_false_eq_true] at c0
    refine W.skip ?_
    refine W.seq ?_
    refine W.reg ?_
    refine Wx.callF (run_callF Tryd.call34 rfl) (F34 (by first | assumption | (simp only [maxLen]; omega) | (simp only [ByteArray.size_extract, ByteArray.size_append, maxLen] at *; omega) | decide) (hG.ext hS.bel)) rfl ?_
    rintro r_54 w_55 hx_56 rfl
    have hS := hS.ext hx_56
    refine Wx.rd (v := .tuple #[.bool (fullP rP), .int .i64 (rimE rP)]) (rd_move rfl) rfl ?_
    refine Wx.rd (v := .bool (fullP rP)) (rd_extract rfl rfl) rfl ?_
    refine Wx.rd (v := .int .i64 (rimE rP)) (rd_extract rfl rfl) rfl ?_
    refine Wx.rd (v := .bool true) (Rd.to (v := .bool (fullP rP)) (rd_assign rfl) (congrArg (Value.bool) (show (true : Bool) = (fullP rP : Bool) from (by decide +kernel)).symm)) rfl ?_
    refine Wx.rd (v := .int .i64 0) (Rd.to (v := .int .i64 (rimE rP)) (rd_assign rfl) (congrArg (Value.int .i64) (show (0 : Int) = (rimE rP : Int) from (by decide +kernel)).symm)) rfl ?_
    refine Wx.nil ?_
    refine W.seq ?_
    refine W.reg ?_
    refine Wx.callF (run_callF Tryd.call34 rfl) (F34 (by first | assumption | (simp only [maxLen]; omega) | (simp only [ByteArray.size_extract, ByteArray.size_append, maxLen] at *; omega) | decide) (hG.ext hS.bel)) rfl ?_
    rintro r_57 w_58 hx_59 rfl
    have hS := hS.ext hx_59
    refine Wx.rd (v := .tuple #[.bool (fullP rQ), .int .i64 (rimE rQ)]) (rd_move rfl) rfl ?_
    refine Wx.rd (v := .bool (fullP rQ)) (rd_extract rfl rfl) rfl ?_
    refine Wx.rd (v := .int .i64 (rimE rQ)) (rd_extract rfl rfl) rfl ?_
    refine Wx.rd (v := .bool false) (Rd.to (v := .bool (fullP rQ)) (rd_assign rfl) (congrArg (Value.bool) (show (false : Bool) = (fullP rQ : Bool) from (by decide +kernel)).symm)) rfl ?_
    refine Wx.rd (v := .int .i64 0) (Rd.to (v := .int .i64 (rimE rQ)) (rd_assign rfl) (congrArg (Value.int .i64) (show (0 : Int) = (rimE rQ : Int) from (by decide +kernel)).symm)) rfl ?_
    refine Wx.nil ?_
    refine W.seq ?_
    refine W.reg ?_
    refine Wx.callF (run_callF Tryd.call36 rfl) (F36 (by first | assumption | (simp only [maxLen]; omega) | (simp only [ByteArray.size_extract, ByteArray.size_append, maxLen] at *; omega) | decide) (hG.ext hS.bel)) rfl ?_
    rintro r_60 w_61 hx_62 rfl
    have hS := hS.ext hx_62
    refine Wx.rd (v := .tuple #[.string (coreV r1), .int .i64 (rimE r1)]) (rd_move rfl) rfl ?_
    refine Wx.rd (v := .string (coreV r1)) (rd_extract rfl rfl) rfl ?_
    refine Wx.rd (v := .int .i64 (rimE r1)) (rd_extract rfl rfl) rfl ?_
    refine Wx.rd (v := .string (coreV r1)) (rd_assign rfl) rfl ?_
    refine Wx.rd (v := .int .i64 0) (Rd.to (v := .int .i64 (rimE r1)) (rd_assign rfl) (congrArg (Value.int .i64) (show (0 : Int) = (rimE r1 : Int) from (by decide +kernel)).symm)) rfl ?_
    refine Wx.nil ?_
    refine W.seq ?_
    refine W.reg ?_
    refine Wx.callF (run_callF Tryd.call38 rfl) (F38 (by first | assumption | (simp only [maxLen]; omega) | (simp only [ByteArray.size_extract, ByteArray.size_append, maxLen] at *; omega) | decide) (in_i64 (by omega) (by omega)) (hG.ext hS.bel)) rfl ?_
    rintro r_63 w_64 hx_65 rfl
    have hS := hS.ext hx_65
    refine Wx.rd (v := .tuple #[.string (turnS rQ 1), .int .i64 (turnE rQ 1)]) (rd_move rfl) rfl ?_
    refine Wx.rd (v := .string (turnS rQ 1)) (rd_extract rfl rfl) rfl ?_
    refine Wx.rd (v := .int .i64 (turnE rQ 1)) (rd_extract rfl rfl) rfl ?_
    refine Wx.rd (v := .string (turnS rQ 1)) (rd_assign rfl) rfl ?_
    refine Wx.rd (v := .int .i64 0) (Rd.to (v := .int .i64 (turnE rQ 1)) (rd_assign rfl) (congrArg (Value.int .i64) (show (0 : Int) = (turnE rQ 1 : Int) from (by decide +kernel)).symm)) rfl ?_
    refine Wx.nil ?_
    refine W.seq ?_
    refine W.reg ?_
    refine Wx.callF (run_callF Tryd.call40 rfl) (F40 (by first | assumption | (simp only [maxLen]; omega) | (simp only [ByteArray.size_extract, ByteArray.size_append, maxLen] at *; omega) | decide) (hG.ext hS.bel)) rfl ?_
    rintro r_66 w_67 hx_68 rfl
    have hS := hS.ext hx_68
    refine Wx.rd (v := .tuple #[.string (oppV r2), .int .i64 (rimE r2)]) (rd_move rfl) rfl ?_
    refine Wx.rd (v := .string (oppV r2)) (rd_extract rfl rfl) rfl ?_
    refine Wx.rd (v := .int .i64 (rimE r2)) (rd_extract rfl rfl) rfl ?_
    refine Wx.rd (v := .string (oppV r2)) (rd_assign rfl) rfl ?_
    refine Wx.rd (v := .int .i64 0) (Rd.to (v := .int .i64 (rimE r2)) (rd_assign rfl) (congrArg (Value.int .i64) (show (0 : Int) = (rimE r2 : Int) from (by decide +kernel)).symm)) rfl ?_
    refine Wx.nil ?_
    refine W.seq ?_
    refine W.reg ?_
    refine Wx.callF (run_callF Tryd.call42 rfl) (F42 (by first | assumption | (simp only [maxLen]; omega) | (simp only [ByteArray.size_extract, ByteArray.size_append, maxLen] at *; omega) | decide) (by first | assumption | (simp only [maxLen]; omega) | (simp only [ByteArray.size_extract, ByteArray.size_append, maxLen] at *; omega) | decide) (hG.ext hS.bel)) rfl ?_
    rintro r_69 w_70 hx_71 rfl
    have hS := hS.ext hx_71
    refine Wx.rd (v := .tuple #[.bool (alikeP r3 r4), .int .i64 (alikeE r3 r4)]) (rd_move rfl) rfl ?_
    refine Wx.rd (v := .bool (alikeP r3 r4)) (rd_extract rfl rfl) rfl ?_
    refine Wx.rd (v := .int .i64 (alikeE r3 r4)) (rd_extract rfl rfl) rfl ?_
    refine Wx.rd (v := .bool true) (Rd.to (v := .bool (alikeP r3 r4)) (rd_assign rfl) (congrArg (Value.bool) (show (true : Bool) = (alikeP r3 r4 : Bool) from (by decide +kernel)).symm)) rfl ?_
    refine Wx.rd (v := .int .i64 0) (Rd.to (v := .int .i64 (alikeE r3 r4)) (rd_assign rfl) (congrArg (Value.int .i64) (show (0 : Int) = (alikeE r3 r4 : Int) from (by decide +kernel)).symm)) rfl ?_
    refine Wx.nil ?_
    refine W.seq ?_
    refine W.reg ?_
    refine Wx.callF (run_callF Tryd.call42 rfl) (F42 (by first | assumption | (simp only [maxLen]; omega) | (simp only [ByteArray.size_extract, ByteArray.size_append, maxLen] at *; omega) | decide) (by first | assumption | (simp only [maxLen]; omega) | (simp only [ByteArray.size_extract, ByteArray.size_append, maxLen] at *; omega) | decide) (hG.ext hS.bel)) rfl ?_
    rintro r_72 w_73 hx_74 rfl
    have hS := hS.ext hx_74
    refine Wx.rd (v := .tuple #[.bool (alikeP r5 r6), .int .i64 (alikeE r5 r6)]) (rd_move rfl) rfl ?_
    refine Wx.rd (v := .bool (alikeP r5 r6)) (rd_extract rfl rfl) rfl ?_
    refine Wx.rd (v := .int .i64 (alikeE r5 r6)) (rd_extract rfl rfl) rfl ?_
    refine Wx.rd (v := .bool false) (Rd.to (v := .bool (alikeP r5 r6)) (rd_assign rfl) (congrArg (Value.bool) (show (false : Bool) = (alikeP r5 r6 : Bool) from (by decide +kernel)).symm)) rfl ?_
    refine Wx.rd (v := .int .i64 0) (Rd.to (v := .int .i64 (alikeE r5 r6)) (rd_assign rfl) (congrArg (Value.int .i64) (show (0 : Int) = (alikeE r5 r6 : Int) from (by decide +kernel)).symm)) rfl ?_
    refine Wx.nil ?_
    refine W.seq ?_
    refine W.reg ?_
    refine Wx.rd (v := .int .i64 0) (rd_move rfl) rfl ?_
    refine Wx.rd (v := .bool (decide ((0 : Int) = 0))) (rd_eql rfl rfl) rfl ?_
    refine Wx.rd (v := .bool (decide ((0 : Int) = 0))) (rd_move rfl) rfl ?_
    refine Wx.cut (X := Unit) 3 [98, 99, 100] (fun _ => [(100, .bool (decide ((0 : Int) = 0) && decide ((0 : Int) = 0)))]) (fun _ w' => St w O w' [Ob.v (tSl (tP (tI .i64) (tI .i64))) (stepsV rP) v_22, .row (tP (tI .i64) (tI .i64)) 58 v_16 (forcedP rP), .row (tP (tI .i64) (tI .i64)) 58 v_7 (firstV rR)]) ?_ ?_
    · rcases Bool.eq_false_or_eq_true (decide ((0 : Int) = 0)) with g_75 | g_75
      · -- True
        have gp_76 := of_decide_eq_true g_75
        refine Wx.gyes rfl rfl (congrArg Value.bool g_75) ?_
        refine Wx.rd (v := .int .i64 0) (rd_move rfl) rfl ?_
        refine Wx.gyes rfl rfl (congrArg Value.bool g_75) ?_
        refine Wx.rd (v := .bool (decide ((0 : Int) = 0))) (rd_eql rfl rfl) rfl ?_
        refine Wx.rd (v := .bool (decide ((0 : Int) = 0))) (rd_pickT (congrArg Value.bool g_75) rfl) rfl ?_
        refine Wx.nil ⟨(), hS, ⟨?_, trivial⟩, Out.look rfl Out.refl⟩
        show Value.bool (decide ((0 : Int) = 0)) = Value.bool (decide ((0 : Int) = 0) && decide ((0 : Int) = 0))
        rw [g_75]; rfl
      · -- False
        have gp_77 := of_decide_eq_false g_75
        refine Wx.gnoB rfl rfl (congrArg Value.bool g_75) rfl rfl ?_
        refine Wx.gnoB rfl rfl (congrArg Value.bool g_75) rfl rfl ?_
        refine Wx.rd (v := .bool false) (rd_pickF (congrArg Value.bool g_75) rfl) rfl ?_
        refine Wx.nil ⟨(), hS, ⟨?_, trivial⟩, Out.look rfl Out.refl⟩
        show Value.bool false = Value.bool (decide ((0 : Int) = 0) && decide ((0 : Int) = 0))
        rw [g_75]; rfl
    rintro ⟨⟩ u_79 w_78 hS
    refine Wx.rd (v := .bool (decide ((0 : Int) = 0) && decide ((0 : Int) = 0))) (rd_move rfl) rfl ?_
    refine Wx.cut (X := Unit) 3 [102, 103, 104] (fun _ => [(104, .bool ((decide ((0 : Int) = 0) && decide ((0 : Int) = 0)) && decide ((0 : Int) = 0)))]) (fun _ w' => St w O w' [Ob.v (tSl (tP (tI .i64) (tI .i64))) (stepsV rP) v_22, .row (tP (tI .i64) (tI .i64)) 58 v_16 (forcedP rP), .row (tP (tI .i64) (tI .i64)) 58 v_7 (firstV rR)]) ?_ ?_
    · rcases Bool.eq_false_or_eq_true (decide ((0 : Int) = 0) && decide ((0 : Int) = 0)) with g_80 | g_80
      · -- True
        have gp_81 := g_80
        try simp only [Bool.and_eq_true, Bool.or_eq_true, Bool.not_eq_true', Bool.and_eq_false_iff, Bool.or_eq_false_iff, Bool.not_eq_false', decide_eq_true_eq, decide_eq_false_iff_not, not_or, Bool.false_eq_true, Bool.true_eq_false, false_or, or_false, not_false_eq_true] at gp_81
        refine Wx.gyes rfl rfl (congrArg Value.bool g_80) ?_
        refine Wx.rd (v := .int .i64 0) (rd_move rfl) rfl ?_
        refine Wx.gyes rfl rfl (congrArg Value.bool g_80) ?_
        refine Wx.rd (v := .bool (decide ((0 : Int) = 0))) (rd_eql rfl rfl) rfl ?_
        refine Wx.rd (v := .bool (decide ((0 : Int) = 0))) (rd_pickT (congrArg Value.bool g_80) rfl) rfl ?_
        refine Wx.nil ⟨(), hS, ⟨?_, trivial⟩, Out.look rfl Out.refl⟩
        show Value.bool (decide ((0 : Int) = 0)) = Value.bool ((decide ((0 : Int) = 0) && decide ((0 : Int) = 0)) && decide ((0 : Int) = 0))
        rw [g_80]; rfl
      · -- False
        have gp_82 := g_80
        try simp only [Bool.and_eq_true, Bool.or_eq_true, Bool.not_eq_true', Bool.and_eq_false_iff, Bool.or_eq_false_iff, Bool.not_eq_false', decide_eq_true_eq, decide_eq_false_iff_not, not_or, Bool.false_eq_true, Bool.true_eq_false, false_or, or_false, not_false_eq_true] at gp_82
        refine Wx.gnoB rfl rfl (congrArg Value.bool g_80) rfl rfl ?_
        refine Wx.gnoB rfl rfl (congrArg Value.bool g_80) rfl rfl ?_
        refine Wx.rd (v := .bool false) (rd_pickF (congrArg Value.bool g_80) rfl) rfl ?_
        refine Wx.nil ⟨(), hS, ⟨?_, trivial⟩, Out.look rfl Out.refl⟩
        show Value.bool false = Value.bool ((decide ((0 : Int) = 0) && decide ((0 : Int) = 0)) && decide ((0 : Int) = 0))
        rw [g_80]; rfl
    rintro ⟨⟩ u_84 w_83 hS
    refine Wx.rd (v := .bool ((decide ((0 : Int) = 0) && decide ((0 : Int) = 0)) && decide ((0 : Int) = 0))) (rd_move rfl) rfl ?_
    refine Wx.cut (X := Unit) 3 [106, 107, 108] (fun _ => [(108, .bool (((decide ((0 : Int) = 0) && decide ((0 : Int) = 0)) && decide ((0 : Int) = 0)) && decide ((0 : Int) = 0)))]) (fun _ w' => St w O w' [Ob.v (tSl (tP (tI .i64) (tI .i64))) (stepsV rP) v_22, .row (tP (tI .i64) (tI .i64)) 58 v_16 (forcedP rP), .row (tP (tI .i64) (tI .i64)) 58 v_7 (firstV rR)]) ?_ ?_
    · rcases Bool.eq_false_or_eq_true ((decide ((0 : Int) = 0) && decide ((0 : Int) = 0)) && decide ((0 : Int) = 0)) with g_85 | g_85
      · -- True
        have gp_86 := g_85
        try simp only [Bool.and_eq_true, Bool.or_eq_true, Bool.not_eq_true', Bool.and_eq_false_iff, Bool.or_eq_false_iff, Bool.not_eq_false', decide_eq_true_eq, decide_eq_false_iff_not, not_or, Bool.false_eq_true, Bool.true_eq_false, false_or, or_false, not_false_eq_true] at gp_86
        refine Wx.gyes rfl rfl (congrArg Value.bool g_85) ?_
        refine Wx.rd (v := .int .i64 0) (rd_move rfl) rfl ?_
        refine Wx.gyes rfl rfl (congrArg Value.bool g_85) ?_
        refine Wx.rd (v := .bool (decide ((0 : Int) = 0))) (rd_eql rfl rfl) rfl ?_
        refine Wx.rd (v := .bool (decide ((0 : Int) = 0))) (rd_pickT (congrArg Value.bool g_85) rfl) rfl ?_
        refine Wx.nil ⟨(), hS, ⟨?_, trivial⟩, Out.look rfl Out.refl⟩
        show Value.bool (decide ((0 : Int) = 0)) = Value.bool (((decide ((0 : Int) = 0) && decide ((0 : Int) = 0)) && decide ((0 : Int) = 0)) && decide ((0 : Int) = 0))
        rw [g_85]; rfl
      · -- False
        have gp_87 := g_85
        try simp only [Bool.and_eq_true, Bool.or_eq_true, Bool.not_eq_true', Bool.and_eq_false_iff, Bool.or_eq_false_iff, Bool.not_eq_false', decide_eq_true_eq, decide_eq_false_iff_not, not_or, Bool.false_eq_true, Bool.true_eq_false, false_or, or_false, not_false_eq_true] at gp_87
        refine Wx.gnoB rfl rfl (congrArg Value.bool g_85) rfl rfl ?_
        refine Wx.gnoB rfl rfl (congrArg Value.bool g_85) rfl rfl ?_
        refine Wx.rd (v := .bool false) (rd_pickF (congrArg Value.bool g_85) rfl) rfl ?_
        refine Wx.nil ⟨(), hS, ⟨?_, trivial⟩, Out.look rfl Out.refl⟩
        show Value.bool false = Value.bool (((decide ((0 : Int) = 0) && decide ((0 : Int) = 0)) && decide ((0 : Int) = 0)) && decide ((0 : Int) = 0))
        rw [g_85]; rfl
    rintro ⟨⟩ u_89 w_88 hS
    refine Wx.rd (v := .bool (((decide ((0 : Int) = 0) && decide ((0 : Int) = 0)) && decide ((0 : Int) = 0)) && decide ((0 : Int) = 0))) (rd_move rfl) rfl ?_
    refine Wx.cut (X := Unit) 3 [110, 111, 112] (fun _ => [(112, .bool ((((decide ((0 : Int) = 0) && decide ((0 : Int) = 0)) && decide ((0 : Int) = 0)) && decide ((0 : Int) = 0)) && decide ((0 : Int) = 0)))]) (fun _ w' => St w O w' [Ob.v (tSl (tP (tI .i64) (tI .i64))) (stepsV rP) v_22, .row (tP (tI .i64) (tI .i64)) 58 v_16 (forcedP rP), .row (tP (tI .i64) (tI .i64)) 58 v_7 (firstV rR)]) ?_ ?_
    · rcases Bool.eq_false_or_eq_true (((decide ((0 : Int) = 0) && decide ((0 : Int) = 0)) && decide ((0 : Int) = 0)) && decide ((0 : Int) = 0)) with g_90 | g_90
      · -- True
        have gp_91 := g_90
        try simp only [Bool.and_eq_true, Bool.or_eq_true, Bool.not_eq_true', Bool.and_eq_false_iff, Bool.or_eq_false_iff, Bool.not_eq_false', decide_eq_true_eq, decide_eq_false_iff_not, not_or, Bool.false_eq_true, Bool.true_eq_false, false_or, or_false, not_false_eq_true] at gp_91
        refine Wx.gyes rfl rfl (congrArg Value.bool g_90) ?_
        refine Wx.rd (v := .int .i64 0) (rd_move rfl) rfl ?_
        refine Wx.gyes rfl rfl (congrArg Value.bool g_90) ?_
        refine Wx.rd (v := .bool (decide ((0 : Int) = 0))) (rd_eql rfl rfl) rfl ?_
        refine Wx.rd (v := .bool (decide ((0 : Int) = 0))) (rd_pickT (congrArg Value.bool g_90) rfl) rfl ?_
        refine Wx.nil ⟨(), hS, ⟨?_, trivial⟩, Out.look rfl Out.refl⟩
        show Value.bool (decide ((0 : Int) = 0)) = Value.bool ((((decide ((0 : Int) = 0) && decide ((0 : Int) = 0)) && decide ((0 : Int) = 0)) && decide ((0 : Int) = 0)) && decide ((0 : Int) = 0))
        rw [g_90]; rfl
      · -- False
        have gp_92 := g_90
        try simp only [Bool.and_eq_true, Bool.or_eq_true, Bool.not_eq_true', Bool.and_eq_false_iff, Bool.or_eq_false_iff, Bool.not_eq_false', decide_eq_true_eq, decide_eq_false_iff_not, not_or, Bool.false_eq_true, Bool.true_eq_false, false_or, or_false, not_false_eq_true] at gp_92
        refine Wx.gnoB rfl rfl (congrArg Value.bool g_90) rfl rfl ?_
        refine Wx.gnoB rfl rfl (congrArg Value.bool g_90) rfl rfl ?_
        refine Wx.rd (v := .bool false) (rd_pickF (congrArg Value.bool g_90) rfl) rfl ?_
        refine Wx.nil ⟨(), hS, ⟨?_, trivial⟩, Out.look rfl Out.refl⟩
        show Value.bool false = Value.bool ((((decide ((0 : Int) = 0) && decide ((0 : Int) = 0)) && decide ((0 : Int) = 0)) && decide ((0 : Int) = 0)) && decide ((0 : Int) = 0))
        rw [g_90]; rfl
    rintro ⟨⟩ u_94 w_93 hS
    refine Wx.rd (v := .bool ((((decide ((0 : Int) = 0) && decide ((0 : Int) = 0)) && decide ((0 : Int) = 0)) && decide ((0 : Int) = 0)) && decide ((0 : Int) = 0))) (rd_move rfl) rfl ?_
    refine Wx.cut (X := Unit) 3 [114, 115, 116] (fun _ => [(116, .bool (((((decide ((0 : Int) = 0) && decide ((0 : Int) = 0)) && decide ((0 : Int) = 0)) && decide ((0 : Int) = 0)) && decide ((0 : Int) = 0)) && decide ((0 : Int) = 0)))]) (fun _ w' => St w O w' [Ob.v (tSl (tP (tI .i64) (tI .i64))) (stepsV rP) v_22, .row (tP (tI .i64) (tI .i64)) 58 v_16 (forcedP rP), .row (tP (tI .i64) (tI .i64)) 58 v_7 (firstV rR)]) ?_ ?_
    · rcases Bool.eq_false_or_eq_true ((((decide ((0 : Int) = 0) && decide ((0 : Int) = 0)) && decide ((0 : Int) = 0)) && decide ((0 : Int) = 0)) && decide ((0 : Int) = 0)) with g_95 | g_95
      · -- True
        have gp_96 := g_95
        try simp only [Bool.and_eq_true, Bool.or_eq_true, Bool.not_eq_true', Bool.and_eq_false_iff, Bool.or_eq_false_iff, Bool.not_eq_false', decide_eq_true_eq, decide_eq_false_iff_not, not_or, Bool.false_eq_true, Bool.true_eq_false, false_or, or_false, not_false_eq_true] at gp_96
        refine Wx.gyes rfl rfl (congrArg Value.bool g_95) ?_
        refine Wx.rd (v := .int .i64 0) (rd_move rfl) rfl ?_
        refine Wx.gyes rfl rfl (congrArg Value.bool g_95) ?_
        refine Wx.rd (v := .bool (decide ((0 : Int) = 0))) (rd_eql rfl rfl) rfl ?_
        refine Wx.rd (v := .bool (decide ((0 : Int) = 0))) (rd_pickT (congrArg Value.bool g_95) rfl) rfl ?_
        refine Wx.nil ⟨(), hS, ⟨?_, trivial⟩, Out.look rfl Out.refl⟩
        show Value.bool (decide ((0 : Int) = 0)) = Value.bool (((((decide ((0 : Int) = 0) && decide ((0 : Int) = 0)) && decide ((0 : Int) = 0)) && decide ((0 : Int) = 0)) && decide ((0 : Int) = 0)) && decide ((0 : Int) = 0))
        rw [g_95]; rfl
      · -- False
        have gp_97 := g_95
        try simp only [Bool.and_eq_true, Bool.or_eq_true, Bool.not_eq_true', Bool.and_eq_false_iff, Bool.or_eq_false_iff, Bool.not_eq_false', decide_eq_true_eq, decide_eq_false_iff_not, not_or, Bool.false_eq_true, Bool.true_eq_false, false_or, or_false, not_false_eq_true] at gp_97
        refine Wx.gnoB rfl rfl (congrArg Value.bool g_95) rfl rfl ?_
        refine Wx.gnoB rfl rfl (congrArg Value.bool g_95) rfl rfl ?_
        refine Wx.rd (v := .bool false) (rd_pickF (congrArg Value.bool g_95) rfl) rfl ?_
        refine Wx.nil ⟨(), hS, ⟨?_, trivial⟩, Out.look rfl Out.refl⟩
        show Value.bool false = Value.bool (((((decide ((0 : Int) = 0) && decide ((0 : Int) = 0)) && decide ((0 : Int) = 0)) && decide ((0 : Int) = 0)) && decide ((0 : Int) = 0)) && decide ((0 : Int) = 0))
        rw [g_95]; rfl
    rintro ⟨⟩ u_99 w_98 hS
    refine Wx.rd (v := .bool (((((decide ((0 : Int) = 0) && decide ((0 : Int) = 0)) && decide ((0 : Int) = 0)) && decide ((0 : Int) = 0)) && decide ((0 : Int) = 0)) && decide ((0 : Int) = 0))) (rd_move rfl) rfl ?_
    refine Wx.cut (X := Unit) 3 [118, 119, 120] (fun _ => [(120, .bool ((((((decide ((0 : Int) = 0) && decide ((0 : Int) = 0)) && decide ((0 : Int) = 0)) && decide ((0 : Int) = 0)) && decide ((0 : Int) = 0)) && decide ((0 : Int) = 0)) && decide ((0 : Int) = 0)))]) (fun _ w' => St w O w' [Ob.v (tSl (tP (tI .i64) (tI .i64))) (stepsV rP) v_22, .row (tP (tI .i64) (tI .i64)) 58 v_16 (forcedP rP), .row (tP (tI .i64) (tI .i64)) 58 v_7 (firstV rR)]) ?_ ?_
    · rcases Bool.eq_false_or_eq_true (((((decide ((0 : Int) = 0) && decide ((0 : Int) = 0)) && decide ((0 : Int) = 0)) && decide ((0 : Int) = 0)) && decide ((0 : Int) = 0)) && decide ((0 : Int) = 0)) with g_100 | g_100
      · -- True
        have gp_101 := g_100
        try simp only [Bool.and_eq_true, Bool.or_eq_true, Bool.not_eq_true', Bool.and_eq_false_iff, Bool.or_eq_false_iff, Bool.not_eq_false', decide_eq_true_eq, decide_eq_false_iff_not, not_or, Bool.false_eq_true, Bool.true_eq_false, false_or, or_false, not_false_eq_true] at gp_101
        refine Wx.gyes rfl rfl (congrArg Value.bool g_100) ?_
        refine Wx.rd (v := .int .i64 0) (rd_move rfl) rfl ?_
        refine Wx.gyes rfl rfl (congrArg Value.bool g_100) ?_
        refine Wx.rd (v := .bool (decide ((0 : Int) = 0))) (rd_eql rfl rfl) rfl ?_
        refine Wx.rd (v := .bool (decide ((0 : Int) = 0))) (rd_pickT (congrArg Value.bool g_100) rfl) rfl ?_
        refine Wx.nil ⟨(), hS, ⟨?_, trivial⟩, Out.look rfl Out.refl⟩
        show Value.bool (decide ((0 : Int) = 0)) = Value.bool ((((((decide ((0 : Int) = 0) && decide ((0 : Int) = 0)) && decide ((0 : Int) = 0)) && decide ((0 : Int) = 0)) && decide ((0 : Int) = 0)) && decide ((0 : Int) = 0)) && decide ((0 : Int) = 0))
        rw [g_100]; rfl
      · -- False
        have gp_102 := g_100
        try simp only [Bool.and_eq_true, Bool.or_eq_true, Bool.not_eq_true', Bool.and_eq_false_iff, Bool.or_eq_false_iff, Bool.not_eq_false', decide_eq_true_eq, decide_eq_false_iff_not, not_or, Bool.false_eq_true, Bool.true_eq_false, false_or, or_false, not_false_eq_true] at gp_102
        refine Wx.gnoB rfl rfl (congrArg Value.bool g_100) rfl rfl ?_
        refine Wx.gnoB rfl rfl (congrArg Value.bool g_100) rfl rfl ?_
        refine Wx.rd (v := .bool false) (rd_pickF (congrArg Value.bool g_100) rfl) rfl ?_
        refine Wx.nil ⟨(), hS, ⟨?_, trivial⟩, Out.look rfl Out.refl⟩
        show Value.bool false = Value.bool ((((((decide ((0 : Int) = 0) && decide ((0 : Int) = 0)) && decide ((0 : Int) = 0)) && decide ((0 : Int) = 0)) && decide ((0 : Int) = 0)) && decide ((0 : Int) = 0)) && decide ((0 : Int) = 0))
        rw [g_100]; rfl
    rintro ⟨⟩ u_104 w_103 hS
    refine Wx.rd (v := .bool ((((((decide ((0 : Int) = 0) && decide ((0 : Int) = 0)) && decide ((0 : Int) = 0)) && decide ((0 : Int) = 0)) && decide ((0 : Int) = 0)) && decide ((0 : Int) = 0)) && decide ((0 : Int) = 0))) (rd_move rfl) rfl ?_
    refine Wx.cut (X := Unit) 3 [122, 123, 124] (fun _ => [(124, .bool (((((((decide ((0 : Int) = 0) && decide ((0 : Int) = 0)) && decide ((0 : Int) = 0)) && decide ((0 : Int) = 0)) && decide ((0 : Int) = 0)) && decide ((0 : Int) = 0)) && decide ((0 : Int) = 0)) && decide ((1 : Int) = 1)))]) (fun _ w' => St w O w' [Ob.v (tSl (tP (tI .i64) (tI .i64))) (stepsV rP) v_22, .row (tP (tI .i64) (tI .i64)) 58 v_16 (forcedP rP), .row (tP (tI .i64) (tI .i64)) 58 v_7 (firstV rR)]) ?_ ?_
    · rcases Bool.eq_false_or_eq_true ((((((decide ((0 : Int) = 0) && decide ((0 : Int) = 0)) && decide ((0 : Int) = 0)) && decide ((0 : Int) = 0)) && decide ((0 : Int) = 0)) && decide ((0 : Int) = 0)) && decide ((0 : Int) = 0)) with g_105 | g_105
      · -- True
        have gp_106 := g_105
        try simp only [Bool.and_eq_true, Bool.or_eq_true, Bool.not_eq_true', Bool.and_eq_false_iff, Bool.or_eq_false_iff, Bool.not_eq_false', decide_eq_true_eq, decide_eq_false_iff_not, not_or, Bool.false_eq_true, Bool.true_eq_false, false_or, or_false, not_false_eq_true] at gp_106
        refine Wx.gyes rfl rfl (congrArg Value.bool g_105) ?_
        refine Wx.rd (v := .int .i64 1) (rd_move rfl) rfl ?_
        refine Wx.gyes rfl rfl (congrArg Value.bool g_105) ?_
        refine Wx.rd (v := .bool (decide ((1 : Int) = 1))) (rd_eql rfl rfl) rfl ?_
        refine Wx.rd (v := .bool (decide ((1 : Int) = 1))) (rd_pickT (congrArg Value.bool g_105) rfl) rfl ?_
        refine Wx.nil ⟨(), hS, ⟨?_, trivial⟩, Out.look rfl Out.refl⟩
        show Value.bool (decide ((1 : Int) = 1)) = Value.bool (((((((decide ((0 : Int) = 0) && decide ((0 : Int) = 0)) && decide ((0 : Int) = 0)) && decide ((0 : Int) = 0)) && decide ((0 : Int) = 0)) && decide ((0 : Int) = 0)) && decide ((0 : Int) = 0)) && decide ((1 : Int) = 1))
        rw [g_105]; rfl
      · -- False
        have gp_107 := g_105
        try simp only [Bool.and_eq_true, Bool.or_eq_true, Bool.not_eq_true', Bool.and_eq_false_iff, Bool.or_eq_false_iff, Bool.not_eq_false', decide_eq_true_eq, decide_eq_false_iff_not, not_or, Bool.false_eq_true, Bool.true_eq_false, false_or, or_false, not_false_eq_true] at gp_107
        refine Wx.gnoB rfl rfl (congrArg Value.bool g_105) rfl rfl ?_
        refine Wx.gnoB rfl rfl (congrArg Value.bool g_105) rfl rfl ?_
        refine Wx.rd (v := .bool false) (rd_pickF (congrArg Value.bool g_105) rfl) rfl ?_
        refine Wx.nil ⟨(), hS, ⟨?_, trivial⟩, Out.look rfl Out.refl⟩
        show Value.bool false = Value.bool (((((((decide ((0 : Int) = 0) && decide ((0 : Int) = 0)) && decide ((0 : Int) = 0)) && decide ((0 : Int) = 0)) && decide ((0 : Int) = 0)) && decide ((0 : Int) = 0)) && decide ((0 : Int) = 0)) && decide ((1 : Int) = 1))
        rw [g_105]; rfl
    rintro ⟨⟩ u_109 w_108 hS
    refine Wx.rd (v := .bool (((((((decide ((0 : Int) = 0) && decide ((0 : Int) = 0)) && decide ((0 : Int) = 0)) && decide ((0 : Int) = 0)) && decide ((0 : Int) = 0)) && decide ((0 : Int) = 0)) && decide ((0 : Int) = 0)) && decide ((1 : Int) = 1))) (rd_move rfl) rfl ?_
    refine Wx.cut (X := Unit) 5 [126, 127, 128, 129, 130] (fun _ => [(130, .bool ((((((((decide ((0 : Int) = 0) && decide ((0 : Int) = 0)) && decide ((0 : Int) = 0)) && decide ((0 : Int) = 0)) && decide ((0 : Int) = 0)) && decide ((0 : Int) = 0)) && decide ((0 : Int) = 0)) && decide ((1 : Int) = 1)) && true))]) (fun _ w' => St w O w' [Ob.v (tSl (tP (tI .i64) (tI .i64))) (stepsV rP) v_22, .row (tP (tI .i64) (tI .i64)) 58 v_16 (forcedP rP), .row (tP (tI .i64) (tI .i64)) 58 v_7 (firstV rR)]) ?_ ?_
    · rcases Bool.eq_false_or_eq_true (((((((decide ((0 : Int) = 0) && decide ((0 : Int) = 0)) && decide ((0 : Int) = 0)) && decide ((0 : Int) = 0)) && decide ((0 : Int) = 0)) && decide ((0 : Int) = 0)) && decide ((0 : Int) = 0)) && decide ((1 : Int) = 1)) with g_110 | g_110
      · -- True
        have gp_111 := g_110
        try simp only [Bool.and_eq_true, Bool.or_eq_true, Bool.not_eq_true', Bool.and_eq_false_iff, Bool.or_eq_false_iff, Bool.not_eq_false', decide_eq_true_eq, decide_eq_false_iff_not, not_or, Bool.false_eq_true, Bool.true_eq_false, false_or, or_false, not_false_eq_true] at gp_111
        refine Wx.gyes rfl rfl (congrArg Value.bool g_110) ?_
        refine Wx.rd (v := v_7) (rd_move rfl) rfl ?_
        refine Wx.gyes rfl rfl (congrArg Value.bool g_110) ?_
        refine Wx.lit (t := (tI .i64)) (ys := [0, 1, 2, 3]) (vs := [.int .i64 0, .int .i64 1, .int .i64 2, .int .i64 3]) elHm_60 hS rfl rfl ⟨(V.mkInt (in_i64 (by omega) (by omega))), ⟨(V.mkInt (in_i64 (by omega) (by omega))), ⟨(V.mkInt (in_i64 (by omega) (by omega))), ⟨(V.mkInt (in_i64 (by omega) (by omega))), trivial⟩⟩⟩⟩ (by decide) rfl (fun v_112 w_113 hx_114 hS => ?_)
        refine Wx.gyes rfl rfl (congrArg Value.bool g_110) ?_
        have hS := hS.freeze 0 rfl
        refine Wx.callF (run_callF Tryd.call48 rfl) (F48 (hS.v 0 rfl) (by decide) hS.fb_lt) rfl ?_
        rintro r_116 w_117 hx_118 ⟨_, rfl, hv_119⟩
        have hS := hS.pushFr hx_118 hv_119
        refine Wx.gyes rfl rfl (congrArg Value.bool g_110) ?_
        refine Wx.callF (run_callF Tryd.call29 rfl) (F29 (hS.lend 4 rfl) (hS.lend 0 rfl)) rfl ?_
        rintro r_121 w_122 hx_123 rfl
        have hS := hS.ext hx_123
        rw [show (decide ((firstV rR) = (pairsU [0, 1, 2, 3])) : Bool) = true from (by decide +kernel)]
        refine Wx.rd (v := .bool true) (rd_pickT (congrArg Value.bool g_110) rfl) rfl ?_
        refine Wx.nil ⟨(), St.tl (hS.tl), ⟨?_, trivial⟩, Out.look rfl Out.refl⟩
        show Value.bool true = Value.bool ((((((((decide ((0 : Int) = 0) && decide ((0 : Int) = 0)) && decide ((0 : Int) = 0)) && decide ((0 : Int) = 0)) && decide ((0 : Int) = 0)) && decide ((0 : Int) = 0)) && decide ((0 : Int) = 0)) && decide ((1 : Int) = 1)) && true)
        rw [g_110]; rfl
      · -- False
        have gp_124 := g_110
        try simp only [Bool.and_eq_true, Bool.or_eq_true, Bool.not_eq_true', Bool.and_eq_false_iff, Bool.or_eq_false_iff, Bool.not_eq_false', decide_eq_true_eq, decide_eq_false_iff_not, not_or, Bool.false_eq_true, Bool.true_eq_false, false_or, or_false, not_false_eq_true] at gp_124
        refine Wx.gnoB rfl rfl (congrArg Value.bool g_110) rfl rfl ?_
        refine Wx.gnoB rfl rfl (congrArg Value.bool g_110) rfl rfl ?_
        refine Wx.gnoB rfl rfl (congrArg Value.bool g_110) rfl rfl ?_
        refine Wx.gnoB rfl rfl (congrArg Value.bool g_110) rfl rfl ?_
        refine Wx.rd (v := .bool false) (rd_pickF (congrArg Value.bool g_110) rfl) rfl ?_
        refine Wx.nil ⟨(), hS, ⟨?_, trivial⟩, Out.look rfl Out.refl⟩
        show Value.bool false = Value.bool ((((((((decide ((0 : Int) = 0) && decide ((0 : Int) = 0)) && decide ((0 : Int) = 0)) && decide ((0 : Int) = 0)) && decide ((0 : Int) = 0)) && decide ((0 : Int) = 0)) && decide ((0 : Int) = 0)) && decide ((1 : Int) = 1)) && true)
        rw [g_110]; rfl
    rintro ⟨⟩ u_126 w_125 hS
    refine Wx.rd (v := .bool ((((((((decide ((0 : Int) = 0) && decide ((0 : Int) = 0)) && decide ((0 : Int) = 0)) && decide ((0 : Int) = 0)) && decide ((0 : Int) = 0)) && decide ((0 : Int) = 0)) && decide ((0 : Int) = 0)) && decide ((1 : Int) = 1)) && true)) (rd_move rfl) rfl ?_
    refine Wx.cut (X := Unit) 3 [132, 133, 134] (fun _ => [(134, .bool (((((((((decide ((0 : Int) = 0) && decide ((0 : Int) = 0)) && decide ((0 : Int) = 0)) && decide ((0 : Int) = 0)) && decide ((0 : Int) = 0)) && decide ((0 : Int) = 0)) && decide ((0 : Int) = 0)) && decide ((1 : Int) = 1)) && true) && decide ((2 : Int) = 2)))]) (fun _ w' => St w O w' [Ob.v (tSl (tP (tI .i64) (tI .i64))) (stepsV rP) v_22, .row (tP (tI .i64) (tI .i64)) 58 v_16 (forcedP rP), .row (tP (tI .i64) (tI .i64)) 58 v_7 (firstV rR)]) ?_ ?_
    · rcases Bool.eq_false_or_eq_true ((((((((decide ((0 : Int) = 0) && decide ((0 : Int) = 0)) && decide ((0 : Int) = 0)) && decide ((0 : Int) = 0)) && decide ((0 : Int) = 0)) && decide ((0 : Int) = 0)) && decide ((0 : Int) = 0)) && decide ((1 : Int) = 1)) && true) with g_127 | g_127
      · -- True
        have gp_128 := g_127
        try simp only [Bool.and_eq_true, Bool.or_eq_true, Bool.not_eq_true', Bool.and_eq_false_iff, Bool.or_eq_false_iff, Bool.not_eq_false', decide_eq_true_eq, decide_eq_false_iff_not, not_or, Bool.false_eq_true, Bool.true_eq_false, false_or, or_false, not_false_eq_true] at gp_128
        refine Wx.gyes rfl rfl (congrArg Value.bool g_127) ?_
        refine Wx.rd (v := .int .i64 2) (rd_move rfl) rfl ?_
        refine Wx.gyes rfl rfl (congrArg Value.bool g_127) ?_
        refine Wx.rd (v := .bool (decide ((2 : Int) = 2))) (rd_eql rfl rfl) rfl ?_
        refine Wx.rd (v := .bool (decide ((2 : Int) = 2))) (rd_pickT (congrArg Value.bool g_127) rfl) rfl ?_
        refine Wx.nil ⟨(), hS, ⟨?_, trivial⟩, Out.look rfl Out.refl⟩
        show Value.bool (decide ((2 : Int) = 2)) = Value.bool (((((((((decide ((0 : Int) = 0) && decide ((0 : Int) = 0)) && decide ((0 : Int) = 0)) && decide ((0 : Int) = 0)) && decide ((0 : Int) = 0)) && decide ((0 : Int) = 0)) && decide ((0 : Int) = 0)) && decide ((1 : Int) = 1)) && true) && decide ((2 : Int) = 2))
        rw [g_127]; rfl
      · -- False
        have gp_129 := g_127
        try simp only [Bool.and_eq_true, Bool.or_eq_true, Bool.not_eq_true', Bool.and_eq_false_iff, Bool.or_eq_false_iff, Bool.not_eq_false', decide_eq_true_eq, decide_eq_false_iff_not, not_or, Bool.false_eq_true, Bool.true_eq_false, false_or, or_false, not_false_eq_true] at gp_129
        refine Wx.gnoB rfl rfl (congrArg Value.bool g_127) rfl rfl ?_
        refine Wx.gnoB rfl rfl (congrArg Value.bool g_127) rfl rfl ?_
        refine Wx.rd (v := .bool false) (rd_pickF (congrArg Value.bool g_127) rfl) rfl ?_
        refine Wx.nil ⟨(), hS, ⟨?_, trivial⟩, Out.look rfl Out.refl⟩
        show Value.bool false = Value.bool (((((((((decide ((0 : Int) = 0) && decide ((0 : Int) = 0)) && decide ((0 : Int) = 0)) && decide ((0 : Int) = 0)) && decide ((0 : Int) = 0)) && decide ((0 : Int) = 0)) && decide ((0 : Int) = 0)) && decide ((1 : Int) = 1)) && true) && decide ((2 : Int) = 2))
        rw [g_127]; rfl
    rintro ⟨⟩ u_131 w_130 hS
    refine Wx.rd (v := .bool (((((((((decide ((0 : Int) = 0) && decide ((0 : Int) = 0)) && decide ((0 : Int) = 0)) && decide ((0 : Int) = 0)) && decide ((0 : Int) = 0)) && decide ((0 : Int) = 0)) && decide ((0 : Int) = 0)) && decide ((1 : Int) = 1)) && true) && decide ((2 : Int) = 2))) (rd_move rfl) rfl ?_
    refine Wx.cut (X := Unit) 5 [136, 137, 138, 139, 140] (fun _ => [(140, .bool ((((((((((decide ((0 : Int) = 0) && decide ((0 : Int) = 0)) && decide ((0 : Int) = 0)) && decide ((0 : Int) = 0)) && decide ((0 : Int) = 0)) && decide ((0 : Int) = 0)) && decide ((0 : Int) = 0)) && decide ((1 : Int) = 1)) && true) && decide ((2 : Int) = 2)) && true))]) (fun _ w' => St w O w' [Ob.v (tSl (tP (tI .i64) (tI .i64))) (stepsV rP) v_22, .row (tP (tI .i64) (tI .i64)) 58 v_16 (forcedP rP), .row (tP (tI .i64) (tI .i64)) 58 v_7 (firstV rR)]) ?_ ?_
    · rcases Bool.eq_false_or_eq_true (((((((((decide ((0 : Int) = 0) && decide ((0 : Int) = 0)) && decide ((0 : Int) = 0)) && decide ((0 : Int) = 0)) && decide ((0 : Int) = 0)) && decide ((0 : Int) = 0)) && decide ((0 : Int) = 0)) && decide ((1 : Int) = 1)) && true) && decide ((2 : Int) = 2)) with g_132 | g_132
      · -- True
        have gp_133 := g_132
        try simp only [Bool.and_eq_true, Bool.or_eq_true, Bool.not_eq_true', Bool.and_eq_false_iff, Bool.or_eq_false_iff, Bool.not_eq_false', decide_eq_true_eq, decide_eq_false_iff_not, not_or, Bool.false_eq_true, Bool.true_eq_false, false_or, or_false, not_false_eq_true] at gp_133
        refine Wx.gyes rfl rfl (congrArg Value.bool g_132) ?_
        refine Wx.rd (v := v_16) (rd_move rfl) rfl ?_
        refine Wx.gyes rfl rfl (congrArg Value.bool g_132) ?_
        refine Wx.lit (t := (tI .i64)) (ys := [0, 3, 1, 2]) (vs := [.int .i64 0, .int .i64 3, .int .i64 1, .int .i64 2]) elHm_60 hS rfl rfl ⟨(V.mkInt (in_i64 (by omega) (by omega))), ⟨(V.mkInt (in_i64 (by omega) (by omega))), ⟨(V.mkInt (in_i64 (by omega) (by omega))), ⟨(V.mkInt (in_i64 (by omega) (by omega))), trivial⟩⟩⟩⟩ (by decide) rfl (fun v_134 w_135 hx_136 hS => ?_)
        refine Wx.gyes rfl rfl (congrArg Value.bool g_132) ?_
        have hS := hS.freeze 0 rfl
        refine Wx.callF (run_callF Tryd.call48 rfl) (F48 (hS.v 0 rfl) (by decide) hS.fb_lt) rfl ?_
        rintro r_138 w_139 hx_140 ⟨_, rfl, hv_141⟩
        have hS := hS.pushFr hx_140 hv_141
        refine Wx.gyes rfl rfl (congrArg Value.bool g_132) ?_
        refine Wx.callF (run_callF Tryd.call29 rfl) (F29 (hS.lend 3 rfl) (hS.lend 0 rfl)) rfl ?_
        rintro r_143 w_144 hx_145 rfl
        have hS := hS.ext hx_145
        rw [show (decide ((forcedP rP) = (pairsU [0, 3, 1, 2])) : Bool) = true from (by decide +kernel)]
        refine Wx.rd (v := .bool true) (rd_pickT (congrArg Value.bool g_132) rfl) rfl ?_
        refine Wx.nil ⟨(), St.tl (hS.tl), ⟨?_, trivial⟩, Out.look rfl Out.refl⟩
        show Value.bool true = Value.bool ((((((((((decide ((0 : Int) = 0) && decide ((0 : Int) = 0)) && decide ((0 : Int) = 0)) && decide ((0 : Int) = 0)) && decide ((0 : Int) = 0)) && decide ((0 : Int) = 0)) && decide ((0 : Int) = 0)) && decide ((1 : Int) = 1)) && true) && decide ((2 : Int) = 2)) && true)
        rw [g_132]; rfl
      · -- False
        have gp_146 := g_132
        try simp only [Bool.and_eq_true, Bool.or_eq_true, Bool.not_eq_true', Bool.and_eq_false_iff, Bool.or_eq_false_iff, Bool.not_eq_false', decide_eq_true_eq, decide_eq_false_iff_not, not_or, Bool.false_eq_true, Bool.true_eq_false, false_or, or_false, not_false_eq_true] at gp_146
        refine Wx.gnoB rfl rfl (congrArg Value.bool g_132) rfl rfl ?_
        refine Wx.gnoB rfl rfl (congrArg Value.bool g_132) rfl rfl ?_
        refine Wx.gnoB rfl rfl (congrArg Value.bool g_132) rfl rfl ?_
        refine Wx.gnoB rfl rfl (congrArg Value.bool g_132) rfl rfl ?_
        refine Wx.rd (v := .bool false) (rd_pickF (congrArg Value.bool g_132) rfl) rfl ?_
        refine Wx.nil ⟨(), hS, ⟨?_, trivial⟩, Out.look rfl Out.refl⟩
        show Value.bool false = Value.bool ((((((((((decide ((0 : Int) = 0) && decide ((0 : Int) = 0)) && decide ((0 : Int) = 0)) && decide ((0 : Int) = 0)) && decide ((0 : Int) = 0)) && decide ((0 : Int) = 0)) && decide ((0 : Int) = 0)) && decide ((1 : Int) = 1)) && true) && decide ((2 : Int) = 2)) && true)
        rw [g_132]; rfl
    rintro ⟨⟩ u_148 w_147 hS
    refine Wx.rd (v := .bool ((((((((((decide ((0 : Int) = 0) && decide ((0 : Int) = 0)) && decide ((0 : Int) = 0)) && decide ((0 : Int) = 0)) && decide ((0 : Int) = 0)) && decide ((0 : Int) = 0)) && decide ((0 : Int) = 0)) && decide ((1 : Int) = 1)) && true) && decide ((2 : Int) = 2)) && true)) (rd_move rfl) rfl ?_
    refine Wx.cut (X := Unit) 5 [142, 143, 144, 145, 146] (fun _ => [(146, .bool (((((((((((decide ((0 : Int) = 0) && decide ((0 : Int) = 0)) && decide ((0 : Int) = 0)) && decide ((0 : Int) = 0)) && decide ((0 : Int) = 0)) && decide ((0 : Int) = 0)) && decide ((0 : Int) = 0)) && decide ((1 : Int) = 1)) && true) && decide ((2 : Int) = 2)) && true) && true))]) (fun _ w' => St w O w' [Ob.v (tSl (tP (tI .i64) (tI .i64))) (stepsV rP) v_22, .row (tP (tI .i64) (tI .i64)) 58 v_16 (forcedP rP), .row (tP (tI .i64) (tI .i64)) 58 v_7 (firstV rR)]) ?_ ?_
    · rcases Bool.eq_false_or_eq_true ((((((((((decide ((0 : Int) = 0) && decide ((0 : Int) = 0)) && decide ((0 : Int) = 0)) && decide ((0 : Int) = 0)) && decide ((0 : Int) = 0)) && decide ((0 : Int) = 0)) && decide ((0 : Int) = 0)) && decide ((1 : Int) = 1)) && true) && decide ((2 : Int) = 2)) && true) with g_149 | g_149
      · -- True
        have gp_150 := g_149
        try simp only [Bool.and_eq_true, Bool.or_eq_true, Bool.not_eq_true', Bool.and_eq_false_iff, Bool.or_eq_false_iff, Bool.not_eq_false', decide_eq_true_eq, decide_eq_false_iff_not, not_or, Bool.false_eq_true, Bool.true_eq_false, false_or, or_false, not_false_eq_true] at gp_150
        refine Wx.gyes rfl rfl (congrArg Value.bool g_149) ?_
        refine Wx.rd (v := v_22) (rd_move rfl) rfl ?_
        refine Wx.gyes rfl rfl (congrArg Value.bool g_149) ?_
        refine Wx.lit (t := (tI .i64)) (ys := [1, 2, 0, 3]) (vs := [.int .i64 1, .int .i64 2, .int .i64 0, .int .i64 3]) elHm_60 hS rfl rfl ⟨(V.mkInt (in_i64 (by omega) (by omega))), ⟨(V.mkInt (in_i64 (by omega) (by omega))), ⟨(V.mkInt (in_i64 (by omega) (by omega))), ⟨(V.mkInt (in_i64 (by omega) (by omega))), trivial⟩⟩⟩⟩ (by decide) rfl (fun v_151 w_152 hx_153 hS => ?_)
        refine Wx.gyes rfl rfl (congrArg Value.bool g_149) ?_
        have hS := hS.freeze 0 rfl
        refine Wx.callF (run_callF Tryd.call48 rfl) (F48 (hS.v 0 rfl) (by decide) hS.fb_lt) rfl ?_
        rintro r_155 w_156 hx_157 ⟨_, rfl, hv_158⟩
        have hS := hS.pushFr hx_157 hv_158
        refine Wx.gyes rfl rfl (congrArg Value.bool g_149) ?_
        refine Wx.callF (run_callF Tryd.call29 rfl) (F29 (hS.v 2 rfl) (hS.lend 0 rfl)) rfl ?_
        rintro r_160 w_161 hx_162 rfl
        have hS := hS.ext hx_162
        rw [show (decide ((stepsV rP) = (pairsU [1, 2, 0, 3])) : Bool) = true from (by decide +kernel)]
        refine Wx.rd (v := .bool true) (rd_pickT (congrArg Value.bool g_149) rfl) rfl ?_
        refine Wx.nil ⟨(), St.tl (hS.tl), ⟨?_, trivial⟩, Out.look rfl Out.refl⟩
        show Value.bool true = Value.bool (((((((((((decide ((0 : Int) = 0) && decide ((0 : Int) = 0)) && decide ((0 : Int) = 0)) && decide ((0 : Int) = 0)) && decide ((0 : Int) = 0)) && decide ((0 : Int) = 0)) && decide ((0 : Int) = 0)) && decide ((1 : Int) = 1)) && true) && decide ((2 : Int) = 2)) && true) && true)
        rw [g_149]; rfl
      · -- False
        have gp_163 := g_149
        try simp only [Bool.and_eq_true, Bool.or_eq_true, Bool.not_eq_true', Bool.and_eq_false_iff, Bool.or_eq_false_iff, Bool.not_eq_false', decide_eq_true_eq, decide_eq_false_iff_not, not_or, Bool.false_eq_true, Bool.true_eq_false, false_or, or_false, not_false_eq_true] at gp_163
        refine Wx.gnoB rfl rfl (congrArg Value.bool g_149) rfl rfl ?_
        refine Wx.gnoB rfl rfl (congrArg Value.bool g_149) rfl rfl ?_
        refine Wx.gnoB rfl rfl (congrArg Value.bool g_149) rfl rfl ?_
        refine Wx.gnoB rfl rfl (congrArg Value.bool g_149) rfl rfl ?_
        refine Wx.rd (v := .bool false) (rd_pickF (congrArg Value.bool g_149) rfl) rfl ?_
        refine Wx.nil ⟨(), hS, ⟨?_, trivial⟩, Out.look rfl Out.refl⟩
        show Value.bool false = Value.bool (((((((((((decide ((0 : Int) = 0) && decide ((0 : Int) = 0)) && decide ((0 : Int) = 0)) && decide ((0 : Int) = 0)) && decide ((0 : Int) = 0)) && decide ((0 : Int) = 0)) && decide ((0 : Int) = 0)) && decide ((1 : Int) = 1)) && true) && decide ((2 : Int) = 2)) && true) && true)
        rw [g_149]; rfl
    rintro ⟨⟩ u_165 w_164 hS
    refine Wx.rd (v := .bool (((((((((((decide ((0 : Int) = 0) && decide ((0 : Int) = 0)) && decide ((0 : Int) = 0)) && decide ((0 : Int) = 0)) && decide ((0 : Int) = 0)) && decide ((0 : Int) = 0)) && decide ((0 : Int) = 0)) && decide ((1 : Int) = 1)) && true) && decide ((2 : Int) = 2)) && true) && true)) (rd_move rfl) rfl ?_
    refine Wx.cut (X := Unit) 3 [148, 149, 150] (fun _ => [(150, .bool ((((((((((((decide ((0 : Int) = 0) && decide ((0 : Int) = 0)) && decide ((0 : Int) = 0)) && decide ((0 : Int) = 0)) && decide ((0 : Int) = 0)) && decide ((0 : Int) = 0)) && decide ((0 : Int) = 0)) && decide ((1 : Int) = 1)) && true) && decide ((2 : Int) = 2)) && true) && true) && true))]) (fun _ w' => St w O w' [Ob.v (tSl (tP (tI .i64) (tI .i64))) (stepsV rP) v_22, .row (tP (tI .i64) (tI .i64)) 58 v_16 (forcedP rP), .row (tP (tI .i64) (tI .i64)) 58 v_7 (firstV rR)]) ?_ ?_
    · rcases Bool.eq_false_or_eq_true (((((((((((decide ((0 : Int) = 0) && decide ((0 : Int) = 0)) && decide ((0 : Int) = 0)) && decide ((0 : Int) = 0)) && decide ((0 : Int) = 0)) && decide ((0 : Int) = 0)) && decide ((0 : Int) = 0)) && decide ((1 : Int) = 1)) && true) && decide ((2 : Int) = 2)) && true) && true) with g_166 | g_166
      · -- True
        have gp_167 := g_166
        try simp only [Bool.and_eq_true, Bool.or_eq_true, Bool.not_eq_true', Bool.and_eq_false_iff, Bool.or_eq_false_iff, Bool.not_eq_false', decide_eq_true_eq, decide_eq_false_iff_not, not_or, Bool.false_eq_true, Bool.true_eq_false, false_or, or_false, not_false_eq_true] at gp_167
        refine Wx.gyes rfl rfl (congrArg Value.bool g_166) ?_
        refine Wx.rd (v := .string (restE rQ)) (rd_move rfl) rfl ?_
        refine Wx.gyes rfl rfl (congrArg Value.bool g_166) ?_
        refine Wx.rd (v := .bool true) (Rd.to (v := .bool ((restE rQ) == rQ)) (rd_eqlS rfl rfl) (congrArg (Value.bool) (show (true : Bool) = ((restE rQ) == rQ : Bool) from (by decide +kernel)).symm)) rfl ?_
        refine Wx.rd (v := .bool true) (rd_pickT (congrArg Value.bool g_166) rfl) rfl ?_
        refine Wx.nil ⟨(), hS, ⟨?_, trivial⟩, Out.look rfl Out.refl⟩
        show Value.bool true = Value.bool ((((((((((((decide ((0 : Int) = 0) && decide ((0 : Int) = 0)) && decide ((0 : Int) = 0)) && decide ((0 : Int) = 0)) && decide ((0 : Int) = 0)) && decide ((0 : Int) = 0)) && decide ((0 : Int) = 0)) && decide ((1 : Int) = 1)) && true) && decide ((2 : Int) = 2)) && true) && true) && true)
        rw [g_166]; rfl
      · -- False
        have gp_168 := g_166
        try simp only [Bool.and_eq_true, Bool.or_eq_true, Bool.not_eq_true', Bool.and_eq_false_iff, Bool.or_eq_false_iff, Bool.not_eq_false', decide_eq_true_eq, decide_eq_false_iff_not, not_or, Bool.false_eq_true, Bool.true_eq_false, false_or, or_false, not_false_eq_true] at gp_168
        refine Wx.gnoB rfl rfl (congrArg Value.bool g_166) rfl rfl ?_
        refine Wx.gnoB rfl rfl (congrArg Value.bool g_166) rfl rfl ?_
        refine Wx.rd (v := .bool false) (rd_pickF (congrArg Value.bool g_166) rfl) rfl ?_
        refine Wx.nil ⟨(), hS, ⟨?_, trivial⟩, Out.look rfl Out.refl⟩
        show Value.bool false = Value.bool ((((((((((((decide ((0 : Int) = 0) && decide ((0 : Int) = 0)) && decide ((0 : Int) = 0)) && decide ((0 : Int) = 0)) && decide ((0 : Int) = 0)) && decide ((0 : Int) = 0)) && decide ((0 : Int) = 0)) && decide ((1 : Int) = 1)) && true) && decide ((2 : Int) = 2)) && true) && true) && true)
        rw [g_166]; rfl
    rintro ⟨⟩ u_170 w_169 hS
    refine Wx.rd (v := .bool ((((((((((((decide ((0 : Int) = 0) && decide ((0 : Int) = 0)) && decide ((0 : Int) = 0)) && decide ((0 : Int) = 0)) && decide ((0 : Int) = 0)) && decide ((0 : Int) = 0)) && decide ((0 : Int) = 0)) && decide ((1 : Int) = 1)) && true) && decide ((2 : Int) = 2)) && true) && true) && true)) (rd_move rfl) rfl ?_
    refine Wx.cut (X := Unit) 2 [152, 153] (fun _ => [(153, .bool (((((((((((((decide ((0 : Int) = 0) && decide ((0 : Int) = 0)) && decide ((0 : Int) = 0)) && decide ((0 : Int) = 0)) && decide ((0 : Int) = 0)) && decide ((0 : Int) = 0)) && decide ((0 : Int) = 0)) && decide ((1 : Int) = 1)) && true) && decide ((2 : Int) = 2)) && true) && true) && true) && true))]) (fun _ w' => St w O w' [Ob.v (tSl (tP (tI .i64) (tI .i64))) (stepsV rP) v_22, .row (tP (tI .i64) (tI .i64)) 58 v_16 (forcedP rP), .row (tP (tI .i64) (tI .i64)) 58 v_7 (firstV rR)]) ?_ ?_
    · rcases Bool.eq_false_or_eq_true ((((((((((((decide ((0 : Int) = 0) && decide ((0 : Int) = 0)) && decide ((0 : Int) = 0)) && decide ((0 : Int) = 0)) && decide ((0 : Int) = 0)) && decide ((0 : Int) = 0)) && decide ((0 : Int) = 0)) && decide ((1 : Int) = 1)) && true) && decide ((2 : Int) = 2)) && true) && true) && true) with g_171 | g_171
      · -- True
        have gp_172 := g_171
        try simp only [Bool.and_eq_true, Bool.or_eq_true, Bool.not_eq_true', Bool.and_eq_false_iff, Bool.or_eq_false_iff, Bool.not_eq_false', decide_eq_true_eq, decide_eq_false_iff_not, not_or, Bool.false_eq_true, Bool.true_eq_false, false_or, or_false, not_false_eq_true] at gp_172
        refine Wx.gyes rfl rfl (congrArg Value.bool g_171) ?_
        refine Wx.rd (v := .bool true) (rd_move rfl) rfl ?_
        refine Wx.rd (v := .bool true) (rd_pickT (congrArg Value.bool g_171) rfl) rfl ?_
        refine Wx.nil ⟨(), hS, ⟨?_, trivial⟩, Out.look rfl Out.refl⟩
        show Value.bool true = Value.bool (((((((((((((decide ((0 : Int) = 0) && decide ((0 : Int) = 0)) && decide ((0 : Int) = 0)) && decide ((0 : Int) = 0)) && decide ((0 : Int) = 0)) && decide ((0 : Int) = 0)) && decide ((0 : Int) = 0)) && decide ((1 : Int) = 1)) && true) && decide ((2 : Int) = 2)) && true) && true) && true) && true)
        rw [g_171]; rfl
      · -- False
        have gp_173 := g_171
        try simp only [Bool.and_eq_true, Bool.or_eq_true, Bool.not_eq_true', Bool.and_eq_false_iff, Bool.or_eq_false_iff, Bool.not_eq_false', decide_eq_true_eq, decide_eq_false_iff_not, not_or, Bool.false_eq_true, Bool.true_eq_false, false_or, or_false, not_false_eq_true] at gp_173
        refine Wx.gnoB rfl rfl (congrArg Value.bool g_171) rfl rfl ?_
        refine Wx.rd (v := .bool false) (rd_pickF (congrArg Value.bool g_171) rfl) rfl ?_
        refine Wx.nil ⟨(), hS, ⟨?_, trivial⟩, Out.look rfl Out.refl⟩
        show Value.bool false = Value.bool (((((((((((((decide ((0 : Int) = 0) && decide ((0 : Int) = 0)) && decide ((0 : Int) = 0)) && decide ((0 : Int) = 0)) && decide ((0 : Int) = 0)) && decide ((0 : Int) = 0)) && decide ((0 : Int) = 0)) && decide ((1 : Int) = 1)) && true) && decide ((2 : Int) = 2)) && true) && true) && true) && true)
        rw [g_171]; rfl
    rintro ⟨⟩ u_175 w_174 hS
    refine Wx.rd (v := .bool (((((((((((((decide ((0 : Int) = 0) && decide ((0 : Int) = 0)) && decide ((0 : Int) = 0)) && decide ((0 : Int) = 0)) && decide ((0 : Int) = 0)) && decide ((0 : Int) = 0)) && decide ((0 : Int) = 0)) && decide ((1 : Int) = 1)) && true) && decide ((2 : Int) = 2)) && true) && true) && true) && true)) (rd_move rfl) rfl ?_
    refine Wx.cut (X := Unit) 3 [155, 156, 157] (fun _ => [(157, .bool ((((((((((((((decide ((0 : Int) = 0) && decide ((0 : Int) = 0)) && decide ((0 : Int) = 0)) && decide ((0 : Int) = 0)) && decide ((0 : Int) = 0)) && decide ((0 : Int) = 0)) && decide ((0 : Int) = 0)) && decide ((1 : Int) = 1)) && true) && decide ((2 : Int) = 2)) && true) && true) && true) && true) && !false))]) (fun _ w' => St w O w' [Ob.v (tSl (tP (tI .i64) (tI .i64))) (stepsV rP) v_22, .row (tP (tI .i64) (tI .i64)) 58 v_16 (forcedP rP), .row (tP (tI .i64) (tI .i64)) 58 v_7 (firstV rR)]) ?_ ?_
    · rcases Bool.eq_false_or_eq_true (((((((((((((decide ((0 : Int) = 0) && decide ((0 : Int) = 0)) && decide ((0 : Int) = 0)) && decide ((0 : Int) = 0)) && decide ((0 : Int) = 0)) && decide ((0 : Int) = 0)) && decide ((0 : Int) = 0)) && decide ((1 : Int) = 1)) && true) && decide ((2 : Int) = 2)) && true) && true) && true) && true) with g_176 | g_176
      · -- True
        have gp_177 := g_176
        try simp only [Bool.and_eq_true, Bool.or_eq_true, Bool.not_eq_true', Bool.and_eq_false_iff, Bool.or_eq_false_iff, Bool.not_eq_false', decide_eq_true_eq, decide_eq_false_iff_not, not_or, Bool.false_eq_true, Bool.true_eq_false, false_or, or_false, not_false_eq_true] at gp_177
        refine Wx.gyes rfl rfl (congrArg Value.bool g_176) ?_
        refine Wx.rd (v := .bool false) (rd_move rfl) rfl ?_
        refine Wx.gyes rfl rfl (congrArg Value.bool g_176) ?_
        refine Wx.rd (v := .bool (!false)) (rd_not rfl) rfl ?_
        refine Wx.rd (v := .bool (!false)) (rd_pickT (congrArg Value.bool g_176) rfl) rfl ?_
        refine Wx.nil ⟨(), hS, ⟨?_, trivial⟩, Out.look rfl Out.refl⟩
        show Value.bool (!false) = Value.bool ((((((((((((((decide ((0 : Int) = 0) && decide ((0 : Int) = 0)) && decide ((0 : Int) = 0)) && decide ((0 : Int) = 0)) && decide ((0 : Int) = 0)) && decide ((0 : Int) = 0)) && decide ((0 : Int) = 0)) && decide ((1 : Int) = 1)) && true) && decide ((2 : Int) = 2)) && true) && true) && true) && true) && !false)
        rw [g_176]; rfl
      · -- False
        have gp_178 := g_176
        try simp only [Bool.and_eq_true, Bool.or_eq_true, Bool.not_eq_true', Bool.and_eq_false_iff, Bool.or_eq_false_iff, Bool.not_eq_false', decide_eq_true_eq, decide_eq_false_iff_not, not_or, Bool.false_eq_true, Bool.true_eq_false, false_or, or_false, not_false_eq_true] at gp_178
        refine Wx.gnoB rfl rfl (congrArg Value.bool g_176) rfl rfl ?_
        refine Wx.gnoB rfl rfl (congrArg Value.bool g_176) rfl rfl ?_
        refine Wx.rd (v := .bool false) (rd_pickF (congrArg Value.bool g_176) rfl) rfl ?_
        refine Wx.nil ⟨(), hS, ⟨?_, trivial⟩, Out.look rfl Out.refl⟩
        show Value.bool false = Value.bool ((((((((((((((decide ((0 : Int) = 0) && decide ((0 : Int) = 0)) && decide ((0 : Int) = 0)) && decide ((0 : Int) = 0)) && decide ((0 : Int) = 0)) && decide ((0 : Int) = 0)) && decide ((0 : Int) = 0)) && decide ((1 : Int) = 1)) && true) && decide ((2 : Int) = 2)) && true) && true) && true) && true) && !false)
        rw [g_176]; rfl
    rintro ⟨⟩ u_180 w_179 hS
    refine Wx.rd (v := .bool ((((((((((((((decide ((0 : Int) = 0) && decide ((0 : Int) = 0)) && decide ((0 : Int) = 0)) && decide ((0 : Int) = 0)) && decide ((0 : Int) = 0)) && decide ((0 : Int) = 0)) && decide ((0 : Int) = 0)) && decide ((1 : Int) = 1)) && true) && decide ((2 : Int) = 2)) && true) && true) && true) && true) && !false)) (rd_move rfl) rfl ?_
    refine Wx.cut (X := Unit) 3 [159, 160, 161] (fun _ => [(161, .bool (((((((((((((((decide ((0 : Int) = 0) && decide ((0 : Int) = 0)) && decide ((0 : Int) = 0)) && decide ((0 : Int) = 0)) && decide ((0 : Int) = 0)) && decide ((0 : Int) = 0)) && decide ((0 : Int) = 0)) && decide ((1 : Int) = 1)) && true) && decide ((2 : Int) = 2)) && true) && true) && true) && true) && !false) && true))]) (fun _ w' => St w O w' [Ob.v (tSl (tP (tI .i64) (tI .i64))) (stepsV rP) v_22, .row (tP (tI .i64) (tI .i64)) 58 v_16 (forcedP rP), .row (tP (tI .i64) (tI .i64)) 58 v_7 (firstV rR)]) ?_ ?_
    · rcases Bool.eq_false_or_eq_true ((((((((((((((decide ((0 : Int) = 0) && decide ((0 : Int) = 0)) && decide ((0 : Int) = 0)) && decide ((0 : Int) = 0)) && decide ((0 : Int) = 0)) && decide ((0 : Int) = 0)) && decide ((0 : Int) = 0)) && decide ((1 : Int) = 1)) && true) && decide ((2 : Int) = 2)) && true) && true) && true) && true) && !false) with g_181 | g_181
      · -- True
        have gp_182 := g_181
        try simp only [Bool.and_eq_true, Bool.or_eq_true, Bool.not_eq_true', Bool.and_eq_false_iff, Bool.or_eq_false_iff, Bool.not_eq_false', decide_eq_true_eq, decide_eq_false_iff_not, not_or, Bool.false_eq_true, Bool.true_eq_false, false_or, or_false, not_false_eq_true] at gp_182
        refine Wx.gyes rfl rfl (congrArg Value.bool g_181) ?_
        refine Wx.rd (v := .string (coreV r1)) (rd_move rfl) rfl ?_
        refine Wx.gyes rfl rfl (congrArg Value.bool g_181) ?_
        refine Wx.rd (v := .bool true) (Rd.to (v := .bool ((coreV r1) == ({ data := #[99] } : ByteArray))) (rd_eqlS rfl rfl) (congrArg (Value.bool) (show (true : Bool) = ((coreV r1) == ({ data := #[99] } : ByteArray) : Bool) from (by decide +kernel)).symm)) rfl ?_
        refine Wx.rd (v := .bool true) (rd_pickT (congrArg Value.bool g_181) rfl) rfl ?_
        refine Wx.nil ⟨(), hS, ⟨?_, trivial⟩, Out.look rfl Out.refl⟩
        show Value.bool true = Value.bool (((((((((((((((decide ((0 : Int) = 0) && decide ((0 : Int) = 0)) && decide ((0 : Int) = 0)) && decide ((0 : Int) = 0)) && decide ((0 : Int) = 0)) && decide ((0 : Int) = 0)) && decide ((0 : Int) = 0)) && decide ((1 : Int) = 1)) && true) && decide ((2 : Int) = 2)) && true) && true) && true) && true) && !false) && true)
        rw [g_181]; rfl
      · -- False
        have gp_183 := g_181
        try simp only [Bool.and_eq_true, Bool.or_eq_true, Bool.not_eq_true', Bool.and_eq_false_iff, Bool.or_eq_false_iff, Bool.not_eq_false', decide_eq_true_eq, decide_eq_false_iff_not, not_or, Bool.false_eq_true, Bool.true_eq_false, false_or, or_false, not_false_eq_true] at gp_183
        refine Wx.gnoB rfl rfl (congrArg Value.bool g_181) rfl rfl ?_
        refine Wx.gnoB rfl rfl (congrArg Value.bool g_181) rfl rfl ?_
        refine Wx.rd (v := .bool false) (rd_pickF (congrArg Value.bool g_181) rfl) rfl ?_
        refine Wx.nil ⟨(), hS, ⟨?_, trivial⟩, Out.look rfl Out.refl⟩
        show Value.bool false = Value.bool (((((((((((((((decide ((0 : Int) = 0) && decide ((0 : Int) = 0)) && decide ((0 : Int) = 0)) && decide ((0 : Int) = 0)) && decide ((0 : Int) = 0)) && decide ((0 : Int) = 0)) && decide ((0 : Int) = 0)) && decide ((1 : Int) = 1)) && true) && decide ((2 : Int) = 2)) && true) && true) && true) && true) && !false) && true)
        rw [g_181]; rfl
    rintro ⟨⟩ u_185 w_184 hS
    refine Wx.rd (v := .bool (((((((((((((((decide ((0 : Int) = 0) && decide ((0 : Int) = 0)) && decide ((0 : Int) = 0)) && decide ((0 : Int) = 0)) && decide ((0 : Int) = 0)) && decide ((0 : Int) = 0)) && decide ((0 : Int) = 0)) && decide ((1 : Int) = 1)) && true) && decide ((2 : Int) = 2)) && true) && true) && true) && true) && !false) && true)) (rd_move rfl) rfl ?_
    refine Wx.cut (X := Unit) 3 [163, 164, 165] (fun _ => [(165, .bool ((((((((((((((((decide ((0 : Int) = 0) && decide ((0 : Int) = 0)) && decide ((0 : Int) = 0)) && decide ((0 : Int) = 0)) && decide ((0 : Int) = 0)) && decide ((0 : Int) = 0)) && decide ((0 : Int) = 0)) && decide ((1 : Int) = 1)) && true) && decide ((2 : Int) = 2)) && true) && true) && true) && true) && !false) && true) && true))]) (fun _ w' => St w O w' [Ob.v (tSl (tP (tI .i64) (tI .i64))) (stepsV rP) v_22, .row (tP (tI .i64) (tI .i64)) 58 v_16 (forcedP rP), .row (tP (tI .i64) (tI .i64)) 58 v_7 (firstV rR)]) ?_ ?_
    · rcases Bool.eq_false_or_eq_true (((((((((((((((decide ((0 : Int) = 0) && decide ((0 : Int) = 0)) && decide ((0 : Int) = 0)) && decide ((0 : Int) = 0)) && decide ((0 : Int) = 0)) && decide ((0 : Int) = 0)) && decide ((0 : Int) = 0)) && decide ((1 : Int) = 1)) && true) && decide ((2 : Int) = 2)) && true) && true) && true) && true) && !false) && true) with g_186 | g_186
      · -- True
        have gp_187 := g_186
        try simp only [Bool.and_eq_true, Bool.or_eq_true, Bool.not_eq_true', Bool.and_eq_false_iff, Bool.or_eq_false_iff, Bool.not_eq_false', decide_eq_true_eq, decide_eq_false_iff_not, not_or, Bool.false_eq_true, Bool.true_eq_false, false_or, or_false, not_false_eq_true] at gp_187
        refine Wx.gyes rfl rfl (congrArg Value.bool g_186) ?_
        refine Wx.rd (v := .string (turnS rQ 1)) (rd_move rfl) rfl ?_
        refine Wx.gyes rfl rfl (congrArg Value.bool g_186) ?_
        refine Wx.rd (v := .bool true) (Rd.to (v := .bool ((turnS rQ 1) == ({ data := #[98, 65, 66, 97] } : ByteArray))) (rd_eqlS rfl rfl) (congrArg (Value.bool) (show (true : Bool) = ((turnS rQ 1) == ({ data := #[98, 65, 66, 97] } : ByteArray) : Bool) from (by decide +kernel)).symm)) rfl ?_
        refine Wx.rd (v := .bool true) (rd_pickT (congrArg Value.bool g_186) rfl) rfl ?_
        refine Wx.nil ⟨(), hS, ⟨?_, trivial⟩, Out.look rfl Out.refl⟩
        show Value.bool true = Value.bool ((((((((((((((((decide ((0 : Int) = 0) && decide ((0 : Int) = 0)) && decide ((0 : Int) = 0)) && decide ((0 : Int) = 0)) && decide ((0 : Int) = 0)) && decide ((0 : Int) = 0)) && decide ((0 : Int) = 0)) && decide ((1 : Int) = 1)) && true) && decide ((2 : Int) = 2)) && true) && true) && true) && true) && !false) && true) && true)
        rw [g_186]; rfl
      · -- False
        have gp_188 := g_186
        try simp only [Bool.and_eq_true, Bool.or_eq_true, Bool.not_eq_true', Bool.and_eq_false_iff, Bool.or_eq_false_iff, Bool.not_eq_false', decide_eq_true_eq, decide_eq_false_iff_not, not_or, Bool.false_eq_true, Bool.true_eq_false, false_or, or_false, not_false_eq_true] at gp_188
        refine Wx.gnoB rfl rfl (congrArg Value.bool g_186) rfl rfl ?_
        refine Wx.gnoB rfl rfl (congrArg Value.bool g_186) rfl rfl ?_
        refine Wx.rd (v := .bool false) (rd_pickF (congrArg Value.bool g_186) rfl) rfl ?_
        refine Wx.nil ⟨(), hS, ⟨?_, trivial⟩, Out.look rfl Out.refl⟩
        show Value.bool false = Value.bool ((((((((((((((((decide ((0 : Int) = 0) && decide ((0 : Int) = 0)) && decide ((0 : Int) = 0)) && decide ((0 : Int) = 0)) && decide ((0 : Int) = 0)) && decide ((0 : Int) = 0)) && decide ((0 : Int) = 0)) && decide ((1 : Int) = 1)) && true) && decide ((2 : Int) = 2)) && true) && true) && true) && true) && !false) && true) && true)
        rw [g_186]; rfl
    rintro ⟨⟩ u_190 w_189 hS
    refine Wx.rd (v := .bool ((((((((((((((((decide ((0 : Int) = 0) && decide ((0 : Int) = 0)) && decide ((0 : Int) = 0)) && decide ((0 : Int) = 0)) && decide ((0 : Int) = 0)) && decide ((0 : Int) = 0)) && decide ((0 : Int) = 0)) && decide ((1 : Int) = 1)) && true) && decide ((2 : Int) = 2)) && true) && true) && true) && true) && !false) && true) && true)) (rd_move rfl) rfl ?_
    refine Wx.cut (X := Unit) 3 [167, 168, 169] (fun _ => [(169, .bool (((((((((((((((((decide ((0 : Int) = 0) && decide ((0 : Int) = 0)) && decide ((0 : Int) = 0)) && decide ((0 : Int) = 0)) && decide ((0 : Int) = 0)) && decide ((0 : Int) = 0)) && decide ((0 : Int) = 0)) && decide ((1 : Int) = 1)) && true) && decide ((2 : Int) = 2)) && true) && true) && true) && true) && !false) && true) && true) && true))]) (fun _ w' => St w O w' [Ob.v (tSl (tP (tI .i64) (tI .i64))) (stepsV rP) v_22, .row (tP (tI .i64) (tI .i64)) 58 v_16 (forcedP rP), .row (tP (tI .i64) (tI .i64)) 58 v_7 (firstV rR)]) ?_ ?_
    · rcases Bool.eq_false_or_eq_true ((((((((((((((((decide ((0 : Int) = 0) && decide ((0 : Int) = 0)) && decide ((0 : Int) = 0)) && decide ((0 : Int) = 0)) && decide ((0 : Int) = 0)) && decide ((0 : Int) = 0)) && decide ((0 : Int) = 0)) && decide ((1 : Int) = 1)) && true) && decide ((2 : Int) = 2)) && true) && true) && true) && true) && !false) && true) && true) with g_191 | g_191
      · -- True
        have gp_192 := g_191
        try simp only [Bool.and_eq_true, Bool.or_eq_true, Bool.not_eq_true', Bool.and_eq_false_iff, Bool.or_eq_false_iff, Bool.not_eq_false', decide_eq_true_eq, decide_eq_false_iff_not, not_or, Bool.false_eq_true, Bool.true_eq_false, false_or, or_false, not_false_eq_true] at gp_192
        refine Wx.gyes rfl rfl (congrArg Value.bool g_191) ?_
        refine Wx.rd (v := .string (oppV r2)) (rd_move rfl) rfl ?_
        refine Wx.gyes rfl rfl (congrArg Value.bool g_191) ?_
        refine Wx.rd (v := .bool true) (Rd.to (v := .bool ((oppV r2) == ({ data := #[99, 66, 65] } : ByteArray))) (rd_eqlS rfl rfl) (congrArg (Value.bool) (show (true : Bool) = ((oppV r2) == ({ data := #[99, 66, 65] } : ByteArray) : Bool) from (by decide +kernel)).symm)) rfl ?_
        refine Wx.rd (v := .bool true) (rd_pickT (congrArg Value.bool g_191) rfl) rfl ?_
        refine Wx.nil ⟨(), hS, ⟨?_, trivial⟩, Out.look rfl Out.refl⟩
        show Value.bool true = Value.bool (((((((((((((((((decide ((0 : Int) = 0) && decide ((0 : Int) = 0)) && decide ((0 : Int) = 0)) && decide ((0 : Int) = 0)) && decide ((0 : Int) = 0)) && decide ((0 : Int) = 0)) && decide ((0 : Int) = 0)) && decide ((1 : Int) = 1)) && true) && decide ((2 : Int) = 2)) && true) && true) && true) && true) && !false) && true) && true) && true)
        rw [g_191]; rfl
      · -- False
        have gp_193 := g_191
        try simp only [Bool.and_eq_true, Bool.or_eq_true, Bool.not_eq_true', Bool.and_eq_false_iff, Bool.or_eq_false_iff, Bool.not_eq_false', decide_eq_true_eq, decide_eq_false_iff_not, not_or, Bool.false_eq_true, Bool.true_eq_false, false_or, or_false, not_false_eq_true] at gp_193
        refine Wx.gnoB rfl rfl (congrArg Value.bool g_191) rfl rfl ?_
        refine Wx.gnoB rfl rfl (congrArg Value.bool g_191) rfl rfl ?_
        refine Wx.rd (v := .bool false) (rd_pickF (congrArg Value.bool g_191) rfl) rfl ?_
        refine Wx.nil ⟨(), hS, ⟨?_, trivial⟩, Out.look rfl Out.refl⟩
        show Value.bool false = Value.bool (((((((((((((((((decide ((0 : Int) = 0) && decide ((0 : Int) = 0)) && decide ((0 : Int) = 0)) && decide ((0 : Int) = 0)) && decide ((0 : Int) = 0)) && decide ((0 : Int) = 0)) && decide ((0 : Int) = 0)) && decide ((1 : Int) = 1)) && true) && decide ((2 : Int) = 2)) && true) && true) && true) && true) && !false) && true) && true) && true)
        rw [g_191]; rfl
    rintro ⟨⟩ u_195 w_194 hS
    refine Wx.rd (v := .bool (((((((((((((((((decide ((0 : Int) = 0) && decide ((0 : Int) = 0)) && decide ((0 : Int) = 0)) && decide ((0 : Int) = 0)) && decide ((0 : Int) = 0)) && decide ((0 : Int) = 0)) && decide ((0 : Int) = 0)) && decide ((1 : Int) = 1)) && true) && decide ((2 : Int) = 2)) && true) && true) && true) && true) && !false) && true) && true) && true)) (rd_move rfl) rfl ?_
    refine Wx.cut (X := Unit) 2 [171, 172] (fun _ => [(172, .bool ((((((((((((((((((decide ((0 : Int) = 0) && decide ((0 : Int) = 0)) && decide ((0 : Int) = 0)) && decide ((0 : Int) = 0)) && decide ((0 : Int) = 0)) && decide ((0 : Int) = 0)) && decide ((0 : Int) = 0)) && decide ((1 : Int) = 1)) && true) && decide ((2 : Int) = 2)) && true) && true) && true) && true) && !false) && true) && true) && true) && true))]) (fun _ w' => St w O w' [Ob.v (tSl (tP (tI .i64) (tI .i64))) (stepsV rP) v_22, .row (tP (tI .i64) (tI .i64)) 58 v_16 (forcedP rP), .row (tP (tI .i64) (tI .i64)) 58 v_7 (firstV rR)]) ?_ ?_
    · rcases Bool.eq_false_or_eq_true (((((((((((((((((decide ((0 : Int) = 0) && decide ((0 : Int) = 0)) && decide ((0 : Int) = 0)) && decide ((0 : Int) = 0)) && decide ((0 : Int) = 0)) && decide ((0 : Int) = 0)) && decide ((0 : Int) = 0)) && decide ((1 : Int) = 1)) && true) && decide ((2 : Int) = 2)) && true) && true) && true) && true) && !false) && true) && true) && true) with g_196 | g_196
      · -- True
        have gp_197 := g_196
        try simp only [Bool.and_eq_true, Bool.or_eq_true, Bool.not_eq_true', Bool.and_eq_false_iff, Bool.or_eq_false_iff, Bool.not_eq_false', decide_eq_true_eq, decide_eq_false_iff_not, not_or, Bool.false_eq_true, Bool.true_eq_false, false_or, or_false, not_false_eq_true] at gp_197
        refine Wx.gyes rfl rfl (congrArg Value.bool g_196) ?_
        refine Wx.rd (v := .bool true) (rd_move rfl) rfl ?_
        refine Wx.rd (v := .bool true) (rd_pickT (congrArg Value.bool g_196) rfl) rfl ?_
        refine Wx.nil ⟨(), hS, ⟨?_, trivial⟩, Out.look rfl Out.refl⟩
        show Value.bool true = Value.bool ((((((((((((((((((decide ((0 : Int) = 0) && decide ((0 : Int) = 0)) && decide ((0 : Int) = 0)) && decide ((0 : Int) = 0)) && decide ((0 : Int) = 0)) && decide ((0 : Int) = 0)) && decide ((0 : Int) = 0)) && decide ((1 : Int) = 1)) && true) && decide ((2 : Int) = 2)) && true) && true) && true) && true) && !false) && true) && true) && true) && true)
        rw [g_196]; rfl
      · -- False
        have gp_198 := g_196
        try simp only [Bool.and_eq_true, Bool.or_eq_true, Bool.not_eq_true', Bool.and_eq_false_iff, Bool.or_eq_false_iff, Bool.not_eq_false', decide_eq_true_eq, decide_eq_false_iff_not, not_or, Bool.false_eq_true, Bool.true_eq_false, false_or, or_false, not_false_eq_true] at gp_198
        refine Wx.gnoB rfl rfl (congrArg Value.bool g_196) rfl rfl ?_
        refine Wx.rd (v := .bool false) (rd_pickF (congrArg Value.bool g_196) rfl) rfl ?_
        refine Wx.nil ⟨(), hS, ⟨?_, trivial⟩, Out.look rfl Out.refl⟩
        show Value.bool false = Value.bool ((((((((((((((((((decide ((0 : Int) = 0) && decide ((0 : Int) = 0)) && decide ((0 : Int) = 0)) && decide ((0 : Int) = 0)) && decide ((0 : Int) = 0)) && decide ((0 : Int) = 0)) && decide ((0 : Int) = 0)) && decide ((1 : Int) = 1)) && true) && decide ((2 : Int) = 2)) && true) && true) && true) && true) && !false) && true) && true) && true) && true)
        rw [g_196]; rfl
    rintro ⟨⟩ u_200 w_199 hS
    refine Wx.rd (v := .bool ((((((((((((((((((decide ((0 : Int) = 0) && decide ((0 : Int) = 0)) && decide ((0 : Int) = 0)) && decide ((0 : Int) = 0)) && decide ((0 : Int) = 0)) && decide ((0 : Int) = 0)) && decide ((0 : Int) = 0)) && decide ((1 : Int) = 1)) && true) && decide ((2 : Int) = 2)) && true) && true) && true) && true) && !false) && true) && true) && true) && true)) (rd_move rfl) rfl ?_
    refine Wx.cut (X := Unit) 3 [174, 175, 176] (fun _ => [(176, .bool (((((((((((((((((((decide ((0 : Int) = 0) && decide ((0 : Int) = 0)) && decide ((0 : Int) = 0)) && decide ((0 : Int) = 0)) && decide ((0 : Int) = 0)) && decide ((0 : Int) = 0)) && decide ((0 : Int) = 0)) && decide ((1 : Int) = 1)) && true) && decide ((2 : Int) = 2)) && true) && true) && true) && true) && !false) && true) && true) && true) && true) && !false))]) (fun _ w' => St w O w' [Ob.v (tSl (tP (tI .i64) (tI .i64))) (stepsV rP) v_22, .row (tP (tI .i64) (tI .i64)) 58 v_16 (forcedP rP), .row (tP (tI .i64) (tI .i64)) 58 v_7 (firstV rR)]) ?_ ?_
    · rcases Bool.eq_false_or_eq_true ((((((((((((((((((decide ((0 : Int) = 0) && decide ((0 : Int) = 0)) && decide ((0 : Int) = 0)) && decide ((0 : Int) = 0)) && decide ((0 : Int) = 0)) && decide ((0 : Int) = 0)) && decide ((0 : Int) = 0)) && decide ((1 : Int) = 1)) && true) && decide ((2 : Int) = 2)) && true) && true) && true) && true) && !false) && true) && true) && true) && true) with g_201 | g_201
      · -- True
        have gp_202 := g_201
        try simp only [Bool.and_eq_true, Bool.or_eq_true, Bool.not_eq_true', Bool.and_eq_false_iff, Bool.or_eq_false_iff, Bool.not_eq_false', decide_eq_true_eq, decide_eq_false_iff_not, not_or, Bool.false_eq_true, Bool.true_eq_false, false_or, or_false, not_false_eq_true] at gp_202
        refine Wx.gyes rfl rfl (congrArg Value.bool g_201) ?_
        refine Wx.rd (v := .bool false) (rd_move rfl) rfl ?_
        refine Wx.gyes rfl rfl (congrArg Value.bool g_201) ?_
        refine Wx.rd (v := .bool (!false)) (rd_not rfl) rfl ?_
        refine Wx.rd (v := .bool (!false)) (rd_pickT (congrArg Value.bool g_201) rfl) rfl ?_
        refine Wx.nil ⟨(), hS, ⟨?_, trivial⟩, Out.look rfl Out.refl⟩
        show Value.bool (!false) = Value.bool (((((((((((((((((((decide ((0 : Int) = 0) && decide ((0 : Int) = 0)) && decide ((0 : Int) = 0)) && decide ((0 : Int) = 0)) && decide ((0 : Int) = 0)) && decide ((0 : Int) = 0)) && decide ((0 : Int) = 0)) && decide ((1 : Int) = 1)) && true) && decide ((2 : Int) = 2)) && true) && true) && true) && true) && !false) && true) && true) && true) && true) && !false)
        rw [g_201]; rfl
      · -- False
        have gp_203 := g_201
        try simp only [Bool.and_eq_true, Bool.or_eq_true, Bool.not_eq_true', Bool.and_eq_false_iff, Bool.or_eq_false_iff, Bool.not_eq_false', decide_eq_true_eq, decide_eq_false_iff_not, not_or, Bool.false_eq_true, Bool.true_eq_false, false_or, or_false, not_false_eq_true] at gp_203
        refine Wx.gnoB rfl rfl (congrArg Value.bool g_201) rfl rfl ?_
        refine Wx.gnoB rfl rfl (congrArg Value.bool g_201) rfl rfl ?_
        refine Wx.rd (v := .bool false) (rd_pickF (congrArg Value.bool g_201) rfl) rfl ?_
        refine Wx.nil ⟨(), hS, ⟨?_, trivial⟩, Out.look rfl Out.refl⟩
        show Value.bool false = Value.bool (((((((((((((((((((decide ((0 : Int) = 0) && decide ((0 : Int) = 0)) && decide ((0 : Int) = 0)) && decide ((0 : Int) = 0)) && decide ((0 : Int) = 0)) && decide ((0 : Int) = 0)) && decide ((0 : Int) = 0)) && decide ((1 : Int) = 1)) && true) && decide ((2 : Int) = 2)) && true) && true) && true) && true) && !false) && true) && true) && true) && true) && !false)
        rw [g_201]; rfl
    rintro ⟨⟩ u_205 w_204 hS
    refine Wx.rd (v := .bool (((((((((((((((((((decide ((0 : Int) = 0) && decide ((0 : Int) = 0)) && decide ((0 : Int) = 0)) && decide ((0 : Int) = 0)) && decide ((0 : Int) = 0)) && decide ((0 : Int) = 0)) && decide ((0 : Int) = 0)) && decide ((1 : Int) = 1)) && true) && decide ((2 : Int) = 2)) && true) && true) && true) && true) && !false) && true) && true) && true) && true) && !false)) (rd_move rfl) rfl ?_
    refine Wx.cut (X := Unit) 5 [178, 179, 180, 181, 182] (fun _ => [(182, .bool ((((((((((((((((((((decide ((0 : Int) = 0) && decide ((0 : Int) = 0)) && decide ((0 : Int) = 0)) && decide ((0 : Int) = 0)) && decide ((0 : Int) = 0)) && decide ((0 : Int) = 0)) && decide ((0 : Int) = 0)) && decide ((1 : Int) = 1)) && true) && decide ((2 : Int) = 2)) && true) && true) && true) && true) && !false) && true) && true) && true) && true) && !false) && true))]) (fun _ w' => St w O w' [Ob.v (tSl (tP (tI .i64) (tI .i64))) (stepsV rP) v_22, .row (tP (tI .i64) (tI .i64)) 58 v_16 (forcedP rP), .row (tP (tI .i64) (tI .i64)) 58 v_7 (firstV rR)]) ?_ ?_
    · rcases Bool.eq_false_or_eq_true (((((((((((((((((((decide ((0 : Int) = 0) && decide ((0 : Int) = 0)) && decide ((0 : Int) = 0)) && decide ((0 : Int) = 0)) && decide ((0 : Int) = 0)) && decide ((0 : Int) = 0)) && decide ((0 : Int) = 0)) && decide ((1 : Int) = 1)) && true) && decide ((2 : Int) = 2)) && true) && true) && true) && true) && !false) && true) && true) && true) && true) && !false) with g_206 | g_206
      · -- True
        have gp_207 := g_206
        try simp only [Bool.and_eq_true, Bool.or_eq_true, Bool.not_eq_true', Bool.and_eq_false_iff, Bool.or_eq_false_iff, Bool.not_eq_false', decide_eq_true_eq, decide_eq_false_iff_not, not_or, Bool.false_eq_true, Bool.true_eq_false, false_or, or_false, not_false_eq_true] at gp_207
        refine Wx.gyes rfl rfl (congrArg Value.bool g_206) ?_
        refine Wx.lit (t := (tI .i64)) (ys := [0, 3, 1, 2]) (vs := [.int .i64 0, .int .i64 3, .int .i64 1, .int .i64 2]) elHm_60 hS rfl rfl ⟨(V.mkInt (in_i64 (by omega) (by omega))), ⟨(V.mkInt (in_i64 (by omega) (by omega))), ⟨(V.mkInt (in_i64 (by omega) (by omega))), ⟨(V.mkInt (in_i64 (by omega) (by omega))), trivial⟩⟩⟩⟩ (by decide) rfl (fun v_208 w_209 hx_210 hS => ?_)
        refine Wx.gyes rfl rfl (congrArg Value.bool g_206) ?_
        have hS := hS.freeze 0 rfl
        refine Wx.callF (run_callF Tryd.call48 rfl) (F48 (hS.v 0 rfl) (by decide) hS.fb_lt) rfl ?_
        rintro r_212 w_213 hx_214 ⟨_, rfl, hv_215⟩
        have hS := hS.pushFr hx_214 hv_215
        refine Wx.gyes rfl rfl (congrArg Value.bool g_206) ?_
        refine Wx.callF (run_callF Tryd.call19 rfl) (F19 (by first | assumption | (simp only [maxLen]; omega) | (simp only [ByteArray.size_extract, ByteArray.size_append, maxLen] at *; omega) | decide) (hS.lend 0 rfl) (hG.ext hS.bel)) rfl ?_
        rintro r_217 w_218 hx_219 rfl
        have hS := hS.ext hx_219
        refine Wx.gyes rfl rfl (congrArg Value.bool g_206) ?_
        refine Wx.rd (v := .bool true) (Rd.to (v := .bool (decide ((validE rP (pairsU [0, 3, 1, 2])) = 0))) (rd_eql rfl rfl) (congrArg (Value.bool) (show (true : Bool) = (decide ((validE rP (pairsU [0, 3, 1, 2])) = 0) : Bool) from (by decide +kernel)).symm)) rfl ?_
        refine Wx.rd (v := .bool true) (rd_pickT (congrArg Value.bool g_206) rfl) rfl ?_
        refine Wx.nil ⟨(), St.tl (hS.tl), ⟨?_, trivial⟩, Out.look rfl Out.refl⟩
        show Value.bool true = Value.bool ((((((((((((((((((((decide ((0 : Int) = 0) && decide ((0 : Int) = 0)) && decide ((0 : Int) = 0)) && decide ((0 : Int) = 0)) && decide ((0 : Int) = 0)) && decide ((0 : Int) = 0)) && decide ((0 : Int) = 0)) && decide ((1 : Int) = 1)) && true) && decide ((2 : Int) = 2)) && true) && true) && true) && true) && !false) && true) && true) && true) && true) && !false) && true)
        rw [g_206]; rfl
      · -- False
        have gp_220 := g_206
        try simp only [Bool.and_eq_true, Bool.or_eq_true, Bool.not_eq_true', Bool.and_eq_false_iff, Bool.or_eq_false_iff, Bool.not_eq_false', decide_eq_true_eq, decide_eq_false_iff_not, not_or, Bool.false_eq_true, Bool.true_eq_false, false_or, or_false, not_false_eq_true] at gp_220
        refine Wx.gnoB rfl rfl (congrArg Value.bool g_206) rfl rfl ?_
        refine Wx.gnoB rfl rfl (congrArg Value.bool g_206) rfl rfl ?_
        refine Wx.gnoB rfl rfl (congrArg Value.bool g_206) rfl rfl ?_
        refine Wx.gnoB rfl rfl (congrArg Value.bool g_206) rfl rfl ?_
        refine Wx.rd (v := .bool false) (rd_pickF (congrArg Value.bool g_206) rfl) rfl ?_
        refine Wx.nil ⟨(), hS, ⟨?_, trivial⟩, Out.look rfl Out.refl⟩
        show Value.bool false = Value.bool ((((((((((((((((((((decide ((0 : Int) = 0) && decide ((0 : Int) = 0)) && decide ((0 : Int) = 0)) && decide ((0 : Int) = 0)) && decide ((0 : Int) = 0)) && decide ((0 : Int) = 0)) && decide ((0 : Int) = 0)) && decide ((1 : Int) = 1)) && true) && decide ((2 : Int) = 2)) && true) && true) && true) && true) && !false) && true) && true) && true) && true) && !false) && true)
        rw [g_206]; rfl
    rintro ⟨⟩ u_222 w_221 hS
    refine Wx.rd (v := .bool ((((((((((((((((((((decide ((0 : Int) = 0) && decide ((0 : Int) = 0)) && decide ((0 : Int) = 0)) && decide ((0 : Int) = 0)) && decide ((0 : Int) = 0)) && decide ((0 : Int) = 0)) && decide ((0 : Int) = 0)) && decide ((1 : Int) = 1)) && true) && decide ((2 : Int) = 2)) && true) && true) && true) && true) && !false) && true) && true) && true) && true) && !false) && true)) (rd_move rfl) rfl ?_
    refine Wx.cut (X := Unit) 5 [184, 185, 186, 187, 188] (fun _ => [(188, .bool (((((((((((((((((((((decide ((0 : Int) = 0) && decide ((0 : Int) = 0)) && decide ((0 : Int) = 0)) && decide ((0 : Int) = 0)) && decide ((0 : Int) = 0)) && decide ((0 : Int) = 0)) && decide ((0 : Int) = 0)) && decide ((1 : Int) = 1)) && true) && decide ((2 : Int) = 2)) && true) && true) && true) && true) && !false) && true) && true) && true) && true) && !false) && true) && true))]) (fun _ w' => St w O w' [Ob.v (tSl (tP (tI .i64) (tI .i64))) (stepsV rP) v_22, .row (tP (tI .i64) (tI .i64)) 58 v_16 (forcedP rP), .row (tP (tI .i64) (tI .i64)) 58 v_7 (firstV rR)]) ?_ ?_
    · rcases Bool.eq_false_or_eq_true ((((((((((((((((((((decide ((0 : Int) = 0) && decide ((0 : Int) = 0)) && decide ((0 : Int) = 0)) && decide ((0 : Int) = 0)) && decide ((0 : Int) = 0)) && decide ((0 : Int) = 0)) && decide ((0 : Int) = 0)) && decide ((1 : Int) = 1)) && true) && decide ((2 : Int) = 2)) && true) && true) && true) && true) && !false) && true) && true) && true) && true) && !false) && true) with g_223 | g_223
      · -- True
        have gp_224 := g_223
        try simp only [Bool.and_eq_true, Bool.or_eq_true, Bool.not_eq_true', Bool.and_eq_false_iff, Bool.or_eq_false_iff, Bool.not_eq_false', decide_eq_true_eq, decide_eq_false_iff_not, not_or, Bool.false_eq_true, Bool.true_eq_false, false_or, or_false, not_false_eq_true] at gp_224
        refine Wx.gyes rfl rfl (congrArg Value.bool g_223) ?_
        refine Wx.lit (t := (tI .i64)) (ys := [0, 2, 1, 3]) (vs := [.int .i64 0, .int .i64 2, .int .i64 1, .int .i64 3]) elHm_60 hS rfl rfl ⟨(V.mkInt (in_i64 (by omega) (by omega))), ⟨(V.mkInt (in_i64 (by omega) (by omega))), ⟨(V.mkInt (in_i64 (by omega) (by omega))), ⟨(V.mkInt (in_i64 (by omega) (by omega))), trivial⟩⟩⟩⟩ (by decide) rfl (fun v_225 w_226 hx_227 hS => ?_)
        refine Wx.gyes rfl rfl (congrArg Value.bool g_223) ?_
        have hS := hS.freeze 0 rfl
        refine Wx.callF (run_callF Tryd.call48 rfl) (F48 (hS.v 0 rfl) (by decide) hS.fb_lt) rfl ?_
        rintro r_229 w_230 hx_231 ⟨_, rfl, hv_232⟩
        have hS := hS.pushFr hx_231 hv_232
        refine Wx.gyes rfl rfl (congrArg Value.bool g_223) ?_
        refine Wx.callF (run_callF Tryd.call19 rfl) (F19 (by first | assumption | (simp only [maxLen]; omega) | (simp only [ByteArray.size_extract, ByteArray.size_append, maxLen] at *; omega) | decide) (hS.lend 0 rfl) (hG.ext hS.bel)) rfl ?_
        rintro r_234 w_235 hx_236 rfl
        have hS := hS.ext hx_236
        refine Wx.gyes rfl rfl (congrArg Value.bool g_223) ?_
        refine Wx.rd (v := .bool true) (Rd.to (v := .bool (decide ((validE rQ (pairsU [0, 2, 1, 3])) = 5))) (rd_eql rfl rfl) (congrArg (Value.bool) (show (true : Bool) = (decide ((validE rQ (pairsU [0, 2, 1, 3])) = 5) : Bool) from (by decide +kernel)).symm)) rfl ?_
        refine Wx.rd (v := .bool true) (rd_pickT (congrArg Value.bool g_223) rfl) rfl ?_
        refine Wx.nil ⟨(), St.tl (hS.tl), ⟨?_, trivial⟩, Out.look rfl Out.refl⟩
        show Value.bool true = Value.bool (((((((((((((((((((((decide ((0 : Int) = 0) && decide ((0 : Int) = 0)) && decide ((0 : Int) = 0)) && decide ((0 : Int) = 0)) && decide ((0 : Int) = 0)) && decide ((0 : Int) = 0)) && decide ((0 : Int) = 0)) && decide ((1 : Int) = 1)) && true) && decide ((2 : Int) = 2)) && true) && true) && true) && true) && !false) && true) && true) && true) && true) && !false) && true) && true)
        rw [g_223]; rfl
      · -- False
        have gp_237 := g_223
        try simp only [Bool.and_eq_true, Bool.or_eq_true, Bool.not_eq_true', Bool.and_eq_false_iff, Bool.or_eq_false_iff, Bool.not_eq_false', decide_eq_true_eq, decide_eq_false_iff_not, not_or, Bool.false_eq_true, Bool.true_eq_false, false_or, or_false, not_false_eq_true] at gp_237
        refine Wx.gnoB rfl rfl (congrArg Value.bool g_223) rfl rfl ?_
        refine Wx.gnoB rfl rfl (congrArg Value.bool g_223) rfl rfl ?_
        refine Wx.gnoB rfl rfl (congrArg Value.bool g_223) rfl rfl ?_
        refine Wx.gnoB rfl rfl (congrArg Value.bool g_223) rfl rfl ?_
        refine Wx.rd (v := .bool false) (rd_pickF (congrArg Value.bool g_223) rfl) rfl ?_
        refine Wx.nil ⟨(), hS, ⟨?_, trivial⟩, Out.look rfl Out.refl⟩
        show Value.bool false = Value.bool (((((((((((((((((((((decide ((0 : Int) = 0) && decide ((0 : Int) = 0)) && decide ((0 : Int) = 0)) && decide ((0 : Int) = 0)) && decide ((0 : Int) = 0)) && decide ((0 : Int) = 0)) && decide ((0 : Int) = 0)) && decide ((1 : Int) = 1)) && true) && decide ((2 : Int) = 2)) && true) && true) && true) && true) && !false) && true) && true) && true) && true) && !false) && true) && true)
        rw [g_223]; rfl
    rintro ⟨⟩ u_239 w_238 hS
    refine Wx.rd (v := .bool (((((((((((((((((((((decide ((0 : Int) = 0) && decide ((0 : Int) = 0)) && decide ((0 : Int) = 0)) && decide ((0 : Int) = 0)) && decide ((0 : Int) = 0)) && decide ((0 : Int) = 0)) && decide ((0 : Int) = 0)) && decide ((1 : Int) = 1)) && true) && decide ((2 : Int) = 2)) && true) && true) && true) && true) && !false) && true) && true) && true) && true) && !false) && true) && true)) (rd_assign rfl) rfl ?_
    refine Wx.nil ?_
    have e1_0 : (((((((((((((((((((((decide ((0 : Int) = 0) && decide ((0 : Int) = 0)) && decide ((0 : Int) = 0)) && decide ((0 : Int) = 0)) && decide ((0 : Int) = 0)) && decide ((0 : Int) = 0)) && decide ((0 : Int) = 0)) && decide ((1 : Int) = 1)) && true) && decide ((2 : Int) = 2)) && true) && true) && true) && true) && !false) && true) && true) && true) && true) && !false) && true) && true) = true := by first | rfl | omega
    exact W.ret ⟨.bool (((((((((((((((((((((decide ((0 : Int) = 0) && decide ((0 : Int) = 0)) && decide ((0 : Int) = 0)) && decide ((0 : Int) = 0)) && decide ((0 : Int) = 0)) && decide ((0 : Int) = 0)) && decide ((0 : Int) = 0)) && decide ((1 : Int) = 1)) && true) && decide ((2 : Int) = 2)) && true) && true) && true) && true) && !false) && true) && true) && true) && true) && !false) && true) && true), ResIs.one, hS.bel, (by rw [e1_0])⟩
end Go.Proofs.YtokdjjebnomciaaDoor

namespace Go.Proofs.YtokdjjebnomciaaDoor
open Go.Wk Go.RowKit Go.Lib
set_option linter.unusedVariables false
set_option linter.unusedSimpArgs false


theorem F3 {rim : ByteArray} {lv : Value} {l : List (Int × Int)} {O : List (Option Nat)} {w : World} (s_rim : rim.size ≤ maxLen) (h_lv : V (tSl (tP (tI .i64) (tI .i64))) l lv O w) (hO : ∀ b, some b ∈ O → b < w.heap.size) (hG : Laid w) : Calls Tryd.prog 3 #[.string rim, lv] w (Ret w (fun r _ => r = .bool true)) := by
  have a_lv := h_lv
  have l_lv := h_lv.len63
  have hS := St.start w O hO
  refine enterR Tryd.func3 rfl Tryd.ntmps3 Tryd.results3 rfl ?_
  refine W.seq ?_
  refine W.reg ?_
  refine Wx.rd (v := .bool false) (rd_assign rfl) rfl ?_
  refine Wx.nil ?_
  refine W.seq ?_
  refine W.seq ?_
  refine W.reg ?_
  refine Wx.rd (v := .string rim) (rd_move rfl) rfl ?_
  refine Wx.rd (v := .int .i64 (rim.size : Int)) (rd_lenS rfl Tryd.underlying9) rfl ?_
  refine Wx.rd (v := .bool (decide (60 < (rim.size : Int)))) (rd_gtr rfl rfl) rfl ?_
  refine Wx.rd (v := .bool (decide (60 < (rim.size : Int)))) (rd_move rfl) rfl ?_
  refine Wx.cut (X := Unit) 4 [9, 10, 11, 12] (fun _ => [(12, .bool (decide (60 < (rim.size : Int)) || decide (60 < (l.length : Int))))]) (fun _ w' => St w O w' []) ?_ ?_
  · rcases Bool.eq_false_or_eq_true (decide (60 < (rim.size : Int))) with g_1 | g_1
    · -- True
      have gp_2 := of_decide_eq_true g_1
      refine Wx.gnoB rfl rfl (congrArg Value.bool g_1) rfl rfl ?_
      refine Wx.gnoB rfl rfl (congrArg Value.bool g_1) rfl rfl ?_
      refine Wx.gnoB rfl rfl (congrArg Value.bool g_1) rfl rfl ?_
      refine Wx.rd (v := .bool true) (rd_pickT (congrArg Value.bool g_1) rfl) rfl ?_
      refine Wx.nil ⟨(), hS, ⟨?_, trivial⟩, Out.look rfl Out.refl⟩
      show Value.bool true = Value.bool (decide (60 < (rim.size : Int)) || decide (60 < (l.length : Int)))
      rw [g_1]; rfl
    · -- False
      have gp_3 := of_decide_eq_false g_1
      refine Wx.gyes rfl rfl (congrArg Value.bool g_1) ?_
      refine Wx.rd (v := lv) (rd_move rfl) rfl ?_
      refine Wx.gyes rfl rfl (congrArg Value.bool g_1) ?_
      refine Wx.rd (v := .int .i64 (l.length : Int)) (rd_lenV rfl (hS.arg a_lv) Tryd.underlying22) rfl ?_
      refine Wx.gyes rfl rfl (congrArg Value.bool g_1) ?_
      refine Wx.rd (v := .bool (decide (60 < (l.length : Int)))) (rd_gtr rfl rfl) rfl ?_
      refine Wx.rd (v := .bool (decide (60 < (l.length : Int)))) (rd_pickF (congrArg Value.bool g_1) rfl) rfl ?_
      refine Wx.nil ⟨(), hS, ⟨?_, trivial⟩, Out.look rfl Out.refl⟩
      show Value.bool (decide (60 < (l.length : Int))) = Value.bool (decide (60 < (rim.size : Int)) || decide (60 < (l.length : Int)))
      rw [g_1]; rfl
  rintro ⟨⟩ u_5 w_4 hS
  refine Wx.nil ?_
  refine W.cond rfl (fun c0 => ?_) (fun c0 => ?_)
  · -- yes
    try simp only [Bool.and_eq_true, Bool.or_eq_true, Bool.not_eq_true', Bool.and_eq_false_iff, Bool.or_eq_false_iff, Bool.not_eq_false', decide_eq_true_eq, decide_eq_false_iff_not, not_or, Bool.false_eq_true, Bool.true_eq_false, false_or, or_false, not_false_eq_true] at c0
    refine W.seq ?_
    refine W.reg ?_
    refine Wx.callF (run_callF Tryd.call16 rfl) (F16 hS.fb_lt (hG.ext hS.bel)) rfl ?_
    rintro r_6 w_7 hx_8 rfl
    have hS := hS.ext hx_8
    refine Wx.rd (v := .bool true) (rd_assign rfl) rfl ?_
    refine Wx.nil ?_
    exact W.ret ⟨.bool true, ResIs.one, hS.bel, rfl⟩
  · -- no
    try simp only [Bool.and_eq_true, Bool.or_eq_true, Bool.not_eq_true', Bool.and_eq_false_iff, Bool.or_eq_false_iff, Bool.not_eq_false', decide_eq_true_eq, decide_eq_false_iff_not, not_or, Bool.false_eq_true, Bool.true_eq_false, false_or, or_false, not_false_eq_true] at c0
    refine W.skip ?_
    refine W.seq ?_
    refine W.reg ?_
    refine Wx.rd (v := .string rim) (rd_move rfl) rfl ?_
    refine Wx.callF (run_callF Tryd.call17 rfl) (F17 (by first | assumption | (simp only [maxLen]; omega) | (simp only [ByteArray.size_extract, ByteArray.size_append, maxLen] at *; omega) | decide)) rfl ?_
    rintro r_9 w_10 hx_11 rfl
    have hS := hS.ext hx_11
    refine Wx.rd (v := .string rim) (rd_move rfl) rfl ?_
    refine Wx.callF (run_callF Tryd.call18 rfl) (F18 (by first | assumption | (simp only [maxLen]; omega) | (simp only [ByteArray.size_extract, ByteArray.size_append, maxLen] at *; omega) | decide)) rfl ?_
    rintro r_12 w_13 hx_14 rfl
    have hS := hS.ext hx_14
    refine Wx.rd (v := .bool true) (Rd.to (v := .bool (decide ((rimE rim) = (rimE rim)))) (rd_eql rfl rfl) (congrArg (Value.bool) (show (true : Bool) = (decide ((rimE rim) = (rimE rim)) : Bool) from (decide_eq_true rfl).symm).symm)) rfl ?_
    refine Wx.rd (v := .bool true) (rd_move rfl) rfl ?_
    refine Wx.gyes rfl rfl rfl ?_
    refine Wx.rd (v := .string rim) (rd_move rfl) rfl ?_
    refine Wx.gyes rfl rfl rfl ?_
    refine Wx.rd (v := lv) (rd_move rfl) rfl ?_
    refine Wx.gyes rfl rfl rfl ?_
    refine Wx.callF (run_callF Tryd.call19 rfl) (F19 (by first | assumption | (simp only [maxLen]; omega) | (simp only [ByteArray.size_extract, ByteArray.size_append, maxLen] at *; omega) | decide) (hS.arg a_lv) (hG.ext hS.bel)) rfl ?_
    rintro r_15 w_16 hx_17 rfl
    have hS := hS.ext hx_17
    refine Wx.gyes rfl rfl rfl ?_
    refine Wx.rd (v := .string rim) (rd_move rfl) rfl ?_
    refine Wx.gyes rfl rfl rfl ?_
    refine Wx.rd (v := lv) (rd_move rfl) rfl ?_
    refine Wx.gyes rfl rfl rfl ?_
    refine Wx.callF (run_callF Tryd.call20 rfl) (F20 (by first | assumption | (simp only [maxLen]; omega) | (simp only [ByteArray.size_extract, ByteArray.size_append, maxLen] at *; omega) | decide) (hS.arg a_lv)) rfl ?_
    rintro r_18 w_19 hx_20 rfl
    have hS := hS.ext hx_20
    refine Wx.gyes rfl rfl rfl ?_
    refine Wx.rd (v := .bool true) (Rd.to (v := .bool (decide ((validE rim l) = (validE rim l)))) (rd_eql rfl rfl) (congrArg (Value.bool) (show (true : Bool) = (decide ((validE rim l) = (validE rim l)) : Bool) from (decide_eq_true rfl).symm).symm)) rfl ?_
    refine Wx.rd (v := .bool true) (rd_pickT rfl rfl) rfl ?_
    refine Wx.rd (v := .bool true) (rd_move rfl) rfl ?_
    refine Wx.gyes rfl rfl rfl ?_
    refine Wx.callF (run_callF Tryd.call16 rfl) (F16 hS.fb_lt (hG.ext hS.bel)) rfl ?_
    rintro r_21 w_22 hx_23 rfl
    have hS := hS.ext hx_23
    refine Wx.rd (v := .bool true) (rd_pickT rfl rfl) rfl ?_
    refine Wx.rd (v := .bool true) (rd_assign rfl) rfl ?_
    refine Wx.nil ?_
    exact W.ret ⟨.bool true, ResIs.one, hS.bel, rfl⟩

theorem F4 {rim : ByteArray} {O : List (Option Nat)} {w : World} (s_rim : rim.size ≤ maxLen) (hO : ∀ b, some b ∈ O → b < w.heap.size) (hG : Laid w) : Calls Tryd.prog 4 #[.string rim] w (Ret w (fun r _ => r = .bool true)) := by
  have hS := St.start w O hO
  refine enterR Tryd.func4 rfl Tryd.ntmps4 Tryd.results4 rfl ?_
  refine W.seq ?_
  refine W.reg ?_
  refine Wx.rd (v := .bool false) (rd_assign rfl) rfl ?_
  refine Wx.nil ?_
  refine W.seq ?_
  refine W.seq ?_
  refine W.reg ?_
  refine Wx.rd (v := .string rim) (rd_move rfl) rfl ?_
  refine Wx.rd (v := .int .i64 (rim.size : Int)) (rd_lenS rfl Tryd.underlying9) rfl ?_
  refine Wx.rd (v := .bool (decide (60 < (rim.size : Int)))) (rd_gtr rfl rfl) rfl ?_
  refine Wx.nil ?_
  refine W.condD rfl (fun c0 => ?_) (fun c0 => ?_)
  · -- yes
    refine W.seq ?_
    refine W.reg ?_
    refine Wx.callF (run_callF Tryd.call16 rfl) (F16 hS.fb_lt (hG.ext hS.bel)) rfl ?_
    rintro r_1 w_2 hx_3 rfl
    have hS := hS.ext hx_3
    refine Wx.rd (v := .bool true) (rd_assign rfl) rfl ?_
    refine Wx.nil ?_
    exact W.ret ⟨.bool true, ResIs.one, hS.bel, rfl⟩
  · -- no
    refine W.skip ?_
    refine W.seq ?_
    refine W.reg ?_
    refine Wx.rd (v := .string rim) (rd_move rfl) rfl ?_
    refine Wx.callF (run_callF Tryd.call21 rfl) (F21 (by first | assumption | (simp only [maxLen]; omega) | (simp only [ByteArray.size_extract, ByteArray.size_append, maxLen] at *; omega) | decide) (hG.ext hS.bel)) rfl ?_
    rintro r_4 w_5 hx_6 rfl
    have hS := hS.ext hx_6
    refine Wx.rd (v := .tuple #[.int .i64 (mostV rim), .int .i64 (rimE rim)]) (rd_move rfl) rfl ?_
    refine Wx.rd (v := .int .i64 (mostV rim)) (rd_extract rfl rfl) rfl ?_
    refine Wx.rd (v := .int .i64 (rimE rim)) (rd_extract rfl rfl) rfl ?_
    refine Wx.rd (v := .int .i64 (mostV rim)) (rd_assign rfl) rfl ?_
    refine Wx.rd (v := .int .i64 (rimE rim)) (rd_assign rfl) rfl ?_
    refine Wx.nil ?_
    refine W.seq ?_
    refine W.reg ?_
    refine Wx.rd (v := .string rim) (rd_move rfl) rfl ?_
    refine Wx.callF (run_callF Tryd.call22 rfl) (F22 (by first | assumption | (simp only [maxLen]; omega) | (simp only [ByteArray.size_extract, ByteArray.size_append, maxLen] at *; omega) | decide) hS.fb_lt) rfl ?_
    rintro r_7 w_8 hx_9 rfl
    have hS := hS.ext hx_9
    refine Wx.rd (v := .tuple #[.int .i64 (mostV rim), .int .i64 (rimE rim)]) (rd_move rfl) rfl ?_
    refine Wx.rd (v := .int .i64 (mostV rim)) (rd_extract rfl rfl) rfl ?_
    refine Wx.rd (v := .int .i64 (rimE rim)) (rd_extract rfl rfl) rfl ?_
    refine Wx.rd (v := .int .i64 (mostV rim)) (rd_assign rfl) rfl ?_
    refine Wx.rd (v := .int .i64 (rimE rim)) (rd_assign rfl) rfl ?_
    refine Wx.nil ?_
    refine W.seq ?_
    refine W.reg ?_
    refine Wx.rd (v := .string rim) (rd_move rfl) rfl ?_
    refine Wx.callF (run_callF Tryd.call23 rfl) (F23 (by first | assumption | (simp only [maxLen]; omega) | (simp only [ByteArray.size_extract, ByteArray.size_append, maxLen] at *; omega) | decide) (hG.ext hS.bel)) rfl ?_
    rintro r_10 w_11 hx_12 rfl
    have hS := hS.ext hx_12
    refine Wx.rd (v := .tuple #[.int .i64 (countV rim), .int .i64 (rimE rim)]) (rd_move rfl) rfl ?_
    refine Wx.rd (v := .int .i64 (countV rim)) (rd_extract rfl rfl) rfl ?_
    refine Wx.rd (v := .int .i64 (rimE rim)) (rd_extract rfl rfl) rfl ?_
    refine Wx.rd (v := .int .i64 (countV rim)) (rd_assign rfl) rfl ?_
    refine Wx.rd (v := .int .i64 (rimE rim)) (rd_assign rfl) rfl ?_
    refine Wx.nil ?_
    refine W.seq ?_
    refine W.reg ?_
    refine Wx.rd (v := .string rim) (rd_move rfl) rfl ?_
    refine Wx.callF (run_callF Tryd.call24 rfl) (F24 (by first | assumption | (simp only [maxLen]; omega) | (simp only [ByteArray.size_extract, ByteArray.size_append, maxLen] at *; omega) | decide) hS.fb_lt) rfl ?_
    rintro r_13 w_14 hx_15 rfl
    have hS := hS.ext hx_15
    refine Wx.rd (v := .tuple #[.int .i64 (countV rim), .int .i64 (rimE rim)]) (rd_move rfl) rfl ?_
    refine Wx.rd (v := .int .i64 (countV rim)) (rd_extract rfl rfl) rfl ?_
    refine Wx.rd (v := .int .i64 (rimE rim)) (rd_extract rfl rfl) rfl ?_
    refine Wx.rd (v := .int .i64 (countV rim)) (rd_assign rfl) rfl ?_
    refine Wx.rd (v := .int .i64 (rimE rim)) (rd_assign rfl) rfl ?_
    refine Wx.nil ?_
    refine W.seq ?_
    refine W.seq ?_
    refine W.reg ?_
    refine Wx.rd (v := .int .i64 (mostV rim)) (rd_move rfl) rfl ?_
    refine Wx.rd (v := .int .i64 (mostV rim)) (rd_move rfl) rfl ?_
    refine Wx.rd (v := .bool false) (Rd.to (v := .bool (decide ((mostV rim) ≠ (mostV rim)))) (rd_neq rfl rfl) (congrArg (Value.bool) (show (false : Bool) = (decide ((mostV rim) ≠ (mostV rim)) : Bool) from (decide_eq_false (not_not_intro rfl)).symm).symm)) rfl ?_
    refine Wx.rd (v := .bool false) (rd_move rfl) rfl ?_
    refine Wx.gyes rfl rfl rfl ?_
    refine Wx.rd (v := .int .i64 (rimE rim)) (rd_move rfl) rfl ?_
    refine Wx.gyes rfl rfl rfl ?_
    refine Wx.rd (v := .int .i64 (rimE rim)) (rd_move rfl) rfl ?_
    refine Wx.gyes rfl rfl rfl ?_
    refine Wx.rd (v := .bool false) (Rd.to (v := .bool (decide ((rimE rim) ≠ (rimE rim)))) (rd_neq rfl rfl) (congrArg (Value.bool) (show (false : Bool) = (decide ((rimE rim) ≠ (rimE rim)) : Bool) from (decide_eq_false (not_not_intro rfl)).symm).symm)) rfl ?_
    refine Wx.rd (v := .bool false) (rd_pickF rfl rfl) rfl ?_
    refine Wx.rd (v := .bool false) (rd_move rfl) rfl ?_
    refine Wx.gyes rfl rfl rfl ?_
    refine Wx.rd (v := .int .i64 (countV rim)) (rd_move rfl) rfl ?_
    refine Wx.gyes rfl rfl rfl ?_
    refine Wx.rd (v := .int .i64 (countV rim)) (rd_move rfl) rfl ?_
    refine Wx.gyes rfl rfl rfl ?_
    refine Wx.rd (v := .bool false) (Rd.to (v := .bool (decide ((countV rim) ≠ (countV rim)))) (rd_neq rfl rfl) (congrArg (Value.bool) (show (false : Bool) = (decide ((countV rim) ≠ (countV rim)) : Bool) from (decide_eq_false (not_not_intro rfl)).symm).symm)) rfl ?_
    refine Wx.rd (v := .bool false) (rd_pickF rfl rfl) rfl ?_
    refine Wx.rd (v := .bool false) (rd_move rfl) rfl ?_
    refine Wx.gyes rfl rfl rfl ?_
    refine Wx.rd (v := .int .i64 (rimE rim)) (rd_move rfl) rfl ?_
    refine Wx.gyes rfl rfl rfl ?_
    refine Wx.rd (v := .int .i64 (rimE rim)) (rd_move rfl) rfl ?_
    refine Wx.gyes rfl rfl rfl ?_
    refine Wx.rd (v := .bool false) (Rd.to (v := .bool (decide ((rimE rim) ≠ (rimE rim)))) (rd_neq rfl rfl) (congrArg (Value.bool) (show (false : Bool) = (decide ((rimE rim) ≠ (rimE rim)) : Bool) from (decide_eq_false (not_not_intro rfl)).symm).symm)) rfl ?_
    refine Wx.rd (v := .bool false) (rd_pickF rfl rfl) rfl ?_
    refine Wx.nil ?_
    refine W.condF rfl rfl ?_
    refine W.skip ?_
    refine W.seq ?_
    refine W.reg ?_
    refine Wx.rd (v := .string rim) (rd_move rfl) rfl ?_
    refine Wx.callF (run_callF Tryd.call25 rfl) (F25 (by first | assumption | (simp only [maxLen]; omega) | (simp only [ByteArray.size_extract, ByteArray.size_append, maxLen] at *; omega) | decide) (hG.ext hS.bel)) rfl ?_
    rintro r_16 w_17 hx_18 ⟨v_19, rfl, hv_20⟩
    have hS := hS.pushFr hx_18 hv_20
    refine Wx.rd (v := .tuple #[v_19, .int .i64 (rimE rim)]) (rd_move rfl) rfl ?_
    refine Wx.rd (v := v_19) (rd_extract rfl rfl) rfl ?_
    refine Wx.rd (v := .int .i64 (rimE rim)) (rd_extract rfl rfl) rfl ?_
    refine Wx.rd (v := v_19) (rd_assign rfl) rfl ?_
    refine Wx.rd (v := .int .i64 (rimE rim)) (rd_assign rfl) rfl ?_
    refine Wx.nil ?_
    refine W.seq ?_
    refine W.reg ?_
    refine Wx.rd (v := .string rim) (rd_move rfl) rfl ?_
    refine Wx.callF (run_callF Tryd.call26 rfl) (F26 (by first | assumption | (simp only [maxLen]; omega) | (simp only [ByteArray.size_extract, ByteArray.size_append, maxLen] at *; omega) | decide) hS.fb_lt) rfl ?_
    rintro r_22 w_23 hx_24 ⟨v_25, rfl, hv_26⟩
    have ln_28 := hv_26.len63
    have hS := hS.ext hx_24
    have hS := hS.add hv_26
    refine Wx.rd (v := .tuple #[v_25, .int .i64 (rimE rim)]) (rd_move rfl) rfl ?_
    refine Wx.rd (v := v_25) (rd_extract rfl rfl) rfl ?_
    refine Wx.rd (v := .int .i64 (rimE rim)) (rd_extract rfl rfl) rfl ?_
    refine Wx.rd (v := v_25) (rd_assign rfl) rfl ?_
    refine Wx.rd (v := .int .i64 (rimE rim)) (rd_assign rfl) rfl ?_
    refine Wx.nil ?_
    refine W.seq ?_
    refine W.reg ?_
    refine Wx.rd (v := .string rim) (rd_move rfl) rfl ?_
    refine Wx.callF (run_callF Tryd.call27 rfl) (F27 (by first | assumption | (simp only [maxLen]; omega) | (simp only [ByteArray.size_extract, ByteArray.size_append, maxLen] at *; omega) | decide) (hG.ext hS.bel)) rfl ?_
    rintro r_29 w_30 hx_31 ⟨v_32, rfl, hv_33⟩
    have hS := hS.pushFr hx_31 hv_33
    refine Wx.rd (v := .tuple #[v_32, .int .i64 (rimE rim)]) (rd_move rfl) rfl ?_
    refine Wx.rd (v := v_32) (rd_extract rfl rfl) rfl ?_
    refine Wx.rd (v := .int .i64 (rimE rim)) (rd_extract rfl rfl) rfl ?_
    refine Wx.rd (v := v_32) (rd_assign rfl) rfl ?_
    refine Wx.rd (v := .int .i64 (rimE rim)) (rd_assign rfl) rfl ?_
    refine Wx.nil ?_
    refine W.seq ?_
    refine W.reg ?_
    refine Wx.rd (v := .string rim) (rd_move rfl) rfl ?_
    refine Wx.callF (run_callF Tryd.call28 rfl) (F28 (by first | assumption | (simp only [maxLen]; omega) | (simp only [ByteArray.size_extract, ByteArray.size_append, maxLen] at *; omega) | decide) hS.fb_lt) rfl ?_
    rintro r_35 w_36 hx_37 ⟨v_38, rfl, hv_39⟩
    have hS := hS.pushFr hx_37 hv_39
    refine Wx.rd (v := .tuple #[v_38, .int .i64 (rimE rim)]) (rd_move rfl) rfl ?_
    refine Wx.rd (v := v_38) (rd_extract rfl rfl) rfl ?_
    refine Wx.rd (v := .int .i64 (rimE rim)) (rd_extract rfl rfl) rfl ?_
    refine Wx.rd (v := v_38) (rd_assign rfl) rfl ?_
    refine Wx.rd (v := .int .i64 (rimE rim)) (rd_assign rfl) rfl ?_
    refine Wx.nil ?_
    refine W.seq ?_
    refine W.reg ?_
    refine Wx.rd (v := v_19) (rd_move rfl) rfl ?_
    refine Wx.rd (v := v_25) (rd_move rfl) rfl ?_
    refine Wx.callF (run_callF Tryd.call29 rfl) (F29 (hS.lend 3 rfl) (hS.v 2 rfl)) rfl ?_
    rintro r_41 w_42 hx_43 rfl
    have hS := hS.ext hx_43
    rw [show (decide ((firstV rim) = (firstV rim)) : Bool) = true from (decide_eq_true rfl)]
    refine Wx.rd (v := .bool true) (rd_move rfl) rfl ?_
    refine Wx.gyes rfl rfl rfl ?_
    refine Wx.rd (v := .int .i64 (rimE rim)) (rd_move rfl) rfl ?_
    refine Wx.gyes rfl rfl rfl ?_
    refine Wx.rd (v := .int .i64 (rimE rim)) (rd_move rfl) rfl ?_
    refine Wx.gyes rfl rfl rfl ?_
    refine Wx.rd (v := .bool true) (Rd.to (v := .bool (decide ((rimE rim) = (rimE rim)))) (rd_eql rfl rfl) (congrArg (Value.bool) (show (true : Bool) = (decide ((rimE rim) = (rimE rim)) : Bool) from (decide_eq_true rfl).symm).symm)) rfl ?_
    refine Wx.rd (v := .bool true) (rd_pickT rfl rfl) rfl ?_
    refine Wx.rd (v := .bool true) (rd_move rfl) rfl ?_
    refine Wx.gyes rfl rfl rfl ?_
    refine Wx.rd (v := v_32) (rd_move rfl) rfl ?_
    refine Wx.gyes rfl rfl rfl ?_
    refine Wx.rd (v := v_38) (rd_move rfl) rfl ?_
    refine Wx.gyes rfl rfl rfl ?_
    refine Wx.callF (run_callF Tryd.call29 rfl) (F29 (hS.lend 1 rfl) (hS.lend 0 rfl)) rfl ?_
    rintro r_44 w_45 hx_46 rfl
    have hS := hS.ext hx_46
    rw [show (decide ((forcedP rim) = (forcedV rim)) : Bool) = true from (decide_eq_true (forced_eq rim))]
    refine Wx.rd (v := .bool true) (rd_pickT rfl rfl) rfl ?_
    refine Wx.rd (v := .bool true) (rd_move rfl) rfl ?_
    refine Wx.gyes rfl rfl rfl ?_
    refine Wx.rd (v := .int .i64 (rimE rim)) (rd_move rfl) rfl ?_
    refine Wx.gyes rfl rfl rfl ?_
    refine Wx.rd (v := .int .i64 (rimE rim)) (rd_move rfl) rfl ?_
    refine Wx.gyes rfl rfl rfl ?_
    refine Wx.rd (v := .bool true) (Rd.to (v := .bool (decide ((rimE rim) = (rimE rim)))) (rd_eql rfl rfl) (congrArg (Value.bool) (show (true : Bool) = (decide ((rimE rim) = (rimE rim)) : Bool) from (decide_eq_true rfl).symm).symm)) rfl ?_
    refine Wx.rd (v := .bool true) (rd_pickT rfl rfl) rfl ?_
    refine Wx.rd (v := .bool true) (rd_move rfl) rfl ?_
    refine Wx.gyes rfl rfl rfl ?_
    refine Wx.callF (run_callF Tryd.call16 rfl) (F16 hS.fb_lt (hG.ext hS.bel)) rfl ?_
    rintro r_47 w_48 hx_49 rfl
    have hS := hS.ext hx_49
    refine Wx.rd (v := .bool true) (rd_pickT rfl rfl) rfl ?_
    refine Wx.rd (v := .bool true) (rd_assign rfl) rfl ?_
    refine Wx.nil ?_
    exact W.ret ⟨.bool true, ResIs.one, hS.bel, rfl⟩

theorem F5 {rim : ByteArray} {O : List (Option Nat)} {w : World} (s_rim : rim.size ≤ maxLen) (hO : ∀ b, some b ∈ O → b < w.heap.size) (hG : Laid w) : Calls Tryd.prog 5 #[.string rim] w (Ret w (fun r _ => r = .bool true)) := by
  have hS := St.start w O hO
  refine enterR Tryd.func5 rfl Tryd.ntmps5 Tryd.results5 rfl ?_
  refine W.seq ?_
  refine W.reg ?_
  refine Wx.rd (v := .bool false) (rd_assign rfl) rfl ?_
  refine Wx.nil ?_
  refine W.seq ?_
  refine W.seq ?_
  refine W.reg ?_
  refine Wx.rd (v := .string rim) (rd_move rfl) rfl ?_
  refine Wx.rd (v := .int .i64 (rim.size : Int)) (rd_lenS rfl Tryd.underlying9) rfl ?_
  refine Wx.rd (v := .bool (decide (60 < (rim.size : Int)))) (rd_gtr rfl rfl) rfl ?_
  refine Wx.nil ?_
  refine W.condD rfl (fun c0 => ?_) (fun c0 => ?_)
  · -- yes
    refine W.seq ?_
    refine W.reg ?_
    refine Wx.callF (run_callF Tryd.call16 rfl) (F16 hS.fb_lt (hG.ext hS.bel)) rfl ?_
    rintro r_1 w_2 hx_3 rfl
    have hS := hS.ext hx_3
    refine Wx.rd (v := .bool true) (rd_assign rfl) rfl ?_
    refine Wx.nil ?_
    exact W.ret ⟨.bool true, ResIs.one, hS.bel, rfl⟩
  · -- no
    refine W.skip ?_
    refine W.seq ?_
    refine W.reg ?_
    refine Wx.rd (v := .string rim) (rd_move rfl) rfl ?_
    refine Wx.callF (run_callF Tryd.call30 rfl) (F30 (by first | assumption | (simp only [maxLen]; omega) | (simp only [ByteArray.size_extract, ByteArray.size_append, maxLen] at *; omega) | decide) hS.fb_lt (hG.ext hS.bel)) rfl ?_
    rintro r_4 w_5 hx_6 ⟨v_7, rfl, hv_8⟩
    have ln_10 := hv_8.len63
    have hS := hS.ext hx_6
    have hS := hS.add hv_8
    refine Wx.rd (v := .tuple #[v_7, .int .i64 (rimE rim)]) (rd_move rfl) rfl ?_
    refine Wx.rd (v := v_7) (rd_extract rfl rfl) rfl ?_
    refine Wx.rd (v := .int .i64 (rimE rim)) (rd_extract rfl rfl) rfl ?_
    refine Wx.rd (v := v_7) (rd_assign rfl) rfl ?_
    refine Wx.rd (v := .int .i64 (rimE rim)) (rd_assign rfl) rfl ?_
    refine Wx.nil ?_
    refine W.seq ?_
    refine W.reg ?_
    refine Wx.rd (v := .string rim) (rd_move rfl) rfl ?_
    refine Wx.callF (run_callF Tryd.call31 rfl) (F31 (by first | assumption | (simp only [maxLen]; omega) | (simp only [ByteArray.size_extract, ByteArray.size_append, maxLen] at *; omega) | decide) hS.fb_lt) rfl ?_
    rintro r_11 w_12 hx_13 ⟨v_14, rfl, hv_15⟩
    have ln_17 := hv_15.len63
    have hS := hS.ext hx_13
    have hS := hS.add hv_15
    refine Wx.rd (v := .tuple #[v_14, .int .i64 (rimE rim)]) (rd_move rfl) rfl ?_
    refine Wx.rd (v := v_14) (rd_extract rfl rfl) rfl ?_
    refine Wx.rd (v := .int .i64 (rimE rim)) (rd_extract rfl rfl) rfl ?_
    refine Wx.rd (v := v_14) (rd_assign rfl) rfl ?_
    refine Wx.rd (v := .int .i64 (rimE rim)) (rd_assign rfl) rfl ?_
    refine Wx.nil ?_
    refine W.seq ?_
    refine W.reg ?_
    refine Wx.rd (v := .string rim) (rd_move rfl) rfl ?_
    refine Wx.callF (run_callF Tryd.call32 rfl) (F32 (by first | assumption | (simp only [maxLen]; omega) | (simp only [ByteArray.size_extract, ByteArray.size_append, maxLen] at *; omega) | decide) (hG.ext hS.bel)) rfl ?_
    rintro r_18 w_19 hx_20 rfl
    have hS := hS.ext hx_20
    refine Wx.rd (v := .tuple #[.string (restE rim), .int .i64 (rimE rim)]) (rd_move rfl) rfl ?_
    refine Wx.rd (v := .string (restE rim)) (rd_extract rfl rfl) rfl ?_
    refine Wx.rd (v := .int .i64 (rimE rim)) (rd_extract rfl rfl) rfl ?_
    refine Wx.rd (v := .string (restE rim)) (rd_assign rfl) rfl ?_
    refine Wx.rd (v := .int .i64 (rimE rim)) (rd_assign rfl) rfl ?_
    refine Wx.nil ?_
    refine W.seq ?_
    refine W.reg ?_
    refine Wx.rd (v := .string rim) (rd_move rfl) rfl ?_
    refine Wx.callF (run_callF Tryd.call33 rfl) (F33 (by first | assumption | (simp only [maxLen]; omega) | (simp only [ByteArray.size_extract, ByteArray.size_append, maxLen] at *; omega) | decide) hS.fb_lt) rfl ?_
    rintro r_21 w_22 hx_23 rfl
    have hS := hS.ext hx_23
    refine Wx.rd (v := .tuple #[.string (restE rim), .int .i64 (rimE rim)]) (rd_move rfl) rfl ?_
    refine Wx.rd (v := .string (restE rim)) (rd_extract rfl rfl) rfl ?_
    refine Wx.rd (v := .int .i64 (rimE rim)) (rd_extract rfl rfl) rfl ?_
    refine Wx.rd (v := .string (restE rim)) (rd_assign rfl) rfl ?_
    refine Wx.rd (v := .int .i64 (rimE rim)) (rd_assign rfl) rfl ?_
    refine Wx.nil ?_
    refine W.seq ?_
    refine W.seq ?_
    refine W.reg ?_
    refine Wx.rd (v := v_7) (rd_move rfl) rfl ?_
    refine Wx.rd (v := v_14) (rd_move rfl) rfl ?_
    refine Wx.callF (run_callF Tryd.call29 rfl) (F29 (hS.v 1 rfl) (hS.v 0 rfl)) rfl ?_
    rintro r_24 w_25 hx_26 rfl
    have hS := hS.ext hx_26
    refine Wx.rd (v := .bool false) (Rd.to (v := .bool (!(decide ((stepsV rim) = (stepsV rim))))) (rd_not rfl) (congrArg (Value.bool) (show (false : Bool) = (!(decide ((stepsV rim) = (stepsV rim))) : Bool) from (by rw [decide_eq_true rfl]; rfl)).symm)) rfl ?_
    refine Wx.rd (v := .bool false) (rd_move rfl) rfl ?_
    refine Wx.gyes rfl rfl rfl ?_
    refine Wx.rd (v := .int .i64 (rimE rim)) (rd_move rfl) rfl ?_
    refine Wx.gyes rfl rfl rfl ?_
    refine Wx.rd (v := .int .i64 (rimE rim)) (rd_move rfl) rfl ?_
    refine Wx.gyes rfl rfl rfl ?_
    refine Wx.rd (v := .bool false) (Rd.to (v := .bool (decide ((rimE rim) ≠ (rimE rim)))) (rd_neq rfl rfl) (congrArg (Value.bool) (show (false : Bool) = (decide ((rimE rim) ≠ (rimE rim)) : Bool) from (decide_eq_false (not_not_intro rfl)).symm).symm)) rfl ?_
    refine Wx.rd (v := .bool false) (rd_pickF rfl rfl) rfl ?_
    refine Wx.rd (v := .bool false) (rd_move rfl) rfl ?_
    refine Wx.gyes rfl rfl rfl ?_
    refine Wx.rd (v := .string (restE rim)) (rd_move rfl) rfl ?_
    refine Wx.gyes rfl rfl rfl ?_
    refine Wx.rd (v := .string (restE rim)) (rd_move rfl) rfl ?_
    refine Wx.gyes rfl rfl rfl ?_
    refine Wx.rd (v := .bool false) (Rd.to (v := .bool (!((restE rim) == (restE rim)))) (rd_neqS rfl rfl) (congrArg (Value.bool) (show (false : Bool) = (!((restE rim) == (restE rim)) : Bool) from (by rw [ba_beq.2 rfl]; rfl)).symm)) rfl ?_
    refine Wx.rd (v := .bool false) (rd_pickF rfl rfl) rfl ?_
    refine Wx.rd (v := .bool false) (rd_move rfl) rfl ?_
    refine Wx.gyes rfl rfl rfl ?_
    refine Wx.rd (v := .int .i64 (rimE rim)) (rd_move rfl) rfl ?_
    refine Wx.gyes rfl rfl rfl ?_
    refine Wx.rd (v := .int .i64 (rimE rim)) (rd_move rfl) rfl ?_
    refine Wx.gyes rfl rfl rfl ?_
    refine Wx.rd (v := .bool false) (Rd.to (v := .bool (decide ((rimE rim) ≠ (rimE rim)))) (rd_neq rfl rfl) (congrArg (Value.bool) (show (false : Bool) = (decide ((rimE rim) ≠ (rimE rim)) : Bool) from (decide_eq_false (not_not_intro rfl)).symm).symm)) rfl ?_
    refine Wx.rd (v := .bool false) (rd_pickF rfl rfl) rfl ?_
    refine Wx.nil ?_
    refine W.condF rfl rfl ?_
    refine W.skip ?_
    refine W.seq ?_
    refine W.reg ?_
    refine Wx.rd (v := .string rim) (rd_move rfl) rfl ?_
    refine Wx.callF (run_callF Tryd.call34 rfl) (F34 (by first | assumption | (simp only [maxLen]; omega) | (simp only [ByteArray.size_extract, ByteArray.size_append, maxLen] at *; omega) | decide) (hG.ext hS.bel)) rfl ?_
    rintro r_27 w_28 hx_29 rfl
    have hS := hS.ext hx_29
    refine Wx.rd (v := .tuple #[.bool (fullP rim), .int .i64 (rimE rim)]) (rd_move rfl) rfl ?_
    refine Wx.rd (v := .bool (fullP rim)) (rd_extract rfl rfl) rfl ?_
    refine Wx.rd (v := .int .i64 (rimE rim)) (rd_extract rfl rfl) rfl ?_
    refine Wx.rd (v := .bool (fullP rim)) (rd_assign rfl) rfl ?_
    refine Wx.rd (v := .int .i64 (rimE rim)) (rd_assign rfl) rfl ?_
    refine Wx.nil ?_
    refine W.seq ?_
    refine W.reg ?_
    refine Wx.rd (v := .string rim) (rd_move rfl) rfl ?_
    refine Wx.callF (run_callF Tryd.call35 rfl) (F35 (by first | assumption | (simp only [maxLen]; omega) | (simp only [ByteArray.size_extract, ByteArray.size_append, maxLen] at *; omega) | decide) hS.fb_lt) rfl ?_
    rintro r_30 w_31 hx_32 rfl
    have hS := hS.ext hx_32
    refine Wx.rd (v := .tuple #[.bool (fullR rim), .int .i64 (rimE rim)]) (rd_move rfl) rfl ?_
    refine Wx.rd (v := .bool (fullR rim)) (rd_extract rfl rfl) rfl ?_
    refine Wx.rd (v := .int .i64 (rimE rim)) (rd_extract rfl rfl) rfl ?_
    refine Wx.rd (v := .bool (fullR rim)) (rd_assign rfl) rfl ?_
    refine Wx.rd (v := .int .i64 (rimE rim)) (rd_assign rfl) rfl ?_
    refine Wx.nil ?_
    refine W.seq ?_
    refine W.reg ?_
    refine Wx.rd (v := .string rim) (rd_move rfl) rfl ?_
    refine Wx.callF (run_callF Tryd.call36 rfl) (F36 (by first | assumption | (simp only [maxLen]; omega) | (simp only [ByteArray.size_extract, ByteArray.size_append, maxLen] at *; omega) | decide) (hG.ext hS.bel)) rfl ?_
    rintro r_33 w_34 hx_35 rfl
    have hS := hS.ext hx_35
    refine Wx.rd (v := .tuple #[.string (coreV rim), .int .i64 (rimE rim)]) (rd_move rfl) rfl ?_
    refine Wx.rd (v := .string (coreV rim)) (rd_extract rfl rfl) rfl ?_
    refine Wx.rd (v := .int .i64 (rimE rim)) (rd_extract rfl rfl) rfl ?_
    refine Wx.rd (v := .string (coreV rim)) (rd_assign rfl) rfl ?_
    refine Wx.rd (v := .int .i64 (rimE rim)) (rd_assign rfl) rfl ?_
    refine Wx.nil ?_
    refine W.seq ?_
    refine W.reg ?_
    refine Wx.rd (v := .string rim) (rd_move rfl) rfl ?_
    refine Wx.callF (run_callF Tryd.call37 rfl) (F37 (by first | assumption | (simp only [maxLen]; omega) | (simp only [ByteArray.size_extract, ByteArray.size_append, maxLen] at *; omega) | decide) hS.fb_lt) rfl ?_
    rintro r_36 w_37 hx_38 rfl
    have hS := hS.ext hx_38
    refine Wx.rd (v := .tuple #[.string (coreV rim), .int .i64 (rimE rim)]) (rd_move rfl) rfl ?_
    refine Wx.rd (v := .string (coreV rim)) (rd_extract rfl rfl) rfl ?_
    refine Wx.rd (v := .int .i64 (rimE rim)) (rd_extract rfl rfl) rfl ?_
    refine Wx.rd (v := .string (coreV rim)) (rd_assign rfl) rfl ?_
    refine Wx.rd (v := .int .i64 (rimE rim)) (rd_assign rfl) rfl ?_
    refine Wx.nil ?_
    refine W.seq ?_
    refine W.reg ?_
    refine Wx.rd (v := .bool (fullP rim)) (rd_move rfl) rfl ?_
    refine Wx.rd (v := .bool (fullR rim)) (rd_move rfl) rfl ?_
    refine Wx.rd (v := .bool true) (Rd.to (v := .bool ((fullP rim) == (fullR rim))) (rd_eqlB rfl rfl Tryd.underlying4) (congrArg (Value.bool) (show (true : Bool) = ((fullP rim) == (fullR rim) : Bool) from (by rw [full_eq]; exact (beq_self_eq_true _).symm)).symm)) rfl ?_
    refine Wx.rd (v := .bool true) (rd_move rfl) rfl ?_
    refine Wx.gyes rfl rfl rfl ?_
    refine Wx.rd (v := .int .i64 (rimE rim)) (rd_move rfl) rfl ?_
    refine Wx.gyes rfl rfl rfl ?_
    refine Wx.rd (v := .int .i64 (rimE rim)) (rd_move rfl) rfl ?_
    refine Wx.gyes rfl rfl rfl ?_
    refine Wx.rd (v := .bool true) (Rd.to (v := .bool (decide ((rimE rim) = (rimE rim)))) (rd_eql rfl rfl) (congrArg (Value.bool) (show (true : Bool) = (decide ((rimE rim) = (rimE rim)) : Bool) from (decide_eq_true rfl).symm).symm)) rfl ?_
    refine Wx.rd (v := .bool true) (rd_pickT rfl rfl) rfl ?_
    refine Wx.rd (v := .bool true) (rd_move rfl) rfl ?_
    refine Wx.gyes rfl rfl rfl ?_
    refine Wx.rd (v := .string (coreV rim)) (rd_move rfl) rfl ?_
    refine Wx.gyes rfl rfl rfl ?_
    refine Wx.rd (v := .string (coreV rim)) (rd_move rfl) rfl ?_
    refine Wx.gyes rfl rfl rfl ?_
    refine Wx.rd (v := .bool true) (Rd.to (v := .bool ((coreV rim) == (coreV rim))) (rd_eqlS rfl rfl) (congrArg (Value.bool) (show (true : Bool) = ((coreV rim) == (coreV rim) : Bool) from (ba_beq.2 rfl).symm).symm)) rfl ?_
    refine Wx.rd (v := .bool true) (rd_pickT rfl rfl) rfl ?_
    refine Wx.rd (v := .bool true) (rd_move rfl) rfl ?_
    refine Wx.gyes rfl rfl rfl ?_
    refine Wx.rd (v := .int .i64 (rimE rim)) (rd_move rfl) rfl ?_
    refine Wx.gyes rfl rfl rfl ?_
    refine Wx.rd (v := .int .i64 (rimE rim)) (rd_move rfl) rfl ?_
    refine Wx.gyes rfl rfl rfl ?_
    refine Wx.rd (v := .bool true) (Rd.to (v := .bool (decide ((rimE rim) = (rimE rim)))) (rd_eql rfl rfl) (congrArg (Value.bool) (show (true : Bool) = (decide ((rimE rim) = (rimE rim)) : Bool) from (decide_eq_true rfl).symm).symm)) rfl ?_
    refine Wx.rd (v := .bool true) (rd_pickT rfl rfl) rfl ?_
    refine Wx.rd (v := .bool true) (rd_move rfl) rfl ?_
    refine Wx.gyes rfl rfl rfl ?_
    refine Wx.callF (run_callF Tryd.call16 rfl) (F16 hS.fb_lt (hG.ext hS.bel)) rfl ?_
    rintro r_39 w_40 hx_41 rfl
    have hS := hS.ext hx_41
    refine Wx.rd (v := .bool true) (rd_pickT rfl rfl) rfl ?_
    refine Wx.rd (v := .bool true) (rd_assign rfl) rfl ?_
    refine Wx.nil ?_
    exact W.ret ⟨.bool true, ResIs.one, hS.bel, rfl⟩

theorem F6 {a : ByteArray} {b : ByteArray} {d : Int} {O : List (Option Nat)} {w : World} (s_a : a.size ≤ maxLen) (s_b : b.size ≤ maxLen) (i_d : InK .i64 d) (hO : ∀ b, some b ∈ O → b < w.heap.size) (hG : Laid w) : Calls Tryd.prog 6 #[.string a, .string b, .int .i64 d] w (Ret w (fun r _ => r = .bool true)) := by
  have b_d := bd_i64 i_d
  have hS := St.start w O hO
  refine enterR Tryd.func6 rfl Tryd.ntmps6 Tryd.results6 rfl ?_
  refine W.seq ?_
  refine W.reg ?_
  refine Wx.rd (v := .bool false) (rd_assign rfl) rfl ?_
  refine Wx.nil ?_
  refine W.seq ?_
  refine W.seq ?_
  refine W.reg ?_
  refine Wx.rd (v := .string a) (rd_move rfl) rfl ?_
  refine Wx.rd (v := .int .i64 (a.size : Int)) (rd_lenS rfl Tryd.underlying9) rfl ?_
  refine Wx.rd (v := .bool (decide (60 < (a.size : Int)))) (rd_gtr rfl rfl) rfl ?_
  refine Wx.rd (v := .bool (decide (60 < (a.size : Int)))) (rd_move rfl) rfl ?_
  refine Wx.cut (X := Unit) 4 [23, 24, 25, 26] (fun _ => [(26, .bool (decide (60 < (a.size : Int)) || decide (60 < (b.size : Int))))]) (fun _ w' => St w O w' []) ?_ ?_
  · rcases Bool.eq_false_or_eq_true (decide (60 < (a.size : Int))) with g_1 | g_1
    · -- True
      have gp_2 := of_decide_eq_true g_1
      refine Wx.gnoB rfl rfl (congrArg Value.bool g_1) rfl rfl ?_
      refine Wx.gnoB rfl rfl (congrArg Value.bool g_1) rfl rfl ?_
      refine Wx.gnoB rfl rfl (congrArg Value.bool g_1) rfl rfl ?_
      refine Wx.rd (v := .bool true) (rd_pickT (congrArg Value.bool g_1) rfl) rfl ?_
      refine Wx.nil ⟨(), hS, ⟨?_, trivial⟩, Out.look rfl Out.refl⟩
      show Value.bool true = Value.bool (decide (60 < (a.size : Int)) || decide (60 < (b.size : Int)))
      rw [g_1]; rfl
    · -- False
      have gp_3 := of_decide_eq_false g_1
      refine Wx.gyes rfl rfl (congrArg Value.bool g_1) ?_
      refine Wx.rd (v := .string b) (rd_move rfl) rfl ?_
      refine Wx.gyes rfl rfl (congrArg Value.bool g_1) ?_
      refine Wx.rd (v := .int .i64 (b.size : Int)) (rd_lenS rfl Tryd.underlying9) rfl ?_
      refine Wx.gyes rfl rfl (congrArg Value.bool g_1) ?_
      refine Wx.rd (v := .bool (decide (60 < (b.size : Int)))) (rd_gtr rfl rfl) rfl ?_
      refine Wx.rd (v := .bool (decide (60 < (b.size : Int)))) (rd_pickF (congrArg Value.bool g_1) rfl) rfl ?_
      refine Wx.nil ⟨(), hS, ⟨?_, trivial⟩, Out.look rfl Out.refl⟩
      show Value.bool (decide (60 < (b.size : Int))) = Value.bool (decide (60 < (a.size : Int)) || decide (60 < (b.size : Int)))
      rw [g_1]; rfl
  rintro ⟨⟩ u_5 w_4 hS
  refine Wx.nil ?_
  refine W.cond rfl (fun c0 => ?_) (fun c0 => ?_)
  · -- yes
    try simp only [Bool.and_eq_true, Bool.or_eq_true, Bool.not_eq_true', Bool.and_eq_false_iff, Bool.or_eq_false_iff, Bool.not_eq_false', decide_eq_true_eq, decide_eq_false_iff_not, not_or, Bool.false_eq_true, Bool.true_eq_false, false_or, or_false, not_false_eq_true] at c0
    refine W.seq ?_
    refine W.reg ?_
    refine Wx.callF (run_callF Tryd.call16 rfl) (F16 hS.fb_lt (hG.ext hS.bel)) rfl ?_
    rintro r_6 w_7 hx_8 rfl
    have hS := hS.ext hx_8
    refine Wx.rd (v := .bool true) (rd_assign rfl) rfl ?_
    refine Wx.nil ?_
    exact W.ret ⟨.bool true, ResIs.one, hS.bel, rfl⟩
  · -- no
    try simp only [Bool.and_eq_true, Bool.or_eq_true, Bool.not_eq_true', Bool.and_eq_false_iff, Bool.or_eq_false_iff, Bool.not_eq_false', decide_eq_true_eq, decide_eq_false_iff_not, not_or, Bool.false_eq_true, Bool.true_eq_false, false_or, or_false, not_false_eq_true] at c0
    refine W.skip ?_
    refine W.seq ?_
    refine W.reg ?_
    refine Wx.rd (v := .string a) (rd_move rfl) rfl ?_
    refine Wx.rd (v := .int .i64 d) (rd_move rfl) rfl ?_
    refine Wx.callF (run_callF Tryd.call38 rfl) (F38 (by first | assumption | (simp only [maxLen]; omega) | (simp only [ByteArray.size_extract, ByteArray.size_append, maxLen] at *; omega) | decide) (in_i64 (by omega) (by omega)) (hG.ext hS.bel)) rfl ?_
    rintro r_9 w_10 hx_11 rfl
    have hS := hS.ext hx_11
    refine Wx.rd (v := .tuple #[.string (turnS a d), .int .i64 (turnE a d)]) (rd_move rfl) rfl ?_
    refine Wx.rd (v := .string (turnS a d)) (rd_extract rfl rfl) rfl ?_
    refine Wx.rd (v := .int .i64 (turnE a d)) (rd_extract rfl rfl) rfl ?_
    refine Wx.rd (v := .string (turnS a d)) (rd_assign rfl) rfl ?_
    refine Wx.rd (v := .int .i64 (turnE a d)) (rd_assign rfl) rfl ?_
    refine Wx.nil ?_
    refine W.seq ?_
    refine W.reg ?_
    refine Wx.rd (v := .string a) (rd_move rfl) rfl ?_
    refine Wx.rd (v := .int .i64 d) (rd_move rfl) rfl ?_
    refine Wx.callF (run_callF Tryd.call39 rfl) (F39 (by first | assumption | (simp only [maxLen]; omega) | (simp only [ByteArray.size_extract, ByteArray.size_append, maxLen] at *; omega) | decide) (in_i64 (by omega) (by omega))) rfl ?_
    rintro r_12 w_13 hx_14 rfl
    have hS := hS.ext hx_14
    refine Wx.rd (v := .tuple #[.string (turnS a d), .int .i64 (turnE a d)]) (rd_move rfl) rfl ?_
    refine Wx.rd (v := .string (turnS a d)) (rd_extract rfl rfl) rfl ?_
    refine Wx.rd (v := .int .i64 (turnE a d)) (rd_extract rfl rfl) rfl ?_
    refine Wx.rd (v := .string (turnS a d)) (rd_assign rfl) rfl ?_
    refine Wx.rd (v := .int .i64 (turnE a d)) (rd_assign rfl) rfl ?_
    refine Wx.nil ?_
    refine W.seq ?_
    refine W.reg ?_
    refine Wx.rd (v := .string a) (rd_move rfl) rfl ?_
    refine Wx.callF (run_callF Tryd.call40 rfl) (F40 (by first | assumption | (simp only [maxLen]; omega) | (simp only [ByteArray.size_extract, ByteArray.size_append, maxLen] at *; omega) | decide) (hG.ext hS.bel)) rfl ?_
    rintro r_15 w_16 hx_17 rfl
    have hS := hS.ext hx_17
    refine Wx.rd (v := .tuple #[.string (oppV a), .int .i64 (rimE a)]) (rd_move rfl) rfl ?_
    refine Wx.rd (v := .string (oppV a)) (rd_extract rfl rfl) rfl ?_
    refine Wx.rd (v := .int .i64 (rimE a)) (rd_extract rfl rfl) rfl ?_
    refine Wx.rd (v := .string (oppV a)) (rd_assign rfl) rfl ?_
    refine Wx.rd (v := .int .i64 (rimE a)) (rd_assign rfl) rfl ?_
    refine Wx.nil ?_
    refine W.seq ?_
    refine W.reg ?_
    refine Wx.rd (v := .string a) (rd_move rfl) rfl ?_
    refine Wx.callF (run_callF Tryd.call41 rfl) (F41 (by first | assumption | (simp only [maxLen]; omega) | (simp only [ByteArray.size_extract, ByteArray.size_append, maxLen] at *; omega) | decide)) rfl ?_
    rintro r_18 w_19 hx_20 rfl
    have hS := hS.ext hx_20
    refine Wx.rd (v := .tuple #[.string (oppV a), .int .i64 (rimE a)]) (rd_move rfl) rfl ?_
    refine Wx.rd (v := .string (oppV a)) (rd_extract rfl rfl) rfl ?_
    refine Wx.rd (v := .int .i64 (rimE a)) (rd_extract rfl rfl) rfl ?_
    refine Wx.rd (v := .string (oppV a)) (rd_assign rfl) rfl ?_
    refine Wx.rd (v := .int .i64 (rimE a)) (rd_assign rfl) rfl ?_
    refine Wx.nil ?_
    refine W.seq ?_
    refine W.reg ?_
    refine Wx.rd (v := .string a) (rd_move rfl) rfl ?_
    refine Wx.rd (v := .string b) (rd_move rfl) rfl ?_
    refine Wx.callF (run_callF Tryd.call42 rfl) (F42 (by first | assumption | (simp only [maxLen]; omega) | (simp only [ByteArray.size_extract, ByteArray.size_append, maxLen] at *; omega) | decide) (by first | assumption | (simp only [maxLen]; omega) | (simp only [ByteArray.size_extract, ByteArray.size_append, maxLen] at *; omega) | decide) (hG.ext hS.bel)) rfl ?_
    rintro r_21 w_22 hx_23 rfl
    have hS := hS.ext hx_23
    refine Wx.rd (v := .tuple #[.bool (alikeP a b), .int .i64 (alikeE a b)]) (rd_move rfl) rfl ?_
    refine Wx.rd (v := .bool (alikeP a b)) (rd_extract rfl rfl) rfl ?_
    refine Wx.rd (v := .int .i64 (alikeE a b)) (rd_extract rfl rfl) rfl ?_
    refine Wx.rd (v := .bool (alikeP a b)) (rd_assign rfl) rfl ?_
    refine Wx.rd (v := .int .i64 (alikeE a b)) (rd_assign rfl) rfl ?_
    refine Wx.nil ?_
    refine W.seq ?_
    refine W.reg ?_
    refine Wx.rd (v := .string a) (rd_move rfl) rfl ?_
    refine Wx.rd (v := .string b) (rd_move rfl) rfl ?_
    refine Wx.callF (run_callF Tryd.call43 rfl) (F43 (by first | assumption | (simp only [maxLen]; omega) | (simp only [ByteArray.size_extract, ByteArray.size_append, maxLen] at *; omega) | decide) (by first | assumption | (simp only [maxLen]; omega) | (simp only [ByteArray.size_extract, ByteArray.size_append, maxLen] at *; omega) | decide) hS.fb_lt) rfl ?_
    rintro r_24 w_25 hx_26 rfl
    have hS := hS.ext hx_26
    refine Wx.rd (v := .tuple #[.bool (alikeR a b), .int .i64 (alikeE a b)]) (rd_move rfl) rfl ?_
    refine Wx.rd (v := .bool (alikeR a b)) (rd_extract rfl rfl) rfl ?_
    refine Wx.rd (v := .int .i64 (alikeE a b)) (rd_extract rfl rfl) rfl ?_
    refine Wx.rd (v := .bool (alikeR a b)) (rd_assign rfl) rfl ?_
    refine Wx.rd (v := .int .i64 (alikeE a b)) (rd_assign rfl) rfl ?_
    refine Wx.nil ?_
    refine W.seq ?_
    refine W.reg ?_
    refine Wx.rd (v := .string (turnS a d)) (rd_move rfl) rfl ?_
    refine Wx.rd (v := .string (turnS a d)) (rd_move rfl) rfl ?_
    refine Wx.rd (v := .bool true) (Rd.to (v := .bool ((turnS a d) == (turnS a d))) (rd_eqlS rfl rfl) (congrArg (Value.bool) (show (true : Bool) = ((turnS a d) == (turnS a d) : Bool) from (ba_beq.2 rfl).symm).symm)) rfl ?_
    refine Wx.rd (v := .bool true) (rd_move rfl) rfl ?_
    refine Wx.gyes rfl rfl rfl ?_
    refine Wx.rd (v := .int .i64 (turnE a d)) (rd_move rfl) rfl ?_
    refine Wx.gyes rfl rfl rfl ?_
    refine Wx.rd (v := .int .i64 (turnE a d)) (rd_move rfl) rfl ?_
    refine Wx.gyes rfl rfl rfl ?_
    refine Wx.rd (v := .bool true) (Rd.to (v := .bool (decide ((turnE a d) = (turnE a d)))) (rd_eql rfl rfl) (congrArg (Value.bool) (show (true : Bool) = (decide ((turnE a d) = (turnE a d)) : Bool) from (decide_eq_true rfl).symm).symm)) rfl ?_
    refine Wx.rd (v := .bool true) (rd_pickT rfl rfl) rfl ?_
    refine Wx.rd (v := .bool true) (rd_move rfl) rfl ?_
    refine Wx.gyes rfl rfl rfl ?_
    refine Wx.rd (v := .string (oppV a)) (rd_move rfl) rfl ?_
    refine Wx.gyes rfl rfl rfl ?_
    refine Wx.rd (v := .string (oppV a)) (rd_move rfl) rfl ?_
    refine Wx.gyes rfl rfl rfl ?_
    refine Wx.rd (v := .bool true) (Rd.to (v := .bool ((oppV a) == (oppV a))) (rd_eqlS rfl rfl) (congrArg (Value.bool) (show (true : Bool) = ((oppV a) == (oppV a) : Bool) from (ba_beq.2 rfl).symm).symm)) rfl ?_
    refine Wx.rd (v := .bool true) (rd_pickT rfl rfl) rfl ?_
    refine Wx.rd (v := .bool true) (rd_move rfl) rfl ?_
    refine Wx.gyes rfl rfl rfl ?_
    refine Wx.rd (v := .int .i64 (rimE a)) (rd_move rfl) rfl ?_
    refine Wx.gyes rfl rfl rfl ?_
    refine Wx.rd (v := .int .i64 (rimE a)) (rd_move rfl) rfl ?_
    refine Wx.gyes rfl rfl rfl ?_
    refine Wx.rd (v := .bool true) (Rd.to (v := .bool (decide ((rimE a) = (rimE a)))) (rd_eql rfl rfl) (congrArg (Value.bool) (show (true : Bool) = (decide ((rimE a) = (rimE a)) : Bool) from (decide_eq_true rfl).symm).symm)) rfl ?_
    refine Wx.rd (v := .bool true) (rd_pickT rfl rfl) rfl ?_
    refine Wx.rd (v := .bool true) (rd_move rfl) rfl ?_
    refine Wx.gyes rfl rfl rfl ?_
    refine Wx.rd (v := .bool (alikeP a b)) (rd_move rfl) rfl ?_
    refine Wx.gyes rfl rfl rfl ?_
    refine Wx.rd (v := .bool (alikeR a b)) (rd_move rfl) rfl ?_
    refine Wx.gyes rfl rfl rfl ?_
    refine Wx.rd (v := .bool true) (Rd.to (v := .bool ((alikeP a b) == (alikeR a b))) (rd_eqlB rfl rfl Tryd.underlying4) (congrArg (Value.bool) (show (true : Bool) = ((alikeP a b) == (alikeR a b) : Bool) from (by rw [alike_eq]; exact (beq_self_eq_true _).symm)).symm)) rfl ?_
    refine Wx.rd (v := .bool true) (rd_pickT rfl rfl) rfl ?_
    refine Wx.rd (v := .bool true) (rd_move rfl) rfl ?_
    refine Wx.gyes rfl rfl rfl ?_
    refine Wx.rd (v := .int .i64 (alikeE a b)) (rd_move rfl) rfl ?_
    refine Wx.gyes rfl rfl rfl ?_
    refine Wx.rd (v := .int .i64 (alikeE a b)) (rd_move rfl) rfl ?_
    refine Wx.gyes rfl rfl rfl ?_
    refine Wx.rd (v := .bool true) (Rd.to (v := .bool (decide ((alikeE a b) = (alikeE a b)))) (rd_eql rfl rfl) (congrArg (Value.bool) (show (true : Bool) = (decide ((alikeE a b) = (alikeE a b)) : Bool) from (decide_eq_true rfl).symm).symm)) rfl ?_
    refine Wx.rd (v := .bool true) (rd_pickT rfl rfl) rfl ?_
    refine Wx.rd (v := .bool true) (rd_move rfl) rfl ?_
    refine Wx.gyes rfl rfl rfl ?_
    refine Wx.callF (run_callF Tryd.call16 rfl) (F16 hS.fb_lt (hG.ext hS.bel)) rfl ?_
    rintro r_27 w_28 hx_29 rfl
    have hS := hS.ext hx_29
    refine Wx.rd (v := .bool true) (rd_pickT rfl rfl) rfl ?_
    refine Wx.rd (v := .bool true) (rd_assign rfl) rfl ?_
    refine Wx.nil ?_
    exact W.ret ⟨.bool true, ResIs.one, hS.bel, rfl⟩
end Go.Proofs.YtokdjjebnomciaaDoor

namespace Go.Wk
open Go.RowKit Go.ChangeShapes

section
variable {H : Type} {enc : TypeId × Value → H} {P : Program} {W : World}

theorem inK_of_wf {k : IntKind} {n : Int} (h : (Lit.int k n).wf = true) : InK k n := by
  cases k <;> simp [Lit.wf, IntKind.min, IntKind.max, IntKind.bits, IntKind.signed] at h <;> simp only [InK, lo, hi] <;> omega

theorem cell_lt {a : Addr} {v : Value} (h : W.cell? a = some v) : a.block < W.heap.size := by
  by_cases hb : a.block < W.heap.size
  · exact hb
  · have : W.heap[a.block]? = none := by simp; omega
    simp [World.cell?, this] at h

theorem add_add (a : Addr) (i j : Nat) : (a.add i).add j = a.add (i + j) := by
  obtain ⟨b, o, s⟩ := a
  by_cases hi : i = 0
  · subst hi; simp [Addr.add]
  · by_cases hj : j = 0
    · subst hj; simp [Addr.add]
    · simp [Addr.add, hi, hj, Nat.add_assoc]
/-- What reads as data of type e stands for a y. -/
structure Rds {α : Type} (enc : TypeId × Value → H) (P : Program) (W : World) (t : Ty α) (e : TypeId) : Prop where
  n : P.cellsOf e = t.n
  pos : 0 < t.n
  get : ∀ fuel cs x, DataW.trod enc P W 0 (fun _ => true) true fuel e cs = some x → ∃ y, t.rep [] W y cs

theorem Rds.int {k : IntKind} {e : TypeId} (hu : P.underlying e = some (.int k)) (hc : P.cellsOf e = 1) : Rds enc P W (tI k) e :=
  ⟨hc, Nat.one_pos, fun _ _ _ h => let ⟨n, h1, _, h3⟩ := DataW.trod_int hu h; ⟨n, h1, inK_of_wf h3⟩⟩

theorem list_of {α : Type} {p : Nat → α → Prop} : ∀ n : Nat, (∀ i, i < n → ∃ y, p i y) → ∃ ys : List α, ys.length = n ∧ ∀ i y, ys[i]? = some y → p i y
  | 0, _ => ⟨[], rfl, by simp⟩
  | n + 1, h => by
    obtain ⟨ys, h1, h2⟩ := list_of n (fun i hi => h i (by omega))
    obtain ⟨y, hy⟩ := h n (by omega)
    refine ⟨ys ++ [y], by simp [h1], fun i z hz => ?_⟩
    by_cases hi : i < ys.length
    · rw [List.getElem?_append_left hi] at hz; exact h2 i z hz
    · rw [List.getElem?_append_right (by omega)] at hz
      have : i - ys.length = 0 := by
        rcases Nat.eq_zero_or_pos (i - ys.length) with h | h
        · exact h
        · rw [List.getElem?_eq_none (by simp; omega)] at hz; cases hz
      rw [this] at hz
      simp at hz
      subst hz
      have : i = n := by omega
      rw [this]; exact hy

theorem Rds.sl {α : Type} {t : Ty α} {e s : TypeId} (h : Rds enc P W t e) (hu : P.underlying s = some (.slice e)) (hc : P.cellsOf s = 1) : Rds enc P W (tSl t) s := by
  refine ⟨hc, Nat.one_pos, fun fuel cs x hx => ?_⟩
  rcases Go.Deep.open_slice hu hx with ⟨rfl, _⟩ | ⟨a, len, cap, m, n, D, Pl, rfl, _, hl, hm, hmm, _, hel⟩
  · exact ⟨[], none, 0, rfl, Nat.le_refl _, Nat.zero_le _, fun h => (h rfl).elim⟩
  · obtain ⟨ys, hy1, hy2⟩ := list_of (p := fun i y => ∃ cs', W.cells? 0 (a.add (i * P.cellsOf e)) (P.cellsOf e) = some cs' ∧ t.rep [] W y cs') len (fun i hi => by
      obtain ⟨cs', h1, h2⟩ := hel i (by simp at hmm; omega)
      obtain ⟨y, hy⟩ := h.get _ _ _ h2
      exact ⟨y, cs', h1, hy⟩)
    refine ⟨ys, some a, cap, by rw [hy1], by omega, hm, fun hn => ?_⟩
    have hp : 0 < ys.length := by cases ys with | nil => exact (hn rfl).elim | cons => simp
    have hcell : ∀ i y, ys[i]? = some y → ∃ es, t.rep [] W y es ∧ ∀ j u, es[j]? = some u → W.cell? (a.add (i * t.n + j)) = some u := by
      intro i y hi
      obtain ⟨cs', h1, h2⟩ := hy2 i y hi
      obtain ⟨_, hlen, hc'⟩ := World.cells?_some h1
      refine ⟨cs', h2, fun j u hu' => ?_⟩
      have hj : j < P.cellsOf e := by
        obtain ⟨hlt, _⟩ := List.getElem?_eq_some_iff.1 hu'
        omega
      have := hc' j hj
      rw [hu', h.n, add_add] at this
      exact this
    obtain ⟨y0, hy0⟩ : ∃ y, ys[0]? = some y := ⟨ys[0], List.getElem?_eq_getElem hp⟩
    obtain ⟨es, he, hce⟩ := hcell 0 y0 hy0
    have hel' := t.len he
    obtain ⟨u0, hu0⟩ : ∃ u, es[0]? = some u := ⟨es[0]'(by have := h.pos; omega), List.getElem?_eq_getElem _⟩
    have hc0 := hce 0 u0 hu0
    obtain ⟨b, o, spot⟩ := a
    have hspot : spot = none := by simpa [Addr.add] using World.cell?_spot hc0
    subst hspot
    refine ⟨b, o, rfl, by simp, by simpa [Addr.add] using cell_lt hc0, fun i x hx => ?_⟩
    obtain ⟨es', he', hce'⟩ := hcell i x hx
    exact ⟨es', he', fun j u hu' => by rw [Nat.add_assoc, ← Go.WideShapes.add_plain]; exact hce' j u hu'⟩

/-- A slice's value: an argument, or one field of a struct. -/
theorem Rds.v {α : Type} {t : Ty α} {e : TypeId} {v : Value} {d : DataW H} {p : List MemPlace} (h : Rds enc P W (tSl t) e) (hx : DataW.Trod enc P W 0 (fun _ => true) true e v d p) (hone : v.oneCell' = true) : ∃ y, V (tSl t) y v [] W := by
  obtain ⟨fuel, hf⟩ := hx
  obtain ⟨y, hy⟩ := h.get _ _ _ hf
  rw [cells_one hone] at hy
  obtain ⟨a, cap, h1, h2⟩ := hy
  exact ⟨y, [v], by simp at h1; rw [h1]; rfl, a, cap, h1, h2⟩
theorem Rds.v1 {α : Type} {t : Ty α} {e : TypeId} {v : Value} {fuel : Nat} {x : DataW H × List MemPlace} (h : Rds enc P W (tSl t) e) (hx : DataW.trod enc P W 0 (fun _ => true) true fuel e [v] = some x) : ∃ y, V (tSl t) y v [] W := by
  obtain ⟨y, a, cap, h1, h2⟩ := h.get _ _ _ hx
  exact ⟨y, [v], by simp at h1; rw [h1]; rfl, a, cap, h1, h2⟩
/-- A value of integers of one kind alone, as many as it has cells. -/
def RdI (enc : TypeId × Value → H) (P : Program) (W : World) (k : IntKind) (m : Nat) (e : TypeId) : Prop :=
  ∀ fuel cs x, DataW.trod enc P W 0 (fun _ => true) true fuel e cs = some x → ∃ zs : List Int, zs.length = m ∧ cs = zs.map (Value.int k) ∧ ∀ z ∈ zs, InK k z
theorem RdI.int {k : IntKind} {e : TypeId} (hu : P.underlying e = some (.int k)) : RdI enc P W k 1 e := by
  intro fuel cs x h
  obtain ⟨n, rfl, _, h3⟩ := DataW.trod_int hu h
  exact ⟨[n], rfl, rfl, by simpa using inK_of_wf h3⟩
theorem RdI.array {k : IntKind} {n : Nat} {e t : TypeId} (hu : P.underlying t = some (.array n e)) (he : P.underlying e = some (.int k)) (hc : P.cellsOf e = 1) (hn : P.cellsOf t = n) : RdI enc P W k n t := by
  intro fuel cs x h
  obtain ⟨xs, m, _, _, hl, hx, hel⟩ := DataW.trod_array hu h
  rw [hc] at hel
  rw [hn] at hl
  have h1 : ∀ i, i < n → ∃ z, cs[i]? = some (.int k z) ∧ InK k z := by
    intro i hi
    have := hel i hi
    cases hxi : xs[i]? with
    | none => rw [List.getElem?_eq_none_iff] at hxi; omega
    | some y =>
      rw [hxi] at this
      obtain ⟨z, hz, _, hw⟩ := DataW.trod_int he this
      refine ⟨z, ?_, inK_of_wf hw⟩
      have h2 := congrArg (fun l : List Value => l[0]?) hz
      simp only [List.getElem?_take, List.getElem?_drop] at h2
      simpa using h2
  obtain ⟨zs, z1, z2⟩ := list_of (p := fun i z => cs[i]? = some (.int k z) ∧ InK k z) n h1
  refine ⟨zs, z1, List.ext_getElem? fun i => ?_, fun z hz => ?_⟩
  · rw [List.getElem?_map]
    by_cases hi : i < n
    · have hzi : zs[i]? = some zs[i] := List.getElem?_eq_getElem (by omega)
      rw [hzi, (z2 i _ hzi).1]; rfl
    · rw [List.getElem?_eq_none (by omega), List.getElem?_eq_none (by omega)]; rfl
  · obtain ⟨i, hi⟩ := List.getElem?_of_mem hz
    exact (z2 i z hi).2
theorem RdI.struct3 {k : IntKind} {t : TypeId} {f0 f1 f2 : Field} {m0 m1 m2 : Nat} (hu : P.underlying t = some (.struct #[f0, f1, f2])) (h0 : RdI enc P W k m0 f0.type) (h1 : RdI enc P W k m1 f1.type) (h2 : RdI enc P W k m2 f2.type)
    (c0 : P.cellsOf f0.type = m0) (c1 : P.cellsOf f1.type = m1) (c2 : P.cellsOf f2.type = m2) (o0 : f0.offset = 0) (o1 : f1.offset = m0) (o2 : f2.offset = m0 + m1) (hC : P.cellsOf t = m0 + m1 + m2) : RdI enc P W k (m0 + m1 + m2) t := by
  intro fuel cs x h
  obtain ⟨y0, y1, y2, n, _, hl, r0, r1, r2⟩ := Go.Deep.trod_struct3 hu h
  rw [c0, o0] at r0
  rw [c1, o1] at r1
  rw [c2, o2] at r2
  rw [hC] at hl
  obtain ⟨z0, l0, e0, i0⟩ := h0 _ _ _ r0
  obtain ⟨z1, l1, e1, i1⟩ := h1 _ _ _ r1
  obtain ⟨z2, l2, e2, i2⟩ := h2 _ _ _ r2
  refine ⟨z0 ++ z1 ++ z2, by simp only [List.length_append, l0, l1, l2], ?_, fun z hz => ?_⟩
  · have h3 : List.take m2 (List.drop (m0 + m1) cs) = List.drop m1 (List.drop m0 cs) := by rw [List.drop_drop]; exact List.take_of_length_le (by simp; omega)
    rw [List.map_append, List.map_append, ← e0, ← e1, ← e2, List.drop_zero, h3, List.append_assoc, List.take_append_drop, List.take_append_drop]
  · rcases List.mem_append.1 hz with hz | hz
    · rcases List.mem_append.1 hz with hz | hz
      · exact i0 z hz
      · exact i1 z hz
    · exact i2 z hz
theorem RdI.v {k : IntKind} {t : TypeId} {m : Nat} {cs : Array Value} {d : DataW H} {p : List MemPlace} (h : RdI enc P W k m t) (hx : DataW.Trod enc P W 0 (fun _ => true) true t (.agg cs) d p) : ∃ zs : List Int, zs.length = m ∧ cs = (zs.map (Value.int k)).toArray ∧ ∀ z ∈ zs, InK k z := by
  obtain ⟨fuel, hf⟩ := hx
  obtain ⟨zs, h1, h2, h3⟩ := h _ _ _ hf
  refine ⟨zs, h1, ?_, h3⟩
  rw [← h2]
  simp [Value.cells]
end
end Go.Wk
