/-
  WHAT IS PROVED HERE, TEXT BY TEXT (several texts of one prover, joined to one file; the conditions stand in each statement):
  * WHAT IS PROVED HERE: what functions of layer 5 hand back, each out of its own code; the conditions stand in each statement.
  * WHAT IS PROVED HERE: what functions of layer 5 hand back, each out of its own code; the conditions stand in each statement.
  * WHAT IS PROVED HERE: what functions of layer 5 hand back, each out of its own code; the conditions stand in each statement.
  * WHAT IS PROVED HERE: where the row's listed variables read as the program's text lays them, the library's tables read as the shelf's contracts want it. Conditions stand in each statement.
  * WHAT IS PROVED HERE: arrays of arrays of numbers as they are read at the start. Conditions: the types' closed facts, as hypotheses.
  * WHAT IS PROVED HERE: the given statement of SherdRest: for every input it returns true, and each argument reads as it did. Conditions: none.
-/
import Derived.Test.YtokdjjebnomciaaDoorProg
import Derived.Test.YtokdjjebnomciaaDoorU2
import Derived.Test.YtokdjjebnomciaaDoorU4
import Derived.Test.YtokdjjebnomciaaDoorRows
import Derived.Lib.LaidCaseMet
import Derived.Lib.LaidRTab
import Derived.PinnedBridge
import Derived.ProofKit
import Derived.Lay
import Derived.LaidMore
import Derived.Deep.DeepHandedRow
import Derived.WalkKit
import Derived.OpenShut
import Derived.Carry
import Derived.Lib.SmallJoins
import Derived.Test.YtokdjjebnomciaaDoorCards
import Derived.Test.YtokdjjebnomciaaDoorTie
import Derived.SevenTiedAt
import Derived.Stop.Joined

set_option linter.unusedVariables false
set_option linter.unusedSimpArgs false

namespace Go.Proofs.YtokdjjebnomciaaDoor
open Go.Wk Go.RowKit Go.Lib
set_option linter.unusedVariables false
set_option linter.unusedSimpArgs false
theorem mixedHz_ : Tryd.prog.follows .mixedOrders = true := by kernel_rfl
theorem elHz_22 : ElemI Tryd.prog 22 58 (.agg #[.int .i64 0, .int .i64 0]) 2 16 := ElemI.of Tryd.underlying22 (by kernel_rfl) (by first | rfl | kernel_rfl) (by decide)

theorem F106 {x : Int} {w : World} (i_x : InK .i64 x) : Calls Tryd.prog 106 #[.int .i64 x] w (Ret w (fun r _ => r = .bool false)) := by
  have b_x := bd_i64 i_x
  have hS := St.start0 w
  refine enterR Tryd.func106 rfl Tryd.ntmps106 Tryd.results106 rfl ?_
  refine W.seq ?_
  refine W.reg ?_
  refine Wx.rd (v := .bool false) (rd_assign rfl) rfl ?_
  refine Wx.nil ?_
  refine W.seq ?_
  refine W.reg ?_
  refine Wx.rd (v := .int .i64 x) (rd_move rfl) rfl ?_
  refine Wx.rd (v := .int .i64 x) (rd_move rfl) rfl ?_
  refine Wx.rd (v := .bool (decide (x ≠ x))) (rd_neq rfl rfl) rfl ?_
  refine Wx.rd (v := .bool (decide (x ≠ x))) (rd_assign rfl) rfl ?_
  refine Wx.nil ?_
  have e0_0 : (decide (x ≠ x)) = false := by simp
  exact W.ret ⟨.bool (decide (x ≠ x)), ResIs.one, hS.bel, (by rw [e0_0])⟩

theorem F84 {x : Int} {y : Int} {w : World} (i_x : InK .i64 x) (i_y : InK .i64 y) : Calls Tryd.prog 84 #[.int .i64 x, .int .i64 y] w (Ret w (fun r _ => r = .int .i64 (cmpI x y))) := by
  have b_y := bd_i64 i_y
  have b_x := bd_i64 i_x
  have hS := St.start0 w
  refine enterR Tryd.func84 rfl Tryd.ntmps84 Tryd.results84 rfl ?_
  refine W.seq ?_
  refine W.reg ?_
  refine Wx.rd (v := .int .i64 0) (rd_assign rfl) rfl ?_
  refine Wx.nil ?_
  refine W.seq ?_
  refine W.reg ?_
  refine Wx.rd (v := .int .i64 x) (rd_move rfl) rfl ?_
  refine Wx.callF (run_callF Tryd.call106 rfl) (F106 i_x) rfl ?_
  rintro r_1 w_2 hx_3 rfl
  have hS := hS.ext hx_3
  refine Wx.rd (v := .bool false) (rd_assign rfl) rfl ?_
  refine Wx.nil ?_
  refine W.seq ?_
  refine W.reg ?_
  refine Wx.rd (v := .int .i64 y) (rd_move rfl) rfl ?_
  refine Wx.callF (run_callF Tryd.call106 rfl) (F106 i_y) rfl ?_
  rintro r_4 w_5 hx_6 rfl
  have hS := hS.ext hx_6
  refine Wx.rd (v := .bool false) (rd_assign rfl) rfl ?_
  refine Wx.nil ?_
  refine W.seq ?_
  refine W.seq ?_
  refine W.reg ?_
  refine Wx.rd (v := .bool false) (rd_move rfl) rfl ?_
  refine Wx.nil ?_
  refine W.condF rfl rfl ?_
  refine W.skip ?_
  refine W.seq ?_
  refine W.seq ?_
  refine W.reg ?_
  refine Wx.rd (v := .bool false) (rd_move rfl) rfl ?_
  refine Wx.nil ?_
  refine W.condF rfl rfl ?_
  refine W.skip ?_
  refine W.seq ?_
  refine W.seq ?_
  refine W.reg ?_
  refine Wx.rd (v := .int .i64 x) (rd_move rfl) rfl ?_
  refine Wx.rd (v := .int .i64 y) (rd_move rfl) rfl ?_
  refine Wx.rd (v := .bool (decide (x < y))) (rd_lss rfl rfl) rfl ?_
  refine Wx.nil ?_
  refine W.condD rfl (fun c2 => ?_) (fun c2 => ?_)
  · -- yes
    refine W.seq ?_
    refine W.reg ?_
    refine Wx.rd (v := .int .i64 (-1)) (rd_assign rfl) rfl ?_
    refine Wx.nil ?_
    have e0_0 : (cmpI x y) = (-1 : Int) := by rw [cmpI, if_pos c2]
    exact W.ret ⟨.int .i64 (-1), ResIs.one, hS.bel, (by rw [e0_0])⟩
  · -- no
    refine W.skip ?_
    refine W.seq ?_
    refine W.seq ?_
    refine W.reg ?_
    refine Wx.rd (v := .int .i64 x) (rd_move rfl) rfl ?_
    refine Wx.rd (v := .int .i64 y) (rd_move rfl) rfl ?_
    refine Wx.rd (v := .bool (decide (y < x))) (rd_gtr rfl rfl) rfl ?_
    refine Wx.nil ?_
    refine W.condD rfl (fun c3 => ?_) (fun c3 => ?_)
    · -- yes
      refine W.seq ?_
      refine W.reg ?_
      refine Wx.rd (v := .int .i64 1) (rd_assign rfl) rfl ?_
      refine Wx.nil ?_
      have e1_0 : (cmpI x y) = (1 : Int) := by rw [cmpI, if_neg c2, if_pos c3]
      exact W.ret ⟨.int .i64 1, ResIs.one, hS.bel, (by rw [e1_0])⟩
    · -- no
      refine W.skip ?_
      refine W.seq ?_
      refine W.reg ?_
      refine Wx.rd (v := .int .i64 0) (rd_assign rfl) rfl ?_
      refine Wx.nil ?_
      have e2_0 : (cmpI x y) = (0 : Int) := by rw [cmpI, if_neg c2, if_neg c3]
      exact W.ret ⟨.int .i64 0, ResIs.one, hS.bel, (by rw [e2_0])⟩

theorem F53 {av : Value} {p : List Int} {Fr_av : List (Option Nat)} {bv : Value} {q : List Int} {Fr_bv : List (Option Nat)} {w : World} (h_av : V (tSl (tI .i64)) p av Fr_av w) (h_bv : V (tSl (tI .i64)) q bv Fr_bv w) : Calls Tryd.prog 53 #[av, bv] w (Ret w (fun r _ => r = .int .i64 (cmpL p q))) := by
  have a_av := h_av.any
  have l_av := h_av.len63
  have a_bv := h_bv.any
  have l_bv := h_bv.len63
  have hS := St.start0 w
  refine enterR Tryd.func53 rfl Tryd.ntmps53 Tryd.results53 rfl ?_
  refine W.seq ?_
  refine W.reg ?_
  refine Wx.rd (v := .int .i64 0) (rd_assign rfl) rfl ?_
  refine Wx.nil ?_
  refine W.seq ?_
  refine W.seq ?_
  refine W.reg ?_
  refine Wx.rd (v := av) (rd_move rfl) rfl ?_
  refine Wx.rd (v := .int .i64 (p.length : Int)) (rd_lenV rfl (hS.arg a_av) Tryd.underlying60) rfl ?_
  refine Wx.rd (v := .int .i64 0) (rd_move rfl) rfl ?_
  refine Wx.nil ?_
  refine W.block ?_
  refine W.loop [4, 5, 6, 7, 8, 11, 12, 13, 14, 15, 16, 17, 18, 19, 20, 21, 22, 23, 24, 25, 26, 27, 28, 29, 30] (fun (k : Int) => [(11, .int .i64 k)]) (fun (k : Int) w' => St w [] w' [] ∧ 0 ≤ k ∧ k ≤ p.length ∧ k ≤ q.length ∧ cmpL (p.drop k.toNat) (q.drop k.toNat) = cmpL p q) (fun (k : Int) => (p.length - k).toNat) 0 ⟨rfl, trivial⟩ ⟨hS, (by first | omega | simp), (by first | omega | simp), (by first | omega | simp), (rfl)⟩ ?_
  rintro k u_2 w_1 ⟨hS, h0, h1, h1b, h2⟩
  refine W.seq ?_
  refine W.reg ?_
  refine Wx.rd (v := .bool (decide (k < (p.length : Int)))) (rd_lss rfl rfl) rfl ?_
  refine Wx.nil ?_
  refine W.seq ?_
  refine W.condD rfl (fun c0 => ?_) (fun c0 => ?_)
  · -- yes
    refine W.skip ?_
    refine W.seq ?_
    refine W.block ?_
    refine W.seq ?_
    refine W.reg ?_
    refine Wx.rd (v := .int .i64 k) (rd_move rfl) rfl ?_
    refine Wx.ex (rd_index 0 (hS.arg a_av) rfl rfl Tryd.underlying60 Tryd.sizeOf3 (by first | omega | (simp only [List.length_set, List.length_append, List.length_cons, List.length_nil, List.length_replicate]; omega)) (by first | omega | (simp only [List.length_set, List.length_append, List.length_cons, List.length_nil, List.length_replicate]; omega))) rfl (fun p_3 hp_4 => ?_)
    refine Wx.rd (v := .int .i64 (ix 0 p k)) (rd_loadI hp_4 rfl Tryd.isAgg3 Tryd.sizeOf3) rfl ?_
    have bd_5 := bd_i64 hp_4.inK
    refine Wx.rd (v := .int .i64 k) (rd_assign rfl) rfl ?_
    refine Wx.rd (v := .int .i64 (ix 0 p k)) (rd_assign rfl) rfl ?_
    refine Wx.nil ?_
    refine W.seq ?_
    refine W.seq ?_
    refine W.reg ?_
    refine Wx.rd (v := .int .i64 k) (rd_move rfl) rfl ?_
    refine Wx.rd (v := bv) (rd_move rfl) rfl ?_
    refine Wx.rd (v := .int .i64 (q.length : Int)) (rd_lenV rfl (hS.arg a_bv) Tryd.underlying60) rfl ?_
    refine Wx.rd (v := .bool (decide ((q.length : Int) ≤ k))) (rd_geq rfl rfl) rfl ?_
    refine Wx.nil ?_
    refine W.condD rfl (fun c1 => ?_) (fun c1 => ?_)
    · -- yes
      refine W.seq ?_
      refine W.reg ?_
      refine Wx.rd (v := .int .i64 1) (rd_assign rfl) rfl ?_
      refine Wx.nil ?_
      have e0_0 : (cmpL p q) = (1 : Int) := by rw [← h2, drop_ix (d := 0) h0 c0, drop_end (xs := q) (by omega)]; rfl
      exact W.ret ⟨.int .i64 1, ResIs.one, hS.bel, (by rw [e0_0])⟩
    · -- no
      refine W.skip ?_
      refine W.seq ?_
      refine W.reg ?_
      refine Wx.rd (v := bv) (rd_move rfl) rfl ?_
      refine Wx.rd (v := .int .i64 k) (rd_move rfl) rfl ?_
      refine Wx.ex (rd_index 0 (hS.arg a_bv) rfl rfl Tryd.underlying60 Tryd.sizeOf3 (by first | omega | (simp only [List.length_set, List.length_append, List.length_cons, List.length_nil, List.length_replicate]; omega)) (by first | omega | (simp only [List.length_set, List.length_append, List.length_cons, List.length_nil, List.length_replicate]; omega))) rfl (fun p_6 hp_7 => ?_)
      refine Wx.rd (v := .int .i64 (ix 0 q k)) (rd_loadI hp_7 rfl Tryd.isAgg3 Tryd.sizeOf3) rfl ?_
      have bd_8 := bd_i64 hp_7.inK
      refine Wx.rd (v := .int .i64 (ix 0 q k)) (rd_assign rfl) rfl ?_
      refine Wx.nil ?_
      refine W.seq ?_
      refine W.reg ?_
      refine Wx.rd (v := .int .i64 (ix 0 p k)) (rd_move rfl) rfl ?_
      refine Wx.rd (v := .int .i64 (ix 0 q k)) (rd_move rfl) rfl ?_
      refine Wx.callF (run_callF Tryd.call84 rfl) (F84 (in_i64 (by omega) (by omega)) (in_i64 (by omega) (by omega))) rfl ?_
      rintro r_9 w_10 hx_11 rfl
      have hS := hS.ext hx_11
      have cb_12 := cmpI_bd (ix 0 p k) (ix 0 q k)
      refine Wx.rd (v := .int .i64 (cmpI (ix 0 p k) (ix 0 q k))) (rd_assign rfl) rfl ?_
      refine Wx.nil ?_
      refine W.seq ?_
      refine W.reg ?_
      refine Wx.rd (v := .int .i64 (cmpI (ix 0 p k) (ix 0 q k))) (rd_move rfl) rfl ?_
      refine Wx.rd (v := .bool (decide ((cmpI (ix 0 p k) (ix 0 q k)) ≠ 0))) (rd_neq rfl rfl) rfl ?_
      refine Wx.nil ?_
      refine W.condD rfl (fun c2 => ?_) (fun c2 => ?_)
      · -- yes
        refine W.seq ?_
        refine W.reg ?_
        refine Wx.rd (v := .int .i64 (cmpI (ix 0 p k) (ix 0 q k))) (rd_move rfl) rfl ?_
        refine Wx.rd (v := .int .i64 (cmpI (ix 0 p k) (ix 0 q k))) (rd_assign rfl) rfl ?_
        refine Wx.nil ?_
        have e1_0 : (cmpL p q) = (cmpI (ix 0 p k) (ix 0 q k) : Int) := by rw [← h2, drop_ix (d := 0) h0 c0, drop_ix (d := 0) (xs := q) h0 (by omega), cmpL, if_pos c2]
        exact W.ret ⟨.int .i64 (cmpI (ix 0 p k) (ix 0 q k)), ResIs.one, hS.bel, (by rw [e1_0])⟩
      · -- no
        refine W.skip ?_
        refine W.reg ?_
        refine Wx.rd (v := .int .i64 (k + 1)) (rd_add rfl rfl (in_i64 (by omega) (by omega))) rfl ?_
        refine Wx.rd (v := .int .i64 (k + 1)) (rd_move rfl) rfl ?_
        refine Wx.nil ?_
        refine ⟨k + 1, (by show (p.length - (k + 1)).toNat < (p.length - k).toNat; omega), ?_, ?_, Out.look rfl Out.self⟩
        · exact ⟨hS, (by first | omega | assumption), (by first | omega | assumption), (by first | omega | assumption), (by rw [← h2, drop_ix (d := 0) h0 c0, drop_ix (d := 0) (xs := q) h0 (by omega), cmpL, if_neg c2])⟩
        · exact ⟨rfl, trivial⟩
  · -- no
    refine W.exit rfl ?_
    refine W.seq ?_
    refine W.seq ?_
    refine W.reg ?_
    refine Wx.rd (v := av) (rd_move rfl) rfl ?_
    refine Wx.rd (v := .int .i64 (p.length : Int)) (rd_lenV rfl (hS.arg a_av) Tryd.underlying60) rfl ?_
    refine Wx.rd (v := bv) (rd_move rfl) rfl ?_
    refine Wx.rd (v := .int .i64 (q.length : Int)) (rd_lenV rfl (hS.arg a_bv) Tryd.underlying60) rfl ?_
    refine Wx.rd (v := .bool (decide ((p.length : Int) < (q.length : Int)))) (rd_lss rfl rfl) rfl ?_
    refine Wx.nil ?_
    refine W.condD rfl (fun c3 => ?_) (fun c3 => ?_)
    · -- yes
      refine W.seq ?_
      refine W.reg ?_
      refine Wx.rd (v := .int .i64 (-1)) (rd_assign rfl) rfl ?_
      refine Wx.nil ?_
      have e2_0 : (cmpL p q) = (-1 : Int) := by rw [← h2, drop_end (by omega), drop_ix (d := 0) (xs := q) h0 (by omega)]; rfl
      exact W.ret ⟨.int .i64 (-1), ResIs.one, hS.bel, (by rw [e2_0])⟩
    · -- no
      refine W.skip ?_
      refine W.seq ?_
      refine W.reg ?_
      refine Wx.rd (v := .int .i64 0) (rd_assign rfl) rfl ?_
      refine Wx.nil ?_
      have e3_0 : (cmpL p q) = (0 : Int) := by rw [← h2, drop_end (by omega), drop_end (xs := q) (by omega)]; rfl
      exact W.ret ⟨.int .i64 0, ResIs.one, hS.bel, (by rw [e3_0])⟩

theorem F88 {a : Int} {b : Int} {c : Int} {d : Int} {w : World} (i_a : InK .i64 a) (i_b : InK .i64 b) (i_c : InK .i64 c) (i_d : InK .i64 d) : Calls Tryd.prog 88 #[.agg #[.int .i64 a, .int .i64 b], .agg #[.int .i64 c, .int .i64 d]] w (Ret w (fun r _ => r = .int .i64 (cmpJ (a, b) (c, d)))) := by
  have b_d := bd_i64 i_d
  have b_c := bd_i64 i_c
  have b_b := bd_i64 i_b
  have b_a := bd_i64 i_a
  have hS := St.start0 w
  refine enterR Tryd.func88 rfl Tryd.ntmps88 Tryd.results88 rfl ?_
  refine W.seq ?_
  refine W.reg ?_
  refine Wx.box (cs := [.int .i64 a, .int .i64 b]) hS rfl rfl rfl (fun g_1 w_2 hx_4 hb_3 hS => ?_)
  refine Wx.box (cs := [.int .i64 c, .int .i64 d]) hS rfl rfl rfl (fun g_5 w_6 hx_8 hb_7 hS => ?_)
  refine Wx.rd (v := .int .i64 0) (rd_assign rfl) rfl ?_
  refine Wx.nil ?_
  refine W.seq ?_
  refine W.regQ mixedHz_ (by kernel_rfl) ?_
  refine Wx.rd (v := (.slice (some ⟨g_1, 0, none⟩) 2 2)) (rd_sliceArrA (m := 2) Tryd.underlying58 Tryd.sizeOf3 rfl) rfl ?_
  have hS := hS.sliceBox (o := 0) (k := .i64) (m := 2) (xs := [a, b]) (cap := 2) 1 rfl rfl (fun x hx => by simp only [List.mem_cons, List.not_mem_nil, or_false] at hx; rcases hx with rfl | rfl <;> first | assumption | exact (in_i64 (by omega) (by omega))) rfl (Nat.le_refl _) (by decide)
  refine Wx.rd (v := (.slice (some ⟨g_5, 0, none⟩) 2 2)) (rd_sliceArrA (m := 2) Tryd.underlying58 Tryd.sizeOf3 rfl) rfl ?_
  have hS := hS.sliceBox (o := 0) (k := .i64) (m := 2) (xs := [c, d]) (cap := 2) 1 rfl rfl (fun x hx => by simp only [List.mem_cons, List.not_mem_nil, or_false] at hx; rcases hx with rfl | rfl <;> first | assumption | exact (in_i64 (by omega) (by omega))) rfl (Nat.le_refl _) (by decide)
  refine Wx.callV (v := .int .i64 (cmpL [a, b] [c, d])) (run_callF Tryd.call53 rfl) (fun w_11 hw_12 => (F53 ((hS.v 1 rfl).ext hw_12) ((hS.v 0 rfl).ext hw_12))) rfl ?_
  refine Wx.rd (v := .int .i64 (cmpL [a, b] [c, d])) (rd_assign rfl) rfl ?_
  refine Wx.nilQ (fun w_13 hx_14 => ?_)
  have hS := hS.ext hx_14
  have e0_0 : (cmpJ (a, b) (c, d)) = (cmpL [a, b] [c, d] : Int) := by exact (cmpL_two a b c d).symm
  exact W.ret ⟨.int .i64 (cmpL [a, b] [c, d]), ResIs.one, hS.bel, (by rw [e0_0])⟩

theorem F54 {lv : Value} {l : List (Int × Int)} {O : List (Option Nat)} {w : World} (h_lv : V (tSl (tP (tI .i64) (tI .i64))) l lv O w) (p_n : (l.length : Int) ≤ 1000) (hO : ∀ b, some b ∈ O → b < w.heap.size) : Calls Tryd.prog 54 #[lv] w (Ret w (fun r w' => ∃ rv, r = rv ∧ Fresh (tP (tI .i64) (tI .i64)) 58 l rv w.heap.size w')) := by
  have a_lv := h_lv
  have l_lv := h_lv.len63
  have hS := St.start w O hO
  refine enterR Tryd.func54 rfl Tryd.ntmps54 Tryd.results54 rfl ?_
  refine W.seq ?_
  refine W.reg ?_
  refine Wx.rd (v := (.slice none 0 0)) (rd_assign rfl) rfl ?_
  refine Wx.nil ?_
  refine W.seq ?_
  refine W.seq ?_
  refine W.reg ?_
  refine Wx.rd (v := lv) (rd_move rfl) rfl ?_
  refine Wx.ex (rd_eqlNilV (hS.arg a_lv) rfl rfl Tryd.underlying22) rfl (fun u_1 hu_u_1 => ?_)
  obtain ⟨b_2, rfl, hb_3⟩ := hu_u_1
  refine Wx.nil ?_
  refine W.cond rfl (fun c0 => ?_) (fun c0 => ?_)
  · -- yes
    try simp only [Bool.and_eq_true, Bool.or_eq_true, Bool.not_eq_true', Bool.and_eq_false_iff, Bool.or_eq_false_iff, Bool.not_eq_false', decide_eq_true_eq, decide_eq_false_iff_not, not_or, Bool.false_eq_true, Bool.true_eq_false, false_or, or_false, not_false_eq_true] at c0
    refine W.seq ?_
    refine W.reg ?_
    refine Wx.rd (v := (.slice none 0 0)) (rd_assign rfl) rfl ?_
    refine Wx.nil ?_
    have e0_0 : l = [] := by exact hb_3 c0
    exact W.ret ⟨(.slice none 0 0), ResIs.one, hS.bel, ⟨(.slice none 0 0), rfl, (by rw [e0_0]; exact ((hS.addNil (tP (tI .i64) (tI .i64)) 58).fr 0 rfl flat_i2))⟩⟩
  · -- no
    try simp only [Bool.and_eq_true, Bool.or_eq_true, Bool.not_eq_true', Bool.and_eq_false_iff, Bool.or_eq_false_iff, Bool.not_eq_false', decide_eq_true_eq, decide_eq_false_iff_not, not_or, Bool.false_eq_true, Bool.true_eq_false, false_or, or_false, not_false_eq_true] at c0
    refine W.skip ?_
    refine W.seq ?_
    refine W.reg ?_
    refine Wx.lit (t := (tP (tI .i64) (tI .i64))) (ys := []) (vs := []) elHz_22 hS rfl rfl trivial (by decide) rfl (fun v_4 w_5 hx_6 hS => ?_)
    refine Wx.rd (v := lv) (rd_move rfl) rfl ?_
    refine Wx.append elHz_22 hS 0 rfl rfl rfl (Src.ofV (hS.arg a_lv)) (by simp only [maxLen]; simp; omega) (by simp; omega) rfl (fun v_7 w_8 hz_9 hS => ?_)
    refine Wx.rd (v := v_7) (rd_assign rfl) rfl ?_
    refine Wx.nil ?_
    have e1_0 : l = [] ++ l := by rfl
    exact W.ret ⟨v_7, ResIs.one, hS.bel, ⟨v_7, rfl, (by rw [e1_0]; exact (hS.fr 0 rfl flat_i2))⟩⟩
end Go.Proofs.YtokdjjebnomciaaDoor

namespace Go.Proofs.YtokdjjebnomciaaDoor
open Go.Wk Go.RowKit Go.Lib
set_option linter.unusedVariables false
set_option linter.unusedSimpArgs false
theorem mixedHA_ : Tryd.prog.follows .mixedOrders = true := by kernel_rfl

set_option maxHeartbeats 1000000 in
set_option maxRecDepth 4000 in
theorem F121 {v : Value} {ys : List (Int × Int)} {a : Int} {b : Int} (i_a : InK .i64 a) (i_b : InK .i64 b) (p_a : a = 0) (p_b : b = ys.length) {ob : List Ob} {w0 w : World} {O : List (Option Nat)} (hS : St w0 O w (.row (tP (tI .i64) (tI .i64)) 58 v ys :: ob)) : Calls Tryd.prog 121 #[v, .int .i64 a, .int .i64 b, .func (.func 88) #[] #[]] w (Bk fun r w' => r = .tuple #[] ∧ St w0 O w' (.row (tP (tI .i64) (tI .i64)) 58 v (sortJ ys) :: ob)) := by
  have b_a := bd_i64 i_a
  have b_b := bd_i64 i_b
  refine enterB Tryd.func121 rfl Tryd.ntmps121 Tryd.results121 rfl ?_
  refine W.seq ?_
  refine W.reg ?_
  refine Wx.rd (v := .int .i64 a) (rd_move rfl) rfl ?_
  refine Wx.rd (v := .int .i64 (a + 1)) (rd_add rfl rfl (in_i64 (by omega) (by omega))) rfl ?_
  refine Wx.rd (v := .int .i64 (a + 1)) (rd_assign rfl) rfl ?_
  refine Wx.nil ?_
  refine W.block ?_
  refine W.loop [8, 9, 12, 13, 14, 15, 16, 17, 18, 19, 20, 21, 22, 23, 24, 25, 26, 27, 28, 29, 30, 31, 32, 33, 34, 35, 36, 37, 38, 39, 40, 41, 42, 43, 44, 45, 46, 47, 48, 49, 50, 51, 52] (fun x : Int × (List (Int × Int)) => match x with | (i, z) => [(8, .int .i64 i)]) (fun (x : Int × (List (Int × Int))) w' => match x with | (i, z) => St w0 O w' (.row (tP (tI .i64) (tI .i64)) 58 v z :: ob) ∧ 1 ≤ i ∧ i ≤ ys.length + 1 ∧ sortGF (0, 0) ltB z i.toNat ((ys.length : Int) - i).toNat = sortJ ys ∧ z.length = ys.length) (fun x : Int × (List (Int × Int)) => match x with | (i, z) => (b - i).toNat) (a + 1, ys) ⟨rfl, trivial⟩ ⟨hS, (by first | omega | simp), (by omega), (by rw [p_a, sortJ, sortF]; congr 1; omega), (rfl)⟩ ?_
  rintro ⟨i, z⟩ u_2 w_1 ⟨hS, h0, h1, h2, h3⟩
  refine W.seq ?_
  refine W.seq ?_
  refine W.reg ?_
  refine Wx.rd (v := .int .i64 i) (rd_move rfl) rfl ?_
  refine Wx.rd (v := .int .i64 b) (rd_move rfl) rfl ?_
  refine Wx.rd (v := .bool (decide (i < b))) (rd_lss rfl rfl) rfl ?_
  refine Wx.nil ?_
  refine W.condD rfl (fun c0 => ?_) (fun c0 => ?_)
  · -- yes
    refine W.skip ?_
    refine W.seq ?_
    refine W.block ?_
    refine W.seq ?_
    refine W.reg ?_
    refine Wx.rd (v := .int .i64 i) (rd_move rfl) rfl ?_
    refine Wx.rd (v := .int .i64 i) (rd_assign rfl) rfl ?_
    refine Wx.nil ?_
    refine W.block ?_
    refine W.loop [9, 18, 19, 20, 21, 22, 23, 24, 25, 26, 27, 28, 29, 30, 31, 32, 33, 34, 35, 36, 37, 38, 39, 40, 41, 42, 43, 44, 45, 46, 47, 48, 49, 50, 51, 52] (fun x : Int × (List (Int × Int)) => match x with | (j, z2) => [(9, .int .i64 j)]) (fun (x : Int × (List (Int × Int))) w' => match x with | (j, z2) => St w0 O w' (.row (tP (tI .i64) (tI .i64)) 58 v z2 :: ob) ∧ 0 ≤ j ∧ j ≤ i ∧ sinkF (0, 0) ltB z2 j.toNat = sinkF (0, 0) ltB z i.toNat ∧ z2.length = ys.length) (fun x : Int × (List (Int × Int)) => match x with | (j, z2) => j.toNat) (i, z) ⟨rfl, trivial⟩ ⟨hS, (by first | omega | simp), (by first | omega | simp), (rfl), (h3)⟩ ?_
    rintro ⟨j, z2⟩ u_4 w_3 ⟨hS, g0, g1, g2, g3⟩
    refine W.seq ?_
    refine W.seq ?_
    refine W.regQ mixedHA_ (by kernel_rfl) ?_
    refine Wx.rd (v := .int .i64 j) (rd_move rfl) rfl ?_
    refine Wx.rd (v := .int .i64 a) (rd_move rfl) rfl ?_
    refine Wx.rd (v := .bool (decide (a < j))) (rd_gtr rfl rfl) rfl ?_
    refine Wx.rd (v := .bool (decide (a < j))) (rd_move rfl) rfl ?_
    refine Wx.cutQ (X := Unit) 13 [22, 23, 24, 25, 26, 27, 28, 29, 30, 31, 32, 33, 34] (fun _ => [(34, .bool (decide (a < j) && decide ((cmpJ (((ix (0, 0) z2 j).1), ((ix (0, 0) z2 j).2)) (((ix (0, 0) z2 (j - 1)).1), ((ix (0, 0) z2 (j - 1)).2))) < 0)))]) (fun _ => True) ?_ ?_
    · rcases Bool.eq_false_or_eq_true (decide (a < j)) with g_5 | g_5
      · -- True
        have gp_6 := of_decide_eq_true g_5
        refine Wx.gyes rfl rfl (congrArg Value.bool g_5) ?_
        refine Wx.rd (v := .func (.func 88) #[] #[]) (rd_move rfl) rfl ?_
        refine Wx.gyes rfl rfl (congrArg Value.bool g_5) ?_
        refine Wx.rd (v := v) (rd_move rfl) rfl ?_
        refine Wx.gyes rfl rfl (congrArg Value.bool g_5) ?_
        refine Wx.rd (v := .int .i64 j) (rd_move rfl) rfl ?_
        refine Wx.gyes rfl rfl (congrArg Value.bool g_5) ?_
        refine Wx.indexR hS 0 rfl rfl rfl Tryd.underlying22 Tryd.sizeOf58 (by first | omega | (simp only [List.length_set, List.length_append, List.length_cons, List.length_nil, List.length_replicate]; omega)) (by first | omega | (simp only [List.length_set, List.length_append, List.length_cons, List.length_nil, List.length_replicate]; omega)) rfl (fun g_7 hg_8 => ?_)
        refine Wx.gyes rfl rfl (congrArg Value.bool g_5) ?_
        refine Wx.ex (rd_loadR' (0, 0) hS 0 rfl hg_8 rfl (by first | omega | (simp only [List.length_set, List.length_append, List.length_cons, List.length_nil, List.length_replicate]; omega)) (by first | omega | (simp only [List.length_set, List.length_append, List.length_cons, List.length_nil, List.length_replicate]; omega)) Tryd.isAgg58 Tryd.sizeOf58) rfl (fun v_9 hv_10 => ?_)
        obtain ⟨rfl, bd_11, bd_12⟩ := hv_10.i2
        have bd_11 := bd_i64 bd_11
        have bd_12 := bd_i64 bd_12
        refine Wx.gyes rfl rfl (congrArg Value.bool g_5) ?_
        refine Wx.rd (v := v) (rd_move rfl) rfl ?_
        refine Wx.gyes rfl rfl (congrArg Value.bool g_5) ?_
        refine Wx.rd (v := .int .i64 j) (rd_move rfl) rfl ?_
        refine Wx.gyes rfl rfl (congrArg Value.bool g_5) ?_
        refine Wx.rd (v := .int .i64 (j - 1)) (rd_sub rfl rfl (in_i64 (by omega) (by omega))) rfl ?_
        refine Wx.gyes rfl rfl (congrArg Value.bool g_5) ?_
        refine Wx.indexR hS 0 rfl rfl rfl Tryd.underlying22 Tryd.sizeOf58 (by first | omega | (simp only [List.length_set, List.length_append, List.length_cons, List.length_nil, List.length_replicate]; omega)) (by first | omega | (simp only [List.length_set, List.length_append, List.length_cons, List.length_nil, List.length_replicate]; omega)) rfl (fun g_13 hg_14 => ?_)
        refine Wx.gyes rfl rfl (congrArg Value.bool g_5) ?_
        refine Wx.ex (rd_loadR' (0, 0) hS 0 rfl hg_14 rfl (by first | omega | (simp only [List.length_set, List.length_append, List.length_cons, List.length_nil, List.length_replicate]; omega)) (by first | omega | (simp only [List.length_set, List.length_append, List.length_cons, List.length_nil, List.length_replicate]; omega)) Tryd.isAgg58 Tryd.sizeOf58) rfl (fun v_15 hv_16 => ?_)
        obtain ⟨rfl, bd_17, bd_18⟩ := hv_16.i2
        have bd_17 := bd_i64 bd_17
        have bd_18 := bd_i64 bd_18
        refine Wx.gyes rfl rfl (congrArg Value.bool g_5) ?_
        refine Wx.callV (v := .int .i64 (cmpJ (((ix (0, 0) z2 j).1), ((ix (0, 0) z2 j).2)) (((ix (0, 0) z2 (j - 1)).1), ((ix (0, 0) z2 (j - 1)).2)))) (run_callC (fs := []) (cs := []) (vs := [.agg #[.int .i64 ((ix (0, 0) z2 j).1), .int .i64 ((ix (0, 0) z2 j).2)], .agg #[.int .i64 ((ix (0, 0) z2 (j - 1)).1), .int .i64 ((ix (0, 0) z2 (j - 1)).2)]]) Tryd.call88 rfl rfl) (fun w_19 hw_20 => (F88 (in_i64 (by omega) (by omega)) (in_i64 (by omega) (by omega)) (in_i64 (by omega) (by omega)) (in_i64 (by omega) (by omega)))) rfl ?_
        have cb_21 := cmpJ_bd (((ix (0, 0) z2 j).1), ((ix (0, 0) z2 j).2)) (((ix (0, 0) z2 (j - 1)).1), ((ix (0, 0) z2 (j - 1)).2))
        refine Wx.gyes rfl rfl (congrArg Value.bool g_5) ?_
        refine Wx.rd (v := .bool (decide ((cmpJ (((ix (0, 0) z2 j).1), ((ix (0, 0) z2 j).2)) (((ix (0, 0) z2 (j - 1)).1), ((ix (0, 0) z2 (j - 1)).2))) < 0))) (rd_lss rfl rfl) rfl ?_
        refine Wx.rd (v := .bool (decide ((cmpJ (((ix (0, 0) z2 j).1), ((ix (0, 0) z2 j).2)) (((ix (0, 0) z2 (j - 1)).1), ((ix (0, 0) z2 (j - 1)).2))) < 0))) (rd_pickT (congrArg Value.bool g_5) rfl) rfl ?_
        refine Wx.nilQ (fun _ _ => ⟨(), trivial, ⟨?_, trivial⟩, Out.look rfl Out.refl⟩)
        show Value.bool (decide ((cmpJ (((ix (0, 0) z2 j).1), ((ix (0, 0) z2 j).2)) (((ix (0, 0) z2 (j - 1)).1), ((ix (0, 0) z2 (j - 1)).2))) < 0)) = Value.bool (decide (a < j) && decide ((cmpJ (((ix (0, 0) z2 j).1), ((ix (0, 0) z2 j).2)) (((ix (0, 0) z2 (j - 1)).1), ((ix (0, 0) z2 (j - 1)).2))) < 0))
        first | rw [g_5, Bool.true_and] | (rw [g_5]; rfl)
      · -- False
        have gp_22 := of_decide_eq_false g_5
        refine Wx.gnoB rfl rfl (congrArg Value.bool g_5) rfl rfl ?_
        refine Wx.gnoB rfl rfl (congrArg Value.bool g_5) rfl rfl ?_
        refine Wx.gnoB rfl rfl (congrArg Value.bool g_5) rfl rfl ?_
        refine Wx.gnoB rfl rfl (congrArg Value.bool g_5) rfl rfl ?_
        refine Wx.gnoB rfl rfl (congrArg Value.bool g_5) rfl rfl ?_
        refine Wx.gnoB rfl rfl (congrArg Value.bool g_5) rfl rfl ?_
        refine Wx.gnoB rfl rfl (congrArg Value.bool g_5) rfl rfl ?_
        refine Wx.gnoB rfl rfl (congrArg Value.bool g_5) rfl rfl ?_
        refine Wx.gnoB rfl rfl (congrArg Value.bool g_5) rfl rfl ?_
        refine Wx.gnoB rfl rfl (congrArg Value.bool g_5) rfl rfl ?_
        refine Wx.gnoB rfl rfl (congrArg Value.bool g_5) rfl rfl ?_
        refine Wx.gnoB rfl rfl (congrArg Value.bool g_5) rfl rfl ?_
        refine Wx.rd (v := .bool false) (rd_pickF (congrArg Value.bool g_5) rfl) rfl ?_
        refine Wx.nilQ (fun _ _ => ⟨(), trivial, ⟨?_, trivial⟩, Out.look rfl Out.refl⟩)
        show Value.bool false = Value.bool (decide (a < j) && decide ((cmpJ (((ix (0, 0) z2 j).1), ((ix (0, 0) z2 j).2)) (((ix (0, 0) z2 (j - 1)).1), ((ix (0, 0) z2 (j - 1)).2))) < 0))
        first | rw [g_5, Bool.false_and] | (rw [g_5]; rfl)
    rintro ⟨⟩ u_24 -
    refine Wx.nilQ (fun w_25 hx_26 => ?_)
    have hS := hS.ext hx_26
    refine W.cond rfl (fun c1 => ?_) (fun c1 => ?_)
    · -- yes
      try simp only [Bool.and_eq_true, Bool.or_eq_true, Bool.not_eq_true', Bool.and_eq_false_iff, Bool.or_eq_false_iff, Bool.not_eq_false', decide_eq_true_eq, decide_eq_false_iff_not, not_or, Bool.false_eq_true, Bool.true_eq_false, false_or, or_false, not_false_eq_true] at c1
      refine W.skip ?_
      refine W.seq ?_
      refine W.block ?_
      refine W.regP mixedHA_ (fun w_27 hx_28 => ?_)
      have hS := hS.ext hx_28
      obtain ⟨g_29, c_30, rfl, hc_31⟩ := hS.rowForm 0 rfl (by omega)
      refine Wp.rd (v := (.slice (some ⟨g_29, 0, none⟩) z2.length c_30)) 0 rfl (by kernel_rfl) (fun _ => (rd_move rfl)) rfl ?_
      refine Wp.rd (v := .int .i64 j) 1 rfl (by kernel_rfl) (fun _ => (rd_move rfl)) rfl ?_
      refine Wp.rd (v := (.slice (some ⟨g_29, 0, none⟩) z2.length c_30)) 2 rfl (by kernel_rfl) (fun _ => (rd_move rfl)) rfl ?_
      refine Wp.rd (v := .int .i64 j) 3 rfl (by kernel_rfl) (fun _ => (rd_move rfl)) rfl ?_
      refine Wp.rd (v := .int .i64 (j - 1)) 4 rfl (by kernel_rfl) (fun _ => (rd_sub rfl rfl (in_i64 (by omega) (by omega)))) rfl ?_
      refine Wp.rd (v := (.slice (some ⟨g_29, 0, none⟩) z2.length c_30)) 5 rfl (by kernel_rfl) (fun _ => (rd_move rfl)) rfl ?_
      refine Wp.rd (v := .int .i64 j) 6 rfl (by kernel_rfl) (fun _ => (rd_move rfl)) rfl ?_
      refine Wp.rd (v := .int .i64 (j - 1)) 7 rfl (by kernel_rfl) (fun _ => (rd_sub rfl rfl (in_i64 (by omega) (by omega)))) rfl ?_
      refine Wp.rd (v := .pointer (some ⟨g_29, (j - 1).toNat * 2, none⟩)) 8 rfl (by kernel_rfl) (fun _ => (rd_indexO Tryd.underlying22 Tryd.sizeOf58 rfl rfl (by first | omega | (simp only [List.length_set, List.length_append, List.length_cons, List.length_nil, List.length_replicate]; omega)) (by first | omega | (simp only [List.length_set, List.length_append, List.length_cons, List.length_nil, List.length_replicate]; omega)))) rfl ?_
      refine Wp.rd (v := (.slice (some ⟨g_29, 0, none⟩) z2.length c_30)) 10 rfl (by kernel_rfl) (fun _ => (rd_move rfl)) rfl ?_
      refine Wp.rd (v := .int .i64 j) 11 rfl (by kernel_rfl) (fun _ => (rd_move rfl)) rfl ?_
      refine Wp.rd (v := .pointer (some ⟨g_29, j.toNat * 2, none⟩)) 12 rfl (by kernel_rfl) (fun _ => (rd_indexO Tryd.underlying22 Tryd.sizeOf58 rfl rfl (by first | omega | (simp only [List.length_set, List.length_append, List.length_cons, List.length_nil, List.length_replicate]; omega)) (by first | omega | (simp only [List.length_set, List.length_append, List.length_cons, List.length_nil, List.length_replicate]; omega)))) rfl ?_
      refine Wp.br [9, 13] (by kernel_rfl) (by decide) ⟨⟨_, rfl, ?_⟩, ⟨_, rfl, ?_⟩, trivial⟩
      · -- operation 9
        refine Wx.ex (rd_loadR' (0, 0) hS 0 rfl rfl rfl (by first | omega | (simp only [List.length_set, List.length_append, List.length_cons, List.length_nil, List.length_replicate]; omega)) (by first | omega | (simp only [List.length_set, List.length_append, List.length_cons, List.length_nil, List.length_replicate]; omega)) Tryd.isAgg58 Tryd.sizeOf58) rfl (fun v_32 hv_33 => ?_)
        obtain ⟨rfl, bd_34, bd_35⟩ := hv_33.i2
        have bd_34 := bd_i64 bd_34
        have bd_35 := bd_i64 bd_35
        refine Wx.nil ?_
        refine Wp.br [13] (by kernel_rfl) (by decide) ⟨⟨_, rfl, ?_⟩, trivial⟩
        refine Wx.ex (rd_loadR' (0, 0) hS 0 rfl rfl rfl (by first | omega | (simp only [List.length_set, List.length_append, List.length_cons, List.length_nil, List.length_replicate]; omega)) (by first | omega | (simp only [List.length_set, List.length_append, List.length_cons, List.length_nil, List.length_replicate]; omega)) Tryd.isAgg58 Tryd.sizeOf58) rfl (fun v_36 hv_37 => ?_)
        obtain ⟨rfl, bd_38, bd_39⟩ := hv_37.i2
        have bd_38 := bd_i64 bd_38
        have bd_39 := bd_i64 bd_39
        refine Wx.nil ?_
        refine Wp.rd (v := .pointer (some ⟨g_29, j.toNat * 2, none⟩)) 14 rfl (by kernel_rfl) (fun _ => (rd_indexO Tryd.underlying22 Tryd.sizeOf58 rfl rfl (by first | omega | (simp only [List.length_set, List.length_append, List.length_cons, List.length_nil, List.length_replicate]; omega)) (by first | omega | (simp only [List.length_set, List.length_append, List.length_cons, List.length_nil, List.length_replicate]; omega)))) rfl ?_
        refine Wp.br [15] (by kernel_rfl) (by decide) ⟨⟨_, rfl, ?_⟩, trivial⟩
        refine Wx.storeR (j := j.toNat) (z := ((ix (0, 0) z2 (j - 1)).1, (ix (0, 0) z2 (j - 1)).2)) hS 0 rfl rfl rfl (by first | omega | (simp only [List.length_set, List.length_append, List.length_cons, List.length_nil, List.length_replicate]; omega)) rfl (V.mk2 (in_i64 (by omega) (by omega)) (in_i64 (by omega) (by omega))) Tryd.sizeOf58 (fun w_40 hz_41 hS => ?_)
        refine Wx.nil ?_
        refine Wp.rd (v := .pointer (some ⟨g_29, (j - 1).toNat * 2, none⟩)) 16 rfl (by kernel_rfl) (fun _ => (rd_indexO Tryd.underlying22 Tryd.sizeOf58 rfl rfl (by first | omega | (simp only [List.length_set, List.length_append, List.length_cons, List.length_nil, List.length_replicate]; omega)) (by first | omega | (simp only [List.length_set, List.length_append, List.length_cons, List.length_nil, List.length_replicate]; omega)))) rfl ?_
        refine Wp.br [17] (by kernel_rfl) (by decide) ⟨⟨_, rfl, ?_⟩, trivial⟩
        refine Wx.storeR (j := (j - 1).toNat) (z := ((ix (0, 0) z2 j).1, (ix (0, 0) z2 j).2)) hS 0 rfl rfl rfl (by first | omega | (simp only [List.length_set, List.length_append, List.length_cons, List.length_nil, List.length_replicate]; omega)) rfl (V.mk2 (in_i64 (by omega) (by omega)) (in_i64 (by omega) (by omega))) Tryd.sizeOf58 (fun w_42 hz_43 hS => ?_)
        refine Wx.nil ?_
        refine Wp.done (by kernel_rfl) ?_
        refine W.reg ?_
        refine Wx.rd (v := .int .i64 j) (rd_move rfl) rfl ?_
        refine Wx.rd (v := .int .i64 (j - 1)) (rd_sub rfl rfl (in_i64 (by omega) (by omega))) rfl ?_
        refine Wx.rd (v := .int .i64 (j - 1)) (rd_assign rfl) rfl ?_
        refine Wx.nil ?_
        refine ⟨(j - 1, List.set (List.set z2 j.toNat ((ix (0, 0) z2 (j - 1)).1, (ix (0, 0) z2 (j - 1)).2)) (j - 1).toNat ((ix (0, 0) z2 j).1, (ix (0, 0) z2 j).2)), (by show (j - 1).toNat < j.toNat; omega), ?_, ?_, Out.look rfl (Out.hav rfl (Out.look rfl Out.self))⟩
        · exact ⟨hS, (by first | omega | assumption), (by first | omega | assumption), (by rw [← g2]; exact sinkF_step (by omega) (decide_eq_true c1.2)), (by simp; omega)⟩
        · exact ⟨rfl, trivial⟩
      · -- operation 13
        refine Wx.ex (rd_loadR' (0, 0) hS 0 rfl rfl rfl (by first | omega | (simp only [List.length_set, List.length_append, List.length_cons, List.length_nil, List.length_replicate]; omega)) (by first | omega | (simp only [List.length_set, List.length_append, List.length_cons, List.length_nil, List.length_replicate]; omega)) Tryd.isAgg58 Tryd.sizeOf58) rfl (fun v_44 hv_45 => ?_)
        obtain ⟨rfl, bd_46, bd_47⟩ := hv_45.i2
        have bd_46 := bd_i64 bd_46
        have bd_47 := bd_i64 bd_47
        refine Wx.nil ?_
        refine Wp.br [9] (by kernel_rfl) (by decide) ⟨⟨_, rfl, ?_⟩, trivial⟩
        refine Wx.ex (rd_loadR' (0, 0) hS 0 rfl rfl rfl (by first | omega | (simp only [List.length_set, List.length_append, List.length_cons, List.length_nil, List.length_replicate]; omega)) (by first | omega | (simp only [List.length_set, List.length_append, List.length_cons, List.length_nil, List.length_replicate]; omega)) Tryd.isAgg58 Tryd.sizeOf58) rfl (fun v_48 hv_49 => ?_)
        obtain ⟨rfl, bd_50, bd_51⟩ := hv_49.i2
        have bd_50 := bd_i64 bd_50
        have bd_51 := bd_i64 bd_51
        refine Wx.nil ?_
        refine Wp.rd (v := .pointer (some ⟨g_29, j.toNat * 2, none⟩)) 14 rfl (by kernel_rfl) (fun _ => (rd_indexO Tryd.underlying22 Tryd.sizeOf58 rfl rfl (by first | omega | (simp only [List.length_set, List.length_append, List.length_cons, List.length_nil, List.length_replicate]; omega)) (by first | omega | (simp only [List.length_set, List.length_append, List.length_cons, List.length_nil, List.length_replicate]; omega)))) rfl ?_
        refine Wp.br [15] (by kernel_rfl) (by decide) ⟨⟨_, rfl, ?_⟩, trivial⟩
        refine Wx.storeR (j := j.toNat) (z := ((ix (0, 0) z2 (j - 1)).1, (ix (0, 0) z2 (j - 1)).2)) hS 0 rfl rfl rfl (by first | omega | (simp only [List.length_set, List.length_append, List.length_cons, List.length_nil, List.length_replicate]; omega)) rfl (V.mk2 (in_i64 (by omega) (by omega)) (in_i64 (by omega) (by omega))) Tryd.sizeOf58 (fun w_52 hz_53 hS => ?_)
        refine Wx.nil ?_
        refine Wp.rd (v := .pointer (some ⟨g_29, (j - 1).toNat * 2, none⟩)) 16 rfl (by kernel_rfl) (fun _ => (rd_indexO Tryd.underlying22 Tryd.sizeOf58 rfl rfl (by first | omega | (simp only [List.length_set, List.length_append, List.length_cons, List.length_nil, List.length_replicate]; omega)) (by first | omega | (simp only [List.length_set, List.length_append, List.length_cons, List.length_nil, List.length_replicate]; omega)))) rfl ?_
        refine Wp.br [17] (by kernel_rfl) (by decide) ⟨⟨_, rfl, ?_⟩, trivial⟩
        refine Wx.storeR (j := (j - 1).toNat) (z := ((ix (0, 0) z2 j).1, (ix (0, 0) z2 j).2)) hS 0 rfl rfl rfl (by first | omega | (simp only [List.length_set, List.length_append, List.length_cons, List.length_nil, List.length_replicate]; omega)) rfl (V.mk2 (in_i64 (by omega) (by omega)) (in_i64 (by omega) (by omega))) Tryd.sizeOf58 (fun w_54 hz_55 hS => ?_)
        refine Wx.nil ?_
        refine Wp.done (by kernel_rfl) ?_
        refine W.reg ?_
        refine Wx.rd (v := .int .i64 j) (rd_move rfl) rfl ?_
        refine Wx.rd (v := .int .i64 (j - 1)) (rd_sub rfl rfl (in_i64 (by omega) (by omega))) rfl ?_
        refine Wx.rd (v := .int .i64 (j - 1)) (rd_assign rfl) rfl ?_
        refine Wx.nil ?_
        refine ⟨(j - 1, List.set (List.set z2 j.toNat ((ix (0, 0) z2 (j - 1)).1, (ix (0, 0) z2 (j - 1)).2)) (j - 1).toNat ((ix (0, 0) z2 j).1, (ix (0, 0) z2 j).2)), (by show (j - 1).toNat < j.toNat; omega), ?_, ?_, Out.look rfl (Out.hav rfl (Out.look rfl Out.self))⟩
        · exact ⟨hS, (by first | omega | assumption), (by first | omega | assumption), (by rw [← g2]; exact sinkF_step (by omega) (decide_eq_true c1.2)), (by simp; omega)⟩
        · exact ⟨rfl, trivial⟩
    · -- no
      try simp only [Bool.and_eq_true, Bool.or_eq_true, Bool.not_eq_true', Bool.and_eq_false_iff, Bool.or_eq_false_iff, Bool.not_eq_false', decide_eq_true_eq, decide_eq_false_iff_not, not_or, Bool.false_eq_true, Bool.true_eq_false, false_or, or_false, not_false_eq_true] at c1
      refine W.exit rfl ?_
      refine W.reg ?_
      refine Wx.rd (v := .int .i64 i) (rd_move rfl) rfl ?_
      refine Wx.rd (v := .int .i64 (i + 1)) (rd_add rfl rfl (in_i64 (by omega) (by omega))) rfl ?_
      refine Wx.rd (v := .int .i64 (i + 1)) (rd_assign rfl) rfl ?_
      refine Wx.nil ?_
      refine ⟨(i + 1, z2), (by show (b - (i + 1)).toNat < (b - i).toNat; omega), ?_, ?_, Out.look rfl (Out.hav rfl (Out.look rfl (Out.hav rfl (Out.look rfl Out.self))))⟩
      · exact ⟨hS, (by first | omega | assumption), (by first | omega | assumption), (by rw [← h2]; exact sortF_next (by omega) (by rw [← g2]; exact (sinkF_stop g0 (fun hh => by rcases c1 with c | c; omega; exact c (of_decide_eq_true hh.2))).symm) (by omega)), (g3)⟩
      · exact ⟨rfl, trivial⟩
  · -- no
    refine W.exit rfl ?_
    exact ⟨.tuple #[], ResIs.zero, rfl, hS.spell (ys' := sortJ ys) 0 rfl (by rw [← h2, show ((ys.length : Int) - i).toNat = 0 by omega]; rfl)⟩

theorem F107 {v : Value} {ys : List (Int × Int)} {a : Int} {b : Int} {limit : Int} (i_a : InK .i64 a) (i_b : InK .i64 b) (i_limit : InK .i64 limit) (p_a : a = 0) (p_b : b = ys.length) (p_12 : ys.length ≤ 12) {ob : List Ob} {w0 w : World} {O : List (Option Nat)} (hS : St w0 O w (.row (tP (tI .i64) (tI .i64)) 58 v ys :: ob)) : Calls Tryd.prog 107 #[v, .int .i64 a, .int .i64 b, .int .i64 limit, .func (.func 88) #[] #[]] w (Bk fun r w' => r = .tuple #[] ∧ St w0 O w' (.row (tP (tI .i64) (tI .i64)) 58 v (sortJ ys) :: ob)) := by
  have b_a := bd_i64 i_a
  have b_b := bd_i64 i_b
  have b_limit := bd_i64 i_limit
  refine enterB Tryd.func107 rfl Tryd.ntmps107 Tryd.results107 rfl ?_
  refine W.seq ?_
  refine W.reg ?_
  refine Wx.rd (v := .bool true) (rd_assign rfl) rfl ?_
  refine Wx.nil ?_
  refine W.seq ?_
  refine W.reg ?_
  refine Wx.rd (v := .bool true) (rd_assign rfl) rfl ?_
  refine Wx.nil ?_
  refine W.block ?_
  refine W.loop [1, 2, 3, 10, 11, 12, 13, 14, 15, 16, 17, 18, 19, 20, 21, 22, 23, 24, 25, 26, 27, 28, 29, 30, 31, 32, 33, 34, 35, 36, 37, 38, 39, 40, 41, 42, 43, 44, 45, 46, 47, 48, 49, 50, 51, 52, 53, 54, 55, 56, 57, 58, 59, 60, 61, 62, 63, 64, 65, 66, 67, 68, 69, 70, 71, 72, 73, 74, 75, 76, 77, 78, 79, 80, 81, 82, 83, 84, 85, 86, 87, 88, 89, 90, 91, 92, 93, 94, 95, 96, 97, 98, 99, 100, 101, 102, 103, 104, 105, 106, 107, 108, 109, 110, 111, 112, 113, 114, 115, 116, 117, 118, 119, 120, 121, 122, 123, 124, 125, 126, 127, 128, 129, 130, 131, 132, 133, 134, 135, 136, 137, 138, 139, 140, 141, 142, 143, 144, 145, 146, 147] (fun x : Int × Int × Int => match x with | (a2, b2, l2) => [(1, .int .i64 a2), (2, .int .i64 b2), (3, .int .i64 l2)]) (fun (x : Int × Int × Int) w' => match x with | (a2, b2, l2) => St w0 O w' (.row (tP (tI .i64) (tI .i64)) 58 v ys :: ob) ∧ a2 = 0 ∧ b2 = ys.length) (fun x : Int × Int × Int => match x with | (a2, b2, l2) => 0) (a, b, limit) ⟨rfl, rfl, rfl, trivial⟩ ⟨hS, (by first | omega | simp), (by first | omega | simp)⟩ ?_
  rintro ⟨a2, b2, l2⟩ u_2 w_1 ⟨hS, h0, h1⟩
  refine W.block ?_
  refine W.seq ?_
  refine W.reg ?_
  refine Wx.rd (v := .int .i64 b2) (rd_move rfl) rfl ?_
  refine Wx.rd (v := .int .i64 a2) (rd_move rfl) rfl ?_
  refine Wx.rd (v := .int .i64 (b2 - a2)) (rd_sub rfl rfl (in_i64 (by omega) (by omega))) rfl ?_
  refine Wx.rd (v := .int .i64 (b2 - a2)) (rd_assign rfl) rfl ?_
  refine Wx.nil ?_
  refine W.seq ?_
  refine W.seq ?_
  refine W.reg ?_
  refine Wx.rd (v := .int .i64 (b2 - a2)) (rd_move rfl) rfl ?_
  refine Wx.rd (v := .bool (decide ((b2 - a2) ≤ 12))) (rd_leq rfl rfl) rfl ?_
  refine Wx.nil ?_
  refine W.condT rfl (decide_eq_true (by omega)) ?_
  refine W.seq ?_
  refine W.reg ?_
  refine Wx.rd (v := v) (rd_move rfl) rfl ?_
  refine Wx.rd (v := .int .i64 a2) (rd_move rfl) rfl ?_
  refine Wx.rd (v := .int .i64 b2) (rd_move rfl) rfl ?_
  refine Wx.rd (v := .func (.func 88) #[] #[]) (rd_move rfl) rfl ?_
  refine Wx.callB (run_callF Tryd.call121 rfl) (F121 (ob := (ob)) (in_i64 (by omega) (by omega)) (in_i64 (by omega) (by omega)) (by omega) (by omega) (hS.front 0 rfl)) rfl ?_
  rintro r_3 w_4 ⟨rfl, hS⟩
  have hS : St _ _ w_4 (.row (tP (tI .i64) (tI .i64)) 58 v (sortJ ys) :: ob) := St.putBack (obs := (.row (tP (tI .i64) (tI .i64)) 58 v ys :: ob)) 0 hS (by simp)
  refine Wx.nil ?_
  exact W.ret ⟨.tuple #[], ResIs.zero, rfl, hS⟩

theorem F87 {v : Value} {ys : List (Int × Int)}   (p_12 : ys.length ≤ 12) {ob : List Ob} {w0 w : World} {O : List (Option Nat)} (hS : St w0 O w (.row (tP (tI .i64) (tI .i64)) 58 v ys :: ob)) : Calls Tryd.prog 87 #[v, .func (.func 88) #[] #[]] w (Bk fun r w' => r = .tuple #[] ∧ St w0 O w' (.row (tP (tI .i64) (tI .i64)) 58 v (sortJ ys) :: ob)) := by
  refine enterB Tryd.func87 rfl Tryd.ntmps87 Tryd.results87 rfl ?_
  refine W.seq ?_
  refine W.reg ?_
  refine Wx.rd (v := v) (rd_move rfl) rfl ?_
  refine Wx.rd (v := .int .i64 (ys.length : Int)) (rd_lenR hS 0 rfl rfl Tryd.underlying22) rfl ?_
  refine Wx.rd (v := .int .i64 (ys.length : Int)) (rd_assign rfl) rfl ?_
  refine Wx.nil ?_
  refine W.reg ?_
  refine Wx.rd (v := v) (rd_move rfl) rfl ?_
  refine Wx.rd (v := .int .i64 (ys.length : Int)) (rd_move rfl) rfl ?_
  refine Wx.rd (v := .int .i64 (ys.length : Int)) (rd_move rfl) rfl ?_
  refine Wx.rd (v := .int .u64 (ys.length : Int)) (rd_convIn rfl Tryd.underlying3 Tryd.underlying133 (in_u64 (by omega) (by omega))) rfl ?_
  refine Wx.callF (run_callF Tryd.call108 rfl) (F108 (in_u64 (by omega) (by omega)) (by omega)) rfl ?_
  rintro r_1 w_2 hx_3 rfl
  have hS := hS.ext hx_3
  have bl_4 := bitLen_bd (ys.length : Int).toNat
  refine Wx.rd (v := .func (.func 88) #[] #[]) (rd_move rfl) rfl ?_
  refine Wx.callB (run_callF Tryd.call107 rfl) (F107 (ob := (ob)) (in_i64 (by omega) (by omega)) (in_i64 (by omega) (by omega)) (in_i64 (by omega) (by omega)) (by omega) (by omega) p_12 (hS.front 0 rfl)) rfl ?_
  rintro r_5 w_6 ⟨rfl, hS⟩
  have hS : St _ _ w_6 (.row (tP (tI .i64) (tI .i64)) 58 v (sortJ ys) :: ob) := St.putBack (obs := (.row (tP (tI .i64) (tI .i64)) 58 v ys :: ob)) 0 hS (by simp)
  refine Wx.nil ?_
  exact ⟨.tuple #[], ResIs.zero, rfl, hS⟩

theorem F56 {lv : Value} {l : List (Int × Int)} {O : List (Option Nat)} {w : World} (h_lv : V (tSl (tP (tI .i64) (tI .i64))) l lv O w) (p_12 : l.length ≤ 12) (hO : ∀ b, some b ∈ O → b < w.heap.size) : Calls Tryd.prog 56 #[lv] w (Ret w (fun r w' => ∃ rv, r = rv ∧ Fresh (tP (tI .i64) (tI .i64)) 58 (sortJ l) rv w.heap.size w')) := by
  have a_lv := h_lv
  have l_lv := h_lv.len63
  have hS := St.start w O hO
  refine enterR Tryd.func56 rfl Tryd.ntmps56 Tryd.results56 rfl ?_
  refine W.seq ?_
  refine W.reg ?_
  refine Wx.rd (v := (.slice none 0 0)) (rd_assign rfl) rfl ?_
  refine Wx.nil ?_
  refine W.seq ?_
  refine W.reg ?_
  refine Wx.rd (v := lv) (rd_move rfl) rfl ?_
  refine Wx.callF (run_callF Tryd.call54 rfl) (F54 (hS.arg a_lv) (by omega) hS.fb_lt) rfl ?_
  rintro r_1 w_2 hx_3 ⟨_, rfl, hv_4⟩
  have hS := hS.pushFr hx_3 hv_4
  refine Wx.rd (v := r_1) (rd_assign rfl) rfl ?_
  refine Wx.nil ?_
  refine W.seq ?_
  refine W.reg ?_
  refine Wx.rd (v := r_1) (rd_move rfl) rfl ?_
  refine Wx.callB (run_callF Tryd.call87 rfl) (F87 (ob := []) p_12 (hS.front 0 rfl)) rfl ?_
  rintro r_6 w_7 ⟨rfl, hS⟩
  have hS : St _ _ w_7 [.row (tP (tI .i64) (tI .i64)) 58 r_1 (sortJ l)] := St.putBack (obs := [.row (tP (tI .i64) (tI .i64)) 58 r_1 l]) 0 hS (by simp)
  refine Wx.nil ?_
  refine W.seq ?_
  refine W.reg ?_
  refine Wx.rd (v := r_1) (rd_move rfl) rfl ?_
  refine Wx.rd (v := r_1) (rd_assign rfl) rfl ?_
  refine Wx.nil ?_
  exact W.ret ⟨r_1, ResIs.one, hS.bel, ⟨r_1, rfl, (hS.fr 0 rfl flat_i2)⟩⟩
end Go.Proofs.YtokdjjebnomciaaDoor

namespace Go.Proofs.YtokdjjebnomciaaDoor
open Go.Wk Go.RowKit Go.Lib
set_option linter.unusedVariables false
set_option linter.unusedSimpArgs false
theorem mixedHC_ : Tryd.prog.follows .mixedOrders = true := by kernel_rfl

set_option maxHeartbeats 4000000 in
theorem F14 {e : Int} {kd : Int} {x0 : Int} {x1 : Int} {x2 : Int} {x3 : Int} {x4 : Int} {x5 : Int} {x6 : Int} {x7 : Int} {x8 : Int} {x9 : Int} {x10 : Int} {x11 : Int} {b0 : Int} {b1 : Int} {b2 : Int} {b3 : Int} {b4 : Int} {b5 : Int} {b02 : Int} {b12 : Int} {b22 : Int} {b32 : Int} {b42 : Int} {b52 : Int} {O : List (Option Nat)} {w : World} (i_e : InK .u8 e) (i_kd : InK .u8 kd) (i_x0 : InK .u8 x0) (i_x1 : InK .u8 x1) (i_x2 : InK .u8 x2) (i_x3 : InK .u8 x3) (i_x4 : InK .u8 x4) (i_x5 : InK .u8 x5) (i_x6 : InK .u8 x6) (i_x7 : InK .u8 x7) (i_x8 : InK .u8 x8) (i_x9 : InK .u8 x9) (i_x10 : InK .u8 x10) (i_x11 : InK .u8 x11) (i_b0 : InK .u8 b0) (i_b1 : InK .u8 b1) (i_b2 : InK .u8 b2) (i_b3 : InK .u8 b3) (i_b4 : InK .u8 b4) (i_b5 : InK .u8 b5) (i_b02 : InK .u8 b02) (i_b12 : InK .u8 b12) (i_b22 : InK .u8 b22) (i_b32 : InK .u8 b32) (i_b42 : InK .u8 b42) (i_b52 : InK .u8 b52) (hO : ∀ b, some b ∈ O → b < w.heap.size) (hG : Laid w) : Calls Tryd.prog 14 #[.agg #[.int .u8 e, .int .u8 kd, .int .u8 x0, .int .u8 x1, .int .u8 x2, .int .u8 x3, .int .u8 x4, .int .u8 x5, .int .u8 x6, .int .u8 x7, .int .u8 x8, .int .u8 x9, .int .u8 x10, .int .u8 x11], .agg #[.int .u8 b0, .int .u8 b1, .int .u8 b2, .int .u8 b3, .int .u8 b4, .int .u8 b5], .agg #[.int .u8 b02, .int .u8 b12, .int .u8 b22, .int .u8 b32, .int .u8 b42, .int .u8 b52]] w (Ret w (fun r _ => r = .bool true)) := by
  have b_b52 := bd_u8 i_b52
  have b_b42 := bd_u8 i_b42
  have b_b32 := bd_u8 i_b32
  have b_b22 := bd_u8 i_b22
  have b_b12 := bd_u8 i_b12
  have b_b02 := bd_u8 i_b02
  have b_b5 := bd_u8 i_b5
  have b_b4 := bd_u8 i_b4
  have b_b3 := bd_u8 i_b3
  have b_b2 := bd_u8 i_b2
  have b_b1 := bd_u8 i_b1
  have b_b0 := bd_u8 i_b0
  have b_x11 := bd_u8 i_x11
  have b_x10 := bd_u8 i_x10
  have b_x9 := bd_u8 i_x9
  have b_x8 := bd_u8 i_x8
  have b_x7 := bd_u8 i_x7
  have b_x6 := bd_u8 i_x6
  have b_x5 := bd_u8 i_x5
  have b_x4 := bd_u8 i_x4
  have b_x3 := bd_u8 i_x3
  have b_x2 := bd_u8 i_x2
  have b_x1 := bd_u8 i_x1
  have b_x0 := bd_u8 i_x0
  have b_kd := bd_u8 i_kd
  have b_e := bd_u8 i_e
  have hbn : ∀ n ∈ ([b0, b1, b2, b3, b4, b5] : List Int), 0 ≤ n := by intro n hn; simp only [List.mem_cons, List.not_mem_nil, or_false] at hn; omega
  have hbn2 : ∀ n ∈ ([b02, b12, b22, b32, b42, b52] : List Int), 0 ≤ n := by intro n hn; simp only [List.mem_cons, List.not_mem_nil, or_false] at hn; omega
  have hS := St.start w O hO
  refine enterR Tryd.func14 rfl Tryd.ntmps14 Tryd.results14 rfl ?_
  refine W.seq ?_
  refine W.reg ?_
  refine Wx.box (cs := [.int .u8 e, .int .u8 kd, .int .u8 x0, .int .u8 x1, .int .u8 x2, .int .u8 x3, .int .u8 x4, .int .u8 x5, .int .u8 x6, .int .u8 x7, .int .u8 x8, .int .u8 x9, .int .u8 x10, .int .u8 x11]) hS rfl rfl rfl (fun g_1 w_2 hx_4 hb_3 hS => ?_)
  refine Wx.box (cs := [.int .u8 b0, .int .u8 b1, .int .u8 b2, .int .u8 b3, .int .u8 b4, .int .u8 b5]) hS rfl rfl rfl (fun g_5 w_6 hx_8 hb_7 hS => ?_)
  refine Wx.box (cs := [.int .u8 b02, .int .u8 b12, .int .u8 b22, .int .u8 b32, .int .u8 b42, .int .u8 b52]) hS rfl rfl rfl (fun g_9 w_10 hx_12 hb_11 hS => ?_)
  refine Wx.rd (v := .bool false) (rd_assign rfl) rfl ?_
  refine Wx.nil ?_
  refine W.seq ?_
  refine W.reg ?_
  refine Wx.rd (v := .agg #[.int .u8 e, .int .u8 kd, .int .u8 x0, .int .u8 x1, .int .u8 x2, .int .u8 x3, .int .u8 x4, .int .u8 x5, .int .u8 x6, .int .u8 x7, .int .u8 x8, .int .u8 x9, .int .u8 x10, .int .u8 x11]) (rd_loadXs (ds := [.int .u8 e, .int .u8 kd, .int .u8 x0, .int .u8 x1, .int .u8 x2, .int .u8 x3, .int .u8 x4, .int .u8 x5, .int .u8 x6, .int .u8 x7, .int .u8 x8, .int .u8 x9, .int .u8 x10, .int .u8 x11]) hS 2 rfl rfl rfl rfl Tryd.isAgg43 Tryd.sizeOf43) rfl ?_
  refine Wx.callF (run_callF Tryd.call44 rfl) (F44 i_e i_kd i_x0 i_x1 i_x2 i_x3 i_x4 i_x5 i_x6 i_x7 i_x8 i_x9 i_x10 i_x11 (in_i64 (by omega) (by omega)) (by omega) (by omega)) rfl ?_
  rintro r_13 w_14 hx_15 rfl
  have hS := hS.ext hx_15
  generalize h_M : madeS e kd [x0, x1, x2, x3, x4, x5, x6, x7, x8, x9, x10, x11] 12 = M
  have hLM : Lets M := by rw [← h_M]; exact made_lets (by omega)
  have hzM : (M.size : Int) ≤ 12 := by rw [← h_M]; exact made_size (by omega)
  have hrM : rimE M = 0 := rimE_good (by omega) hLM
  refine Wx.rd (v := .string M) (rd_assign rfl) rfl ?_
  refine Wx.nil ?_
  refine W.seq ?_
  refine W.reg ?_
  clear b_e b_kd b_x0 b_x1 b_x2 b_x3 b_x4 b_x5 b_x6 b_x7 b_x8 b_x9 b_x10 b_x11
  clear b_b0 b_b1 b_b2 b_b3 b_b4 b_b5 b_b02 b_b12 b_b22 b_b32 b_b42 b_b52
  have hrn : restN M [b0, b1, b2, b3, b4, b5] = restV M := restN_eq hLM hbn (by simp; omega)
  have hrn2 : restN M [b02, b12, b22, b32, b42, b52] = restV M := restN_eq hLM hbn2 (by simp; omega)
  have hst : stepsV M = (takS M).1 := if_pos hrM
  have hcnt := rest_count M
  have hmost := tak_most M
  rw [← hst] at hcnt hmost
  have hre := rest_e hrM
  have hres : ((restE M).size : Int) = (restV M).size := by rw [hre]
  have hmo := most_v hrM
  have hmh := most_half M
  have hsj := sortJ_len (stepsV M)
  have hsd : soundB M (sortJ (stepsV M)) = true := sound_plan.2 (by rw [hst]; exact tak_plan M)
  have hvd : validE M (sortJ (stepsV M)) = 0 := (if_pos hrM).trans (sound_iff.1 hsd)
  have hfu1 : fullP M = (restE M == ByteArray.empty) := by rw [fullP, decide_eq_true hrM, Bool.true_and, hre]
  have hfu2 : fullP M = decide (2 * mostV M = (M.size : Int)) := by rw [full_eq, fullR, if_pos hrM, hmo]
  refine Wx.rd (v := .string M) (rd_move rfl) rfl ?_
  refine Wx.rd (v := .agg #[.int .u8 b0, .int .u8 b1, .int .u8 b2, .int .u8 b3, .int .u8 b4, .int .u8 b5]) (rd_loadXs (ds := [.int .u8 b0, .int .u8 b1, .int .u8 b2, .int .u8 b3, .int .u8 b4, .int .u8 b5]) hS 1 rfl rfl rfl rfl Tryd.isAgg44 Tryd.sizeOf44) rfl ?_
  refine Wx.callF (run_callF Tryd.call45 rfl) (F45 (by first | assumption | (simp only [maxLen]; omega) | (simp only [ByteArray.size_extract, ByteArray.size_append, maxLen] at *; omega) | decide) i_b0 i_b1 i_b2 i_b3 i_b4 i_b5 (by omega)) rfl ?_
  rintro r_16 w_17 hx_18 rfl
  have hS := hS.ext hx_18
  refine Wx.rd (v := .string (restN M [b0, b1, b2, b3, b4, b5])) (rd_assign rfl) rfl ?_
  refine Wx.nil ?_
  refine W.seq ?_
  refine W.reg ?_
  refine Wx.rd (v := .string M) (rd_move rfl) rfl ?_
  refine Wx.callF (run_callF Tryd.call32 rfl) (F32 (by first | assumption | (simp only [maxLen]; omega) | (simp only [ByteArray.size_extract, ByteArray.size_append, maxLen] at *; omega) | decide) (hG.ext hS.bel)) rfl ?_
  rintro r_19 w_20 hx_21 rfl
  have hS := hS.ext hx_21
  refine Wx.rd (v := .tuple #[.string (restE M), .int .i64 (rimE M)]) (rd_move rfl) rfl ?_
  refine Wx.rd (v := .string (restE M)) (rd_extract rfl rfl) rfl ?_
  refine Wx.rd (v := .int .i64 (rimE M)) (rd_extract rfl rfl) rfl ?_
  refine Wx.rd (v := .string (restE M)) (rd_assign rfl) rfl ?_
  refine Wx.rd (v := .int .i64 0) (Rd.to (v := .int .i64 (rimE M)) (rd_assign rfl) (congrArg (Value.int .i64) (show (0 : Int) = (rimE M : Int) from hrM.symm).symm)) rfl ?_
  refine Wx.nil ?_
  refine W.seq ?_
  refine W.reg ?_
  refine Wx.rd (v := .string M) (rd_move rfl) rfl ?_
  refine Wx.callF (run_callF Tryd.call30 rfl) (F30 (by first | assumption | (simp only [maxLen]; omega) | (simp only [ByteArray.size_extract, ByteArray.size_append, maxLen] at *; omega) | decide) hS.fb_lt (hG.ext hS.bel)) rfl ?_
  rintro r_22 w_23 hx_24 ⟨v_25, rfl, hv_26⟩
  have ln_28 := hv_26.len63
  have hS := hS.ext hx_24
  have hS := hS.add hv_26
  refine Wx.rd (v := .tuple #[v_25, .int .i64 (rimE M)]) (rd_move rfl) rfl ?_
  refine Wx.rd (v := v_25) (rd_extract rfl rfl) rfl ?_
  refine Wx.rd (v := .int .i64 (rimE M)) (rd_extract rfl rfl) rfl ?_
  refine Wx.rd (v := v_25) (rd_assign rfl) rfl ?_
  refine Wx.rd (v := .int .i64 0) (Rd.to (v := .int .i64 (rimE M)) (rd_assign rfl) (congrArg (Value.int .i64) (show (0 : Int) = (rimE M : Int) from hrM.symm).symm)) rfl ?_
  refine Wx.nil ?_
  refine W.seq ?_
  refine W.reg ?_
  refine Wx.rd (v := .string M) (rd_move rfl) rfl ?_
  refine Wx.callF (run_callF Tryd.call34 rfl) (F34 (by first | assumption | (simp only [maxLen]; omega) | (simp only [ByteArray.size_extract, ByteArray.size_append, maxLen] at *; omega) | decide) (hG.ext hS.bel)) rfl ?_
  rintro r_29 w_30 hx_31 rfl
  have hS := hS.ext hx_31
  refine Wx.rd (v := .tuple #[.bool (fullP M), .int .i64 (rimE M)]) (rd_move rfl) rfl ?_
  refine Wx.rd (v := .bool (fullP M)) (rd_extract rfl rfl) rfl ?_
  refine Wx.rd (v := .int .i64 (rimE M)) (rd_extract rfl rfl) rfl ?_
  refine Wx.rd (v := .bool (fullP M)) (rd_assign rfl) rfl ?_
  refine Wx.rd (v := .int .i64 0) (Rd.to (v := .int .i64 (rimE M)) (rd_assign rfl) (congrArg (Value.int .i64) (show (0 : Int) = (rimE M : Int) from hrM.symm).symm)) rfl ?_
  refine Wx.nil ?_
  refine W.seq ?_
  refine W.reg ?_
  refine Wx.rd (v := .string M) (rd_move rfl) rfl ?_
  refine Wx.callF (run_callF Tryd.call21 rfl) (F21 (by first | assumption | (simp only [maxLen]; omega) | (simp only [ByteArray.size_extract, ByteArray.size_append, maxLen] at *; omega) | decide) (hG.ext hS.bel)) rfl ?_
  rintro r_32 w_33 hx_34 rfl
  have hS := hS.ext hx_34
  refine Wx.rd (v := .tuple #[.int .i64 (mostV M), .int .i64 (rimE M)]) (rd_move rfl) rfl ?_
  refine Wx.rd (v := .int .i64 (mostV M)) (rd_extract rfl rfl) rfl ?_
  refine Wx.rd (v := .int .i64 (rimE M)) (rd_extract rfl rfl) rfl ?_
  refine Wx.rd (v := .int .i64 (mostV M)) (rd_assign rfl) rfl ?_
  refine Wx.rd (v := .int .i64 0) (Rd.to (v := .int .i64 (rimE M)) (rd_assign rfl) (congrArg (Value.int .i64) (show (0 : Int) = (rimE M : Int) from hrM.symm).symm)) rfl ?_
  refine Wx.nil ?_
  refine W.seq ?_
  refine W.seq ?_
  refine W.reg ?_
  refine Wx.rd (v := .int .i64 0) (rd_move rfl) rfl ?_
  refine Wx.rd (v := .bool false) (Rd.to (v := .bool (decide ((0 : Int) ≠ 0))) (rd_neq rfl rfl) (congrArg (Value.bool) (show (false : Bool) = (decide ((0 : Int) ≠ 0) : Bool) from (by decide)).symm)) rfl ?_
  refine Wx.rd (v := .bool false) (rd_move rfl) rfl ?_
  refine Wx.gyes rfl rfl rfl ?_
  refine Wx.rd (v := .int .i64 0) (rd_move rfl) rfl ?_
  refine Wx.gyes rfl rfl rfl ?_
  refine Wx.rd (v := .bool false) (Rd.to (v := .bool (decide ((0 : Int) ≠ 0))) (rd_neq rfl rfl) (congrArg (Value.bool) (show (false : Bool) = (decide ((0 : Int) ≠ 0) : Bool) from (by decide)).symm)) rfl ?_
  refine Wx.rd (v := .bool false) (rd_pickF rfl rfl) rfl ?_
  refine Wx.rd (v := .bool false) (rd_move rfl) rfl ?_
  refine Wx.gyes rfl rfl rfl ?_
  refine Wx.rd (v := .int .i64 0) (rd_move rfl) rfl ?_
  refine Wx.gyes rfl rfl rfl ?_
  refine Wx.rd (v := .bool false) (Rd.to (v := .bool (decide ((0 : Int) ≠ 0))) (rd_neq rfl rfl) (congrArg (Value.bool) (show (false : Bool) = (decide ((0 : Int) ≠ 0) : Bool) from (by decide)).symm)) rfl ?_
  refine Wx.rd (v := .bool false) (rd_pickF rfl rfl) rfl ?_
  refine Wx.rd (v := .bool false) (rd_move rfl) rfl ?_
  refine Wx.gyes rfl rfl rfl ?_
  refine Wx.rd (v := .int .i64 0) (rd_move rfl) rfl ?_
  refine Wx.gyes rfl rfl rfl ?_
  refine Wx.rd (v := .bool false) (Rd.to (v := .bool (decide ((0 : Int) ≠ 0))) (rd_neq rfl rfl) (congrArg (Value.bool) (show (false : Bool) = (decide ((0 : Int) ≠ 0) : Bool) from (by decide)).symm)) rfl ?_
  refine Wx.rd (v := .bool false) (rd_pickF rfl rfl) rfl ?_
  refine Wx.rd (v := .bool false) (rd_move rfl) rfl ?_
  refine Wx.gyes rfl rfl rfl ?_
  refine Wx.rd (v := .string (restE M)) (rd_move rfl) rfl ?_
  refine Wx.gyes rfl rfl rfl ?_
  refine Wx.rd (v := .string (restN M [b0, b1, b2, b3, b4, b5])) (rd_move rfl) rfl ?_
  refine Wx.gyes rfl rfl rfl ?_
  refine Wx.rd (v := .bool false) (Rd.to (v := .bool (!((restE M) == (restN M [b0, b1, b2, b3, b4, b5])))) (rd_neqS rfl rfl) (congrArg (Value.bool) (show (false : Bool) = (!((restE M) == (restN M [b0, b1, b2, b3, b4, b5])) : Bool) from (by rw [ba_beq.2 (by rw [hre, hrn])]; rfl)).symm)) rfl ?_
  refine Wx.rd (v := .bool false) (rd_pickF rfl rfl) rfl ?_
  refine Wx.rd (v := .bool false) (rd_move rfl) rfl ?_
  refine Wx.gyes rfl rfl rfl ?_
  refine Wx.rd (v := .string M) (rd_move rfl) rfl ?_
  refine Wx.gyes rfl rfl rfl ?_
  refine Wx.rd (v := .agg #[.int .u8 b02, .int .u8 b12, .int .u8 b22, .int .u8 b32, .int .u8 b42, .int .u8 b52]) (rd_loadXs (ds := [.int .u8 b02, .int .u8 b12, .int .u8 b22, .int .u8 b32, .int .u8 b42, .int .u8 b52]) hS 1 rfl rfl rfl rfl Tryd.isAgg44 Tryd.sizeOf44) rfl ?_
  refine Wx.gyes rfl rfl rfl ?_
  refine Wx.callF (run_callF Tryd.call45 rfl) (F45 (by first | assumption | (simp only [maxLen]; omega) | (simp only [ByteArray.size_extract, ByteArray.size_append, maxLen] at *; omega) | decide) i_b02 i_b12 i_b22 i_b32 i_b42 i_b52 (by omega)) rfl ?_
  rintro r_35 w_36 hx_37 rfl
  have hS := hS.ext hx_37
  refine Wx.gyes rfl rfl rfl ?_
  refine Wx.rd (v := .string (restN M [b0, b1, b2, b3, b4, b5])) (rd_move rfl) rfl ?_
  refine Wx.gyes rfl rfl rfl ?_
  refine Wx.rd (v := .bool false) (Rd.to (v := .bool (!((restN M [b02, b12, b22, b32, b42, b52]) == (restN M [b0, b1, b2, b3, b4, b5])))) (rd_neqS rfl rfl) (congrArg (Value.bool) (show (false : Bool) = (!((restN M [b02, b12, b22, b32, b42, b52]) == (restN M [b0, b1, b2, b3, b4, b5])) : Bool) from (by rw [ba_beq.2 (by rw [hrn2, hrn])]; rfl)).symm)) rfl ?_
  refine Wx.rd (v := .bool false) (rd_pickF rfl rfl) rfl ?_
  refine Wx.nil ?_
  refine W.condF rfl rfl ?_
  refine W.skip ?_
  refine W.seq ?_
  refine W.reg ?_
  refine Wx.rd (v := v_25) (rd_move rfl) rfl ?_
  refine Wx.callF (run_callF Tryd.call56 rfl) (F56 (hS.v 0 rfl) (by omega) hS.fb_lt) rfl ?_
  rintro r_38 w_39 hx_40 ⟨_, rfl, hv_41⟩
  have hS := hS.pushFr hx_40 hv_41
  refine Wx.rd (v := r_38) (rd_assign rfl) rfl ?_
  refine Wx.nil ?_
  refine W.seq ?_
  refine W.seq ?_
  refine W.reg ?_
  refine Wx.rd (v := .string M) (rd_move rfl) rfl ?_
  refine Wx.rd (v := .int .i64 (M.size : Int)) (rd_lenS rfl Tryd.underlying9) rfl ?_
  refine Wx.rd (v := .string (restE M)) (rd_move rfl) rfl ?_
  refine Wx.rd (v := .int .i64 ((restE M).size : Int)) (rd_lenS rfl Tryd.underlying9) rfl ?_
  refine Wx.rd (v := v_25) (rd_move rfl) rfl ?_
  refine Wx.rd (v := .int .i64 ((stepsV M).length : Int)) (rd_lenV rfl (hS.v 1 rfl) Tryd.underlying22) rfl ?_
  refine Wx.rd (v := .int .i64 (2 * ((stepsV M).length : Int))) (rd_mul rfl rfl (in_i64 (by omega) (by omega))) rfl ?_
  refine Wx.rd (v := .int .i64 (((restE M).size : Int) + (2 * ((stepsV M).length : Int)))) (rd_add rfl rfl (in_i64 (by omega) (by omega))) rfl ?_
  refine Wx.rd (v := .bool false) (Rd.to (v := .bool (decide ((M.size : Int) ≠ (((restE M).size : Int) + (2 * ((stepsV M).length : Int)))))) (rd_neq rfl rfl) (congrArg (Value.bool) (show (false : Bool) = (decide ((M.size : Int) ≠ (((restE M).size : Int) + (2 * ((stepsV M).length : Int)))) : Bool) from (decide_eq_false (not_not_intro (by rw [hres]; exact hcnt))).symm).symm)) rfl ?_
  refine Wx.rd (v := .bool false) (rd_move rfl) rfl ?_
  refine Wx.gyes rfl rfl rfl ?_
  refine Wx.rd (v := .string M) (rd_move rfl) rfl ?_
  refine Wx.gyes rfl rfl rfl ?_
  refine Wx.rd (v := r_38) (rd_move rfl) rfl ?_
  refine Wx.gyes rfl rfl rfl ?_
  refine Wx.callF (run_callF Tryd.call57 rfl) (F57 (by first | assumption | (simp only [maxLen]; omega) | (simp only [ByteArray.size_extract, ByteArray.size_append, maxLen] at *; omega) | decide) (hS.lend 0 rfl) (by omega) (by omega)) rfl ?_
  rintro r_43 w_44 hx_45 rfl
  have hS := hS.ext hx_45
  refine Wx.gyes rfl rfl rfl ?_
  refine Wx.rd (v := .bool false) (Rd.to (v := .bool (!(soundB M (sortJ (stepsV M))))) (rd_not rfl) (congrArg (Value.bool) (show (false : Bool) = (!(soundB M (sortJ (stepsV M))) : Bool) from (by rw [hsd]; rfl)).symm)) rfl ?_
  refine Wx.rd (v := .bool false) (rd_pickF rfl rfl) rfl ?_
  refine Wx.rd (v := .bool false) (rd_move rfl) rfl ?_
  refine Wx.gyes rfl rfl rfl ?_
  refine Wx.rd (v := .string M) (rd_move rfl) rfl ?_
  refine Wx.gyes rfl rfl rfl ?_
  refine Wx.rd (v := r_38) (rd_move rfl) rfl ?_
  refine Wx.gyes rfl rfl rfl ?_
  refine Wx.callF (run_callF Tryd.call19 rfl) (F19 (by first | assumption | (simp only [maxLen]; omega) | (simp only [ByteArray.size_extract, ByteArray.size_append, maxLen] at *; omega) | decide) (hS.lend 0 rfl) (hG.ext hS.bel)) rfl ?_
  rintro r_46 w_47 hx_48 rfl
  have hS := hS.ext hx_48
  refine Wx.gyes rfl rfl rfl ?_
  refine Wx.rd (v := .bool false) (Rd.to (v := .bool (decide ((validE M (sortJ (stepsV M))) ≠ 0))) (rd_neq rfl rfl) (congrArg (Value.bool) (show (false : Bool) = (decide ((validE M (sortJ (stepsV M))) ≠ 0) : Bool) from (decide_eq_false (not_not_intro (hvd))).symm).symm)) rfl ?_
  refine Wx.rd (v := .bool false) (rd_pickF rfl rfl) rfl ?_
  refine Wx.rd (v := .bool false) (rd_move rfl) rfl ?_
  refine Wx.gyes rfl rfl rfl ?_
  refine Wx.rd (v := .int .i64 (mostV M)) (rd_move rfl) rfl ?_
  refine Wx.gyes rfl rfl rfl ?_
  refine Wx.rd (v := v_25) (rd_move rfl) rfl ?_
  refine Wx.gyes rfl rfl rfl ?_
  refine Wx.rd (v := .int .i64 ((stepsV M).length : Int)) (rd_lenV rfl (hS.v 1 rfl) Tryd.underlying22) rfl ?_
  refine Wx.gyes rfl rfl rfl ?_
  refine Wx.rd (v := .bool false) (Rd.to (v := .bool (decide ((mostV M) < ((stepsV M).length : Int)))) (rd_lss rfl rfl) (congrArg (Value.bool) (show (false : Bool) = (decide ((mostV M) < ((stepsV M).length : Int)) : Bool) from (decide_eq_false (by omega)).symm).symm)) rfl ?_
  refine Wx.rd (v := .bool false) (rd_pickF rfl rfl) rfl ?_
  refine Wx.nil ?_
  refine W.condF rfl rfl ?_
  refine W.skip ?_
  refine W.seq ?_
  refine W.reg ?_
  refine Wx.rd (v := .string M) (rd_move rfl) rfl ?_
  refine Wx.rd (v := .string M) (rd_assign rfl) rfl ?_
  refine Wx.nil ?_
  refine W.seq ?_
  refine W.seq ?_
  refine W.reg ?_
  refine Wx.rd (v := v_25) (rd_move rfl) rfl ?_
  refine Wx.rd (v := .int .i64 ((stepsV M).length : Int)) (rd_lenV rfl (hS.v 1 rfl) Tryd.underlying22) rfl ?_
  refine Wx.rd (v := .int .i64 0) (rd_move rfl) rfl ?_
  refine Wx.nil ?_
  refine W.block ?_
  refine W.loop [6, 18, 20, 21, 22, 110, 111, 112, 113, 114, 115, 116, 117, 118, 119, 120, 121, 122, 123, 124, 125, 126, 127, 128, 129, 130, 131, 132, 133, 134, 135, 136, 137, 138, 139, 140, 141, 142, 143, 144, 145, 146, 147, 148, 149, 150, 151, 152, 153, 154, 155, 156, 157, 158, 159, 160, 161] (fun x : ByteArray × Int => match x with | (Lt, q) => [(18, .string Lt), (110, .int .i64 q)]) (fun (x : ByteArray × Int) w' => match x with | (Lt, q) => St w O w' [.row (tP (tI .i64) (tI .i64)) 58 r_38 (sortJ (stepsV M)), Ob.v (tSl (tP (tI .i64) (tI .i64))) (stepsV M) v_25, .box g_9 44 [.int .u8 b02, .int .u8 b12, .int .u8 b22, .int .u8 b32, .int .u8 b42, .int .u8 b52], .box g_5 44 [.int .u8 b0, .int .u8 b1, .int .u8 b2, .int .u8 b3, .int .u8 b4, .int .u8 b5], .box g_1 43 [.int .u8 e, .int .u8 kd, .int .u8 x0, .int .u8 x1, .int .u8 x2, .int .u8 x3, .int .u8 x4, .int .u8 x5, .int .u8 x6, .int .u8 x7, .int .u8 x8, .int .u8 x9, .int .u8 x10, .int .u8 x11]] ∧ 0 ≤ q ∧ q ≤ ((stepsV M).length : Int) ∧ LeftI M q Lt ∧ (Lt.size : Int) ≤ 12) (fun x : ByteArray × Int => match x with | (Lt, q) => ((stepsV M).length - q).toNat) (M, 0) ⟨rfl, rfl, trivial⟩ ⟨hS, (by first | omega | simp), (by first | omega | simp), (LeftI.start M), (by first | omega | simp)⟩ ?_
  rintro ⟨Lt, q⟩ u_50 w_49 ⟨hS, h0, h1, hL, h3⟩
  refine W.seq ?_
  refine W.reg ?_
  refine Wx.rd (v := .bool (decide (q < ((stepsV M).length : Int)))) (rd_lss rfl rfl) rfl ?_
  refine Wx.nil ?_
  refine W.seq ?_
  refine W.condD rfl (fun c2 => ?_) (fun c2 => ?_)
  · -- yes
    refine W.skip ?_
    refine W.seq ?_
    refine W.block ?_
    refine W.seq ?_
    refine W.reg ?_
    refine Wx.ex (rd_index (0, 0) (hS.v 1 rfl) rfl rfl Tryd.underlying22 Tryd.sizeOf58 (by first | omega | (simp only [List.length_set, List.length_append, List.length_cons, List.length_nil, List.length_replicate]; omega)) (by first | omega | (simp only [List.length_set, List.length_append, List.length_cons, List.length_nil, List.length_replicate]; omega))) rfl (fun p_51 hp_52 => ?_)
    refine Wx.ex (rd_load hp_52 rfl Tryd.isAgg58 Tryd.sizeOf58) rfl (fun v_53 hv_54 => ?_)
    obtain ⟨rfl, bd_55, bd_56⟩ := hv_54.i2
    have bd_55 := bd_i64 bd_55
    have bd_56 := bd_i64 bd_56
    refine Wx.alloc (cs := [.int .i64 0, .int .i64 0]) hS Tryd.zeroValue58 rfl rfl (fun g_57 w_58 hx_60 hb_59 hS => ?_)
    refine Wx.storeX (cs' := [.int .i64 ((ix (0, 0) (stepsV M) q).1), .int .i64 ((ix (0, 0) (stepsV M) q).2)]) (ds := [.int .i64 ((ix (0, 0) (stepsV M) q).1), .int .i64 ((ix (0, 0) (stepsV M) q).2)]) hS 0 rfl rfl rfl rfl Tryd.sizeOf58 (Nat.le_of_ble_eq_true rfl) (one_cons rfl (one_cons rfl one_nil)) rfl (fun w_61 hz_62 hS => ?_)
    refine Wx.nil ?_
    refine W.seq ?_
    refine W.reg ?_
    refine Wx.rd (v := .int .i64 (-1)) (rd_assign rfl) rfl ?_
    refine Wx.nil ?_
    refine W.seq ?_
    refine W.seq ?_
    refine W.reg ?_
    refine Wx.rd (v := .string Lt) (rd_move rfl) rfl ?_
    refine Wx.rd (v := .int .i64 (Lt.size : Int)) (rd_lenS rfl Tryd.underlying9) rfl ?_
    refine Wx.rd (v := .int .i64 ((Lt.size : Int) - 2)) (rd_sub rfl rfl (in_i64 (by omega) (by omega))) rfl ?_
    refine Wx.rd (v := .int .i64 ((Lt.size : Int) - 2)) (rd_assign rfl) rfl ?_
    refine Wx.nil ?_
    refine W.block ?_
    refine W.loop [21, 22, 117, 118, 119, 120, 121, 122, 123, 124, 125, 126, 127, 128, 129] (fun x : Int × Int => match x with | (k, i) => [(21, .int .i64 k), (22, .int .i64 i)]) (fun (x : Int × Int) w' => match x with | (k, i) => St w O w' [.box g_57 58 [.int .i64 ((ix (0, 0) (stepsV M) q).1), .int .i64 ((ix (0, 0) (stepsV M) q).2)], .row (tP (tI .i64) (tI .i64)) 58 r_38 (sortJ (stepsV M)), Ob.v (tSl (tP (tI .i64) (tI .i64))) (stepsV M) v_25, .box g_9 44 [.int .u8 b02, .int .u8 b12, .int .u8 b22, .int .u8 b32, .int .u8 b42, .int .u8 b52], .box g_5 44 [.int .u8 b0, .int .u8 b1, .int .u8 b2, .int .u8 b3, .int .u8 b4, .int .u8 b5], .box g_1 43 [.int .u8 e, .int .u8 kd, .int .u8 x0, .int .u8 x1, .int .u8 x2, .int .u8 x3, .int .u8 x4, .int .u8 x5, .int .u8 x6, .int .u8 x7, .int .u8 x8, .int .u8 x9, .int .u8 x10, .int .u8 x11]] ∧ -2 ≤ i ∧ i ≤ (Lt.size : Int) - 2 ∧ FirstI Lt i k) (fun x : Int × Int => match x with | (k, i) => (i + 2).toNat) (-1, (Lt.size : Int) - 2) ⟨rfl, rfl, trivial⟩ ⟨hS, (by first | omega | simp), (by first | omega | simp), (FirstI.start Lt)⟩ ?_
    rintro ⟨k, i⟩ u_64 w_63 ⟨hS, g0, g1, hF⟩
    refine W.seq ?_
    refine W.seq ?_
    refine W.reg ?_
    refine Wx.rd (v := .int .i64 i) (rd_move rfl) rfl ?_
    refine Wx.rd (v := .bool (decide (0 ≤ i))) (rd_geq rfl rfl) rfl ?_
    refine Wx.nil ?_
    refine W.condD rfl (fun c3 => ?_) (fun c3 => ?_)
    · -- yes
      refine W.skip ?_
      refine W.seq ?_
      refine W.block ?_
      refine W.seq ?_
      refine W.regQ mixedHC_ (by kernel_rfl) ?_
      refine Wx.rd (v := .string Lt) (rd_move rfl) rfl ?_
      refine Wx.rd (v := .int .i64 i) (rd_move rfl) rfl ?_
      refine Wx.rd (v := .int .u8 (tabAt Lt i)) (rd_indexS' (by kernel_rfl) rfl Tryd.underlying9 (by omega) (by omega)) rfl ?_
      have bd_65 := tabAt_bd Lt i
      refine Wx.rd (v := .string Lt) (rd_move rfl) rfl ?_
      refine Wx.rd (v := .int .i64 i) (rd_move rfl) rfl ?_
      refine Wx.rd (v := .int .i64 (i + 1)) (rd_add rfl rfl (in_i64 (by omega) (by omega))) rfl ?_
      refine Wx.rd (v := .int .u8 (tabAt Lt (i + 1))) (rd_indexS' (by kernel_rfl) rfl Tryd.underlying9 (by omega) (by omega)) rfl ?_
      have bd_66 := tabAt_bd Lt (i + 1)
      refine Wx.callV (v := .bool (fitC (tabAt Lt i) (tabAt Lt (i + 1)))) (run_callF Tryd.call58 rfl) (fun w_67 hw_68 => (F58 (in_u8 (by omega) (by omega)) (in_u8 (by omega) (by omega)))) rfl ?_
      refine Wx.nilQ (fun w_69 hx_70 => ?_)
      have hS := hS.ext hx_70
      refine W.cond rfl (fun c4 => ?_) (fun c4 => ?_)
      · -- yes
        try simp only [Bool.and_eq_true, Bool.or_eq_true, Bool.not_eq_true', Bool.and_eq_false_iff, Bool.or_eq_false_iff, Bool.not_eq_false', decide_eq_true_eq, decide_eq_false_iff_not, not_or, Bool.false_eq_true, Bool.true_eq_false, false_or, or_false, not_false_eq_true] at c4
        refine W.reg ?_
        refine Wx.rd (v := .int .i64 i) (rd_move rfl) rfl ?_
        refine Wx.rd (v := .int .i64 i) (rd_assign rfl) rfl ?_
        refine Wx.nil ?_
        refine W.reg ?_
        refine Wx.rd (v := .int .i64 i) (rd_move rfl) rfl ?_
        refine Wx.rd (v := .int .i64 (i - 1)) (rd_sub rfl rfl (in_i64 (by omega) (by omega))) rfl ?_
        refine Wx.rd (v := .int .i64 (i - 1)) (rd_assign rfl) rfl ?_
        refine Wx.nil ?_
        refine ⟨(i, i - 1), (by show ((i - 1) + 2).toNat < (i + 2).toNat; omega), ?_, ?_, Out.look rfl Out.self⟩
        · exact ⟨hS, (by first | omega | assumption), (by first | omega | assumption), (hF.yes (by omega) (by omega) c4)⟩
        · exact ⟨rfl, rfl, trivial⟩
      · -- no
        try simp only [Bool.and_eq_true, Bool.or_eq_true, Bool.not_eq_true', Bool.and_eq_false_iff, Bool.or_eq_false_iff, Bool.not_eq_false', decide_eq_true_eq, decide_eq_false_iff_not, not_or, Bool.false_eq_true, Bool.true_eq_false, false_or, or_false, not_false_eq_true] at c4
        refine W.skip ?_
        refine W.reg ?_
        refine Wx.rd (v := .int .i64 i) (rd_move rfl) rfl ?_
        refine Wx.rd (v := .int .i64 (i - 1)) (rd_sub rfl rfl (in_i64 (by omega) (by omega))) rfl ?_
        refine Wx.rd (v := .int .i64 (i - 1)) (rd_assign rfl) rfl ?_
        refine Wx.nil ?_
        refine ⟨(k, i - 1), (by show ((i - 1) + 2).toNat < (i + 2).toNat; omega), ?_, ?_, Out.look rfl Out.self⟩
        · exact ⟨hS, (by first | omega | assumption), (by first | omega | assumption), (hF.no c4)⟩
        · exact ⟨rfl, rfl, trivial⟩
    · -- no
      obtain ⟨sa0, sa1, sa2, sa3, sa4⟩ := hL.step h0 (by rw [← hst]; exact c2) (hF.exit g0 (by omega))
      rw [← hst] at sa2 sa3
      have hxr := (tak_free M).stI (ix (0, 0) (stepsV M) q) (by rw [← hst]; exact ix_mem (d := (0, 0)) h0 c2)
      refine W.exit rfl ?_
      refine W.seq ?_
      refine W.seq ?_
      refine W.regQ mixedHC_ (by kernel_rfl) ?_
      refine Wx.rd (v := .int .i64 k) (rd_move rfl) rfl ?_
      refine Wx.rd (v := .bool false) (Rd.to (v := .bool (decide (k < 0))) (rd_lss rfl rfl) (congrArg (Value.bool) (show (false : Bool) = (decide (k < 0) : Bool) from (decide_eq_false (by omega)).symm).symm)) rfl ?_
      refine Wx.rd (v := .bool false) (rd_move rfl) rfl ?_
      refine Wx.gyes rfl rfl rfl ?_
      refine Wx.rd (v := .string Lt) (rd_move rfl) rfl ?_
      refine Wx.gyes rfl rfl rfl ?_
      refine Wx.rd (v := .int .i64 k) (rd_move rfl) rfl ?_
      refine Wx.gyes rfl rfl rfl ?_
      refine Wx.rd (v := .int .u8 (tabAt Lt k)) (rd_indexS' (by kernel_rfl) rfl Tryd.underlying9 (by omega) (by omega)) rfl ?_
      have bd_71 := tabAt_bd Lt k
      refine Wx.gyes rfl rfl rfl ?_
      refine Wx.rd (v := .string M) (rd_move rfl) rfl ?_
      refine Wx.gyes rfl rfl rfl ?_
      refine Wx.rd (v := .pointer (some ⟨g_57, 0, none⟩)) (rd_indexArr (n := 0) rfl rfl Tryd.underlying58 Tryd.sizeOf3 (by decide) (by decide)) rfl ?_
      refine Wx.gyes rfl rfl rfl ?_
      refine Wx.rd (v := .int .i64 ((ix (0, 0) (stepsV M) q).1)) (rd_loadX hS 0 rfl rfl rfl Tryd.isAgg3) rfl ?_
      refine Wx.gyes rfl rfl rfl ?_
      refine Wx.rd (v := .int .u8 (tabAt M ((ix (0, 0) (stepsV M) q).1))) (rd_indexS' (by kernel_rfl) rfl Tryd.underlying9 (by omega) (by omega)) rfl ?_
      have bd_72 := tabAt_bd M ((ix (0, 0) (stepsV M) q).1)
      refine Wx.gyes rfl rfl rfl ?_
      refine Wx.rd (v := .bool false) (Rd.to (v := .bool (decide ((tabAt Lt k) ≠ (tabAt M ((ix (0, 0) (stepsV M) q).1))))) (rd_neq rfl rfl) (congrArg (Value.bool) (show (false : Bool) = (decide ((tabAt Lt k) ≠ (tabAt M ((ix (0, 0) (stepsV M) q).1))) : Bool) from (decide_eq_false (not_not_intro (sa2))).symm).symm)) rfl ?_
      refine Wx.rd (v := .bool false) (rd_pickF rfl rfl) rfl ?_
      refine Wx.rd (v := .bool false) (rd_move rfl) rfl ?_
      refine Wx.gyes rfl rfl rfl ?_
      refine Wx.rd (v := .string Lt) (rd_move rfl) rfl ?_
      refine Wx.gyes rfl rfl rfl ?_
      refine Wx.rd (v := .int .i64 k) (rd_move rfl) rfl ?_
      refine Wx.gyes rfl rfl rfl ?_
      refine Wx.rd (v := .int .i64 (k + 1)) (rd_add rfl rfl (in_i64 (by omega) (by omega))) rfl ?_
      refine Wx.gyes rfl rfl rfl ?_
      refine Wx.rd (v := .int .u8 (tabAt Lt (k + 1))) (rd_indexS' (by kernel_rfl) rfl Tryd.underlying9 (by omega) (by omega)) rfl ?_
      have bd_73 := tabAt_bd Lt (k + 1)
      refine Wx.gyes rfl rfl rfl ?_
      refine Wx.rd (v := .string M) (rd_move rfl) rfl ?_
      refine Wx.gyes rfl rfl rfl ?_
      refine Wx.rd (v := .pointer (some ⟨g_57, 1, none⟩)) (rd_indexArr (n := 1) rfl rfl Tryd.underlying58 Tryd.sizeOf3 (by decide) (by decide)) rfl ?_
      refine Wx.gyes rfl rfl rfl ?_
      refine Wx.rd (v := .int .i64 ((ix (0, 0) (stepsV M) q).2)) (rd_loadX hS 0 rfl rfl rfl Tryd.isAgg3) rfl ?_
      refine Wx.gyes rfl rfl rfl ?_
      refine Wx.rd (v := .int .u8 (tabAt M ((ix (0, 0) (stepsV M) q).2))) (rd_indexS' (by kernel_rfl) rfl Tryd.underlying9 (by omega) (by omega)) rfl ?_
      have bd_74 := tabAt_bd M ((ix (0, 0) (stepsV M) q).2)
      refine Wx.gyes rfl rfl rfl ?_
      refine Wx.rd (v := .bool false) (Rd.to (v := .bool (decide ((tabAt Lt (k + 1)) ≠ (tabAt M ((ix (0, 0) (stepsV M) q).2))))) (rd_neq rfl rfl) (congrArg (Value.bool) (show (false : Bool) = (decide ((tabAt Lt (k + 1)) ≠ (tabAt M ((ix (0, 0) (stepsV M) q).2))) : Bool) from (decide_eq_false (not_not_intro (sa3))).symm).symm)) rfl ?_
      refine Wx.rd (v := .bool false) (rd_pickF rfl rfl) rfl ?_
      refine Wx.nilQ (fun w_75 hx_76 => ?_)
      have hS := hS.ext hx_76
      refine W.condF rfl rfl ?_
      refine W.skip ?_
      refine W.regQ mixedHC_ (by kernel_rfl) ?_
      refine Wx.rd (v := .string Lt) (rd_move rfl) rfl ?_
      refine Wx.rd (v := .int .i64 k) (rd_move rfl) rfl ?_
      refine Wx.rd (v := .string ((Lt).extract 0 k.toNat)) (rd_sliceS_H Tryd.underlying9 rfl rfl (by omega) (by omega)) rfl ?_
      refine Wx.rd (v := .string Lt) (rd_move rfl) rfl ?_
      refine Wx.rd (v := .int .i64 k) (rd_move rfl) rfl ?_
      refine Wx.rd (v := .int .i64 (k + 2)) (rd_add rfl rfl (in_i64 (by omega) (by omega))) rfl ?_
      refine Wx.rd (v := .string ((Lt).extract (k + 2).toNat Lt.size)) (rd_sliceS_L Tryd.underlying9 rfl rfl (by omega) (by omega)) rfl ?_
      refine Wx.rd (v := .string (((Lt).extract 0 k.toNat) ++ ((Lt).extract (k + 2).toNat Lt.size))) (rd_addS rfl rfl (by rw [ByteArray.size_extract, ByteArray.size_extract]; omega)) rfl ?_
      refine Wx.rd (v := .string (((Lt).extract 0 k.toNat) ++ ((Lt).extract (k + 2).toNat Lt.size))) (rd_assign rfl) rfl ?_
      refine Wx.nilQ (fun w_77 hx_78 => ?_)
      have hS := hS.ext hx_78
      refine W.reg ?_
      refine Wx.rd (v := .int .i64 (q + 1)) (rd_add rfl rfl (in_i64 (by omega) (by omega))) rfl ?_
      refine Wx.rd (v := .int .i64 (q + 1)) (rd_move rfl) rfl ?_
      refine Wx.nil ?_
      refine ⟨(((Lt).extract 0 k.toNat) ++ ((Lt).extract (k + 2).toNat Lt.size), q + 1), (by show ((stepsV M).length - (q + 1)).toNat < ((stepsV M).length - q).toNat; omega), ?_, ?_, Out.look rfl (Out.hav rfl (Out.look rfl Out.self))⟩
      · exact ⟨hS.tl, (by first | omega | assumption), (by first | omega | assumption), (sa4), (by rw [ByteArray.size_append, ByteArray.size_extract, ByteArray.size_extract]; omega)⟩
      · exact ⟨rfl, rfl, trivial⟩
  · -- no
    refine W.exit rfl ?_
    refine W.seq ?_
    refine W.reg ?_
    refine Wx.alloc (cs := List.map Value.bool (List.replicate 169 false)) hS Tryd.zeroValue67 (by kernel_rfl) rfl (fun g_79 w_80 hx_82 hb_81 hS => ?_)
    have hS : St _ _ w_80 [.box g_79 67 (List.map Value.bool (List.replicate 169 false)), .row (tP (tI .i64) (tI .i64)) 58 r_38 (sortJ (stepsV M)), Ob.v (tSl (tP (tI .i64) (tI .i64))) (stepsV M) v_25, .box g_9 44 [.int .u8 b02, .int .u8 b12, .int .u8 b22, .int .u8 b32, .int .u8 b42, .int .u8 b52], .box g_5 44 [.int .u8 b0, .int .u8 b1, .int .u8 b2, .int .u8 b3, .int .u8 b4, .int .u8 b5], .box g_1 43 [.int .u8 e, .int .u8 kd, .int .u8 x0, .int .u8 x1, .int .u8 x2, .int .u8 x3, .int .u8 x4, .int .u8 x5, .int .u8 x6, .int .u8 x7, .int .u8 x8, .int .u8 x9, .int .u8 x10, .int .u8 x11]] := hS
    refine Wx.nil ?_
    refine W.seq ?_
    refine W.seq ?_
    refine W.reg ?_
    refine Wx.rd (v := .string M) (rd_move rfl) rfl ?_
    refine Wx.rd (v := .int .i64 (M.size : Int)) (rd_lenS rfl Tryd.underlying9) rfl ?_
    refine Wx.rd (v := .int .i64 ((M.size : Int) + 1)) (rd_add rfl rfl (in_i64 (by omega) (by omega))) rfl ?_
    refine Wx.rd (v := .int .i64 0) (rd_move rfl) rfl ?_
    refine Wx.nil ?_
    refine W.block ?_
    refine W.loop [24, 25, 26, 165, 166, 167, 168, 169, 170, 171, 172, 173, 174, 175, 176, 177, 178, 179, 180, 181, 182, 183, 184, 185, 186, 187, 188, 189, 190, 191, 192, 193, 194, 195, 196, 197, 198, 199, 200, 201, 202, 203, 204, 205, 206, 207, 208, 209, 210, 211, 212] (fun x : Int × (List Bool) => match x with | (n, T) => [(165, .int .i64 n)]) (fun (x : Int × (List Bool)) w' => match x with | (n, T) => St w O w' [.box g_79 67 (List.map Value.bool T), .row (tP (tI .i64) (tI .i64)) 58 r_38 (sortJ (stepsV M)), Ob.v (tSl (tP (tI .i64) (tI .i64))) (stepsV M) v_25, .box g_9 44 [.int .u8 b02, .int .u8 b12, .int .u8 b22, .int .u8 b32, .int .u8 b42, .int .u8 b52], .box g_5 44 [.int .u8 b0, .int .u8 b1, .int .u8 b2, .int .u8 b3, .int .u8 b4, .int .u8 b5], .box g_1 43 [.int .u8 e, .int .u8 kd, .int .u8 x0, .int .u8 x1, .int .u8 x2, .int .u8 x3, .int .u8 x4, .int .u8 x5, .int .u8 x6, .int .u8 x7, .int .u8 x8, .int .u8 x9, .int .u8 x10, .int .u8 x11]] ∧ 0 ≤ n ∧ n ≤ (M.size : Int) + 1 ∧ Grid T (f0 M n)) (fun x : Int × (List Bool) => match x with | (n, T) => ((M.size : Int) + 1 - n).toNat) (0, (List.replicate 169 false)) ⟨rfl, trivial⟩ ⟨hS, (by first | omega | simp), (by first | omega | simp), (grid_start M)⟩ ?_
    rintro ⟨n, T⟩ u_84 w_83 ⟨hS, n0, n1, k0⟩
    have hl0 := k0.len
    refine W.seq ?_
    refine W.reg ?_
    refine Wx.rd (v := .bool (decide (n < ((M.size : Int) + 1)))) (rd_lss rfl rfl) rfl ?_
    refine Wx.nil ?_
    refine W.seq ?_
    refine W.condD rfl (fun c6 => ?_) (fun c6 => ?_)
    · -- yes
      refine W.skip ?_
      refine W.seq ?_
      refine W.block ?_
      refine W.seq ?_
      refine W.reg ?_
      refine Wx.rd (v := .int .i64 n) (rd_move rfl) rfl ?_
      refine Wx.rd (v := .int .i64 n) (rd_assign rfl) rfl ?_
      refine Wx.nil ?_
      refine W.seq ?_
      refine W.reg ?_
      refine Wx.rd (v := .int .i64 n) (rd_move rfl) rfl ?_
      refine Wx.rd (v := .int .i64 n) (rd_move rfl) rfl ?_
      refine Wx.rd (v := .pointer (some ⟨g_79, 0 + n.toNat * 13, none⟩)) (rd_indexArr rfl rfl Tryd.underlying67 Tryd.sizeOf66 (by omega) (by omega)) rfl ?_
      refine Wx.rd (v := .pointer (some ⟨g_79, 0 + n.toNat * 13 + n.toNat * 1, none⟩)) (rd_indexArr rfl rfl Tryd.underlying66 Tryd.sizeOf4 (by omega) (by omega)) rfl ?_
      refine Wx.storeXa (j := n * 13 + n) (f := Value.bool) (u := true) hS 0 rfl rfl (by omega) rfl rfl rfl Tryd.sizeOf4 (by omega) (by omega) (fun w_85 hz_86 hS => ?_)
      refine Wx.nil ?_
      refine W.seq ?_
      refine W.reg ?_
      refine Wx.rd (v := .int .i64 n) (rd_move rfl) rfl ?_
      refine Wx.rd (v := .int .i64 (n - 1)) (rd_sub rfl rfl (in_i64 (by omega) (by omega))) rfl ?_
      refine Wx.rd (v := .int .i64 (n - 1)) (rd_assign rfl) rfl ?_
      refine Wx.nil ?_
      refine W.block ?_
      refine W.loop [25, 26, 174, 175, 176, 177, 178, 179, 180, 181, 182, 183, 184, 185, 186, 187, 188, 189, 190, 191, 192, 193, 194, 195, 196, 197, 198, 199, 200, 201, 202, 203, 204, 205, 206, 207, 208, 209, 210, 211] (fun x : Int × (List Bool) => match x with | (i, T1) => [(25, .int .i64 i)]) (fun (x : Int × (List Bool)) w' => match x with | (i, T1) => St w O w' [.box g_79 67 (List.map Value.bool T1), .row (tP (tI .i64) (tI .i64)) 58 r_38 (sortJ (stepsV M)), Ob.v (tSl (tP (tI .i64) (tI .i64))) (stepsV M) v_25, .box g_9 44 [.int .u8 b02, .int .u8 b12, .int .u8 b22, .int .u8 b32, .int .u8 b42, .int .u8 b52], .box g_5 44 [.int .u8 b0, .int .u8 b1, .int .u8 b2, .int .u8 b3, .int .u8 b4, .int .u8 b5], .box g_1 43 [.int .u8 e, .int .u8 kd, .int .u8 x0, .int .u8 x1, .int .u8 x2, .int .u8 x3, .int .u8 x4, .int .u8 x5, .int .u8 x6, .int .u8 x7, .int .u8 x8, .int .u8 x9, .int .u8 x10, .int .u8 x11]] ∧ -1 ≤ i ∧ i < n ∧ Grid T1 (f1 M n i)) (fun x : Int × (List Bool) => match x with | (i, T1) => (i + 1).toNat) (n - 1, List.set T (n * 13 + n).toNat true) ⟨rfl, trivial⟩ ⟨hS, (by first | omega | simp), (by first | omega | simp), (grid_col k0 n0 (by omega))⟩ ?_
      rintro ⟨i, T1⟩ u_88 w_87 ⟨hS, m0, m1, m2⟩
      have hl1 := m2.len
      refine W.seq ?_
      refine W.seq ?_
      refine W.reg ?_
      refine Wx.rd (v := .int .i64 i) (rd_move rfl) rfl ?_
      refine Wx.rd (v := .bool (decide (0 ≤ i))) (rd_geq rfl rfl) rfl ?_
      refine Wx.nil ?_
      refine W.condD rfl (fun c7 => ?_) (fun c7 => ?_)
      · -- yes
        refine W.skip ?_
        refine W.seq ?_
        refine W.block ?_
        refine W.seq ?_
        refine W.reg ?_
        refine Wx.rd (v := .int .i64 i) (rd_move rfl) rfl ?_
        refine Wx.rd (v := .int .i64 (i + 1)) (rd_add rfl rfl (in_i64 (by omega) (by omega))) rfl ?_
        refine Wx.rd (v := .int .i64 (i + 1)) (rd_assign rfl) rfl ?_
        refine Wx.nil ?_
        refine W.block ?_
        refine W.loop [26, 180, 181, 182, 183, 184, 185, 186, 187, 188, 189, 190, 191, 192, 193, 194, 195, 196, 197, 198, 199, 200, 201, 202, 203, 204, 205, 206, 207, 208, 209, 210, 211] (fun x : Int × (List Bool) => match x with | (j, T2) => [(26, .int .i64 j)]) (fun (x : Int × (List Bool)) w' => match x with | (j, T2) => St w O w' [.box g_79 67 (List.map Value.bool T2), .row (tP (tI .i64) (tI .i64)) 58 r_38 (sortJ (stepsV M)), Ob.v (tSl (tP (tI .i64) (tI .i64))) (stepsV M) v_25, .box g_9 44 [.int .u8 b02, .int .u8 b12, .int .u8 b22, .int .u8 b32, .int .u8 b42, .int .u8 b52], .box g_5 44 [.int .u8 b0, .int .u8 b1, .int .u8 b2, .int .u8 b3, .int .u8 b4, .int .u8 b5], .box g_1 43 [.int .u8 e, .int .u8 kd, .int .u8 x0, .int .u8 x1, .int .u8 x2, .int .u8 x3, .int .u8 x4, .int .u8 x5, .int .u8 x6, .int .u8 x7, .int .u8 x8, .int .u8 x9, .int .u8 x10, .int .u8 x11]] ∧ i + 1 ≤ j ∧ j ≤ n ∧ Grid T2 (f2 M n i j)) (fun x : Int × (List Bool) => match x with | (j, T2) => (n - j).toNat) (i + 1, T1) ⟨rfl, trivial⟩ ⟨hS, (by first | omega | simp), (by first | omega | simp), (grid_row m2)⟩ ?_
        rintro ⟨j, T2⟩ u_90 w_89 ⟨hS, j0, j1, j2⟩
        have hl2 := j2.len
        refine W.seq ?_
        refine W.seq ?_
        refine W.reg ?_
        refine Wx.rd (v := .int .i64 j) (rd_move rfl) rfl ?_
        refine Wx.rd (v := .int .i64 n) (rd_move rfl) rfl ?_
        refine Wx.rd (v := .bool (decide (j < n))) (rd_lss rfl rfl) rfl ?_
        refine Wx.nil ?_
        refine W.condD rfl (fun c8 => ?_) (fun c8 => ?_)
        · -- yes
          refine W.skip ?_
          refine W.seq ?_
          refine W.block ?_
          refine W.seq ?_
          refine W.regQ mixedHC_ (by kernel_rfl) ?_
          refine Wx.rd (v := .string M) (rd_move rfl) rfl ?_
          refine Wx.rd (v := .int .i64 i) (rd_move rfl) rfl ?_
          refine Wx.rd (v := .int .u8 (tabAt M i)) (rd_indexS' (by kernel_rfl) rfl Tryd.underlying9 (by omega) (by omega)) rfl ?_
          have bd_91 := tabAt_bd M i
          refine Wx.rd (v := .string M) (rd_move rfl) rfl ?_
          refine Wx.rd (v := .int .i64 j) (rd_move rfl) rfl ?_
          refine Wx.rd (v := .int .u8 (tabAt M j)) (rd_indexS' (by kernel_rfl) rfl Tryd.underlying9 (by omega) (by omega)) rfl ?_
          have bd_92 := tabAt_bd M j
          refine Wx.callV (v := .bool (fitC (tabAt M i) (tabAt M j))) (run_callF Tryd.call58 rfl) (fun w_93 hw_94 => (F58 (in_u8 (by omega) (by omega)) (in_u8 (by omega) (by omega)))) rfl ?_
          refine Wx.rd (v := .bool (fitC (tabAt M i) (tabAt M j))) (rd_move rfl) rfl ?_
          refine Wx.cutQ (X := Unit) 7 [193, 194, 195, 196, 197, 198, 199] (fun _ => [(199, .bool (fitC (tabAt M i) (tabAt M j) && ix false T2 ((i + 1) * 13 + j)))]) (fun _ => True) ?_ ?_
          · rcases Bool.eq_false_or_eq_true (fitC (tabAt M i) (tabAt M j)) with g_95 | g_95
            · -- True
              have gp_96 := g_95
              try simp only [Bool.and_eq_true, Bool.or_eq_true, Bool.not_eq_true', Bool.and_eq_false_iff, Bool.or_eq_false_iff, Bool.not_eq_false', decide_eq_true_eq, decide_eq_false_iff_not, not_or, Bool.false_eq_true, Bool.true_eq_false, false_or, or_false, not_false_eq_true] at gp_96
              refine Wx.gyes rfl rfl (congrArg Value.bool g_95) ?_
              refine Wx.rd (v := .int .i64 i) (rd_move rfl) rfl ?_
              refine Wx.gyes rfl rfl (congrArg Value.bool g_95) ?_
              refine Wx.rd (v := .int .i64 (i + 1)) (rd_add rfl rfl (in_i64 (by omega) (by omega))) rfl ?_
              refine Wx.gyes rfl rfl (congrArg Value.bool g_95) ?_
              refine Wx.rd (v := .int .i64 j) (rd_move rfl) rfl ?_
              refine Wx.gyes rfl rfl (congrArg Value.bool g_95) ?_
              refine Wx.rd (v := .pointer (some ⟨g_79, 0 + (i + 1).toNat * 13, none⟩)) (rd_indexArr rfl rfl Tryd.underlying67 Tryd.sizeOf66 (by omega) (by omega)) rfl ?_
              refine Wx.gyes rfl rfl (congrArg Value.bool g_95) ?_
              refine Wx.rd (v := .pointer (some ⟨g_79, 0 + (i + 1).toNat * 13 + j.toNat * 1, none⟩)) (rd_indexArr rfl rfl Tryd.underlying66 Tryd.sizeOf4 (by omega) (by omega)) rfl ?_
              refine Wx.gyes rfl rfl (congrArg Value.bool g_95) ?_
              refine Wx.rd (v := .bool (ix false T2 ((i + 1) * 13 + j))) (rd_loadXa (d := false) (f := Value.bool) (j := (i + 1) * 13 + j) hS 0 rfl rfl (by omega) (by omega) (by omega) Tryd.isAgg4) rfl ?_
              refine Wx.rd (v := .bool (ix false T2 ((i + 1) * 13 + j))) (rd_pickT (congrArg Value.bool g_95) rfl) rfl ?_
              refine Wx.nilQ (fun _ _ => ⟨(), trivial, ⟨?_, trivial⟩, Out.look rfl Out.refl⟩)
              show Value.bool (ix false T2 ((i + 1) * 13 + j)) = Value.bool (fitC (tabAt M i) (tabAt M j) && ix false T2 ((i + 1) * 13 + j))
              first | rw [g_95, Bool.true_and] | (rw [g_95]; rfl)
            · -- False
              have gp_97 := g_95
              try simp only [Bool.and_eq_true, Bool.or_eq_true, Bool.not_eq_true', Bool.and_eq_false_iff, Bool.or_eq_false_iff, Bool.not_eq_false', decide_eq_true_eq, decide_eq_false_iff_not, not_or, Bool.false_eq_true, Bool.true_eq_false, false_or, or_false, not_false_eq_true] at gp_97
              refine Wx.gnoB rfl rfl (congrArg Value.bool g_95) rfl rfl ?_
              refine Wx.gnoB rfl rfl (congrArg Value.bool g_95) rfl rfl ?_
              refine Wx.gnoB rfl rfl (congrArg Value.bool g_95) rfl rfl ?_
              refine Wx.gnoB rfl rfl (congrArg Value.bool g_95) rfl rfl ?_
              refine Wx.gnoB rfl rfl (congrArg Value.bool g_95) rfl rfl ?_
              refine Wx.gnoB rfl rfl (congrArg Value.bool g_95) rfl rfl ?_
              refine Wx.rd (v := .bool false) (rd_pickF (congrArg Value.bool g_95) rfl) rfl ?_
              refine Wx.nilQ (fun _ _ => ⟨(), trivial, ⟨?_, trivial⟩, Out.look rfl Out.refl⟩)
              show Value.bool false = Value.bool (fitC (tabAt M i) (tabAt M j) && ix false T2 ((i + 1) * 13 + j))
              first | rw [g_95, Bool.false_and] | (rw [g_95]; rfl)
          rintro ⟨⟩ u_99 -
          refine Wx.rd (v := .bool (fitC (tabAt M i) (tabAt M j) && ix false T2 ((i + 1) * 13 + j))) (rd_move rfl) rfl ?_
          refine Wx.cutQ (X := Unit) 7 [201, 202, 203, 204, 205, 206, 207] (fun _ => [(207, .bool ((fitC (tabAt M i) (tabAt M j) && ix false T2 ((i + 1) * 13 + j)) && ix false T2 ((j + 1) * 13 + n)))]) (fun _ => True) ?_ ?_
          · rcases Bool.eq_false_or_eq_true (fitC (tabAt M i) (tabAt M j) && ix false T2 ((i + 1) * 13 + j)) with g_100 | g_100
            · -- True
              have gp_101 := g_100
              try simp only [Bool.and_eq_true, Bool.or_eq_true, Bool.not_eq_true', Bool.and_eq_false_iff, Bool.or_eq_false_iff, Bool.not_eq_false', decide_eq_true_eq, decide_eq_false_iff_not, not_or, Bool.false_eq_true, Bool.true_eq_false, false_or, or_false, not_false_eq_true] at gp_101
              refine Wx.gyes rfl rfl (congrArg Value.bool g_100) ?_
              refine Wx.rd (v := .int .i64 j) (rd_move rfl) rfl ?_
              refine Wx.gyes rfl rfl (congrArg Value.bool g_100) ?_
              refine Wx.rd (v := .int .i64 (j + 1)) (rd_add rfl rfl (in_i64 (by omega) (by omega))) rfl ?_
              refine Wx.gyes rfl rfl (congrArg Value.bool g_100) ?_
              refine Wx.rd (v := .int .i64 n) (rd_move rfl) rfl ?_
              refine Wx.gyes rfl rfl (congrArg Value.bool g_100) ?_
              refine Wx.rd (v := .pointer (some ⟨g_79, 0 + (j + 1).toNat * 13, none⟩)) (rd_indexArr rfl rfl Tryd.underlying67 Tryd.sizeOf66 (by omega) (by omega)) rfl ?_
              refine Wx.gyes rfl rfl (congrArg Value.bool g_100) ?_
              refine Wx.rd (v := .pointer (some ⟨g_79, 0 + (j + 1).toNat * 13 + n.toNat * 1, none⟩)) (rd_indexArr rfl rfl Tryd.underlying66 Tryd.sizeOf4 (by omega) (by omega)) rfl ?_
              refine Wx.gyes rfl rfl (congrArg Value.bool g_100) ?_
              refine Wx.rd (v := .bool (ix false T2 ((j + 1) * 13 + n))) (rd_loadXa (d := false) (f := Value.bool) (j := (j + 1) * 13 + n) hS 0 rfl rfl (by omega) (by omega) (by omega) Tryd.isAgg4) rfl ?_
              refine Wx.rd (v := .bool (ix false T2 ((j + 1) * 13 + n))) (rd_pickT (congrArg Value.bool g_100) rfl) rfl ?_
              refine Wx.nilQ (fun _ _ => ⟨(), trivial, ⟨?_, trivial⟩, Out.look rfl Out.refl⟩)
              show Value.bool (ix false T2 ((j + 1) * 13 + n)) = Value.bool ((fitC (tabAt M i) (tabAt M j) && ix false T2 ((i + 1) * 13 + j)) && ix false T2 ((j + 1) * 13 + n))
              first | rw [g_100, Bool.true_and] | (rw [g_100]; rfl)
            · -- False
              have gp_102 := g_100
              try simp only [Bool.and_eq_true, Bool.or_eq_true, Bool.not_eq_true', Bool.and_eq_false_iff, Bool.or_eq_false_iff, Bool.not_eq_false', decide_eq_true_eq, decide_eq_false_iff_not, not_or, Bool.false_eq_true, Bool.true_eq_false, false_or, or_false, not_false_eq_true] at gp_102
              refine Wx.gnoB rfl rfl (congrArg Value.bool g_100) rfl rfl ?_
              refine Wx.gnoB rfl rfl (congrArg Value.bool g_100) rfl rfl ?_
              refine Wx.gnoB rfl rfl (congrArg Value.bool g_100) rfl rfl ?_
              refine Wx.gnoB rfl rfl (congrArg Value.bool g_100) rfl rfl ?_
              refine Wx.gnoB rfl rfl (congrArg Value.bool g_100) rfl rfl ?_
              refine Wx.gnoB rfl rfl (congrArg Value.bool g_100) rfl rfl ?_
              refine Wx.rd (v := .bool false) (rd_pickF (congrArg Value.bool g_100) rfl) rfl ?_
              refine Wx.nilQ (fun _ _ => ⟨(), trivial, ⟨?_, trivial⟩, Out.look rfl Out.refl⟩)
              show Value.bool false = Value.bool ((fitC (tabAt M i) (tabAt M j) && ix false T2 ((i + 1) * 13 + j)) && ix false T2 ((j + 1) * 13 + n))
              first | rw [g_100, Bool.false_and] | (rw [g_100]; rfl)
          rintro ⟨⟩ u_104 -
          refine Wx.nilQ (fun w_105 hx_106 => ?_)
          have hS := hS.ext hx_106
          refine W.cond rfl (fun c9 => ?_) (fun c9 => ?_)
          · -- yes
            try simp only [Bool.and_eq_true, Bool.or_eq_true, Bool.not_eq_true', Bool.and_eq_false_iff, Bool.or_eq_false_iff, Bool.not_eq_false', decide_eq_true_eq, decide_eq_false_iff_not, not_or, Bool.false_eq_true, Bool.true_eq_false, false_or, or_false, not_false_eq_true] at c9
            refine W.reg ?_
            refine Wx.rd (v := .int .i64 i) (rd_move rfl) rfl ?_
            refine Wx.rd (v := .int .i64 n) (rd_move rfl) rfl ?_
            refine Wx.rd (v := .pointer (some ⟨g_79, 0 + i.toNat * 13, none⟩)) (rd_indexArr rfl rfl Tryd.underlying67 Tryd.sizeOf66 (by omega) (by omega)) rfl ?_
            refine Wx.rd (v := .pointer (some ⟨g_79, 0 + i.toNat * 13 + n.toNat * 1, none⟩)) (rd_indexArr rfl rfl Tryd.underlying66 Tryd.sizeOf4 (by omega) (by omega)) rfl ?_
            refine Wx.storeXa (j := i * 13 + n) (f := Value.bool) (u := true) hS 0 rfl rfl (by omega) rfl rfl rfl Tryd.sizeOf4 (by omega) (by omega) (fun w_107 hz_108 hS => ?_)
            refine Wx.nil ?_
            refine W.reg ?_
            refine Wx.rd (v := .int .i64 j) (rd_move rfl) rfl ?_
            refine Wx.rd (v := .int .i64 (j + 1)) (rd_add rfl rfl (in_i64 (by omega) (by omega))) rfl ?_
            refine Wx.rd (v := .int .i64 (j + 1)) (rd_assign rfl) rfl ?_
            refine Wx.nil ?_
            refine ⟨(j + 1, List.set T2 (i * 13 + n).toNat true), (by show (n - (j + 1)).toNat < (n - j).toNat; omega), ?_, ?_, Out.look rfl (Out.hav rfl (Out.look rfl (Out.hav rfl (Out.look rfl Out.self))))⟩
            · exact ⟨hS, (by first | omega | assumption), (by first | omega | assumption), (grid_yes j2 (by omega) j0 (by omega) (by omega) c9)⟩
            · exact ⟨rfl, trivial⟩
          · -- no
            try simp only [Bool.and_eq_true, Bool.or_eq_true, Bool.not_eq_true', Bool.and_eq_false_iff, Bool.or_eq_false_iff, Bool.not_eq_false', decide_eq_true_eq, decide_eq_false_iff_not, not_or, Bool.false_eq_true, Bool.true_eq_false, false_or, or_false, not_false_eq_true] at c9
            refine W.skip ?_
            refine W.reg ?_
            refine Wx.rd (v := .int .i64 j) (rd_move rfl) rfl ?_
            refine Wx.rd (v := .int .i64 (j + 1)) (rd_add rfl rfl (in_i64 (by omega) (by omega))) rfl ?_
            refine Wx.rd (v := .int .i64 (j + 1)) (rd_assign rfl) rfl ?_
            refine Wx.nil ?_
            refine ⟨(j + 1, T2), (by show (n - (j + 1)).toNat < (n - j).toNat; omega), ?_, ?_, Out.look rfl (Out.hav rfl (Out.look rfl (Out.hav rfl (Out.look rfl Out.self))))⟩
            · exact ⟨hS, (by first | omega | assumption), (by first | omega | assumption), (grid_no j2 (by omega) j0 (by omega) (by omega) c9)⟩
            · exact ⟨rfl, trivial⟩
        · -- no
          refine W.exit rfl ?_
          refine W.reg ?_
          refine Wx.rd (v := .int .i64 i) (rd_move rfl) rfl ?_
          refine Wx.rd (v := .int .i64 (i - 1)) (rd_sub rfl rfl (in_i64 (by omega) (by omega))) rfl ?_
          refine Wx.rd (v := .int .i64 (i - 1)) (rd_assign rfl) rfl ?_
          refine Wx.nil ?_
          refine ⟨(i - 1, T2), (by show ((i - 1) + 1).toNat < (i + 1).toNat; omega), ?_, ?_, Out.look rfl (Out.hav rfl (Out.look rfl Out.self))⟩
          · exact ⟨hS, (by first | omega | assumption), (by first | omega | assumption), (grid_up hLM j2 (by omega) (by omega) (by omega) (by omega))⟩
          · exact ⟨rfl, trivial⟩
      · -- no
        refine W.exit rfl ?_
        refine W.reg ?_
        refine Wx.rd (v := .int .i64 (n + 1)) (rd_add rfl rfl (in_i64 (by omega) (by omega))) rfl ?_
        refine Wx.rd (v := .int .i64 (n + 1)) (rd_move rfl) rfl ?_
        refine Wx.nil ?_
        refine ⟨(n + 1, T1), (by show ((M.size : Int) + 1 - (n + 1)).toNat < ((M.size : Int) + 1 - n).toNat; omega), ?_, ?_, Out.look rfl (Out.hav rfl (Out.look rfl Out.self))⟩
        · exact ⟨hS, (by first | omega | assumption), (by first | omega | assumption), (grid_next m2 (by omega))⟩
        · exact ⟨rfl, trivial⟩
    · -- no
      refine W.exit rfl ?_
      refine W.seq ?_
      refine W.reg ?_
      refine Wx.rd (v := .bool (fullP M)) (rd_move rfl) rfl ?_
      refine Wx.rd (v := .string M) (rd_move rfl) rfl ?_
      refine Wx.rd (v := .int .i64 (M.size : Int)) (rd_lenS rfl Tryd.underlying9) rfl ?_
      refine Wx.rd (v := .pointer (some ⟨g_79, 0 + (0 : Int).toNat * 13, none⟩)) (rd_indexArr rfl rfl Tryd.underlying67 Tryd.sizeOf66 (by omega) (by omega)) rfl ?_
      refine Wx.rd (v := .pointer (some ⟨g_79, 0 + (0 : Int).toNat * 13 + (M.size : Int).toNat * 1, none⟩)) (rd_indexArr rfl rfl Tryd.underlying66 Tryd.sizeOf4 (by omega) (by omega)) rfl ?_
      refine Wx.rd (v := .bool (ix false T (0 * 13 + (M.size : Int)))) (rd_loadXa (d := false) (f := Value.bool) (j := 0 * 13 + (M.size : Int)) hS 0 rfl rfl (by omega) (by omega) (by omega) Tryd.isAgg4) rfl ?_
      refine Wx.rd (v := .bool true) (Rd.to (v := .bool ((fullP M) == (ix false T (0 * 13 + (M.size : Int))))) (rd_eqlB rfl rfl Tryd.underlying4) (congrArg (Value.bool) (show (true : Bool) = ((fullP M) == (ix false T (0 * 13 + (M.size : Int))) : Bool) from (by rw [can_full hLM hrM, grid_end k0 (by omega) (by omega)]; exact (beq_self_eq_true _).symm)).symm)) rfl ?_
      refine Wx.rd (v := .bool true) (rd_move rfl) rfl ?_
      refine Wx.gyes rfl rfl rfl ?_
      refine Wx.rd (v := .bool (fullP M)) (rd_move rfl) rfl ?_
      refine Wx.gyes rfl rfl rfl ?_
      refine Wx.rd (v := .string (restE M)) (rd_move rfl) rfl ?_
      refine Wx.gyes rfl rfl rfl ?_
      refine Wx.rd (v := .bool ((restE M) == ({ data := #[] } : ByteArray))) (rd_eqlS rfl rfl) rfl ?_
      refine Wx.gyes rfl rfl rfl ?_
      refine Wx.rd (v := .bool true) (Rd.to (v := .bool ((fullP M) == ((restE M) == ({ data := #[] } : ByteArray)))) (rd_eqlB rfl rfl Tryd.underlying4) (congrArg (Value.bool) (show (true : Bool) = ((fullP M) == ((restE M) == ({ data := #[] } : ByteArray)) : Bool) from (by rw [hfu1]; exact (beq_self_eq_true _).symm)).symm)) rfl ?_
      refine Wx.rd (v := .bool true) (rd_pickT rfl rfl) rfl ?_
      refine Wx.rd (v := .bool true) (rd_move rfl) rfl ?_
      refine Wx.gyes rfl rfl rfl ?_
      refine Wx.rd (v := .bool (fullP M)) (rd_move rfl) rfl ?_
      refine Wx.gyes rfl rfl rfl ?_
      refine Wx.rd (v := .int .i64 (mostV M)) (rd_move rfl) rfl ?_
      refine Wx.gyes rfl rfl rfl ?_
      refine Wx.rd (v := .int .i64 (2 * (mostV M))) (rd_mul rfl rfl (in_i64 (by omega) (by omega))) rfl ?_
      refine Wx.gyes rfl rfl rfl ?_
      refine Wx.rd (v := .string M) (rd_move rfl) rfl ?_
      refine Wx.gyes rfl rfl rfl ?_
      refine Wx.rd (v := .int .i64 (M.size : Int)) (rd_lenS rfl Tryd.underlying9) rfl ?_
      refine Wx.gyes rfl rfl rfl ?_
      refine Wx.rd (v := .bool (decide ((2 * (mostV M)) = (M.size : Int)))) (rd_eql rfl rfl) rfl ?_
      refine Wx.gyes rfl rfl rfl ?_
      refine Wx.rd (v := .bool true) (Rd.to (v := .bool ((fullP M) == (decide ((2 * (mostV M)) = (M.size : Int))))) (rd_eqlB rfl rfl Tryd.underlying4) (congrArg (Value.bool) (show (true : Bool) = ((fullP M) == (decide ((2 * (mostV M)) = (M.size : Int))) : Bool) from (by rw [hfu2]; exact (beq_self_eq_true _).symm)).symm)) rfl ?_
      refine Wx.rd (v := .bool true) (rd_pickT rfl rfl) rfl ?_
      refine Wx.rd (v := .bool true) (rd_move rfl) rfl ?_
      refine Wx.gyes rfl rfl rfl ?_
      refine Wx.callF (run_callF Tryd.call16 rfl) (F16 hS.fb_lt (hG.ext hS.bel)) rfl ?_
      rintro r_109 w_110 hx_111 rfl
      have hS := hS.ext hx_111
      refine Wx.rd (v := .bool true) (rd_pickT rfl rfl) rfl ?_
      refine Wx.rd (v := .bool true) (rd_assign rfl) rfl ?_
      refine Wx.nil ?_
      exact W.ret ⟨.bool true, ResIs.one, hS.bel, rfl⟩
end Go.Proofs.YtokdjjebnomciaaDoor

namespace Go.Proofs.YtokdjjebnomciaaDoor
open Go.Wk Go.RowKit Go.Lib Go Go.Proofs
set_option maxRecDepth 100000

/-- What the rows list. -/
def theLaid : List (String × DataW Unit) := [("unicode/utf8.acceptRanges", Rows.laid_unicode_utf8_acceptRanges), ("unicode.properties", Rows.laid_unicode_properties), ("unicode.CaseRanges", Rows.laid_unicode_CaseRanges), ("unicode.Upper", Rows.laid_unicode_Upper), ("unicode/utf8.first", Rows.laid_unicode_utf8_first)]
theorem gProps : ∃ g, Tryd.prog.globalNamed "unicode.properties" = some g ∧ ∃ t, (Tryd.prog.globals[g]?).map (·.type) = some t ∧ Tryd.prog.underlying t = some (.array 256 5) ∧ Tryd.prog.cellsOf t = 256 :=
  ⟨0, by kernel_rfl, 139, by kernel_rfl, by kernel_rfl, by kernel_rfl⟩
theorem acc_eq : (Rows.laid_unicode_utf8_acceptRanges : DataW Unit) = acceptData := by kernel_rfl
theorem props_eq : (Rows.laid_unicode_properties : DataW Unit) = tabData .u8 propertiesTab := by kernel_rfl
theorem laid_of {W : World} (h : laidMetH Tryd.prog theLaid W) (hsh : W.ShapedOpen Tryd.prog) : Laid W := by
  have hL : laidMet Tryd.prog theLaid W := by rwa [MakeChecks.laidMetH_plain _ _ _ (by kernel_rfl)] at h
  have r1 := Lib.laidMet.reads hL (.head _)
  have r2 := Lib.laidMet.reads hL (.tail _ (.head _))
  have r3 := Lib.laidMet.reads hL (.tail _ (.tail _ (.head _)))
  have r4 := Lib.laidMet.reads hL (.tail _ (.tail _ (.tail _ (.head _))))
  have r5 := Lib.laidMet.reads hL (.tail _ (.tail _ (.tail _ (.tail _ (.head _)))))
  rw [acc_eq] at r1
  rw [props_eq] at r2
  rw [show Rows.laid_unicode_CaseRanges = caseData from Pinned.caseRanges_eq] at r3
  rw [show Rows.laid_unicode_Upper = rtabData upperT from Pinned.upper_eq] at r4
  rw [show Rows.laid_unicode_utf8_first = firstData from Pinned.utf8First_eq] at r5
  refine ⟨?_, ?_, ?_, ?_, ?_⟩
  · obtain ⟨g, hg, t, hty, ht, hct⟩ := gProps
    obtain ⟨g', t', cs, fuel, p, hg', ht', hvar, hd⟩ := r2
    obtain rfl := Option.some.inj (hg.symm.trans hg')
    obtain rfl := Option.some.inj (hty.symm.trans ht')
    unfold TabIs
    rw [hvar, ← cells_of_tab ht Tryd.underlying5 (by kernel_rfl) hct hd]
  · exact rvar_of_reads Tryd.lays261 ⟨by kernel_rfl, by kernel_rfl, by kernel_rfl, by kernel_rfl, by kernel_rfl, by kernel_rfl, by kernel_rfl, by kernel_rfl⟩ (by kernel_rfl) (by kernel_rfl) r4
  · exact caseVar_of_reads { Tryd.lays158 with } (by kernel_rfl) ⟨by kernel_rfl, by kernel_rfl, by kernel_rfl, by kernel_rfl, by kernel_rfl, by kernel_rfl⟩ r3
  · exact utf8Tabs_of_reads Tryd.lays260 ⟨by kernel_rfl, by kernel_rfl, by kernel_rfl, by kernel_rfl, by kernel_rfl, by kernel_rfl, by kernel_rfl⟩ r5 r1
  · exact Tryd.laysM144.s1_3 W hsh
/-- The world of the witnesses: the listed variables hold what the text lays. -/
theorem w_shaped (os : Os) (args : Array Value) : ((World.laidAll Tryd.prog os theLaid).forCall (fun _ _ => 0) ⟨#[], args, []⟩).Shaped Tryd.prog := World.shaped_of_ZipB (by kernel_rfl) (by kernel_rfl)
theorem w_laid (os : Os) (args : Array Value) : laidMetH Tryd.prog theLaid ((World.laidAll Tryd.prog os theLaid).forCall (fun _ _ => 0) ⟨#[], args, []⟩).memory := by rw [MakeChecks.laidMetH_plain _ _ _ (by kernel_rfl)]; exact laidMet_laidAll _ (by kernel_rfl) (by kernel_rfl)
end Go.Proofs.YtokdjjebnomciaaDoor

namespace Go.Wk
open Go.RowKit Go.ChangeShapes
section
variable {H : Type} {enc : TypeId × Value → H} {P : Program} {W : World}
end
end Go.Wk

namespace Go.Proofs.YtokdjjebnomciaaDoor.sherdRest
open Go.ChangeShapes Go.WideShapes Go.ChangeAt Go.RowKit Go.Joins Go.Wk
set_option linter.unusedVariables false

theorem own : ownKnob Tryd.prog.godebug = none := by kernel_rfl
theorem laidOut : laidOutB Tryd.prog = true := by kernel_rfl
theorem cells5 : Tryd.prog.cellsOf 5 = 1 := by kernel_rfl
theorem cells41 : Tryd.prog.cellsOf 41 = 12 := by kernel_rfl
theorem cells43 : Tryd.prog.cellsOf 43 = 14 := by kernel_rfl
theorem cells44 : Tryd.prog.cellsOf 44 = 6 := by kernel_rfl
theorem len14 : ∀ zs : List Int, zs.length = 14 → ∃ b0 b1 b2 b3 b4 b5 b6 b7 b8 b9 b10 b11 b12 b13, zs = [b0, b1, b2, b3, b4, b5, b6, b7, b8, b9, b10, b11, b12, b13]
  | [b0, b1, b2, b3, b4, b5, b6, b7, b8, b9, b10, b11, b12, b13], _ => ⟨_, _, _, _, _, _, _, _, _, _, _, _, _, _, rfl⟩
theorem len6 : ∀ zs : List Int, zs.length = 6 → ∃ b0 b1 b2 b3 b4 b5, zs = [b0, b1, b2, b3, b4, b5]
  | [b0, b1, b2, b3, b4, b5], _ => ⟨_, _, _, _, _, _, rfl⟩
theorem okWide_array {P : Program} {w : World} {r : Reach} {base : Nat} {t : TypeId} {v : Value} {n : Nat} {e : TypeId} (ht : P.underlying t = some (.array n e)) (h : Value.okWide P w r base t v) : ∃ cs, v = .agg cs ∧ cs.size = P.cellsOf t := by
  simp only [Value.okWide, ht] at h
  obtain ⟨cs, h1, h2, _⟩ := h
  exact ⟨cs, h1, h2⟩

set_option maxRecDepth 100000 in
theorem lifted (os : Os) (started : os.Started) (H : Type) (enc : TypeId × Value → H) :
    ReturnsInHanded {} Tryd.checked os 14 .any (OpenSpec.preRow enc Tryd.prog Tryd.f14 (OpenSpec.ofChange Rows.sherdRestSpec) Rows.sherdRestRow.domain false Rows.sherdRestRow.laid) (Rows.sherdRestSpec.post enc Tryd.prog Tryd.f14 false true false false) := by
  refine returnsInHanded_of_row (C := Tryd.checked) (s := OpenSpec.ofChange Rows.sherdRestSpec) (F := fun _ _ _ => 0) own started (by kernel_rfl) Tryd.func14 ?_ ?_
  · exact ChangeSpec.witness_shaped (enc := enc) (C := Tryd.checked) (os := os) (X := fun w _ => laidMetH Tryd.prog Rows.sherdRestRow.laid w) false (World.laidAll Tryd.prog os Rows.sherdRestRow.laid) #[.agg #[.int .u8 0, .int .u8 0, .int .u8 0, .int .u8 0, .int .u8 0, .int .u8 0, .int .u8 0, .int .u8 0, .int .u8 0, .int .u8 0, .int .u8 0, .int .u8 0, .int .u8 0, .int .u8 0], .agg #[.int .u8 0, .int .u8 0, .int .u8 0, .int .u8 0, .int .u8 0, .int .u8 0], .agg #[.int .u8 0, .int .u8 0, .int .u8 0, .int .u8 0, .int .u8 0, .int .u8 0]] 8 (World.laidAll_os _ _ _) (w_shaped os _) (by kernel_rfl) (by kernel_rfl) (by kernel_rfl) (w_laid os _)
  intro W base args ds gs before hval0 hW hcnd _ _ hL hsh _
  have hval : ∀ (j : Nat) t v, Tryd.f14.params[j]? = some t → args[j]? = some v → Value.okWide Tryd.prog W .any base t v := hval0
  have hW' := hW
  obtain ⟨p, q, hA0, hV, rfl, hfz, hnd⟩ := hW
  have hA : DataW.TrodAll enc Tryd.prog W 0 (fun _ => true) true Tryd.f14.params.toList args.toList ds p := hA0
  rw [Tryd.params14] at hA hval
  obtain ⟨v0, vs0, d0, ds0, p0, q0, hargs, rfl, rfl, h0, r0⟩ := trodAll_cons hA
  obtain ⟨v1, vs1, d1, ds1, p1, q1, rfl, rfl, rfl, h1, r1⟩ := trodAll_cons r0
  obtain ⟨v2, vs2, d2, ds2, p2, q2, rfl, rfl, rfl, h2, r2⟩ := trodAll_cons r1
  obtain ⟨rfl, rfl, rfl⟩ := trodAll_nil r2
  obtain rfl : args = #[v0, v1, v2] := by cases args; simp_all
  obtain ⟨rfl, rfl⟩ := trodVars_none hV
  have k0 := h0
  have lt0 : ∀ x ∈ p0, x.block < W.heap.size := by obtain ⟨m, hm⟩ := k0; exact DataW.trod_lt m _ _ _ hm
  obtain ⟨cs0, rfl, hsz0⟩ := okWide_struct Tryd.underlying43 (hval 0 43 v0 rfl rfl)
  obtain ⟨zs0, hz0, rfl, hin0⟩ := RdI.v (RdI.struct3 Tryd.underlying43 (RdI.int Tryd.underlying5) (RdI.int Tryd.underlying5) (RdI.array Tryd.underlying41 Tryd.underlying5 cells5 cells41) cells5 cells5 cells41 rfl rfl rfl cells43) h0
  obtain ⟨a0_0, a0_1, a0_2, a0_3, a0_4, a0_5, a0_6, a0_7, a0_8, a0_9, a0_10, a0_11, a0_12, a0_13, rfl⟩ := len14 zs0 hz0
  have k1 := h1
  have lt1 : ∀ x ∈ p1, x.block < W.heap.size := by obtain ⟨m, hm⟩ := k1; exact DataW.trod_lt m _ _ _ hm
  obtain ⟨cs1, rfl, hsz1⟩ := okWide_array Tryd.underlying44 (hval 1 44 v1 rfl rfl)
  obtain ⟨zs1, hz1, rfl, hin1⟩ := RdI.v (RdI.array Tryd.underlying44 Tryd.underlying5 cells5 cells44) h1
  obtain ⟨a1_0, a1_1, a1_2, a1_3, a1_4, a1_5, rfl⟩ := len6 zs1 hz1
  have k2 := h2
  have lt2 : ∀ x ∈ p2, x.block < W.heap.size := by obtain ⟨m, hm⟩ := k2; exact DataW.trod_lt m _ _ _ hm
  obtain ⟨cs2, rfl, hsz2⟩ := okWide_array Tryd.underlying44 (hval 2 44 v2 rfl rfl)
  obtain ⟨zs2, hz2, rfl, hin2⟩ := RdI.v (RdI.array Tryd.underlying44 Tryd.underlying5 cells5 cells44) h2
  obtain ⟨a2_0, a2_1, a2_2, a2_3, a2_4, a2_5, rfl⟩ := len6 zs2 hz2
  clear hA0 hval0
  refine (F14 (hin0 _ (by simp)) (hin0 _ (by simp)) (hin0 _ (by simp)) (hin0 _ (by simp)) (hin0 _ (by simp)) (hin0 _ (by simp)) (hin0 _ (by simp)) (hin0 _ (by simp)) (hin0 _ (by simp)) (hin0 _ (by simp)) (hin0 _ (by simp)) (hin0 _ (by simp)) (hin0 _ (by simp)) (hin0 _ (by simp)) (hin1 _ (by simp)) (hin1 _ (by simp)) (hin1 _ (by simp)) (hin1 _ (by simp)) (hin1 _ (by simp)) (hin1 _ (by simp)) (hin2 _ (by simp)) (hin2 _ (by simp)) (hin2 _ (by simp)) (hin2 _ (by simp)) (hin2 _ (by simp)) (hin2 _ (by simp)) (fun b (h : some b ∈ ([] : List (Option Nat))) => nomatch h) (laid_of hL hsh)).mono fun e W' hE => ?_
  obtain ⟨r, he, bel, hr⟩ := hE
  subst he
  subst hr
  exact ⟨_, rfl, _, _, _, [], _, [], hW', trodAll_mk1 (shut_bool Tryd.underlying4 _), (trodAll_cons_mk (Below.trod laidOut (by kernel_rfl) (of_decide_eq_true (by kernel_rfl)) k0 bel lt0) (trodAll_cons_mk (Below.trod laidOut (by kernel_rfl) (of_decide_eq_true (by kernel_rfl)) k1 bel lt1) (trodAll_cons_mk (Below.trod laidOut (by kernel_rfl) (of_decide_eq_true (by kernel_rfl)) k2 bel lt2) trodAll_mk0))), rfl, bel.frame _, fun h => by cases h⟩

theorem over : Rows.sherdRestRow.holds Tryd.pinned (OpenSpec.ofChange Rows.sherdRestSpec) :=
  OpenClaim.holds_of_wide 14 Tryd.f14 rfl rfl rfl rfl rfl rfl rfl ⟨rfl, rfl, rfl, rfl, rfl⟩ rfl rfl rfl rfl rfl (by kernel_rfl) Tryd.func14 (by kernel_rfl)
    (of_decide_eq_true (by kernel_rfl)) (by unfold Func.isWrapper; first | (rw [if_pos (by decide +kernel)]; kernel_rfl) | (rw [if_neg (by decide +kernel)]; exact ⟨rfl, rfl⟩))
    (fun os started H enc _ => by rw [OpenClaim.pre_eq_preRow]; exact lifted os started H enc)

theorem card : Rows.SherdRestCardSaid :=
  Claim7.holds_tied_plain_at .later [] [.data, .data, .pinned, .pinned, .pinned] true (true, "b19d624c57feb4ddc557949d072a9df9920d9c9c6e671a3722e11c1f7f3b75a8") false over (fun _ h => by cases h) (by kernel_rfl) (fun _ h => by cases h) sherdRest_row_tie rfl ⟨rfl, rfl⟩ (by kernel_rfl) rfl
    (fun f fn hf hfn => by
      obtain rfl : f = 14 := Option.some.inj ((show Tryd.prog.funcNamed "bellarmine/bellarminelaw05.SherdRest" = some 14 by kernel_rfl).symm.trans hf) |>.symm
      obtain rfl : fn = Tryd.f14 := (Option.some.inj (Tryd.func14.symm.trans hfn)).symm
      exact ⟨by kernel_rfl, fun j t ht => by
        rw [Tryd.params14] at ht
        have hm : t ∈ [43, 44, 44] := by simpa using Array.mem_of_getElem? ht
        have hall : ([43, 44, 44].all fun u => !Tryd.prog.wantsStandIn u) = true := by kernel_rfl
        exact (show Tryd.prog.wantsStandIn t = false by simpa using List.all_eq_true.1 hall t hm)⟩)
    (by kernel_rfl)

end Go.Proofs.YtokdjjebnomciaaDoor.sherdRest
namespace Go.Proofs.YtokdjjebnomciaaDoor
/-- The statement. -/
theorem sherdRest_proved : Rows.SherdRestCardSaid := sherdRest.card
#print axioms sherdRest_proved
end Go.Proofs.YtokdjjebnomciaaDoor
