/-
  WHAT IS PROVED HERE, TEXT BY TEXT (several texts of one prover, joined to one file; the conditions stand in each statement):
  * WHAT IS PROVED HERE: what functions of layer 5 hand back, each out of its own code; the conditions stand in each statement.
  * WHAT IS PROVED HERE: where the row's listed variables read as the program's text lays them, the library's tables read as the shelf's contracts want it. Conditions stand in each statement.
  * WHAT IS PROVED HERE: arrays of arrays of numbers as they are read at the start. Conditions: the types' closed facts, as hypotheses.
  * WHAT IS PROVED HERE: the given statement of SherdChecked: for every input it returns true, and each argument reads as it did. Conditions: none.
-/
import Derived.Test.YtokdjjebnomciaaDoorProg
import Derived.Test.YtokdjjebnomciaaDoorU2
import Derived.Test.YtokdjjebnomciaaDoorU4
import Derived.Test.YtokdjjebnomciaaDoorRows
import Derived.Lib.LaidCaseMet
import Derived.Lib.LaidRTab
import Derived.PinnedBridge
import Derived.ProofKit
import Derived.Lay
import Derived.LaidMore
import Derived.Deep.DeepHandedRow
import Derived.WalkKit
import Derived.OpenShut
import Derived.Carry
import Derived.Lib.SmallJoins
import Derived.Test.YtokdjjebnomciaaDoorCards
import Derived.Test.YtokdjjebnomciaaDoorTie
import Derived.SevenTiedAt
import Derived.Stop.Joined

set_option linter.unusedVariables false
set_option linter.unusedSimpArgs false

namespace Go.Proofs.YtokdjjebnomciaaDoor
open Go.Wk Go.RowKit Go.Lib
set_option linter.unusedVariables false
set_option linter.unusedSimpArgs false
theorem mixedHB_ : Tryd.prog.follows .mixedOrders = true := by kernel_rfl
theorem elHB_22 : ElemI Tryd.prog 22 58 (.agg #[.int .i64 0, .int .i64 0]) 2 16 := ElemI.of Tryd.underlying22 (by kernel_rfl) (by first | rfl | kernel_rfl) (by decide)

set_option maxHeartbeats 4000000 in
theorem F15 {e : Int} {kd : Int} {x0 : Int} {x1 : Int} {x2 : Int} {x3 : Int} {x4 : Int} {x5 : Int} {x6 : Int} {x7 : Int} {x8 : Int} {x9 : Int} {x10 : Int} {x11 : Int} {y0 : Int} {z0 : Int} {y1 : Int} {z1 : Int} {y2 : Int} {z2 : Int} {y3 : Int} {z3 : Int} {y4 : Int} {z4 : Int} {many : Int} {O : List (Option Nat)} {w : World} (i_e : InK .u8 e) (i_kd : InK .u8 kd) (i_x0 : InK .u8 x0) (i_x1 : InK .u8 x1) (i_x2 : InK .u8 x2) (i_x3 : InK .u8 x3) (i_x4 : InK .u8 x4) (i_x5 : InK .u8 x5) (i_x6 : InK .u8 x6) (i_x7 : InK .u8 x7) (i_x8 : InK .u8 x8) (i_x9 : InK .u8 x9) (i_x10 : InK .u8 x10) (i_x11 : InK .u8 x11) (i_y0 : InK .u8 y0) (i_z0 : InK .u8 z0) (i_y1 : InK .u8 y1) (i_z1 : InK .u8 z1) (i_y2 : InK .u8 y2) (i_z2 : InK .u8 z2) (i_y3 : InK .u8 y3) (i_z3 : InK .u8 z3) (i_y4 : InK .u8 y4) (i_z4 : InK .u8 z4) (i_many : InK .u8 many) (hO : ∀ b, some b ∈ O → b < w.heap.size) (hG : Laid w) : Calls Tryd.prog 15 #[.agg #[.int .u8 e, .int .u8 kd, .int .u8 x0, .int .u8 x1, .int .u8 x2, .int .u8 x3, .int .u8 x4, .int .u8 x5, .int .u8 x6, .int .u8 x7, .int .u8 x8, .int .u8 x9, .int .u8 x10, .int .u8 x11], .agg #[.int .u8 y0, .int .u8 z0, .int .u8 y1, .int .u8 z1, .int .u8 y2, .int .u8 z2, .int .u8 y3, .int .u8 z3, .int .u8 y4, .int .u8 z4], .int .u8 many] w (Ret w (fun r _ => r = .bool true)) := by
  have b_many := bd_u8 i_many
  have b_z4 := bd_u8 i_z4
  have b_y4 := bd_u8 i_y4
  have b_z3 := bd_u8 i_z3
  have b_y3 := bd_u8 i_y3
  have b_z2 := bd_u8 i_z2
  have b_y2 := bd_u8 i_y2
  have b_z1 := bd_u8 i_z1
  have b_y1 := bd_u8 i_y1
  have b_z0 := bd_u8 i_z0
  have b_y0 := bd_u8 i_y0
  have b_x11 := bd_u8 i_x11
  have b_x10 := bd_u8 i_x10
  have b_x9 := bd_u8 i_x9
  have b_x8 := bd_u8 i_x8
  have b_x7 := bd_u8 i_x7
  have b_x6 := bd_u8 i_x6
  have b_x5 := bd_u8 i_x5
  have b_x4 := bd_u8 i_x4
  have b_x3 := bd_u8 i_x3
  have b_x2 := bd_u8 i_x2
  have b_x1 := bd_u8 i_x1
  have b_x0 := bd_u8 i_x0
  have b_kd := bd_u8 i_kd
  have b_e := bd_u8 i_e
  have hS := St.start w O hO
  refine enterR Tryd.func15 rfl Tryd.ntmps15 Tryd.results15 rfl ?_
  refine W.seq ?_
  refine W.reg ?_
  refine Wx.box (cs := [.int .u8 e, .int .u8 kd, .int .u8 x0, .int .u8 x1, .int .u8 x2, .int .u8 x3, .int .u8 x4, .int .u8 x5, .int .u8 x6, .int .u8 x7, .int .u8 x8, .int .u8 x9, .int .u8 x10, .int .u8 x11]) hS rfl rfl rfl (fun g_1 w_2 hx_4 hb_3 hS => ?_)
  refine Wx.box (cs := [.int .u8 y0, .int .u8 z0, .int .u8 y1, .int .u8 z1, .int .u8 y2, .int .u8 z2, .int .u8 y3, .int .u8 z3, .int .u8 y4, .int .u8 z4]) hS rfl rfl rfl (fun g_5 w_6 hx_8 hb_7 hS => ?_)
  refine Wx.rd (v := .bool false) (rd_assign rfl) rfl ?_
  refine Wx.nil ?_
  refine W.seq ?_
  refine W.reg ?_
  refine Wx.rd (v := .agg #[.int .u8 e, .int .u8 kd, .int .u8 x0, .int .u8 x1, .int .u8 x2, .int .u8 x3, .int .u8 x4, .int .u8 x5, .int .u8 x6, .int .u8 x7, .int .u8 x8, .int .u8 x9, .int .u8 x10, .int .u8 x11]) (rd_loadXs (ds := [.int .u8 e, .int .u8 kd, .int .u8 x0, .int .u8 x1, .int .u8 x2, .int .u8 x3, .int .u8 x4, .int .u8 x5, .int .u8 x6, .int .u8 x7, .int .u8 x8, .int .u8 x9, .int .u8 x10, .int .u8 x11]) hS 1 rfl rfl rfl rfl Tryd.isAgg43 Tryd.sizeOf43) rfl ?_
  refine Wx.callF (run_callF Tryd.call44 rfl) (F44 i_e i_kd i_x0 i_x1 i_x2 i_x3 i_x4 i_x5 i_x6 i_x7 i_x8 i_x9 i_x10 i_x11 (in_i64 (by omega) (by omega)) (by omega) (by omega)) rfl ?_
  rintro r_9 w_10 hx_11 rfl
  have hS := hS.ext hx_11
  generalize h_M : madeS e kd [x0, x1, x2, x3, x4, x5, x6, x7, x8, x9, x10, x11] 10 = M
  have hLM : Lets M := by rw [← h_M]; exact made_lets (by omega)
  have hzM : (M.size : Int) ≤ 10 := by rw [← h_M]; exact made_size (by omega)
  have hrM : rimE M = 0 := rimE_good (by omega) hLM
  refine Wx.rd (v := .string M) (rd_assign rfl) rfl ?_
  refine Wx.nil ?_
  refine W.seq ?_
  refine W.reg ?_
  clear b_e b_kd b_x0 b_x1 b_x2 b_x3 b_x4 b_x5 b_x6 b_x7 b_x8 b_x9 b_x10 b_x11
  clear b_y0 b_z0 b_y1 b_z1 b_y2 b_z2 b_y3 b_z3 b_y4 b_z4
  refine Wx.rd (v := (.slice none 0 0)) (rd_assign rfl) rfl ?_
  refine Wx.nil ?_
  refine W.seq ?_
  refine W.seq ?_
  refine W.reg ?_
  refine Wx.rd (v := .string M) (rd_move rfl) rfl ?_
  refine Wx.rd (v := .int .i64 (M.size : Int)) (rd_lenS rfl Tryd.underlying9) rfl ?_
  refine Wx.rd (v := .bool (decide (1 < (M.size : Int)))) (rd_gtr rfl rfl) rfl ?_
  refine Wx.nil ?_
  refine W.cutK [8, 10, 11, 12, 26, 27, 28, 29, 30, 31, 32, 33, 34, 35, 36, 37, 38, 39, 40, 41, 42, 43, 44, 45, 46, 47, 48, 49, 50, 51, 52, 53, 54, 55, 56, 57, 58] (fun x : Value × (List (Int × Int)) => match x with | (lw, l) => [(8, lw)]) (fun (x : Value × (List (Int × Int))) w' => match x with | (lw, l) => St w O w' [Ob.v (tSl (tP (tI .i64) (tI .i64))) l lw, .box g_1 43 [.int .u8 e, .int .u8 kd, .int .u8 x0, .int .u8 x1, .int .u8 x2, .int .u8 x3, .int .u8 x4, .int .u8 x5, .int .u8 x6, .int .u8 x7, .int .u8 x8, .int .u8 x9, .int .u8 x10, .int .u8 x11]] ∧ (∀ x ∈ l, 0 ≤ x.1 ∧ x.1 ≤ x.2 ∧ x.2 < (M.size : Int)) ∧ (l.length : Int) ≤ 5) ?_ ?_
  · -- up to the cut
    refine W.condD rfl (fun c0 => ?_) (fun c0 => ?_)
    · -- yes
      refine W.seq ?_
      refine W.reg ?_
      refine Wx.rd (v := .int .u8 many) (rd_move rfl) rfl ?_
      refine Wx.rd (v := .int .i64 many) (rd_convIn rfl Tryd.underlying5 Tryd.underlying3 (in_i64 (by omega) (by omega))) rfl ?_
      refine Wx.rd (v := .int .i64 (many % 6)) (rd_rem rfl rfl (by omega) (by omega)) rfl ?_
      refine Wx.rd (v := (.slice (some ⟨g_5, 0, none⟩) (many % 6).toNat 5)) (rd_sliceArrH (m := 5) Tryd.underlying70 Tryd.sizeOf69 rfl rfl (by omega) (by omega)) rfl ?_
      have hS := hS.sliceBoxP (o := 0) (k := .u8) (m := (many % 6).toNat) (xs := ([(y0, z0), (y1, z1), (y2, z2), (y3, z3), (y4, z4)] : List (Int × Int)).take (many % 6).toNat) (cap := 5) 0 rfl (by exact flatP_take .u8 ([(y0, z0), (y1, z1), (y2, z2), (y3, z3), (y4, z4)] : List (Int × Int)) _) (fun x hx => by have hx := List.mem_of_mem_take hx; simp only [List.mem_cons, List.not_mem_nil, or_false] at hx; rcases hx with rfl | rfl | rfl | rfl | rfl <;> exact ⟨by assumption, by assumption⟩) (by simp; omega) (by omega) (by decide)
      refine Wx.rd (v := .int .i64 ((([(y0, z0), (y1, z1), (y2, z2), (y3, z3), (y4, z4)] : List (Int × Int)).take (many % 6).toNat).length : Int)) (rd_lenV rfl (hS.v 0 rfl) Tryd.underlying71) rfl ?_
      refine Wx.rd (v := .int .i64 0) (rd_move rfl) rfl ?_
      refine Wx.nil ?_
      refine W.block ?_
      have hbl : ((([(y0, z0), (y1, z1), (y2, z2), (y3, z3), (y4, z4)] : List (Int × Int)).take (many % 6).toNat).length : Int) ≤ 5 := by rw [List.length_take]; simp; omega
      have hS := hS.addNil (tP (tI .i64) (tI .i64)) 58
      refine W.loop [8, 10, 11, 12, 31, 32, 33, 34, 35, 36, 37, 38, 39, 40, 41, 42, 43, 44, 45, 46, 47, 48, 49, 50, 51, 52, 53, 54, 55, 56, 57, 58] (fun x : Int × Value × (List (Int × Int)) => match x with | (j, lv, l) => [(31, .int .i64 j), (8, lv)]) (fun (x : Int × Value × (List (Int × Int))) w' => match x with | (j, lv, l) => St w O w' [.row (tP (tI .i64) (tI .i64)) 58 lv l, Ob.v (tSl (tP (tI .u8) (tI .u8))) (([(y0, z0), (y1, z1), (y2, z2), (y3, z3), (y4, z4)] : List (Int × Int)).take (many % 6).toNat) (.slice (some ⟨g_5, 0, none⟩) (many % 6).toNat 5), .box g_1 43 [.int .u8 e, .int .u8 kd, .int .u8 x0, .int .u8 x1, .int .u8 x2, .int .u8 x3, .int .u8 x4, .int .u8 x5, .int .u8 x6, .int .u8 x7, .int .u8 x8, .int .u8 x9, .int .u8 x10, .int .u8 x11]] ∧ 0 ≤ j ∧ j ≤ ((([(y0, z0), (y1, z1), (y2, z2), (y3, z3), (y4, z4)] : List (Int × Int)).take (many % 6).toNat).length : Int) ∧ (∀ x ∈ l, 0 ≤ x.1 ∧ x.1 ≤ x.2 ∧ x.2 < (M.size : Int)) ∧ (l.length : Int) ≤ j) (fun x : Int × Value × (List (Int × Int)) => match x with | (j, lv, l) => ((([(y0, z0), (y1, z1), (y2, z2), (y3, z3), (y4, z4)] : List (Int × Int)).take (many % 6).toNat).length - j).toNat) (0, (.slice none 0 0), []) ⟨rfl, rfl, trivial⟩ ⟨hS, (by first | omega | simp), (by first | omega | simp), (fun x hx => by cases hx), (Int.le_refl 0)⟩ ?_
      rintro ⟨j, lv, l⟩ u_15 w_14 ⟨hS, h0, h1, hq, hl⟩
      refine W.seq ?_
      refine W.reg ?_
      refine Wx.rd (v := .bool (decide (j < ((([(y0, z0), (y1, z1), (y2, z2), (y3, z3), (y4, z4)] : List (Int × Int)).take (many % 6).toNat).length : Int)))) (rd_lss rfl rfl) rfl ?_
      refine Wx.nil ?_
      refine W.seq ?_
      refine W.condD rfl (fun c1 => ?_) (fun c1 => ?_)
      · -- yes
        have hm0 : (M.size : Int) ≠ 0 := by omega
        have hm1 : 0 < (M.size : Int) := by omega
        have e0 := Int.emod_nonneg (ix (0, 0) (([(y0, z0), (y1, z1), (y2, z2), (y3, z3), (y4, z4)] : List (Int × Int)).take (many % 6).toNat) j).1 hm0
        have e1 := Int.emod_lt_of_pos (ix (0, 0) (([(y0, z0), (y1, z1), (y2, z2), (y3, z3), (y4, z4)] : List (Int × Int)).take (many % 6).toNat) j).1 hm1
        have e2 := Int.emod_nonneg (ix (0, 0) (([(y0, z0), (y1, z1), (y2, z2), (y3, z3), (y4, z4)] : List (Int × Int)).take (many % 6).toNat) j).2 hm0
        have e3 := Int.emod_lt_of_pos (ix (0, 0) (([(y0, z0), (y1, z1), (y2, z2), (y3, z3), (y4, z4)] : List (Int × Int)).take (many % 6).toNat) j).2 hm1
        refine W.skip ?_
        refine W.seq ?_
        refine W.block ?_
        refine W.seq ?_
        refine W.reg ?_
        refine Wx.ex (rd_index (0, 0) (hS.v 1 rfl) rfl rfl Tryd.underlying71 Tryd.sizeOf69 (by first | omega | (simp only [List.length_set, List.length_append, List.length_cons, List.length_nil, List.length_replicate]; omega)) (by first | omega | (simp only [List.length_set, List.length_append, List.length_cons, List.length_nil, List.length_replicate]; omega))) rfl (fun p_16 hp_17 => ?_)
        refine Wx.ex (rd_load hp_17 rfl Tryd.isAgg69 Tryd.sizeOf69) rfl (fun v_18 hv_19 => ?_)
        obtain ⟨rfl, bd_20, bd_21⟩ := hv_19.i2
        have bd_20 := bd_u8 bd_20
        have bd_21 := bd_u8 bd_21
        refine Wx.alloc (cs := [.int .u8 0, .int .u8 0]) hS Tryd.zeroValue69 rfl rfl (fun g_22 w_23 hx_25 hb_24 hS => ?_)
        refine Wx.storeX (cs' := [.int .u8 ((ix (0, 0) (([(y0, z0), (y1, z1), (y2, z2), (y3, z3), (y4, z4)] : List (Int × Int)).take (many % 6).toNat) j).1), .int .u8 ((ix (0, 0) (([(y0, z0), (y1, z1), (y2, z2), (y3, z3), (y4, z4)] : List (Int × Int)).take (many % 6).toNat) j).2)]) (ds := [.int .u8 ((ix (0, 0) (([(y0, z0), (y1, z1), (y2, z2), (y3, z3), (y4, z4)] : List (Int × Int)).take (many % 6).toNat) j).1), .int .u8 ((ix (0, 0) (([(y0, z0), (y1, z1), (y2, z2), (y3, z3), (y4, z4)] : List (Int × Int)).take (many % 6).toNat) j).2)]) hS 0 rfl rfl rfl rfl Tryd.sizeOf69 (Nat.le_of_ble_eq_true rfl) (one_cons rfl (one_cons rfl one_nil)) rfl (fun w_26 hz_27 hS => ?_)
        refine Wx.nil ?_
        refine W.seq ?_
        refine W.regQ mixedHB_ (by kernel_rfl) ?_
        refine Wx.rd (v := .pointer (some ⟨g_22, 0, none⟩)) (rd_indexArr (n := 0) rfl rfl Tryd.underlying69 Tryd.sizeOf5 (by decide) (by decide)) rfl ?_
        refine Wx.rd (v := .int .u8 ((ix (0, 0) (([(y0, z0), (y1, z1), (y2, z2), (y3, z3), (y4, z4)] : List (Int × Int)).take (many % 6).toNat) j).1)) (rd_loadX hS 0 rfl rfl rfl Tryd.isAgg5) rfl ?_
        refine Wx.rd (v := .int .i64 ((ix (0, 0) (([(y0, z0), (y1, z1), (y2, z2), (y3, z3), (y4, z4)] : List (Int × Int)).take (many % 6).toNat) j).1)) (rd_convIn rfl Tryd.underlying5 Tryd.underlying3 (in_i64 (by omega) (by omega))) rfl ?_
        refine Wx.rd (v := .string M) (rd_move rfl) rfl ?_
        refine Wx.rd (v := .int .i64 (M.size : Int)) (rd_lenS rfl Tryd.underlying9) rfl ?_
        refine Wx.rd (v := .int .i64 (((ix (0, 0) (([(y0, z0), (y1, z1), (y2, z2), (y3, z3), (y4, z4)] : List (Int × Int)).take (many % 6).toNat) j).1) % (M.size : Int))) (rd_rem rfl rfl (by omega) (by omega)) rfl ?_
        refine Wx.rd (v := .pointer (some ⟨g_22, 1, none⟩)) (rd_indexArr (n := 1) rfl rfl Tryd.underlying69 Tryd.sizeOf5 (by decide) (by decide)) rfl ?_
        refine Wx.rd (v := .int .u8 ((ix (0, 0) (([(y0, z0), (y1, z1), (y2, z2), (y3, z3), (y4, z4)] : List (Int × Int)).take (many % 6).toNat) j).2)) (rd_loadX hS 0 rfl rfl rfl Tryd.isAgg5) rfl ?_
        refine Wx.rd (v := .int .i64 ((ix (0, 0) (([(y0, z0), (y1, z1), (y2, z2), (y3, z3), (y4, z4)] : List (Int × Int)).take (many % 6).toNat) j).2)) (rd_convIn rfl Tryd.underlying5 Tryd.underlying3 (in_i64 (by omega) (by omega))) rfl ?_
        refine Wx.rd (v := .string M) (rd_move rfl) rfl ?_
        refine Wx.rd (v := .int .i64 (M.size : Int)) (rd_lenS rfl Tryd.underlying9) rfl ?_
        refine Wx.rd (v := .int .i64 (((ix (0, 0) (([(y0, z0), (y1, z1), (y2, z2), (y3, z3), (y4, z4)] : List (Int × Int)).take (many % 6).toNat) j).2) % (M.size : Int))) (rd_rem rfl rfl (by omega) (by omega)) rfl ?_
        refine Wx.rd (v := .int .i64 (((ix (0, 0) (([(y0, z0), (y1, z1), (y2, z2), (y3, z3), (y4, z4)] : List (Int × Int)).take (many % 6).toNat) j).1) % (M.size : Int))) (rd_assign rfl) rfl ?_
        refine Wx.rd (v := .int .i64 (((ix (0, 0) (([(y0, z0), (y1, z1), (y2, z2), (y3, z3), (y4, z4)] : List (Int × Int)).take (many % 6).toNat) j).2) % (M.size : Int))) (rd_assign rfl) rfl ?_
        refine Wx.nilQ (fun w_28 hx_29 => ?_)
        have hS := hS.ext hx_29
        refine W.seq ?_
        refine W.seq ?_
        refine W.reg ?_
        refine Wx.rd (v := .int .i64 (((ix (0, 0) (([(y0, z0), (y1, z1), (y2, z2), (y3, z3), (y4, z4)] : List (Int × Int)).take (many % 6).toNat) j).1) % (M.size : Int))) (rd_move rfl) rfl ?_
        refine Wx.rd (v := .int .i64 (((ix (0, 0) (([(y0, z0), (y1, z1), (y2, z2), (y3, z3), (y4, z4)] : List (Int × Int)).take (many % 6).toNat) j).2) % (M.size : Int))) (rd_move rfl) rfl ?_
        refine Wx.rd (v := .bool (decide ((((ix (0, 0) (([(y0, z0), (y1, z1), (y2, z2), (y3, z3), (y4, z4)] : List (Int × Int)).take (many % 6).toNat) j).2) % (M.size : Int)) < (((ix (0, 0) (([(y0, z0), (y1, z1), (y2, z2), (y3, z3), (y4, z4)] : List (Int × Int)).take (many % 6).toNat) j).1) % (M.size : Int))))) (rd_gtr rfl rfl) rfl ?_
        refine Wx.nil ?_
        refine W.condD rfl (fun c2 => ?_) (fun c2 => ?_)
        · -- yes
          refine W.reg ?_
          refine Wx.rd (v := .int .i64 (((ix (0, 0) (([(y0, z0), (y1, z1), (y2, z2), (y3, z3), (y4, z4)] : List (Int × Int)).take (many % 6).toNat) j).2) % (M.size : Int))) (rd_move rfl) rfl ?_
          refine Wx.rd (v := .int .i64 (((ix (0, 0) (([(y0, z0), (y1, z1), (y2, z2), (y3, z3), (y4, z4)] : List (Int × Int)).take (many % 6).toNat) j).1) % (M.size : Int))) (rd_move rfl) rfl ?_
          refine Wx.rd (v := .int .i64 (((ix (0, 0) (([(y0, z0), (y1, z1), (y2, z2), (y3, z3), (y4, z4)] : List (Int × Int)).take (many % 6).toNat) j).2) % (M.size : Int))) (rd_assign rfl) rfl ?_
          refine Wx.rd (v := .int .i64 (((ix (0, 0) (([(y0, z0), (y1, z1), (y2, z2), (y3, z3), (y4, z4)] : List (Int × Int)).take (many % 6).toNat) j).1) % (M.size : Int))) (rd_assign rfl) rfl ?_
          refine Wx.nil ?_
          refine W.reg ?_
          refine Wx.rd (v := lv) (rd_move rfl) rfl ?_
          refine Wx.rd (v := .int .i64 (((ix (0, 0) (([(y0, z0), (y1, z1), (y2, z2), (y3, z3), (y4, z4)] : List (Int × Int)).take (many % 6).toNat) j).2) % (M.size : Int))) (rd_move rfl) rfl ?_
          refine Wx.rd (v := .int .i64 (((ix (0, 0) (([(y0, z0), (y1, z1), (y2, z2), (y3, z3), (y4, z4)] : List (Int × Int)).take (many % 6).toNat) j).1) % (M.size : Int))) (rd_move rfl) rfl ?_
          refine Wx.rd (v := .agg #[.int .i64 (((ix (0, 0) (([(y0, z0), (y1, z1), (y2, z2), (y3, z3), (y4, z4)] : List (Int × Int)).take (many % 6).toNat) j).2) % (M.size : Int)), .int .i64 (((ix (0, 0) (([(y0, z0), (y1, z1), (y2, z2), (y3, z3), (y4, z4)] : List (Int × Int)).take (many % 6).toNat) j).1) % (M.size : Int))]) (rd_build (vs := [(0, .int .i64 (((ix (0, 0) (([(y0, z0), (y1, z1), (y2, z2), (y3, z3), (y4, z4)] : List (Int × Int)).take (many % 6).toNat) j).2) % (M.size : Int))), (1, .int .i64 (((ix (0, 0) (([(y0, z0), (y1, z1), (y2, z2), (y3, z3), (y4, z4)] : List (Int × Int)).take (many % 6).toNat) j).1) % (M.size : Int)))]) rfl (by kernel_rfl)) rfl ?_
          refine Wx.lit (t := (tP (tI .i64) (tI .i64))) (ys := [(((ix (0, 0) (([(y0, z0), (y1, z1), (y2, z2), (y3, z3), (y4, z4)] : List (Int × Int)).take (many % 6).toNat) j).2) % (M.size : Int), ((ix (0, 0) (([(y0, z0), (y1, z1), (y2, z2), (y3, z3), (y4, z4)] : List (Int × Int)).take (many % 6).toNat) j).1) % (M.size : Int))]) (vs := [.agg #[.int .i64 (((ix (0, 0) (([(y0, z0), (y1, z1), (y2, z2), (y3, z3), (y4, z4)] : List (Int × Int)).take (many % 6).toNat) j).2) % (M.size : Int)), .int .i64 (((ix (0, 0) (([(y0, z0), (y1, z1), (y2, z2), (y3, z3), (y4, z4)] : List (Int × Int)).take (many % 6).toNat) j).1) % (M.size : Int))]]) elHB_22 hS rfl rfl ⟨(V.mk2 (in_i64 (by omega) (by omega)) (in_i64 (by omega) (by omega))), trivial⟩ (by decide) rfl (fun v_30 w_31 hx_32 hS => ?_)
          refine Wx.append elHB_22 hS 2 rfl rfl rfl (Src.ofR hS 0 rfl) (by simp only [maxLen]; simp; omega) (by simp; omega) rfl (fun v_33 w_34 hz_35 hS => ?_)
          refine Wx.rd (v := v_33) (rd_assign rfl) rfl ?_
          refine Wx.nil ?_
          refine W.reg ?_
          refine Wx.rd (v := .int .i64 (j + 1)) (rd_add rfl rfl (in_i64 (by omega) (by omega))) rfl ?_
          refine Wx.rd (v := .int .i64 (j + 1)) (rd_move rfl) rfl ?_
          refine Wx.nil ?_
          refine ⟨(j + 1, v_33, l ++ [(((ix (0, 0) (([(y0, z0), (y1, z1), (y2, z2), (y3, z3), (y4, z4)] : List (Int × Int)).take (many % 6).toNat) j).2) % (M.size : Int), ((ix (0, 0) (([(y0, z0), (y1, z1), (y2, z2), (y3, z3), (y4, z4)] : List (Int × Int)).take (many % 6).toNat) j).1) % (M.size : Int))]), (by show ((([(y0, z0), (y1, z1), (y2, z2), (y3, z3), (y4, z4)] : List (Int × Int)).take (many % 6).toNat).length - (j + 1)).toNat < ((([(y0, z0), (y1, z1), (y2, z2), (y3, z3), (y4, z4)] : List (Int × Int)).take (many % 6).toNat).length - j).toNat; omega), ?_, ?_, Out.look rfl Out.self⟩
          · exact ⟨St.tl (hS.tl), (by first | omega | assumption), (by first | omega | assumption), (fun x hx => by rcases List.mem_append.1 hx with hx | hx; exact hq x hx; (rw [List.mem_singleton] at hx; subst hx; exact ⟨by omega, by omega, by omega⟩)), (by simp only [List.length_append, List.length_cons, List.length_nil]; omega)⟩
          · exact ⟨rfl, rfl, trivial⟩
        · -- no
          refine W.skip ?_
          refine W.reg ?_
          refine Wx.rd (v := lv) (rd_move rfl) rfl ?_
          refine Wx.rd (v := .int .i64 (((ix (0, 0) (([(y0, z0), (y1, z1), (y2, z2), (y3, z3), (y4, z4)] : List (Int × Int)).take (many % 6).toNat) j).1) % (M.size : Int))) (rd_move rfl) rfl ?_
          refine Wx.rd (v := .int .i64 (((ix (0, 0) (([(y0, z0), (y1, z1), (y2, z2), (y3, z3), (y4, z4)] : List (Int × Int)).take (many % 6).toNat) j).2) % (M.size : Int))) (rd_move rfl) rfl ?_
          refine Wx.rd (v := .agg #[.int .i64 (((ix (0, 0) (([(y0, z0), (y1, z1), (y2, z2), (y3, z3), (y4, z4)] : List (Int × Int)).take (many % 6).toNat) j).1) % (M.size : Int)), .int .i64 (((ix (0, 0) (([(y0, z0), (y1, z1), (y2, z2), (y3, z3), (y4, z4)] : List (Int × Int)).take (many % 6).toNat) j).2) % (M.size : Int))]) (rd_build (vs := [(0, .int .i64 (((ix (0, 0) (([(y0, z0), (y1, z1), (y2, z2), (y3, z3), (y4, z4)] : List (Int × Int)).take (many % 6).toNat) j).1) % (M.size : Int))), (1, .int .i64 (((ix (0, 0) (([(y0, z0), (y1, z1), (y2, z2), (y3, z3), (y4, z4)] : List (Int × Int)).take (many % 6).toNat) j).2) % (M.size : Int)))]) rfl (by kernel_rfl)) rfl ?_
          refine Wx.lit (t := (tP (tI .i64) (tI .i64))) (ys := [(((ix (0, 0) (([(y0, z0), (y1, z1), (y2, z2), (y3, z3), (y4, z4)] : List (Int × Int)).take (many % 6).toNat) j).1) % (M.size : Int), ((ix (0, 0) (([(y0, z0), (y1, z1), (y2, z2), (y3, z3), (y4, z4)] : List (Int × Int)).take (many % 6).toNat) j).2) % (M.size : Int))]) (vs := [.agg #[.int .i64 (((ix (0, 0) (([(y0, z0), (y1, z1), (y2, z2), (y3, z3), (y4, z4)] : List (Int × Int)).take (many % 6).toNat) j).1) % (M.size : Int)), .int .i64 (((ix (0, 0) (([(y0, z0), (y1, z1), (y2, z2), (y3, z3), (y4, z4)] : List (Int × Int)).take (many % 6).toNat) j).2) % (M.size : Int))]]) elHB_22 hS rfl rfl ⟨(V.mk2 (in_i64 (by omega) (by omega)) (in_i64 (by omega) (by omega))), trivial⟩ (by decide) rfl (fun v_36 w_37 hx_38 hS => ?_)
          refine Wx.append elHB_22 hS 2 rfl rfl rfl (Src.ofR hS 0 rfl) (by simp only [maxLen]; simp; omega) (by simp; omega) rfl (fun v_39 w_40 hz_41 hS => ?_)
          refine Wx.rd (v := v_39) (rd_assign rfl) rfl ?_
          refine Wx.nil ?_
          refine W.reg ?_
          refine Wx.rd (v := .int .i64 (j + 1)) (rd_add rfl rfl (in_i64 (by omega) (by omega))) rfl ?_
          refine Wx.rd (v := .int .i64 (j + 1)) (rd_move rfl) rfl ?_
          refine Wx.nil ?_
          refine ⟨(j + 1, v_39, l ++ [(((ix (0, 0) (([(y0, z0), (y1, z1), (y2, z2), (y3, z3), (y4, z4)] : List (Int × Int)).take (many % 6).toNat) j).1) % (M.size : Int), ((ix (0, 0) (([(y0, z0), (y1, z1), (y2, z2), (y3, z3), (y4, z4)] : List (Int × Int)).take (many % 6).toNat) j).2) % (M.size : Int))]), (by show ((([(y0, z0), (y1, z1), (y2, z2), (y3, z3), (y4, z4)] : List (Int × Int)).take (many % 6).toNat).length - (j + 1)).toNat < ((([(y0, z0), (y1, z1), (y2, z2), (y3, z3), (y4, z4)] : List (Int × Int)).take (many % 6).toNat).length - j).toNat; omega), ?_, ?_, Out.look rfl Out.self⟩
          · exact ⟨St.tl (hS.tl), (by first | omega | assumption), (by first | omega | assumption), (fun x hx => by rcases List.mem_append.1 hx with hx | hx; exact hq x hx; (rw [List.mem_singleton] at hx; subst hx; exact ⟨by omega, by omega, by omega⟩)), (by simp only [List.length_append, List.length_cons, List.length_nil]; omega)⟩
          · exact ⟨rfl, rfl, trivial⟩
      · -- no
        refine W.exit rfl ?_
        have hS := hS.freeze 0 rfl
        have hv_43 : V (tSl (tP (tI .i64) (tI .i64))) l lv _ _ := (hS.v 0 rfl)
        refine ⟨(lv, l), ?_, ?_, Out.look rfl (Out.hav rfl (Out.look rfl Out.refl))⟩
        · exact ⟨(St.add (St.tl (St.tl (hS))) (V.tlF (V.tlF (hv_43)))), (hq), (by omega)⟩
        · exact ⟨rfl, trivial⟩
    · -- no
      refine W.skip ?_
      have hS := (hS.front 0 rfl).tl
      refine ⟨((.slice none 0 0), []), ?_, ?_, Out.look rfl Out.refl⟩
      · exact ⟨(St.add (hS) ((V.nil (t := (tP (tI .i64) (tI .i64)))))), (fun x hx => by cases hx), (by decide)⟩
      · exact ⟨rfl, trivial⟩
  rintro ⟨lw, l⟩ u_46 w_45 ⟨hS, hin, hl5⟩
  refine W.seq ?_
  refine W.reg ?_
  refine Wx.rd (v := lw) (rd_move rfl) rfl ?_
  refine Wx.callF (run_callF Tryd.call56 rfl) (F56 (hS.v 0 rfl) (by omega) hS.fb_lt) rfl ?_
  rintro r_47 w_48 hx_49 ⟨_, rfl, hv_50⟩
  have hS := hS.pushFr hx_49 hv_50
  refine Wx.rd (v := r_47) (rd_assign rfl) rfl ?_
  refine Wx.nil ?_
  refine W.seq ?_
  refine W.reg ?_
  have hsl := sortJ_len l
  refine Wx.rd (v := .int .i64 0) (rd_assign rfl) rfl ?_
  refine Wx.nil ?_
  refine W.seq ?_
  refine W.block ?_
  have hS := hS.freeze 0 rfl
  refine W.loop [14, 61, 62, 63, 64, 65, 66, 67, 68, 69, 70, 71, 72, 73, 74] (fun (n : Int) => [(14, .int .i64 n)]) (fun (n : Int) w' => St w O w' [Ob.v (tSl (tP (tI .i64) (tI .i64))) (sortJ l) r_47, Ob.v (tSl (tP (tI .i64) (tI .i64))) l lw, .box g_1 43 [.int .u8 e, .int .u8 kd, .int .u8 x0, .int .u8 x1, .int .u8 x2, .int .u8 x3, .int .u8 x4, .int .u8 x5, .int .u8 x6, .int .u8 x7, .int .u8 x8, .int .u8 x9, .int .u8 x10, .int .u8 x11]] ∧ 0 ≤ n ∧ n ≤ ((sortJ l).length : Int) ∧ soundB M (List.take n.toNat (sortJ l)) = true) (fun (n : Int) => ((sortJ l).length - n).toNat) 0 ⟨rfl, trivial⟩ ⟨hS, (by first | omega | simp), (by first | omega | simp), (rfl)⟩ ?_
  rintro n u_54 w_53 ⟨hS, n0, n1, n2⟩
  refine W.seq ?_
  refine W.seq ?_
  refine W.reg ?_
  refine Wx.rd (v := .int .i64 n) (rd_move rfl) rfl ?_
  refine Wx.rd (v := r_47) (rd_move rfl) rfl ?_
  refine Wx.rd (v := .int .i64 ((sortJ l).length : Int)) (rd_lenV rfl (hS.v 0 rfl) Tryd.underlying22) rfl ?_
  refine Wx.rd (v := .bool (decide (n < ((sortJ l).length : Int)))) (rd_lss rfl rfl) rfl ?_
  refine Wx.rd (v := .bool (decide (n < ((sortJ l).length : Int)))) (rd_move rfl) rfl ?_
  refine Wx.cut (X := Unit) 7 [66, 67, 68, 69, 70, 71, 72] (fun _ => [(72, .bool (decide (n < ((sortJ l).length : Int)) && soundB M ((sortJ l).take (n + 1).toNat)))]) (fun _ w' => St w O w' [Ob.v (tSl (tP (tI .i64) (tI .i64))) (sortJ l) r_47, Ob.v (tSl (tP (tI .i64) (tI .i64))) l lw, .box g_1 43 [.int .u8 e, .int .u8 kd, .int .u8 x0, .int .u8 x1, .int .u8 x2, .int .u8 x3, .int .u8 x4, .int .u8 x5, .int .u8 x6, .int .u8 x7, .int .u8 x8, .int .u8 x9, .int .u8 x10, .int .u8 x11]]) ?_ ?_
  · rcases Bool.eq_false_or_eq_true (decide (n < ((sortJ l).length : Int))) with g_55 | g_55
    · -- True
      have gp_56 := of_decide_eq_true g_55
      refine Wx.gyes rfl rfl (congrArg Value.bool g_55) ?_
      refine Wx.rd (v := .string M) (rd_move rfl) rfl ?_
      refine Wx.gyes rfl rfl (congrArg Value.bool g_55) ?_
      refine Wx.rd (v := r_47) (rd_move rfl) rfl ?_
      refine Wx.gyes rfl rfl (congrArg Value.bool g_55) ?_
      refine Wx.rd (v := .int .i64 n) (rd_move rfl) rfl ?_
      refine Wx.gyes rfl rfl (congrArg Value.bool g_55) ?_
      refine Wx.rd (v := .int .i64 (n + 1)) (rd_add rfl rfl (in_i64 (by omega) (by omega))) rfl ?_
      refine Wx.gyes rfl rfl (congrArg Value.bool g_55) ?_
      refine Wx.ex (rd_sliceH (hS.v 0 rfl) Tryd.underlying22 Tryd.sizeOf58 rfl rfl (by omega) (by omega)) rfl (fun u_57 hu_58 => ?_)
      have ln_59 := hu_58.len63
      have hS := hS.add hu_58
      refine Wx.gyes rfl rfl (congrArg Value.bool g_55) ?_
      refine Wx.callF (run_callF Tryd.call57 rfl) (F57 (by first | assumption | (simp only [maxLen]; omega) | (simp only [ByteArray.size_extract, ByteArray.size_append, maxLen] at *; omega) | decide) (hS.v 0 rfl) (by omega) (by simp; omega)) rfl ?_
      rintro r_61 w_62 hx_63 rfl
      have hS := hS.ext hx_63
      refine Wx.rd (v := .bool (soundB M ((sortJ l).take (n + 1).toNat))) (rd_pickT (congrArg Value.bool g_55) rfl) rfl ?_
      refine Wx.nil ⟨(), hS.tl, ⟨?_, trivial⟩, Out.look rfl Out.refl⟩
      show Value.bool (soundB M ((sortJ l).take (n + 1).toNat)) = Value.bool (decide (n < ((sortJ l).length : Int)) && soundB M ((sortJ l).take (n + 1).toNat))
      first | rw [g_55, Bool.true_and] | (rw [g_55]; rfl)
    · -- False
      have gp_64 := of_decide_eq_false g_55
      refine Wx.gnoB rfl rfl (congrArg Value.bool g_55) rfl rfl ?_
      refine Wx.gnoB rfl rfl (congrArg Value.bool g_55) rfl rfl ?_
      refine Wx.gnoB rfl rfl (congrArg Value.bool g_55) rfl rfl ?_
      refine Wx.gnoB rfl rfl (congrArg Value.bool g_55) rfl rfl ?_
      refine Wx.gnoB rfl rfl (congrArg Value.bool g_55) rfl rfl ?_
      refine Wx.gnoB rfl rfl (congrArg Value.bool g_55) rfl rfl ?_
      refine Wx.rd (v := .bool false) (rd_pickF (congrArg Value.bool g_55) rfl) rfl ?_
      refine Wx.nil ⟨(), hS, ⟨?_, trivial⟩, Out.look rfl Out.refl⟩
      show Value.bool false = Value.bool (decide (n < ((sortJ l).length : Int)) && soundB M ((sortJ l).take (n + 1).toNat))
      first | rw [g_55, Bool.false_and] | (rw [g_55]; rfl)
  rintro ⟨⟩ u_66 w_65 hS
  refine Wx.nil ?_
  refine W.cond rfl (fun c3 => ?_) (fun c3 => ?_)
  · -- yes
    try simp only [Bool.and_eq_true, Bool.or_eq_true, Bool.not_eq_true', Bool.and_eq_false_iff, Bool.or_eq_false_iff, Bool.not_eq_false', decide_eq_true_eq, decide_eq_false_iff_not, not_or, Bool.false_eq_true, Bool.true_eq_false, false_or, or_false, not_false_eq_true] at c3
    refine W.skip ?_
    refine W.block ?_
    refine W.reg ?_
    refine Wx.rd (v := .int .i64 n) (rd_move rfl) rfl ?_
    refine Wx.rd (v := .int .i64 (n + 1)) (rd_add rfl rfl (in_i64 (by omega) (by omega))) rfl ?_
    refine Wx.rd (v := .int .i64 (n + 1)) (rd_assign rfl) rfl ?_
    refine Wx.nil ?_
    refine ⟨n + 1, (by show ((sortJ l).length - (n + 1)).toNat < ((sortJ l).length - n).toNat; omega), ?_, ?_, Out.look rfl (Out.hav rfl (Out.look rfl Out.self))⟩
    · exact ⟨hS, (by first | omega | assumption), (by first | omega | assumption), (c3.2)⟩
    · exact ⟨rfl, trivial⟩
  · -- no
    try simp only [Bool.and_eq_true, Bool.or_eq_true, Bool.not_eq_true', Bool.and_eq_false_iff, Bool.or_eq_false_iff, Bool.not_eq_false', decide_eq_true_eq, decide_eq_false_iff_not, not_or, Bool.false_eq_true, Bool.true_eq_false, false_or, or_false, not_false_eq_true] at c3
    have hve : validE M (sortJ l) = validT M [] (sortJ l) := if_pos hrM
    have hv1 : validE M (List.take n.toNat (sortJ l)) = 0 := (if_pos hrM).trans (sound_iff.1 n2)
    refine W.exit rfl ?_
    refine W.seq ?_
    refine W.reg ?_
    refine Wx.rd (v := .string M) (rd_move rfl) rfl ?_
    refine Wx.rd (v := r_47) (rd_move rfl) rfl ?_
    refine Wx.callF (run_callF Tryd.call19 rfl) (F19 (by first | assumption | (simp only [maxLen]; omega) | (simp only [ByteArray.size_extract, ByteArray.size_append, maxLen] at *; omega) | decide) (hS.v 0 rfl) (hG.ext hS.bel)) rfl ?_
    rintro r_67 w_68 hx_69 rfl
    have hS := hS.ext hx_69
    refine Wx.rd (v := .int .i64 (validE M (sortJ l))) (rd_assign rfl) rfl ?_
    refine Wx.nil ?_
    refine W.seq ?_
    refine W.seq ?_
    refine W.reg ?_
    refine Wx.rd (v := .string M) (rd_move rfl) rfl ?_
    refine Wx.rd (v := r_47) (rd_move rfl) rfl ?_
    refine Wx.rd (v := .int .i64 n) (rd_move rfl) rfl ?_
    refine Wx.ex (rd_sliceH (hS.v 0 rfl) Tryd.underlying22 Tryd.sizeOf58 rfl rfl (by omega) (by omega)) rfl (fun u_70 hu_71 => ?_)
    have ln_72 := hu_71.len63
    have hS := hS.add hu_71
    refine Wx.callF (run_callF Tryd.call19 rfl) (F19 (by first | assumption | (simp only [maxLen]; omega) | (simp only [ByteArray.size_extract, ByteArray.size_append, maxLen] at *; omega) | decide) (hS.v 0 rfl) (hG.ext hS.bel)) rfl ?_
    rintro r_74 w_75 hx_76 rfl
    have hS := hS.ext hx_76
    refine Wx.rd (v := .bool false) (Rd.to (v := .bool (decide ((validE M ((sortJ l).take n.toNat)) ≠ 0))) (rd_neq rfl rfl) (congrArg (Value.bool) (show (false : Bool) = (decide ((validE M ((sortJ l).take n.toNat)) ≠ 0) : Bool) from (decide_eq_false (not_not_intro hv1)).symm).symm)) rfl ?_
    refine Wx.rd (v := .bool false) (rd_move rfl) rfl ?_
    refine Wx.gyes rfl rfl rfl ?_
    refine Wx.rd (v := .int .i64 (validE M (sortJ l))) (rd_move rfl) rfl ?_
    refine Wx.gyes rfl rfl rfl ?_
    refine Wx.rd (v := .bool (decide ((validE M (sortJ l)) = 0))) (rd_eql rfl rfl) rfl ?_
    refine Wx.gyes rfl rfl rfl ?_
    refine Wx.rd (v := .int .i64 n) (rd_move rfl) rfl ?_
    refine Wx.gyes rfl rfl rfl ?_
    refine Wx.rd (v := r_47) (rd_move rfl) rfl ?_
    refine Wx.gyes rfl rfl rfl ?_
    refine Wx.rd (v := .int .i64 ((sortJ l).length : Int)) (rd_lenV rfl (hS.v 1 rfl) Tryd.underlying22) rfl ?_
    refine Wx.gyes rfl rfl rfl ?_
    refine Wx.rd (v := .bool (decide (n = ((sortJ l).length : Int)))) (rd_eql rfl rfl) rfl ?_
    refine Wx.gyes rfl rfl rfl ?_
    refine Wx.rd (v := .bool false) (Rd.to (v := .bool (!((decide ((validE M (sortJ l)) = 0)) == (decide (n = ((sortJ l).length : Int)))))) (rd_neqB rfl rfl Tryd.underlying4) (congrArg (Value.bool) (show (false : Bool) = (!((decide ((validE M (sortJ l)) = 0)) == (decide (n = ((sortJ l).length : Int)))) : Bool) from (by rw [hve]; exact chk_eq n0 n1 n2 c3)).symm)) rfl ?_
    refine Wx.rd (v := .bool false) (rd_pickF rfl rfl) rfl ?_
    refine Wx.nil ?_
    refine W.condF rfl rfl ?_
    refine W.skip ?_
    refine W.seq ?_
    refine W.seq ?_
    refine W.reg ?_
    refine Wx.rd (v := .int .i64 n) (rd_move rfl) rfl ?_
    refine Wx.rd (v := r_47) (rd_move rfl) rfl ?_
    refine Wx.rd (v := .int .i64 ((sortJ l).length : Int)) (rd_lenV rfl (hS.v 1 rfl) Tryd.underlying22) rfl ?_
    refine Wx.rd (v := .bool (decide (n = ((sortJ l).length : Int)))) (rd_eql rfl rfl) rfl ?_
    refine Wx.nil ?_
    refine W.condD rfl (fun c5 => ?_) (fun c5 => ?_)
    · -- yes
      refine W.seq ?_
      refine W.reg ?_
      refine Wx.callF (run_callF Tryd.call16 rfl) (F16 hS.fb_lt (hG.ext hS.bel)) rfl ?_
      rintro r_77 w_78 hx_79 rfl
      have hS := hS.ext hx_79
      refine Wx.rd (v := .bool true) (rd_assign rfl) rfl ?_
      refine Wx.nil ?_
      exact W.ret ⟨.bool true, ResIs.one, hS.bel, rfl⟩
    · -- no
      obtain ⟨k0, k7, k6, k13, k5⟩ := stop_err n0 (by omega) n2 (by rcases c3 with c | c; omega; exact c) hin
      rw [← hve] at k7 k6 k13 k5
      have hix := hin _ ((sortJ_perm l).mem_iff.1 (ix_mem (d := (0, 0)) n0 (by omega)))
      refine W.skip ?_
      refine W.seq ?_
      refine W.reg ?_
      refine Wx.rd (v := r_47) (rd_move rfl) rfl ?_
      refine Wx.rd (v := .int .i64 n) (rd_move rfl) rfl ?_
      refine Wx.ex (rd_index (0, 0) (hS.v 1 rfl) rfl rfl Tryd.underlying22 Tryd.sizeOf58 (by first | omega | (simp only [List.length_set, List.length_append, List.length_cons, List.length_nil, List.length_replicate]; omega)) (by first | omega | (simp only [List.length_set, List.length_append, List.length_cons, List.length_nil, List.length_replicate]; omega))) rfl (fun p_80 hp_81 => ?_)
      refine Wx.ex (rd_load hp_81 rfl Tryd.isAgg58 Tryd.sizeOf58) rfl (fun v_82 hv_83 => ?_)
      obtain ⟨rfl, bd_84, bd_85⟩ := hv_83.i2
      have bd_84 := bd_i64 bd_84
      have bd_85 := bd_i64 bd_85
      refine Wx.alloc (cs := [.int .i64 0, .int .i64 0]) hS Tryd.zeroValue58 rfl rfl (fun g_86 w_87 hx_89 hb_88 hS => ?_)
      refine Wx.storeX (cs' := [.int .i64 ((ix (0, 0) (sortJ l) n).1), .int .i64 ((ix (0, 0) (sortJ l) n).2)]) (ds := [.int .i64 ((ix (0, 0) (sortJ l) n).1), .int .i64 ((ix (0, 0) (sortJ l) n).2)]) hS 0 rfl rfl rfl rfl Tryd.sizeOf58 (Nat.le_of_ble_eq_true rfl) (one_cons rfl (one_cons rfl one_nil)) rfl (fun w_90 hz_91 hS => ?_)
      refine Wx.nil ?_
      refine W.seq ?_
      refine W.reg ?_
      refine Wx.rd (v := .int .i64 5) (rd_assign rfl) rfl ?_
      refine Wx.nil ?_
      refine W.seq ?_
      refine W.reg ?_
      refine Wx.makeMap hS rfl (fun g_93 w_92 hx_94 hS => ?_)
      have hS : St _ _ w_92 [.raw g_93 (.map (mE (Value.int .i64) Value.bool ([] : List (Int × Bool)) 0).toArray ([] : List (Int × Bool)).length), .box g_86 58 [.int .i64 ((ix (0, 0) (sortJ l) n).1), .int .i64 ((ix (0, 0) (sortJ l) n).2)], Ob.v (tSl (tP (tI .i64) (tI .i64))) ((sortJ l).take n.toNat) u_70, Ob.v (tSl (tP (tI .i64) (tI .i64))) (sortJ l) r_47, Ob.v (tSl (tP (tI .i64) (tI .i64))) l lw, .box g_1 43 [.int .u8 e, .int .u8 kd, .int .u8 x0, .int .u8 x1, .int .u8 x2, .int .u8 x3, .int .u8 x4, .int .u8 x5, .int .u8 x6, .int .u8 x7, .int .u8 x8, .int .u8 x9, .int .u8 x10, .int .u8 x11]] := hS
      refine Wx.rd (v := .map (some g_93)) (rd_assign rfl) rfl ?_
      refine Wx.nil ?_
      refine W.seq ?_
      refine W.seq ?_
      refine W.reg ?_
      refine Wx.rd (v := r_47) (rd_move rfl) rfl ?_
      refine Wx.rd (v := .int .i64 n) (rd_move rfl) rfl ?_
      refine Wx.ex (rd_sliceH (hS.v 3 rfl) Tryd.underlying22 Tryd.sizeOf58 rfl rfl (by omega) (by omega)) rfl (fun u_95 hu_96 => ?_)
      have ln_97 := hu_96.len63
      have hS := hS.add hu_96
      refine Wx.rd (v := .int .i64 (((sortJ l).take n.toNat).length : Int)) (rd_lenV rfl (hS.v 0 rfl) Tryd.underlying22) rfl ?_
      refine Wx.rd (v := .int .i64 0) (rd_move rfl) rfl ?_
      refine Wx.nil ?_
      refine W.block ?_
      refine W.loop [20, 107, 108, 109, 110, 111, 112, 113, 114, 115, 116, 117] (fun x : Int × (List (Int × Bool)) => match x with | (q, m) => [(107, .int .i64 q)]) (fun (x : Int × (List (Int × Bool))) w' => match x with | (q, m) => St w O w' [Ob.v (tSl (tP (tI .i64) (tI .i64))) ((sortJ l).take n.toNat) u_95, .raw g_93 (.map (mE (Value.int .i64) Value.bool m 0).toArray m.length), .box g_86 58 [.int .i64 ((ix (0, 0) (sortJ l) n).1), .int .i64 ((ix (0, 0) (sortJ l) n).2)], Ob.v (tSl (tP (tI .i64) (tI .i64))) ((sortJ l).take n.toNat) u_70, Ob.v (tSl (tP (tI .i64) (tI .i64))) (sortJ l) r_47, Ob.v (tSl (tP (tI .i64) (tI .i64))) l lw, .box g_1 43 [.int .u8 e, .int .u8 kd, .int .u8 x0, .int .u8 x1, .int .u8 x2, .int .u8 x3, .int .u8 x4, .int .u8 x5, .int .u8 x6, .int .u8 x7, .int .u8 x8, .int .u8 x9, .int .u8 x10, .int .u8 x11]] ∧ 0 ≤ q ∧ q ≤ ((List.take n.toNat (sortJ l)).length : Int) ∧ (∀ r : Int, mget false m r = usedB ((List.take n.toNat (sortJ l)).take q.toNat) r)) (fun x : Int × (List (Int × Bool)) => match x with | (q, m) => ((List.take n.toNat (sortJ l)).length - q).toNat) (0, ([] : List (Int × Bool))) ⟨rfl, trivial⟩ ⟨hS, (by first | omega | simp), (by first | omega | simp), (fun r => rfl)⟩ ?_
      rintro ⟨q, m⟩ u_100 w_99 ⟨hS, g0, g1, h3⟩
      refine W.seq ?_
      refine W.reg ?_
      refine Wx.rd (v := .bool (decide (q < (((sortJ l).take n.toNat).length : Int)))) (rd_lss rfl rfl) rfl ?_
      refine Wx.nil ?_
      refine W.seq ?_
      refine W.condD rfl (fun c6 => ?_) (fun c6 => ?_)
      · -- yes
        refine W.skip ?_
        refine W.seq ?_
        refine W.block ?_
        refine W.seq ?_
        refine W.reg ?_
        refine Wx.ex (rd_index (0, 0) (hS.v 0 rfl) rfl rfl Tryd.underlying22 Tryd.sizeOf58 (by first | omega | (simp only [List.length_set, List.length_append, List.length_cons, List.length_nil, List.length_replicate]; omega)) (by first | omega | (simp only [List.length_set, List.length_append, List.length_cons, List.length_nil, List.length_replicate]; omega))) rfl (fun p_101 hp_102 => ?_)
        refine Wx.ex (rd_load hp_102 rfl Tryd.isAgg58 Tryd.sizeOf58) rfl (fun v_103 hv_104 => ?_)
        obtain ⟨rfl, bd_105, bd_106⟩ := hv_104.i2
        have bd_105 := bd_i64 bd_105
        have bd_106 := bd_i64 bd_106
        refine Wx.alloc (cs := [.int .i64 0, .int .i64 0]) hS Tryd.zeroValue58 rfl rfl (fun g_107 w_108 hx_110 hb_109 hS => ?_)
        refine Wx.storeX (cs' := [.int .i64 ((ix (0, 0) ((sortJ l).take n.toNat) q).1), .int .i64 ((ix (0, 0) ((sortJ l).take n.toNat) q).2)]) (ds := [.int .i64 ((ix (0, 0) ((sortJ l).take n.toNat) q).1), .int .i64 ((ix (0, 0) ((sortJ l).take n.toNat) q).2)]) hS 0 rfl rfl rfl rfl Tryd.sizeOf58 (Nat.le_of_ble_eq_true rfl) (one_cons rfl (one_cons rfl one_nil)) rfl (fun w_111 hz_112 hS => ?_)
        refine Wx.nil ?_
        refine W.regP mixedHB_ (fun w_113 hx_114 => ?_)
        have hS := hS.ext hx_114
        refine Wp.rd (v := .map (some g_93)) 0 rfl (by kernel_rfl) (fun _ => (rd_move rfl)) rfl ?_
        refine Wp.rd (v := .map (some g_93)) 3 rfl (by kernel_rfl) (fun _ => (rd_move rfl)) rfl ?_
        refine Wp.br [1, 4] (by kernel_rfl) (by decide) ⟨⟨_, rfl, ?_⟩, ⟨_, rfl, ?_⟩, trivial⟩
        · -- operation 1
          refine Wx.rd (v := .pointer (some ⟨g_107, 0, none⟩)) (rd_indexArr (n := 0) rfl rfl Tryd.underlying58 Tryd.sizeOf3 (by decide) (by decide)) rfl ?_
          refine Wx.nil ?_
          refine Wp.br [2, 4] (by kernel_rfl) (by decide) ⟨⟨_, rfl, ?_⟩, ⟨_, rfl, ?_⟩, trivial⟩
          · -- operation 2
            refine Wx.rd (v := .int .i64 ((ix (0, 0) ((sortJ l).take n.toNat) q).1)) (rd_loadX hS 0 rfl rfl rfl Tryd.isAgg3) rfl ?_
            refine Wx.nil ?_
            refine Wp.br [4, 6] (by kernel_rfl) (by decide) ⟨⟨_, rfl, ?_⟩, ⟨_, rfl, ?_⟩, trivial⟩
            · -- operation 4
              refine Wx.rd (v := .pointer (some ⟨g_107, 1, none⟩)) (rd_indexArr (n := 1) rfl rfl Tryd.underlying58 Tryd.sizeOf3 (by decide) (by decide)) rfl ?_
              refine Wx.nil ?_
              refine Wp.br [5, 6] (by kernel_rfl) (by decide) ⟨⟨_, rfl, ?_⟩, ⟨_, rfl, ?_⟩, trivial⟩
              · -- operation 5
                refine Wx.rd (v := .int .i64 ((ix (0, 0) ((sortJ l).take n.toNat) q).2)) (rd_loadX hS 0 rfl rfl rfl Tryd.isAgg3) rfl ?_
                refine Wx.nil ?_
                refine Wp.br [6] (by kernel_rfl) (by decide) ⟨⟨_, rfl, ?_⟩, trivial⟩
                refine Wx.mapUpdate (m := m) (k := ((ix (0, 0) ((sortJ l).take n.toNat) q).1)) (v := true) (f := (Value.int .i64)) (g := Value.bool) hS 2 rfl rfl rfl rfl Tryd.underlying72 (KeyD.int Tryd.underlying3) (fun w_115 hz_116 hS => ?_)
                refine Wx.nil ?_
                refine Wp.br [7] (by kernel_rfl) (by decide) ⟨⟨_, rfl, ?_⟩, trivial⟩
                refine Wx.mapUpdate (m := (mput m ((ix (0, 0) ((sortJ l).take n.toNat) q).1) true)) (k := ((ix (0, 0) ((sortJ l).take n.toNat) q).2)) (v := true) (f := (Value.int .i64)) (g := Value.bool) hS 2 rfl rfl rfl rfl Tryd.underlying72 (KeyD.int Tryd.underlying3) (fun w_117 hz_118 hS => ?_)
                refine Wx.nil ?_
                refine Wp.done (by kernel_rfl) ?_
                refine W.reg ?_
                refine Wx.rd (v := .int .i64 (q + 1)) (rd_add rfl rfl (in_i64 (by omega) (by omega))) rfl ?_
                refine Wx.rd (v := .int .i64 (q + 1)) (rd_move rfl) rfl ?_
                refine Wx.nil ?_
                refine ⟨(q + 1, mput (mput m ((ix (0, 0) ((sortJ l).take n.toNat) q).1) true) ((ix (0, 0) ((sortJ l).take n.toNat) q).2) true), (by show ((List.take n.toNat (sortJ l)).length - (q + 1)).toNat < ((List.take n.toNat (sortJ l)).length - q).toNat; omega), ?_, ?_, Out.look rfl Out.self⟩
                · exact ⟨hS.tl, (by first | omega | assumption), (by first | omega | assumption), (fun r => by rw [take_ix (d := (0, 0)) g0 c6]; exact met_step h3 r)⟩
                · exact ⟨rfl, trivial⟩
              · -- operation 6
                refine Wx.mapUpdate (m := m) (k := ((ix (0, 0) ((sortJ l).take n.toNat) q).1)) (v := true) (f := (Value.int .i64)) (g := Value.bool) hS 2 rfl rfl rfl rfl Tryd.underlying72 (KeyD.int Tryd.underlying3) (fun w_119 hz_120 hS => ?_)
                refine Wx.nil ?_
                refine Wp.br [5] (by kernel_rfl) (by decide) ⟨⟨_, rfl, ?_⟩, trivial⟩
                refine Wx.rd (v := .int .i64 ((ix (0, 0) ((sortJ l).take n.toNat) q).2)) (rd_loadX hS 0 rfl rfl rfl Tryd.isAgg3) rfl ?_
                refine Wx.nil ?_
                refine Wp.br [7] (by kernel_rfl) (by decide) ⟨⟨_, rfl, ?_⟩, trivial⟩
                refine Wx.mapUpdate (m := (mput m ((ix (0, 0) ((sortJ l).take n.toNat) q).1) true)) (k := ((ix (0, 0) ((sortJ l).take n.toNat) q).2)) (v := true) (f := (Value.int .i64)) (g := Value.bool) hS 2 rfl rfl rfl rfl Tryd.underlying72 (KeyD.int Tryd.underlying3) (fun w_121 hz_122 hS => ?_)
                refine Wx.nil ?_
                refine Wp.done (by kernel_rfl) ?_
                refine W.reg ?_
                refine Wx.rd (v := .int .i64 (q + 1)) (rd_add rfl rfl (in_i64 (by omega) (by omega))) rfl ?_
                refine Wx.rd (v := .int .i64 (q + 1)) (rd_move rfl) rfl ?_
                refine Wx.nil ?_
                refine ⟨(q + 1, mput (mput m ((ix (0, 0) ((sortJ l).take n.toNat) q).1) true) ((ix (0, 0) ((sortJ l).take n.toNat) q).2) true), (by show ((List.take n.toNat (sortJ l)).length - (q + 1)).toNat < ((List.take n.toNat (sortJ l)).length - q).toNat; omega), ?_, ?_, Out.look rfl Out.self⟩
                · exact ⟨hS.tl, (by first | omega | assumption), (by first | omega | assumption), (fun r => by rw [take_ix (d := (0, 0)) g0 c6]; exact met_step h3 r)⟩
                · exact ⟨rfl, trivial⟩
            · -- operation 6
              refine Wx.mapUpdate (m := m) (k := ((ix (0, 0) ((sortJ l).take n.toNat) q).1)) (v := true) (f := (Value.int .i64)) (g := Value.bool) hS 2 rfl rfl rfl rfl Tryd.underlying72 (KeyD.int Tryd.underlying3) (fun w_123 hz_124 hS => ?_)
              refine Wx.nil ?_
              refine Wp.br [4] (by kernel_rfl) (by decide) ⟨⟨_, rfl, ?_⟩, trivial⟩
              refine Wx.rd (v := .pointer (some ⟨g_107, 1, none⟩)) (rd_indexArr (n := 1) rfl rfl Tryd.underlying58 Tryd.sizeOf3 (by decide) (by decide)) rfl ?_
              refine Wx.nil ?_
              refine Wp.br [5] (by kernel_rfl) (by decide) ⟨⟨_, rfl, ?_⟩, trivial⟩
              refine Wx.rd (v := .int .i64 ((ix (0, 0) ((sortJ l).take n.toNat) q).2)) (rd_loadX hS 0 rfl rfl rfl Tryd.isAgg3) rfl ?_
              refine Wx.nil ?_
              refine Wp.br [7] (by kernel_rfl) (by decide) ⟨⟨_, rfl, ?_⟩, trivial⟩
              refine Wx.mapUpdate (m := (mput m ((ix (0, 0) ((sortJ l).take n.toNat) q).1) true)) (k := ((ix (0, 0) ((sortJ l).take n.toNat) q).2)) (v := true) (f := (Value.int .i64)) (g := Value.bool) hS 2 rfl rfl rfl rfl Tryd.underlying72 (KeyD.int Tryd.underlying3) (fun w_125 hz_126 hS => ?_)
              refine Wx.nil ?_
              refine Wp.done (by kernel_rfl) ?_
              refine W.reg ?_
              refine Wx.rd (v := .int .i64 (q + 1)) (rd_add rfl rfl (in_i64 (by omega) (by omega))) rfl ?_
              refine Wx.rd (v := .int .i64 (q + 1)) (rd_move rfl) rfl ?_
              refine Wx.nil ?_
              refine ⟨(q + 1, mput (mput m ((ix (0, 0) ((sortJ l).take n.toNat) q).1) true) ((ix (0, 0) ((sortJ l).take n.toNat) q).2) true), (by show ((List.take n.toNat (sortJ l)).length - (q + 1)).toNat < ((List.take n.toNat (sortJ l)).length - q).toNat; omega), ?_, ?_, Out.look rfl Out.self⟩
              · exact ⟨hS.tl, (by first | omega | assumption), (by first | omega | assumption), (fun r => by rw [take_ix (d := (0, 0)) g0 c6]; exact met_step h3 r)⟩
              · exact ⟨rfl, trivial⟩
          · -- operation 4
            refine Wx.rd (v := .pointer (some ⟨g_107, 1, none⟩)) (rd_indexArr (n := 1) rfl rfl Tryd.underlying58 Tryd.sizeOf3 (by decide) (by decide)) rfl ?_
            refine Wx.nil ?_
            refine Wp.br [2, 5] (by kernel_rfl) (by decide) ⟨⟨_, rfl, ?_⟩, ⟨_, rfl, ?_⟩, trivial⟩
            · -- operation 2
              refine Wx.rd (v := .int .i64 ((ix (0, 0) ((sortJ l).take n.toNat) q).1)) (rd_loadX hS 0 rfl rfl rfl Tryd.isAgg3) rfl ?_
              refine Wx.nil ?_
              refine Wp.br [5, 6] (by kernel_rfl) (by decide) ⟨⟨_, rfl, ?_⟩, ⟨_, rfl, ?_⟩, trivial⟩
              · -- operation 5
                refine Wx.rd (v := .int .i64 ((ix (0, 0) ((sortJ l).take n.toNat) q).2)) (rd_loadX hS 0 rfl rfl rfl Tryd.isAgg3) rfl ?_
                refine Wx.nil ?_
                refine Wp.br [6] (by kernel_rfl) (by decide) ⟨⟨_, rfl, ?_⟩, trivial⟩
                refine Wx.mapUpdate (m := m) (k := ((ix (0, 0) ((sortJ l).take n.toNat) q).1)) (v := true) (f := (Value.int .i64)) (g := Value.bool) hS 2 rfl rfl rfl rfl Tryd.underlying72 (KeyD.int Tryd.underlying3) (fun w_127 hz_128 hS => ?_)
                refine Wx.nil ?_
                refine Wp.br [7] (by kernel_rfl) (by decide) ⟨⟨_, rfl, ?_⟩, trivial⟩
                refine Wx.mapUpdate (m := (mput m ((ix (0, 0) ((sortJ l).take n.toNat) q).1) true)) (k := ((ix (0, 0) ((sortJ l).take n.toNat) q).2)) (v := true) (f := (Value.int .i64)) (g := Value.bool) hS 2 rfl rfl rfl rfl Tryd.underlying72 (KeyD.int Tryd.underlying3) (fun w_129 hz_130 hS => ?_)
                refine Wx.nil ?_
                refine Wp.done (by kernel_rfl) ?_
                refine W.reg ?_
                refine Wx.rd (v := .int .i64 (q + 1)) (rd_add rfl rfl (in_i64 (by omega) (by omega))) rfl ?_
                refine Wx.rd (v := .int .i64 (q + 1)) (rd_move rfl) rfl ?_
                refine Wx.nil ?_
                refine ⟨(q + 1, mput (mput m ((ix (0, 0) ((sortJ l).take n.toNat) q).1) true) ((ix (0, 0) ((sortJ l).take n.toNat) q).2) true), (by show ((List.take n.toNat (sortJ l)).length - (q + 1)).toNat < ((List.take n.toNat (sortJ l)).length - q).toNat; omega), ?_, ?_, Out.look rfl Out.self⟩
                · exact ⟨hS.tl, (by first | omega | assumption), (by first | omega | assumption), (fun r => by rw [take_ix (d := (0, 0)) g0 c6]; exact met_step h3 r)⟩
                · exact ⟨rfl, trivial⟩
              · -- operation 6
                refine Wx.mapUpdate (m := m) (k := ((ix (0, 0) ((sortJ l).take n.toNat) q).1)) (v := true) (f := (Value.int .i64)) (g := Value.bool) hS 2 rfl rfl rfl rfl Tryd.underlying72 (KeyD.int Tryd.underlying3) (fun w_131 hz_132 hS => ?_)
                refine Wx.nil ?_
                refine Wp.br [5] (by kernel_rfl) (by decide) ⟨⟨_, rfl, ?_⟩, trivial⟩
                refine Wx.rd (v := .int .i64 ((ix (0, 0) ((sortJ l).take n.toNat) q).2)) (rd_loadX hS 0 rfl rfl rfl Tryd.isAgg3) rfl ?_
                refine Wx.nil ?_
                refine Wp.br [7] (by kernel_rfl) (by decide) ⟨⟨_, rfl, ?_⟩, trivial⟩
                refine Wx.mapUpdate (m := (mput m ((ix (0, 0) ((sortJ l).take n.toNat) q).1) true)) (k := ((ix (0, 0) ((sortJ l).take n.toNat) q).2)) (v := true) (f := (Value.int .i64)) (g := Value.bool) hS 2 rfl rfl rfl rfl Tryd.underlying72 (KeyD.int Tryd.underlying3) (fun w_133 hz_134 hS => ?_)
                refine Wx.nil ?_
                refine Wp.done (by kernel_rfl) ?_
                refine W.reg ?_
                refine Wx.rd (v := .int .i64 (q + 1)) (rd_add rfl rfl (in_i64 (by omega) (by omega))) rfl ?_
                refine Wx.rd (v := .int .i64 (q + 1)) (rd_move rfl) rfl ?_
                refine Wx.nil ?_
                refine ⟨(q + 1, mput (mput m ((ix (0, 0) ((sortJ l).take n.toNat) q).1) true) ((ix (0, 0) ((sortJ l).take n.toNat) q).2) true), (by show ((List.take n.toNat (sortJ l)).length - (q + 1)).toNat < ((List.take n.toNat (sortJ l)).length - q).toNat; omega), ?_, ?_, Out.look rfl Out.self⟩
                · exact ⟨hS.tl, (by first | omega | assumption), (by first | omega | assumption), (fun r => by rw [take_ix (d := (0, 0)) g0 c6]; exact met_step h3 r)⟩
                · exact ⟨rfl, trivial⟩
            · -- operation 5
              refine Wx.rd (v := .int .i64 ((ix (0, 0) ((sortJ l).take n.toNat) q).2)) (rd_loadX hS 0 rfl rfl rfl Tryd.isAgg3) rfl ?_
              refine Wx.nil ?_
              refine Wp.br [2] (by kernel_rfl) (by decide) ⟨⟨_, rfl, ?_⟩, trivial⟩
              refine Wx.rd (v := .int .i64 ((ix (0, 0) ((sortJ l).take n.toNat) q).1)) (rd_loadX hS 0 rfl rfl rfl Tryd.isAgg3) rfl ?_
              refine Wx.nil ?_
              refine Wp.br [6] (by kernel_rfl) (by decide) ⟨⟨_, rfl, ?_⟩, trivial⟩
              refine Wx.mapUpdate (m := m) (k := ((ix (0, 0) ((sortJ l).take n.toNat) q).1)) (v := true) (f := (Value.int .i64)) (g := Value.bool) hS 2 rfl rfl rfl rfl Tryd.underlying72 (KeyD.int Tryd.underlying3) (fun w_135 hz_136 hS => ?_)
              refine Wx.nil ?_
              refine Wp.br [7] (by kernel_rfl) (by decide) ⟨⟨_, rfl, ?_⟩, trivial⟩
              refine Wx.mapUpdate (m := (mput m ((ix (0, 0) ((sortJ l).take n.toNat) q).1) true)) (k := ((ix (0, 0) ((sortJ l).take n.toNat) q).2)) (v := true) (f := (Value.int .i64)) (g := Value.bool) hS 2 rfl rfl rfl rfl Tryd.underlying72 (KeyD.int Tryd.underlying3) (fun w_137 hz_138 hS => ?_)
              refine Wx.nil ?_
              refine Wp.done (by kernel_rfl) ?_
              refine W.reg ?_
              refine Wx.rd (v := .int .i64 (q + 1)) (rd_add rfl rfl (in_i64 (by omega) (by omega))) rfl ?_
              refine Wx.rd (v := .int .i64 (q + 1)) (rd_move rfl) rfl ?_
              refine Wx.nil ?_
              refine ⟨(q + 1, mput (mput m ((ix (0, 0) ((sortJ l).take n.toNat) q).1) true) ((ix (0, 0) ((sortJ l).take n.toNat) q).2) true), (by show ((List.take n.toNat (sortJ l)).length - (q + 1)).toNat < ((List.take n.toNat (sortJ l)).length - q).toNat; omega), ?_, ?_, Out.look rfl Out.self⟩
              · exact ⟨hS.tl, (by first | omega | assumption), (by first | omega | assumption), (fun r => by rw [take_ix (d := (0, 0)) g0 c6]; exact met_step h3 r)⟩
              · exact ⟨rfl, trivial⟩
        · -- operation 4
          refine Wx.rd (v := .pointer (some ⟨g_107, 1, none⟩)) (rd_indexArr (n := 1) rfl rfl Tryd.underlying58 Tryd.sizeOf3 (by decide) (by decide)) rfl ?_
          refine Wx.nil ?_
          refine Wp.br [1, 5] (by kernel_rfl) (by decide) ⟨⟨_, rfl, ?_⟩, ⟨_, rfl, ?_⟩, trivial⟩
          · -- operation 1
            refine Wx.rd (v := .pointer (some ⟨g_107, 0, none⟩)) (rd_indexArr (n := 0) rfl rfl Tryd.underlying58 Tryd.sizeOf3 (by decide) (by decide)) rfl ?_
            refine Wx.nil ?_
            refine Wp.br [2, 5] (by kernel_rfl) (by decide) ⟨⟨_, rfl, ?_⟩, ⟨_, rfl, ?_⟩, trivial⟩
            · -- operation 2
              refine Wx.rd (v := .int .i64 ((ix (0, 0) ((sortJ l).take n.toNat) q).1)) (rd_loadX hS 0 rfl rfl rfl Tryd.isAgg3) rfl ?_
              refine Wx.nil ?_
              refine Wp.br [5, 6] (by kernel_rfl) (by decide) ⟨⟨_, rfl, ?_⟩, ⟨_, rfl, ?_⟩, trivial⟩
              · -- operation 5
                refine Wx.rd (v := .int .i64 ((ix (0, 0) ((sortJ l).take n.toNat) q).2)) (rd_loadX hS 0 rfl rfl rfl Tryd.isAgg3) rfl ?_
                refine Wx.nil ?_
                refine Wp.br [6] (by kernel_rfl) (by decide) ⟨⟨_, rfl, ?_⟩, trivial⟩
                refine Wx.mapUpdate (m := m) (k := ((ix (0, 0) ((sortJ l).take n.toNat) q).1)) (v := true) (f := (Value.int .i64)) (g := Value.bool) hS 2 rfl rfl rfl rfl Tryd.underlying72 (KeyD.int Tryd.underlying3) (fun w_139 hz_140 hS => ?_)
                refine Wx.nil ?_
                refine Wp.br [7] (by kernel_rfl) (by decide) ⟨⟨_, rfl, ?_⟩, trivial⟩
                refine Wx.mapUpdate (m := (mput m ((ix (0, 0) ((sortJ l).take n.toNat) q).1) true)) (k := ((ix (0, 0) ((sortJ l).take n.toNat) q).2)) (v := true) (f := (Value.int .i64)) (g := Value.bool) hS 2 rfl rfl rfl rfl Tryd.underlying72 (KeyD.int Tryd.underlying3) (fun w_141 hz_142 hS => ?_)
                refine Wx.nil ?_
                refine Wp.done (by kernel_rfl) ?_
                refine W.reg ?_
                refine Wx.rd (v := .int .i64 (q + 1)) (rd_add rfl rfl (in_i64 (by omega) (by omega))) rfl ?_
                refine Wx.rd (v := .int .i64 (q + 1)) (rd_move rfl) rfl ?_
                refine Wx.nil ?_
                refine ⟨(q + 1, mput (mput m ((ix (0, 0) ((sortJ l).take n.toNat) q).1) true) ((ix (0, 0) ((sortJ l).take n.toNat) q).2) true), (by show ((List.take n.toNat (sortJ l)).length - (q + 1)).toNat < ((List.take n.toNat (sortJ l)).length - q).toNat; omega), ?_, ?_, Out.look rfl Out.self⟩
                · exact ⟨hS.tl, (by first | omega | assumption), (by first | omega | assumption), (fun r => by rw [take_ix (d := (0, 0)) g0 c6]; exact met_step h3 r)⟩
                · exact ⟨rfl, trivial⟩
              · -- operation 6
                refine Wx.mapUpdate (m := m) (k := ((ix (0, 0) ((sortJ l).take n.toNat) q).1)) (v := true) (f := (Value.int .i64)) (g := Value.bool) hS 2 rfl rfl rfl rfl Tryd.underlying72 (KeyD.int Tryd.underlying3) (fun w_143 hz_144 hS => ?_)
                refine Wx.nil ?_
                refine Wp.br [5] (by kernel_rfl) (by decide) ⟨⟨_, rfl, ?_⟩, trivial⟩
                refine Wx.rd (v := .int .i64 ((ix (0, 0) ((sortJ l).take n.toNat) q).2)) (rd_loadX hS 0 rfl rfl rfl Tryd.isAgg3) rfl ?_
                refine Wx.nil ?_
                refine Wp.br [7] (by kernel_rfl) (by decide) ⟨⟨_, rfl, ?_⟩, trivial⟩
                refine Wx.mapUpdate (m := (mput m ((ix (0, 0) ((sortJ l).take n.toNat) q).1) true)) (k := ((ix (0, 0) ((sortJ l).take n.toNat) q).2)) (v := true) (f := (Value.int .i64)) (g := Value.bool) hS 2 rfl rfl rfl rfl Tryd.underlying72 (KeyD.int Tryd.underlying3) (fun w_145 hz_146 hS => ?_)
                refine Wx.nil ?_
                refine Wp.done (by kernel_rfl) ?_
                refine W.reg ?_
                refine Wx.rd (v := .int .i64 (q + 1)) (rd_add rfl rfl (in_i64 (by omega) (by omega))) rfl ?_
                refine Wx.rd (v := .int .i64 (q + 1)) (rd_move rfl) rfl ?_
                refine Wx.nil ?_
                refine ⟨(q + 1, mput (mput m ((ix (0, 0) ((sortJ l).take n.toNat) q).1) true) ((ix (0, 0) ((sortJ l).take n.toNat) q).2) true), (by show ((List.take n.toNat (sortJ l)).length - (q + 1)).toNat < ((List.take n.toNat (sortJ l)).length - q).toNat; omega), ?_, ?_, Out.look rfl Out.self⟩
                · exact ⟨hS.tl, (by first | omega | assumption), (by first | omega | assumption), (fun r => by rw [take_ix (d := (0, 0)) g0 c6]; exact met_step h3 r)⟩
                · exact ⟨rfl, trivial⟩
            · -- operation 5
              refine Wx.rd (v := .int .i64 ((ix (0, 0) ((sortJ l).take n.toNat) q).2)) (rd_loadX hS 0 rfl rfl rfl Tryd.isAgg3) rfl ?_
              refine Wx.nil ?_
              refine Wp.br [2] (by kernel_rfl) (by decide) ⟨⟨_, rfl, ?_⟩, trivial⟩
              refine Wx.rd (v := .int .i64 ((ix (0, 0) ((sortJ l).take n.toNat) q).1)) (rd_loadX hS 0 rfl rfl rfl Tryd.isAgg3) rfl ?_
              refine Wx.nil ?_
              refine Wp.br [6] (by kernel_rfl) (by decide) ⟨⟨_, rfl, ?_⟩, trivial⟩
              refine Wx.mapUpdate (m := m) (k := ((ix (0, 0) ((sortJ l).take n.toNat) q).1)) (v := true) (f := (Value.int .i64)) (g := Value.bool) hS 2 rfl rfl rfl rfl Tryd.underlying72 (KeyD.int Tryd.underlying3) (fun w_147 hz_148 hS => ?_)
              refine Wx.nil ?_
              refine Wp.br [7] (by kernel_rfl) (by decide) ⟨⟨_, rfl, ?_⟩, trivial⟩
              refine Wx.mapUpdate (m := (mput m ((ix (0, 0) ((sortJ l).take n.toNat) q).1) true)) (k := ((ix (0, 0) ((sortJ l).take n.toNat) q).2)) (v := true) (f := (Value.int .i64)) (g := Value.bool) hS 2 rfl rfl rfl rfl Tryd.underlying72 (KeyD.int Tryd.underlying3) (fun w_149 hz_150 hS => ?_)
              refine Wx.nil ?_
              refine Wp.done (by kernel_rfl) ?_
              refine W.reg ?_
              refine Wx.rd (v := .int .i64 (q + 1)) (rd_add rfl rfl (in_i64 (by omega) (by omega))) rfl ?_
              refine Wx.rd (v := .int .i64 (q + 1)) (rd_move rfl) rfl ?_
              refine Wx.nil ?_
              refine ⟨(q + 1, mput (mput m ((ix (0, 0) ((sortJ l).take n.toNat) q).1) true) ((ix (0, 0) ((sortJ l).take n.toNat) q).2) true), (by show ((List.take n.toNat (sortJ l)).length - (q + 1)).toNat < ((List.take n.toNat (sortJ l)).length - q).toNat; omega), ?_, ?_, Out.look rfl Out.self⟩
              · exact ⟨hS.tl, (by first | omega | assumption), (by first | omega | assumption), (fun r => by rw [take_ix (d := (0, 0)) g0 c6]; exact met_step h3 r)⟩
              · exact ⟨rfl, trivial⟩
          · -- operation 5
            refine Wx.rd (v := .int .i64 ((ix (0, 0) ((sortJ l).take n.toNat) q).2)) (rd_loadX hS 0 rfl rfl rfl Tryd.isAgg3) rfl ?_
            refine Wx.nil ?_
            refine Wp.br [1] (by kernel_rfl) (by decide) ⟨⟨_, rfl, ?_⟩, trivial⟩
            refine Wx.rd (v := .pointer (some ⟨g_107, 0, none⟩)) (rd_indexArr (n := 0) rfl rfl Tryd.underlying58 Tryd.sizeOf3 (by decide) (by decide)) rfl ?_
            refine Wx.nil ?_
            refine Wp.br [2] (by kernel_rfl) (by decide) ⟨⟨_, rfl, ?_⟩, trivial⟩
            refine Wx.rd (v := .int .i64 ((ix (0, 0) ((sortJ l).take n.toNat) q).1)) (rd_loadX hS 0 rfl rfl rfl Tryd.isAgg3) rfl ?_
            refine Wx.nil ?_
            refine Wp.br [6] (by kernel_rfl) (by decide) ⟨⟨_, rfl, ?_⟩, trivial⟩
            refine Wx.mapUpdate (m := m) (k := ((ix (0, 0) ((sortJ l).take n.toNat) q).1)) (v := true) (f := (Value.int .i64)) (g := Value.bool) hS 2 rfl rfl rfl rfl Tryd.underlying72 (KeyD.int Tryd.underlying3) (fun w_151 hz_152 hS => ?_)
            refine Wx.nil ?_
            refine Wp.br [7] (by kernel_rfl) (by decide) ⟨⟨_, rfl, ?_⟩, trivial⟩
            refine Wx.mapUpdate (m := (mput m ((ix (0, 0) ((sortJ l).take n.toNat) q).1) true)) (k := ((ix (0, 0) ((sortJ l).take n.toNat) q).2)) (v := true) (f := (Value.int .i64)) (g := Value.bool) hS 2 rfl rfl rfl rfl Tryd.underlying72 (KeyD.int Tryd.underlying3) (fun w_153 hz_154 hS => ?_)
            refine Wx.nil ?_
            refine Wp.done (by kernel_rfl) ?_
            refine W.reg ?_
            refine Wx.rd (v := .int .i64 (q + 1)) (rd_add rfl rfl (in_i64 (by omega) (by omega))) rfl ?_
            refine Wx.rd (v := .int .i64 (q + 1)) (rd_move rfl) rfl ?_
            refine Wx.nil ?_
            refine ⟨(q + 1, mput (mput m ((ix (0, 0) ((sortJ l).take n.toNat) q).1) true) ((ix (0, 0) ((sortJ l).take n.toNat) q).2) true), (by show ((List.take n.toNat (sortJ l)).length - (q + 1)).toNat < ((List.take n.toNat (sortJ l)).length - q).toNat; omega), ?_, ?_, Out.look rfl Out.self⟩
            · exact ⟨hS.tl, (by first | omega | assumption), (by first | omega | assumption), (fun r => by rw [take_ix (d := (0, 0)) g0 c6]; exact met_step h3 r)⟩
            · exact ⟨rfl, trivial⟩
      · -- no
        refine W.exit rfl ?_
        refine W.seq ?_
        refine W.block ?_
        refine W.seq ?_
        refine W.reg ?_
        refine Wx.rd (v := .pointer (some ⟨g_86, 0, none⟩)) (rd_indexArr (n := 0) rfl rfl Tryd.underlying58 Tryd.sizeOf3 (by decide) (by decide)) rfl ?_
        refine Wx.rd (v := .int .i64 ((ix (0, 0) (sortJ l) n).1)) (rd_loadX hS 2 rfl rfl rfl Tryd.isAgg3) rfl ?_
        refine Wx.rd (v := .pointer (some ⟨g_86, 1, none⟩)) (rd_indexArr (n := 1) rfl rfl Tryd.underlying58 Tryd.sizeOf3 (by decide) (by decide)) rfl ?_
        refine Wx.rd (v := .int .i64 ((ix (0, 0) (sortJ l) n).2)) (rd_loadX hS 2 rfl rfl rfl Tryd.isAgg3) rfl ?_
        refine Wx.rd (v := .bool (decide (((ix (0, 0) (sortJ l) n).1) = ((ix (0, 0) (sortJ l) n).2)))) (rd_eql rfl rfl) rfl ?_
        refine Wx.rd (v := .bool (decide (((ix (0, 0) (sortJ l) n).1) = ((ix (0, 0) (sortJ l) n).2)))) (rd_assign rfl) rfl ?_
        refine Wx.nil ?_
        refine W.condD rfl (fun c7 => ?_) (fun c7 => ?_)
        · -- yes
          refine W.reg ?_
          refine Wx.rd (v := .int .i64 7) (rd_assign rfl) rfl ?_
          refine Wx.nil ?_
          refine W.seq ?_
          refine W.reg ?_
          refine Wx.rd (v := .int .i64 (validE M (sortJ l))) (rd_move rfl) rfl ?_
          refine Wx.rd (v := .int .i64 7) (rd_move rfl) rfl ?_
          refine Wx.rd (v := .bool true) (Rd.to (v := .bool (decide ((validE M (sortJ l)) = 7))) (rd_eql rfl rfl) (congrArg (Value.bool) (show (true : Bool) = (decide ((validE M (sortJ l)) = 7) : Bool) from (decide_eq_true (by first | exact k7 c7 | exact k6 c7 (by rw [h3, h3, List.take_of_length_le (l := (List.take n.toNat (sortJ l))) (by omega)] at c8; exact c8) | exact k13 c7 (by rw [h3, h3, List.take_of_length_le (l := (List.take n.toNat (sortJ l))) (by omega)] at c8; exact c8) c9 | exact k5 c7 (by rw [h3, h3, List.take_of_length_le (l := (List.take n.toNat (sortJ l))) (by omega)] at c8; exact c8) c9)).symm).symm)) rfl ?_
          refine Wx.rd (v := .bool true) (rd_move rfl) rfl ?_
          refine Wx.gyes rfl rfl rfl ?_
          refine Wx.callF (run_callF Tryd.call16 rfl) (F16 hS.fb_lt (hG.ext hS.bel)) rfl ?_
          rintro r_155 w_156 hx_157 rfl
          have hS := hS.ext hx_157
          refine Wx.rd (v := .bool true) (rd_pickT rfl rfl) rfl ?_
          refine Wx.rd (v := .bool true) (rd_assign rfl) rfl ?_
          refine Wx.nil ?_
          exact W.ret ⟨.bool true, ResIs.one, hS.bel, rfl⟩
        · -- no
          refine W.seq ?_
          refine W.reg ?_
          refine Wx.rd (v := .map (some g_93)) (rd_move rfl) rfl ?_
          refine Wx.rd (v := .pointer (some ⟨g_86, 0, none⟩)) (rd_indexArr (n := 0) rfl rfl Tryd.underlying58 Tryd.sizeOf3 (by decide) (by decide)) rfl ?_
          refine Wx.rd (v := .int .i64 ((ix (0, 0) (sortJ l) n).1)) (rd_loadX hS 2 rfl rfl rfl Tryd.isAgg3) rfl ?_
          refine Wx.rd (v := .bool (mget false m ((ix (0, 0) (sortJ l) n).1))) (rd_lookup (m := m) (zv := false) (k := ((ix (0, 0) (sortJ l) n).1)) (f := (Value.int .i64)) (g := Value.bool) hS 1 rfl rfl rfl Tryd.underlying72 (KeyD.int Tryd.underlying3) (fun _ => Tryd.zeroValue4 _)) rfl ?_
          refine Wx.rd (v := .bool (mget false m ((ix (0, 0) (sortJ l) n).1))) (rd_move rfl) rfl ?_
          refine Wx.cut (X := Unit) 5 [130, 131, 132, 133, 134] (fun _ => [(134, .bool (mget false m ((ix (0, 0) (sortJ l) n).1) || mget false m ((ix (0, 0) (sortJ l) n).2)))]) (fun _ w' => St w O w' [Ob.v (tSl (tP (tI .i64) (tI .i64))) ((sortJ l).take n.toNat) u_95, .raw g_93 (.map (mE (Value.int .i64) Value.bool m 0).toArray m.length), .box g_86 58 [.int .i64 ((ix (0, 0) (sortJ l) n).1), .int .i64 ((ix (0, 0) (sortJ l) n).2)], Ob.v (tSl (tP (tI .i64) (tI .i64))) ((sortJ l).take n.toNat) u_70, Ob.v (tSl (tP (tI .i64) (tI .i64))) (sortJ l) r_47, Ob.v (tSl (tP (tI .i64) (tI .i64))) l lw, .box g_1 43 [.int .u8 e, .int .u8 kd, .int .u8 x0, .int .u8 x1, .int .u8 x2, .int .u8 x3, .int .u8 x4, .int .u8 x5, .int .u8 x6, .int .u8 x7, .int .u8 x8, .int .u8 x9, .int .u8 x10, .int .u8 x11]]) ?_ ?_
          · rcases Bool.eq_false_or_eq_true (mget false m ((ix (0, 0) (sortJ l) n).1)) with g_159 | g_159
            · -- True
              have gp_160 := g_159
              try simp only [Bool.and_eq_true, Bool.or_eq_true, Bool.not_eq_true', Bool.and_eq_false_iff, Bool.or_eq_false_iff, Bool.not_eq_false', decide_eq_true_eq, decide_eq_false_iff_not, not_or, Bool.false_eq_true, Bool.true_eq_false, false_or, or_false, not_false_eq_true] at gp_160
              refine Wx.gnoB rfl rfl (congrArg Value.bool g_159) rfl rfl ?_
              refine Wx.gnoB rfl rfl (congrArg Value.bool g_159) rfl rfl ?_
              refine Wx.gnoB rfl rfl (congrArg Value.bool g_159) rfl rfl ?_
              refine Wx.gnoB rfl rfl (congrArg Value.bool g_159) rfl rfl ?_
              refine Wx.rd (v := .bool true) (rd_pickT (congrArg Value.bool g_159) rfl) rfl ?_
              refine Wx.nil ⟨(), hS, ⟨?_, trivial⟩, Out.look rfl Out.refl⟩
              show Value.bool true = Value.bool (mget false m ((ix (0, 0) (sortJ l) n).1) || mget false m ((ix (0, 0) (sortJ l) n).2))
              first | rw [g_159, Bool.true_or] | (rw [g_159]; rfl)
            · -- False
              have gp_161 := g_159
              try simp only [Bool.and_eq_true, Bool.or_eq_true, Bool.not_eq_true', Bool.and_eq_false_iff, Bool.or_eq_false_iff, Bool.not_eq_false', decide_eq_true_eq, decide_eq_false_iff_not, not_or, Bool.false_eq_true, Bool.true_eq_false, false_or, or_false, not_false_eq_true] at gp_161
              refine Wx.gyes rfl rfl (congrArg Value.bool g_159) ?_
              refine Wx.rd (v := .map (some g_93)) (rd_move rfl) rfl ?_
              refine Wx.gyes rfl rfl (congrArg Value.bool g_159) ?_
              refine Wx.rd (v := .pointer (some ⟨g_86, 1, none⟩)) (rd_indexArr (n := 1) rfl rfl Tryd.underlying58 Tryd.sizeOf3 (by decide) (by decide)) rfl ?_
              refine Wx.gyes rfl rfl (congrArg Value.bool g_159) ?_
              refine Wx.rd (v := .int .i64 ((ix (0, 0) (sortJ l) n).2)) (rd_loadX hS 2 rfl rfl rfl Tryd.isAgg3) rfl ?_
              refine Wx.gyes rfl rfl (congrArg Value.bool g_159) ?_
              refine Wx.rd (v := .bool (mget false m ((ix (0, 0) (sortJ l) n).2))) (rd_lookup (m := m) (zv := false) (k := ((ix (0, 0) (sortJ l) n).2)) (f := (Value.int .i64)) (g := Value.bool) hS 1 rfl rfl rfl Tryd.underlying72 (KeyD.int Tryd.underlying3) (fun _ => Tryd.zeroValue4 _)) rfl ?_
              refine Wx.rd (v := .bool (mget false m ((ix (0, 0) (sortJ l) n).2))) (rd_pickF (congrArg Value.bool g_159) rfl) rfl ?_
              refine Wx.nil ⟨(), hS, ⟨?_, trivial⟩, Out.look rfl Out.refl⟩
              show Value.bool (mget false m ((ix (0, 0) (sortJ l) n).2)) = Value.bool (mget false m ((ix (0, 0) (sortJ l) n).1) || mget false m ((ix (0, 0) (sortJ l) n).2))
              first | rw [g_159, Bool.false_or] | (rw [g_159]; rfl)
          rintro ⟨⟩ u_164 w_163 hS
          refine Wx.rd (v := .bool (mget false m ((ix (0, 0) (sortJ l) n).1) || mget false m ((ix (0, 0) (sortJ l) n).2))) (rd_assign rfl) rfl ?_
          refine Wx.nil ?_
          refine W.cond rfl (fun c8 => ?_) (fun c8 => ?_)
          · -- yes
            try simp only [Bool.and_eq_true, Bool.or_eq_true, Bool.not_eq_true', Bool.and_eq_false_iff, Bool.or_eq_false_iff, Bool.not_eq_false', decide_eq_true_eq, decide_eq_false_iff_not, not_or, Bool.false_eq_true, Bool.true_eq_false, false_or, or_false, not_false_eq_true] at c8
            refine W.reg ?_
            refine Wx.rd (v := .int .i64 6) (rd_assign rfl) rfl ?_
            refine Wx.nil ?_
            refine W.seq ?_
            refine W.reg ?_
            refine Wx.rd (v := .int .i64 (validE M (sortJ l))) (rd_move rfl) rfl ?_
            refine Wx.rd (v := .int .i64 6) (rd_move rfl) rfl ?_
            refine Wx.rd (v := .bool true) (Rd.to (v := .bool (decide ((validE M (sortJ l)) = 6))) (rd_eql rfl rfl) (congrArg (Value.bool) (show (true : Bool) = (decide ((validE M (sortJ l)) = 6) : Bool) from (decide_eq_true (by first | exact k7 c7 | exact k6 c7 (by rw [h3, h3, List.take_of_length_le (l := (List.take n.toNat (sortJ l))) (by omega)] at c8; exact c8) | exact k13 c7 (by rw [h3, h3, List.take_of_length_le (l := (List.take n.toNat (sortJ l))) (by omega)] at c8; exact c8) c9 | exact k5 c7 (by rw [h3, h3, List.take_of_length_le (l := (List.take n.toNat (sortJ l))) (by omega)] at c8; exact c8) c9)).symm).symm)) rfl ?_
            refine Wx.rd (v := .bool true) (rd_move rfl) rfl ?_
            refine Wx.gyes rfl rfl rfl ?_
            refine Wx.callF (run_callF Tryd.call16 rfl) (F16 hS.fb_lt (hG.ext hS.bel)) rfl ?_
            rintro r_165 w_166 hx_167 rfl
            have hS := hS.ext hx_167
            refine Wx.rd (v := .bool true) (rd_pickT rfl rfl) rfl ?_
            refine Wx.rd (v := .bool true) (rd_assign rfl) rfl ?_
            refine Wx.nil ?_
            exact W.ret ⟨.bool true, ResIs.one, hS.bel, rfl⟩
          · -- no
            try simp only [Bool.and_eq_true, Bool.or_eq_true, Bool.not_eq_true', Bool.and_eq_false_iff, Bool.or_eq_false_iff, Bool.not_eq_false', decide_eq_true_eq, decide_eq_false_iff_not, not_or, Bool.false_eq_true, Bool.true_eq_false, false_or, or_false, not_false_eq_true] at c8
            refine W.seq ?_
            refine W.regQ mixedHB_ (by kernel_rfl) ?_
            refine Wx.rd (v := .string M) (rd_move rfl) rfl ?_
            refine Wx.rd (v := .pointer (some ⟨g_86, 0, none⟩)) (rd_indexArr (n := 0) rfl rfl Tryd.underlying58 Tryd.sizeOf3 (by decide) (by decide)) rfl ?_
            refine Wx.rd (v := .int .i64 ((ix (0, 0) (sortJ l) n).1)) (rd_loadX hS 2 rfl rfl rfl Tryd.isAgg3) rfl ?_
            refine Wx.rd (v := .int .u8 (tabAt M ((ix (0, 0) (sortJ l) n).1))) (rd_indexS' (by kernel_rfl) rfl Tryd.underlying9 (by omega) (by omega)) rfl ?_
            have bd_168 := tabAt_bd M ((ix (0, 0) (sortJ l) n).1)
            refine Wx.rd (v := .string M) (rd_move rfl) rfl ?_
            refine Wx.rd (v := .pointer (some ⟨g_86, 1, none⟩)) (rd_indexArr (n := 1) rfl rfl Tryd.underlying58 Tryd.sizeOf3 (by decide) (by decide)) rfl ?_
            refine Wx.rd (v := .int .i64 ((ix (0, 0) (sortJ l) n).2)) (rd_loadX hS 2 rfl rfl rfl Tryd.isAgg3) rfl ?_
            refine Wx.rd (v := .int .u8 (tabAt M ((ix (0, 0) (sortJ l) n).2))) (rd_indexS' (by kernel_rfl) rfl Tryd.underlying9 (by omega) (by omega)) rfl ?_
            have bd_169 := tabAt_bd M ((ix (0, 0) (sortJ l) n).2)
            refine Wx.callV (v := .bool (fitC (tabAt M ((ix (0, 0) (sortJ l) n).1)) (tabAt M ((ix (0, 0) (sortJ l) n).2)))) (run_callF Tryd.call58 rfl) (fun w_170 hw_171 => (F58 (in_u8 (by omega) (by omega)) (in_u8 (by omega) (by omega)))) rfl ?_
            refine Wx.rd (v := .bool (!(fitC (tabAt M ((ix (0, 0) (sortJ l) n).1)) (tabAt M ((ix (0, 0) (sortJ l) n).2))))) (rd_not rfl) rfl ?_
            refine Wx.rd (v := .bool (!(fitC (tabAt M ((ix (0, 0) (sortJ l) n).1)) (tabAt M ((ix (0, 0) (sortJ l) n).2))))) (rd_assign rfl) rfl ?_
            refine Wx.nilQ (fun w_172 hx_173 => ?_)
            have hS := hS.ext hx_173
            refine W.cond rfl (fun c9 => ?_) (fun c9 => ?_)
            · -- yes
              try simp only [Bool.and_eq_true, Bool.or_eq_true, Bool.not_eq_true', Bool.and_eq_false_iff, Bool.or_eq_false_iff, Bool.not_eq_false', decide_eq_true_eq, decide_eq_false_iff_not, not_or, Bool.false_eq_true, Bool.true_eq_false, false_or, or_false, not_false_eq_true] at c9
              refine W.reg ?_
              refine Wx.rd (v := .int .i64 13) (rd_assign rfl) rfl ?_
              refine Wx.nil ?_
              refine W.seq ?_
              refine W.reg ?_
              refine Wx.rd (v := .int .i64 (validE M (sortJ l))) (rd_move rfl) rfl ?_
              refine Wx.rd (v := .int .i64 13) (rd_move rfl) rfl ?_
              refine Wx.rd (v := .bool true) (Rd.to (v := .bool (decide ((validE M (sortJ l)) = 13))) (rd_eql rfl rfl) (congrArg (Value.bool) (show (true : Bool) = (decide ((validE M (sortJ l)) = 13) : Bool) from (decide_eq_true (by first | exact k7 c7 | exact k6 c7 (by rw [h3, h3, List.take_of_length_le (l := (List.take n.toNat (sortJ l))) (by omega)] at c8; exact c8) | exact k13 c7 (by rw [h3, h3, List.take_of_length_le (l := (List.take n.toNat (sortJ l))) (by omega)] at c8; exact c8) c9 | exact k5 c7 (by rw [h3, h3, List.take_of_length_le (l := (List.take n.toNat (sortJ l))) (by omega)] at c8; exact c8) c9)).symm).symm)) rfl ?_
              refine Wx.rd (v := .bool true) (rd_move rfl) rfl ?_
              refine Wx.gyes rfl rfl rfl ?_
              refine Wx.callF (run_callF Tryd.call16 rfl) (F16 hS.fb_lt (hG.ext hS.bel)) rfl ?_
              rintro r_174 w_175 hx_176 rfl
              have hS := hS.ext hx_176
              refine Wx.rd (v := .bool true) (rd_pickT rfl rfl) rfl ?_
              refine Wx.rd (v := .bool true) (rd_assign rfl) rfl ?_
              refine Wx.nil ?_
              exact W.ret ⟨.bool true, ResIs.one, hS.bel, rfl⟩
            · -- no
              try simp only [Bool.and_eq_true, Bool.or_eq_true, Bool.not_eq_true', Bool.and_eq_false_iff, Bool.or_eq_false_iff, Bool.not_eq_false', decide_eq_true_eq, decide_eq_false_iff_not, not_or, Bool.false_eq_true, Bool.true_eq_false, false_or, or_false, not_false_eq_true] at c9
              refine W.skip ?_
              refine W.seq ?_
              refine W.reg ?_
              refine Wx.rd (v := .int .i64 (validE M (sortJ l))) (rd_move rfl) rfl ?_
              refine Wx.rd (v := .int .i64 5) (rd_move rfl) rfl ?_
              refine Wx.rd (v := .bool true) (Rd.to (v := .bool (decide ((validE M (sortJ l)) = 5))) (rd_eql rfl rfl) (congrArg (Value.bool) (show (true : Bool) = (decide ((validE M (sortJ l)) = 5) : Bool) from (decide_eq_true (by first | exact k7 c7 | exact k6 c7 (by rw [h3, h3, List.take_of_length_le (l := (List.take n.toNat (sortJ l))) (by omega)] at c8; exact c8) | exact k13 c7 (by rw [h3, h3, List.take_of_length_le (l := (List.take n.toNat (sortJ l))) (by omega)] at c8; exact c8) c9 | exact k5 c7 (by rw [h3, h3, List.take_of_length_le (l := (List.take n.toNat (sortJ l))) (by omega)] at c8; exact c8) c9)).symm).symm)) rfl ?_
              refine Wx.rd (v := .bool true) (rd_move rfl) rfl ?_
              refine Wx.gyes rfl rfl rfl ?_
              refine Wx.callF (run_callF Tryd.call16 rfl) (F16 hS.fb_lt (hG.ext hS.bel)) rfl ?_
              rintro r_177 w_178 hx_179 rfl
              have hS := hS.ext hx_179
              refine Wx.rd (v := .bool true) (rd_pickT rfl rfl) rfl ?_
              refine Wx.rd (v := .bool true) (rd_assign rfl) rfl ?_
              refine Wx.nil ?_
              exact W.ret ⟨.bool true, ResIs.one, hS.bel, rfl⟩
end Go.Proofs.YtokdjjebnomciaaDoor

namespace Go.Proofs.YtokdjjebnomciaaDoor
open Go.Wk Go.RowKit Go.Lib Go Go.Proofs
set_option maxRecDepth 100000

/-- What the rows list. -/
def theLaid : List (String × DataW Unit) := [("unicode/utf8.acceptRanges", Rows.laid_unicode_utf8_acceptRanges), ("unicode.properties", Rows.laid_unicode_properties), ("unicode.CaseRanges", Rows.laid_unicode_CaseRanges), ("unicode.Upper", Rows.laid_unicode_Upper), ("unicode/utf8.first", Rows.laid_unicode_utf8_first)]
theorem gProps : ∃ g, Tryd.prog.globalNamed "unicode.properties" = some g ∧ ∃ t, (Tryd.prog.globals[g]?).map (·.type) = some t ∧ Tryd.prog.underlying t = some (.array 256 5) ∧ Tryd.prog.cellsOf t = 256 :=
  ⟨0, by kernel_rfl, 139, by kernel_rfl, by kernel_rfl, by kernel_rfl⟩
theorem acc_eq : (Rows.laid_unicode_utf8_acceptRanges : DataW Unit) = acceptData := by kernel_rfl
theorem props_eq : (Rows.laid_unicode_properties : DataW Unit) = tabData .u8 propertiesTab := by kernel_rfl
theorem laid_of {W : World} (h : laidMetH Tryd.prog theLaid W) (hsh : W.ShapedOpen Tryd.prog) : Laid W := by
  have hL : laidMet Tryd.prog theLaid W := by rwa [MakeChecks.laidMetH_plain _ _ _ (by kernel_rfl)] at h
  have r1 := Lib.laidMet.reads hL (.head _)
  have r2 := Lib.laidMet.reads hL (.tail _ (.head _))
  have r3 := Lib.laidMet.reads hL (.tail _ (.tail _ (.head _)))
  have r4 := Lib.laidMet.reads hL (.tail _ (.tail _ (.tail _ (.head _))))
  have r5 := Lib.laidMet.reads hL (.tail _ (.tail _ (.tail _ (.tail _ (.head _)))))
  rw [acc_eq] at r1
  rw [props_eq] at r2
  rw [show Rows.laid_unicode_CaseRanges = caseData from Pinned.caseRanges_eq] at r3
  rw [show Rows.laid_unicode_Upper = rtabData upperT from Pinned.upper_eq] at r4
  rw [show Rows.laid_unicode_utf8_first = firstData from Pinned.utf8First_eq] at r5
  refine ⟨?_, ?_, ?_, ?_, ?_⟩
  · obtain ⟨g, hg, t, hty, ht, hct⟩ := gProps
    obtain ⟨g', t', cs, fuel, p, hg', ht', hvar, hd⟩ := r2
    obtain rfl := Option.some.inj (hg.symm.trans hg')
    obtain rfl := Option.some.inj (hty.symm.trans ht')
    unfold TabIs
    rw [hvar, ← cells_of_tab ht Tryd.underlying5 (by kernel_rfl) hct hd]
  · exact rvar_of_reads Tryd.lays261 ⟨by kernel_rfl, by kernel_rfl, by kernel_rfl, by kernel_rfl, by kernel_rfl, by kernel_rfl, by kernel_rfl, by kernel_rfl⟩ (by kernel_rfl) (by kernel_rfl) r4
  · exact caseVar_of_reads { Tryd.lays158 with } (by kernel_rfl) ⟨by kernel_rfl, by kernel_rfl, by kernel_rfl, by kernel_rfl, by kernel_rfl, by kernel_rfl⟩ r3
  · exact utf8Tabs_of_reads Tryd.lays260 ⟨by kernel_rfl, by kernel_rfl, by kernel_rfl, by kernel_rfl, by kernel_rfl, by kernel_rfl, by kernel_rfl⟩ r5 r1
  · exact Tryd.laysM144.s1_3 W hsh
/-- The world of the witnesses: the listed variables hold what the text lays. -/
theorem w_shaped (os : Os) (args : Array Value) : ((World.laidAll Tryd.prog os theLaid).forCall (fun _ _ => 0) ⟨#[], args, []⟩).Shaped Tryd.prog := World.shaped_of_ZipB (by kernel_rfl) (by kernel_rfl)
theorem w_laid (os : Os) (args : Array Value) : laidMetH Tryd.prog theLaid ((World.laidAll Tryd.prog os theLaid).forCall (fun _ _ => 0) ⟨#[], args, []⟩).memory := by rw [MakeChecks.laidMetH_plain _ _ _ (by kernel_rfl)]; exact laidMet_laidAll _ (by kernel_rfl) (by kernel_rfl)
end Go.Proofs.YtokdjjebnomciaaDoor

namespace Go.Wk
open Go.RowKit Go.ChangeShapes
section
variable {H : Type} {enc : TypeId × Value → H} {P : Program} {W : World}
theorem RdI.arrayN {k : IntKind} {n m : Nat} {e t : TypeId} (hu : P.underlying t = some (.array n e)) (he : RdI enc P W k m e) (hc : P.cellsOf e = m) (hn : P.cellsOf t = n * m) : RdI enc P W k (n * m) t := by
  intro fuel cs x h
  obtain ⟨xs, f', _, _, hl, hx, hel⟩ := DataW.trod_array hu h
  rw [hc] at hel
  rw [hn] at hl
  have h1 : ∀ j, j ≤ n → ∃ zs : List Int, zs.length = j * m ∧ cs.take (j * m) = zs.map (Value.int k) ∧ ∀ z ∈ zs, InK k z := by
    intro j
    induction j with
    | zero => exact fun _ => ⟨[], by simp, by simp, fun z hz => by cases hz⟩
    | succ j ih =>
      intro hj
      obtain ⟨zs, l1, l2, l3⟩ := ih (by omega)
      have := hel j (by omega)
      cases hxi : xs[j]? with
      | none => rw [List.getElem?_eq_none_iff] at hxi; omega
      | some y =>
        rw [hxi] at this
        obtain ⟨zt, m1, m2, m3⟩ := he _ _ _ this
        refine ⟨zs ++ zt, by rw [List.length_append, l1, m1, Nat.succ_mul], ?_, fun z hz => (List.mem_append.1 hz).elim (l3 z) (m3 z)⟩
        rw [Nat.succ_mul, List.take_add, l2, List.map_append, ← m2]
  obtain ⟨zs, l1, l2, l3⟩ := h1 n (Nat.le_refl n)
  exact ⟨zs, l1, by rw [← l2, List.take_of_length_le (by omega)], l3⟩
end
end Go.Wk

namespace Go.Proofs.YtokdjjebnomciaaDoor.sherdChecked
open Go.ChangeShapes Go.WideShapes Go.ChangeAt Go.RowKit Go.Joins Go.Wk
set_option linter.unusedVariables false

theorem own : ownKnob Tryd.prog.godebug = none := by kernel_rfl
theorem laidOut : laidOutB Tryd.prog = true := by kernel_rfl
theorem cells5 : Tryd.prog.cellsOf 5 = 1 := by kernel_rfl
theorem cells41 : Tryd.prog.cellsOf 41 = 12 := by kernel_rfl
theorem cells43 : Tryd.prog.cellsOf 43 = 14 := by kernel_rfl
theorem cells69 : Tryd.prog.cellsOf 69 = 2 := by kernel_rfl
theorem cells70 : Tryd.prog.cellsOf 70 = 10 := by kernel_rfl
theorem len14 : ∀ zs : List Int, zs.length = 14 → ∃ b0 b1 b2 b3 b4 b5 b6 b7 b8 b9 b10 b11 b12 b13, zs = [b0, b1, b2, b3, b4, b5, b6, b7, b8, b9, b10, b11, b12, b13]
  | [b0, b1, b2, b3, b4, b5, b6, b7, b8, b9, b10, b11, b12, b13], _ => ⟨_, _, _, _, _, _, _, _, _, _, _, _, _, _, rfl⟩
theorem len10 : ∀ zs : List Int, zs.length = 10 → ∃ b0 b1 b2 b3 b4 b5 b6 b7 b8 b9, zs = [b0, b1, b2, b3, b4, b5, b6, b7, b8, b9]
  | [b0, b1, b2, b3, b4, b5, b6, b7, b8, b9], _ => ⟨_, _, _, _, _, _, _, _, _, _, rfl⟩
theorem okWide_array {P : Program} {w : World} {r : Reach} {base : Nat} {t : TypeId} {v : Value} {n : Nat} {e : TypeId} (ht : P.underlying t = some (.array n e)) (h : Value.okWide P w r base t v) : ∃ cs, v = .agg cs ∧ cs.size = P.cellsOf t := by
  simp only [Value.okWide, ht] at h
  obtain ⟨cs, h1, h2, _⟩ := h
  exact ⟨cs, h1, h2⟩

set_option maxRecDepth 100000 in
theorem lifted (os : Os) (started : os.Started) (H : Type) (enc : TypeId × Value → H) :
    ReturnsInHanded {} Tryd.checked os 15 .any (OpenSpec.preRow enc Tryd.prog Tryd.f15 (OpenSpec.ofChange Rows.sherdCheckedSpec) Rows.sherdCheckedRow.domain false Rows.sherdCheckedRow.laid) (Rows.sherdCheckedSpec.post enc Tryd.prog Tryd.f15 false true false false) := by
  refine returnsInHanded_of_row (C := Tryd.checked) (s := OpenSpec.ofChange Rows.sherdCheckedSpec) (F := fun _ _ _ => 0) own started (by kernel_rfl) Tryd.func15 ?_ ?_
  · exact ChangeSpec.witness_shaped (enc := enc) (C := Tryd.checked) (os := os) (X := fun w _ => laidMetH Tryd.prog Rows.sherdCheckedRow.laid w) false (World.laidAll Tryd.prog os Rows.sherdCheckedRow.laid) #[.agg #[.int .u8 0, .int .u8 0, .int .u8 0, .int .u8 0, .int .u8 0, .int .u8 0, .int .u8 0, .int .u8 0, .int .u8 0, .int .u8 0, .int .u8 0, .int .u8 0, .int .u8 0, .int .u8 0], .agg #[.int .u8 0, .int .u8 0, .int .u8 0, .int .u8 0, .int .u8 0, .int .u8 0, .int .u8 0, .int .u8 0, .int .u8 0, .int .u8 0], .int .u8 0] 8 (World.laidAll_os _ _ _) (w_shaped os _) (by kernel_rfl) (by kernel_rfl) (by kernel_rfl) (w_laid os _)
  intro W base args ds gs before hval0 hW hcnd _ _ hL hsh _
  have hval : ∀ (j : Nat) t v, Tryd.f15.params[j]? = some t → args[j]? = some v → Value.okWide Tryd.prog W .any base t v := hval0
  have hW' := hW
  obtain ⟨p, q, hA0, hV, rfl, hfz, hnd⟩ := hW
  have hA : DataW.TrodAll enc Tryd.prog W 0 (fun _ => true) true Tryd.f15.params.toList args.toList ds p := hA0
  rw [Tryd.params15] at hA hval
  obtain ⟨v0, vs0, d0, ds0, p0, q0, hargs, rfl, rfl, h0, r0⟩ := trodAll_cons hA
  obtain ⟨v1, vs1, d1, ds1, p1, q1, rfl, rfl, rfl, h1, r1⟩ := trodAll_cons r0
  obtain ⟨v2, vs2, d2, ds2, p2, q2, rfl, rfl, rfl, h2, r2⟩ := trodAll_cons r1
  obtain ⟨rfl, rfl, rfl⟩ := trodAll_nil r2
  obtain rfl : args = #[v0, v1, v2] := by cases args; simp_all
  obtain ⟨rfl, rfl⟩ := trodVars_none hV
  have k0 := h0
  have lt0 : ∀ x ∈ p0, x.block < W.heap.size := by obtain ⟨m, hm⟩ := k0; exact DataW.trod_lt m _ _ _ hm
  obtain ⟨cs0, rfl, hsz0⟩ := okWide_struct Tryd.underlying43 (hval 0 43 v0 rfl rfl)
  obtain ⟨zs0, hz0, rfl, hin0⟩ := RdI.v (RdI.struct3 Tryd.underlying43 (RdI.int Tryd.underlying5) (RdI.int Tryd.underlying5) (RdI.array Tryd.underlying41 Tryd.underlying5 cells5 cells41) cells5 cells5 cells41 rfl rfl rfl cells43) h0
  obtain ⟨a0_0, a0_1, a0_2, a0_3, a0_4, a0_5, a0_6, a0_7, a0_8, a0_9, a0_10, a0_11, a0_12, a0_13, rfl⟩ := len14 zs0 hz0
  have k1 := h1
  have lt1 : ∀ x ∈ p1, x.block < W.heap.size := by obtain ⟨m, hm⟩ := k1; exact DataW.trod_lt m _ _ _ hm
  obtain ⟨cs1, rfl, hsz1⟩ := okWide_array Tryd.underlying70 (hval 1 70 v1 rfl rfl)
  obtain ⟨zs1, hz1, rfl, hin1⟩ := RdI.v (RdI.arrayN (n := 5) Tryd.underlying70 (RdI.array Tryd.underlying69 Tryd.underlying5 cells5 cells69) cells69 cells70) h1
  obtain ⟨a1_0, a1_1, a1_2, a1_3, a1_4, a1_5, a1_6, a1_7, a1_8, a1_9, rfl⟩ := len10 zs1 hz1
  obtain ⟨a2, rfl, rfl, rfl, u2⟩ := open_int Tryd.underlying5 (hval 2 5 v2 rfl rfl) h2
  clear hA0 hval0
  refine (F15 (hin0 _ (by simp)) (hin0 _ (by simp)) (hin0 _ (by simp)) (hin0 _ (by simp)) (hin0 _ (by simp)) (hin0 _ (by simp)) (hin0 _ (by simp)) (hin0 _ (by simp)) (hin0 _ (by simp)) (hin0 _ (by simp)) (hin0 _ (by simp)) (hin0 _ (by simp)) (hin0 _ (by simp)) (hin0 _ (by simp)) (hin1 _ (by simp)) (hin1 _ (by simp)) (hin1 _ (by simp)) (hin1 _ (by simp)) (hin1 _ (by simp)) (hin1 _ (by simp)) (hin1 _ (by simp)) (hin1 _ (by simp)) (hin1 _ (by simp)) (hin1 _ (by simp)) (inK_of_wf u2) (fun b (h : some b ∈ ([] : List (Option Nat))) => nomatch h) (laid_of hL hsh)).mono fun e W' hE => ?_
  obtain ⟨r, he, bel, hr⟩ := hE
  subst he
  subst hr
  exact ⟨_, rfl, _, _, _, [], _, [], hW', trodAll_mk1 (shut_bool Tryd.underlying4 _), (trodAll_cons_mk (Below.trod laidOut (by kernel_rfl) (of_decide_eq_true (by kernel_rfl)) k0 bel lt0) (trodAll_cons_mk (Below.trod laidOut (by kernel_rfl) (of_decide_eq_true (by kernel_rfl)) k1 bel lt1) (trodAll_cons_mk (shut_int Tryd.underlying5 u2) trodAll_mk0))), rfl, bel.frame _, fun h => by cases h⟩

theorem over : Rows.sherdCheckedRow.holds Tryd.pinned (OpenSpec.ofChange Rows.sherdCheckedSpec) :=
  OpenClaim.holds_of_wide 15 Tryd.f15 rfl rfl rfl rfl rfl rfl rfl ⟨rfl, rfl, rfl, rfl, rfl⟩ rfl rfl rfl rfl rfl (by kernel_rfl) Tryd.func15 (by kernel_rfl)
    (of_decide_eq_true (by kernel_rfl)) (by unfold Func.isWrapper; first | (rw [if_pos (by decide +kernel)]; kernel_rfl) | (rw [if_neg (by decide +kernel)]; exact ⟨rfl, rfl⟩))
    (fun os started H enc _ => by rw [OpenClaim.pre_eq_preRow]; exact lifted os started H enc)

theorem card : Rows.SherdCheckedCardSaid :=
  Claim7.holds_tied_plain_at .later [] [.data, .data, .pinned, .pinned, .pinned] true (true, "b19d624c57feb4ddc557949d072a9df9920d9c9c6e671a3722e11c1f7f3b75a8") false over (fun _ h => by cases h) (by kernel_rfl) (fun _ h => by cases h) sherdChecked_row_tie rfl ⟨rfl, rfl⟩ (by kernel_rfl) rfl
    (fun f fn hf hfn => by
      obtain rfl : f = 15 := Option.some.inj ((show Tryd.prog.funcNamed "bellarmine/bellarminelaw05.SherdChecked" = some 15 by kernel_rfl).symm.trans hf) |>.symm
      obtain rfl : fn = Tryd.f15 := (Option.some.inj (Tryd.func15.symm.trans hfn)).symm
      exact ⟨by kernel_rfl, fun j t ht => by
        rw [Tryd.params15] at ht
        have hm : t ∈ [43, 70, 5] := by simpa using Array.mem_of_getElem? ht
        have hall : ([43, 70, 5].all fun u => !Tryd.prog.wantsStandIn u) = true := by kernel_rfl
        exact (show Tryd.prog.wantsStandIn t = false by simpa using List.all_eq_true.1 hall t hm)⟩)
    (by kernel_rfl)

end Go.Proofs.YtokdjjebnomciaaDoor.sherdChecked
namespace Go.Proofs.YtokdjjebnomciaaDoor
/-- The statement. -/
theorem sherdChecked_proved : Rows.SherdCheckedCardSaid := sherdChecked.card
#print axioms sherdChecked_proved
end Go.Proofs.YtokdjjebnomciaaDoor
