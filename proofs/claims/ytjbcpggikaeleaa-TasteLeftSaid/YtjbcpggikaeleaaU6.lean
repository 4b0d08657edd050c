/-
  WHAT IS PROVED HERE, TEXT BY TEXT (several texts of one prover, joined to one file; the conditions stand in each statement):
  * WHAT IS PROVED HERE: what functions of layer 10 hand back, each out of its own code; the conditions stand in each statement.
  * WHAT IS PROVED HERE: what functions of layer 10 hand back, each out of its own code; the conditions stand in each statement.
  * WHAT IS PROVED HERE: what functions of layer 10 hand back, each out of its own code; the conditions stand in each statement.
  * WHAT IS PROVED HERE: arrays of arrays of numbers as they are read at the start. Conditions: the types' closed facts, as hypotheses.
  * WHAT IS PROVED HERE: structs of five parts, integers of one kind all, as they are read at the start. Conditions: the types' closed facts, as hypotheses.
  * WHAT IS PROVED HERE: the given statement of TasteLeft: for every input it returns true, and each argument reads as it did. Conditions: none.
-/
import Derived.Test.YtjbcpggikaeleaaProg
import Derived.Test.YtjbcpggikaeleaaU2
import Derived.Test.YtjbcpggikaeleaaU5
import Derived.Test.YtjbcpggikaeleaaU3
import Derived.Test.YtjbcpggikaeleaaRows
import Derived.WalkKit
import Derived.ProofKit
import Derived.OpenShut
import Derived.Carry
import Derived.Lib.SmallJoins

set_option linter.unusedVariables false
set_option linter.unusedSimpArgs false

namespace Go.Proofs.Ytjbcpggikaeleaa
open Go.Wk Go.RowKit Go.Lib
set_option linter.unusedVariables false
set_option linter.unusedSimpArgs false
theorem foLl_66_0 : fldOff Try.prog 66 0 = some 0 := by kernel_rfl
theorem foLl_66_1 : fldOff Try.prog 66 1 = some 1 := by kernel_rfl
theorem foLl_66_3 : fldOff Try.prog 66 3 = some 3 := by kernel_rfl
theorem elLl_39 : ElemI Try.prog 39 3 (.int .i64 0) 1 8 := ElemI.of Try.underlying39 (by kernel_rfl) (by first | rfl | kernel_rfl) (by decide)
theorem foLl_66_4 : fldOff Try.prog 66 4 = some 21 := by kernel_rfl
theorem foLl_66_2 : fldOff Try.prog 66 2 = some 2 := by kernel_rfl
theorem elLl_22 : ElemI Try.prog 22 62 (.agg #[(.slice none 0 0), (.slice none 0 0)]) 2 48 := ElemI.of Try.underlying22 (by kernel_rfl) (by first | rfl | kernel_rfl) (by decide)
theorem foLl_62_0 : fldOff Try.prog 62 0 = some 0 := by kernel_rfl
theorem mixedLl_ : Try.prog.follows .mixedOrders = true := by kernel_rfl
theorem foLl_62_1 : fldOff Try.prog 62 1 = some 1 := by kernel_rfl

set_option maxHeartbeats 2000000 in
set_option maxRecDepth 10000 in
theorem F46 {zs : List Int} {most : Int} {O : List (Option Nat)} {w : World} (n_zs : zs.length = 39) (i_zs : ∀ z ∈ zs, InK .u8 z) (i_most : InK .i64 most) (p_m : 0 ≤ most) (p_6 : most ≤ 6) (hO : ∀ b, some b ∈ O → b < w.heap.size) : Calls Try.prog 46 #[.agg (List.map (Value.int .u8) zs).toArray, .int .i64 most] w (Ret w (fun r w' => ∃ l : List Sale, (shopP zs most l) ∧ ∃ rv, r = .tuple #[.int .i64 (shG zs), rv] ∧ FreshO (tP (tSl (tI .i64)) (tSl (tI .i64))) 62 l rv O w.heap.size w')) := by
  have b_most := bd_i64 i_most
  have hz0 := ix_u8 i_zs 0
  have hz1 := ix_u8 i_zs 1
  have hz2 := ix_u8 i_zs 2
  have hN0 := Int.emod_nonneg (ix 0 zs 1) (show most + 1 ≠ 0 by omega)
  have hN1 := Int.emod_lt_of_pos (ix 0 zs 1) (show 0 < most + 1 by omega)
  have hS := St.start w O hO
  refine enterR Try.func46 rfl Try.ntmps46 Try.results46 rfl ?_
  refine W.seq ?_
  refine W.reg ?_
  refine Wx.box (cs := List.map (Value.int .u8) zs) hS rfl rfl rfl (fun g_1 w_2 hx_4 hb_3 hS => ?_)
  refine Wx.rd (v := .int .i64 0) (rd_assign rfl) rfl ?_
  refine Wx.rd (v := (.slice none 0 0)) (rd_assign rfl) rfl ?_
  refine Wx.nil ?_
  refine W.seq ?_
  refine W.reg ?_
  refine Wx.rd (v := .pointer (some ⟨g_1, 0 + 0, none⟩)) (rd_fieldAddr (o := 0) rfl foLl_66_0) rfl ?_
  have bz_5 := ix_u8 i_zs 0
  refine Wx.rd (v := .int .u8 (ix 0 zs 0)) (rd_loadXa (d := 0) (f := (Value.int .u8)) (j := 0) hS 0 rfl rfl (by omega) (by omega) (by omega) Try.isAgg5) rfl ?_
  refine Wx.rd (v := .int .i64 (ix 0 zs 0)) (rd_convIn rfl Try.underlying5 Try.underlying3 (in_i64 (by omega) (by omega))) rfl ?_
  refine Wx.rd (v := .int .i64 ((ix 0 zs 0) % 3)) (rd_rem rfl rfl (by omega) (by omega)) rfl ?_
  refine Wx.rd (v := .int .i64 (1 + ((ix 0 zs 0) % 3))) (rd_add rfl rfl (in_i64 (by omega) (by omega))) rfl ?_
  refine Wx.rd (v := .int .i64 (1 + ((ix 0 zs 0) % 3))) (rd_assign rfl) rfl ?_
  refine Wx.nil ?_
  refine W.seq ?_
  refine W.reg ?_
  refine Wx.rd (v := (.slice none 0 0)) (rd_assign rfl) rfl ?_
  refine Wx.nil ?_
  refine W.seq ?_
  refine W.seq ?_
  refine W.reg ?_
  refine Wx.rd (v := .pointer (some ⟨g_1, 0 + 1, none⟩)) (rd_fieldAddr (o := 0) rfl foLl_66_1) rfl ?_
  have bz_6 := ix_u8 i_zs 1
  refine Wx.rd (v := .int .u8 (ix 0 zs 1)) (rd_loadXa (d := 0) (f := (Value.int .u8)) (j := 1) hS 0 rfl rfl (by omega) (by omega) (by omega) Try.isAgg5) rfl ?_
  refine Wx.rd (v := .int .i64 (ix 0 zs 1)) (rd_convIn rfl Try.underlying5 Try.underlying3 (in_i64 (by omega) (by omega))) rfl ?_
  refine Wx.rd (v := .int .i64 most) (rd_move rfl) rfl ?_
  refine Wx.rd (v := .int .i64 (most + 1)) (rd_add rfl rfl (in_i64 (by omega) (by omega))) rfl ?_
  refine Wx.rd (v := .int .i64 ((ix 0 zs 1) % (most + 1))) (rd_rem rfl rfl (by omega) (by omega)) rfl ?_
  refine Wx.rd (v := .int .i64 0) (rd_move rfl) rfl ?_
  refine Wx.nil ?_
  refine W.block ?_
  have hS := hS.addNil (tP (tSl (tI .i64)) (tSl (tI .i64))) 62
  refine W.loop [7, 8, 9, 10, 11, 12, 13, 14, 15, 16, 17, 18, 19, 20, 21, 33, 34, 35, 36, 37, 38, 39, 40, 41, 42, 43, 44, 45, 46, 47, 48, 49, 50, 51, 52, 53, 54, 55, 56, 57, 58, 59, 60, 61, 62, 63, 64, 65, 66, 67, 68, 69, 70, 71, 72, 73, 74, 75, 76, 77, 78, 79, 80, 81, 82, 83, 84, 85, 86, 87, 88, 89, 90, 91, 92, 93, 94, 95, 96, 97, 98, 99, 100, 101, 102, 103, 104, 105, 106, 107, 108, 109, 110, 111, 112, 113, 114, 115, 116, 117, 118, 119, 120, 121, 122, 123, 124, 125, 126, 127, 128, 129, 130, 131, 132, 133, 134, 135, 136, 137, 138, 139] (fun x : Int × Value × (List ((List Int) × (List Int))) => match x with | (i, ov, out) => [(33, .int .i64 i), (7, ov)]) (fun (x : Int × Value × (List ((List Int) × (List Int)))) w' => match x with | (i, ov, out) => St w O w' [.row (tP (tSl (tI .i64)) (tSl (tI .i64))) 62 ov out, .box g_1 66 (List.map (Value.int .u8) zs)] ∧ 0 ≤ i ∧ i ≤ (ix 0 zs 1 % (most + 1)) ∧ (out.length : Int) = i ∧ (∀ s ∈ out, shS (shG zs) s)) (fun x : Int × Value × (List ((List Int) × (List Int))) => match x with | (i, ov, out) => ((ix 0 zs 1 % (most + 1)) - i).toNat) (0, (.slice none 0 0), []) ⟨rfl, rfl, trivial⟩ ⟨hS, (by first | omega | simp), (by first | omega | simp), (rfl), (fun s hs => nomatch hs)⟩ ?_
  rintro ⟨i, ov, out⟩ u_8 w_7 ⟨hS, h0, h1, h2, h3⟩
  refine W.seq ?_
  refine W.reg ?_
  refine Wx.rd (v := .bool (decide (i < ((ix 0 zs 1) % (most + 1))))) (rd_lss rfl rfl) rfl ?_
  refine Wx.nil ?_
  refine W.seq ?_
  refine W.condD rfl (fun c0 => ?_) (fun c0 => ?_)
  · -- yes
    refine W.skip ?_
    refine W.seq ?_
    refine W.block ?_
    refine W.seq ?_
    refine W.reg ?_
    refine Wx.rd (v := .int .i64 i) (rd_move rfl) rfl ?_
    refine Wx.rd (v := .int .i64 i) (rd_assign rfl) rfl ?_
    refine Wx.nil ?_
    refine W.seq ?_
    refine W.reg ?_
    refine Wx.rd (v := (.slice none 0 0)) (rd_assign rfl) rfl ?_
    refine Wx.rd (v := (.slice none 0 0)) (rd_assign rfl) rfl ?_
    refine Wx.nil ?_
    refine W.seq ?_
    refine W.seq ?_
    refine W.reg ?_
    refine Wx.rd (v := .int .i64 (1 + ((ix 0 zs 0) % 3))) (rd_move rfl) rfl ?_
    refine Wx.rd (v := .int .i64 0) (rd_move rfl) rfl ?_
    refine Wx.nil ?_
    refine W.block ?_
    have hS := hS.addNil (tI .i64) 3
    have hS := hS.addNil (tI .i64) 3
    refine W.loop [9, 10, 11, 37, 38, 39, 40, 41, 42, 43, 44, 45, 46, 47, 48, 49, 50, 51, 52, 53, 54, 55, 56, 57, 58, 59, 60, 61, 62, 63] (fun x : Int × Value × (List Int) × Value × (List Int) => match x with | (k, pv, p, tv, t) => [(37, .int .i64 k), (9, pv), (10, tv)]) (fun (x : Int × Value × (List Int) × Value × (List Int)) w' => match x with | (k, pv, p, tv, t) => St w O w' [.row (tI .i64) 3 tv t, .row (tI .i64) 3 pv p, .row (tP (tSl (tI .i64)) (tSl (tI .i64))) 62 ov out, .box g_1 66 (List.map (Value.int .u8) zs)] ∧ 0 ≤ k ∧ k ≤ (1 + ix 0 zs 0 % 3) ∧ (p.length : Int) = k ∧ (t.length : Int) = k ∧ (∀ x ∈ p, 1 ≤ x ∧ x ≤ 4) ∧ (∀ x ∈ t, 0 ≤ x ∧ x ≤ 4)) (fun x : Int × Value × (List Int) × Value × (List Int) => match x with | (k, pv, p, tv, t) => ((1 + ix 0 zs 0 % 3) - k).toNat) (0, (.slice none 0 0), [], (.slice none 0 0), []) ⟨rfl, rfl, rfl, trivial⟩ ⟨hS, (by first | omega | simp), (by first | omega | simp), (rfl), (rfl), (fun s hs => nomatch hs), (fun s hs => nomatch hs)⟩ ?_
    rintro ⟨k, pv, p, tv, t⟩ u_10 w_9 ⟨hS, k0, k1, k2, k3, k4, k5⟩
    refine W.seq ?_
    refine W.reg ?_
    refine Wx.rd (v := .bool (decide (k < (1 + ((ix 0 zs 0) % 3))))) (rd_lss rfl rfl) rfl ?_
    refine Wx.nil ?_
    refine W.seq ?_
    refine W.condD rfl (fun c1 => ?_) (fun c1 => ?_)
    · -- yes
      refine W.skip ?_
      refine W.seq ?_
      refine W.block ?_
      refine W.seq ?_
      refine W.reg ?_
      refine Wx.rd (v := .int .i64 k) (rd_move rfl) rfl ?_
      refine Wx.rd (v := .int .i64 k) (rd_assign rfl) rfl ?_
      refine Wx.nil ?_
      refine W.seq ?_
      refine W.reg ?_
      refine Wx.rd (v := pv) (rd_move rfl) rfl ?_
      refine Wx.rd (v := .int .i64 i) (rd_move rfl) rfl ?_
      refine Wx.rd (v := .int .i64 k) (rd_move rfl) rfl ?_
      refine Wx.rd (v := .pointer (some ⟨g_1, 0 + 3, none⟩)) (rd_fieldAddr (o := 0) rfl foLl_66_3) rfl ?_
      refine Wx.rd (v := .pointer (some ⟨g_1, 0 + 3 + i.toNat * 3, none⟩)) (rd_indexArr rfl rfl Try.underlying64 Try.sizeOf63 (by omega) (by omega)) rfl ?_
      refine Wx.rd (v := .pointer (some ⟨g_1, 0 + 3 + i.toNat * 3 + k.toNat * 1, none⟩)) (rd_indexArr rfl rfl Try.underlying63 Try.sizeOf5 (by omega) (by omega)) rfl ?_
      have bz_11 := ix_u8 i_zs (3 + i * 3 + k)
      refine Wx.rd (v := .int .u8 (ix 0 zs (3 + i * 3 + k))) (rd_loadXa (d := 0) (f := (Value.int .u8)) (j := 3 + i * 3 + k) hS 3 rfl rfl (by omega) (by omega) (by omega) Try.isAgg5) rfl ?_
      refine Wx.rd (v := .int .i64 (ix 0 zs (3 + i * 3 + k))) (rd_convIn rfl Try.underlying5 Try.underlying3 (in_i64 (by omega) (by omega))) rfl ?_
      refine Wx.rd (v := .int .i64 ((ix 0 zs (3 + i * 3 + k)) % 4)) (rd_rem rfl rfl (by omega) (by omega)) rfl ?_
      refine Wx.rd (v := .int .i64 (1 + ((ix 0 zs (3 + i * 3 + k)) % 4))) (rd_add rfl rfl (in_i64 (by omega) (by omega))) rfl ?_
      refine Wx.lit (t := (tI .i64)) (ys := [1 + ((ix 0 zs (3 + i * 3 + k)) % 4)]) (vs := [.int .i64 (1 + ((ix 0 zs (3 + i * 3 + k)) % 4))]) elLl_39 hS rfl rfl ⟨(V.mkInt (in_i64 (by omega) (by omega))), trivial⟩ (by decide) rfl (fun v_12 w_13 hx_14 hS => ?_)
      refine Wx.append elLl_39 hS 2 rfl rfl rfl (Src.ofR hS 0 rfl) (by simp only [maxLen]; simp; omega) (by simp; omega) rfl (fun v_15 w_16 hz_17 hS => ?_)
      refine Wx.rd (v := v_15) (rd_assign rfl) rfl ?_
      refine Wx.nil ?_
      refine W.reg ?_
      refine Wx.rd (v := tv) (rd_move rfl) rfl ?_
      refine Wx.rd (v := .int .i64 i) (rd_move rfl) rfl ?_
      refine Wx.rd (v := .int .i64 k) (rd_move rfl) rfl ?_
      refine Wx.rd (v := .pointer (some ⟨g_1, 0 + 21, none⟩)) (rd_fieldAddr (o := 0) rfl foLl_66_4) rfl ?_
      refine Wx.rd (v := .pointer (some ⟨g_1, 0 + 21 + i.toNat * 3, none⟩)) (rd_indexArr rfl rfl Try.underlying64 Try.sizeOf63 (by omega) (by omega)) rfl ?_
      refine Wx.rd (v := .pointer (some ⟨g_1, 0 + 21 + i.toNat * 3 + k.toNat * 1, none⟩)) (rd_indexArr rfl rfl Try.underlying63 Try.sizeOf5 (by omega) (by omega)) rfl ?_
      have bz_18 := ix_u8 i_zs (21 + i * 3 + k)
      refine Wx.rd (v := .int .u8 (ix 0 zs (21 + i * 3 + k))) (rd_loadXa (d := 0) (f := (Value.int .u8)) (j := 21 + i * 3 + k) hS 4 rfl rfl (by omega) (by omega) (by omega) Try.isAgg5) rfl ?_
      refine Wx.rd (v := .int .i64 (ix 0 zs (21 + i * 3 + k))) (rd_convIn rfl Try.underlying5 Try.underlying3 (in_i64 (by omega) (by omega))) rfl ?_
      refine Wx.rd (v := .int .i64 ((ix 0 zs (21 + i * 3 + k)) % 5)) (rd_rem rfl rfl (by omega) (by omega)) rfl ?_
      refine Wx.lit (t := (tI .i64)) (ys := [(ix 0 zs (21 + i * 3 + k)) % 5]) (vs := [.int .i64 ((ix 0 zs (21 + i * 3 + k)) % 5)]) elLl_39 hS rfl rfl ⟨(V.mkInt (in_i64 (by omega) (by omega))), trivial⟩ (by decide) rfl (fun v_19 w_20 hx_21 hS => ?_)
      refine Wx.append elLl_39 hS 2 rfl rfl rfl (Src.ofR hS 0 rfl) (by simp only [maxLen]; simp; omega) (by simp; omega) rfl (fun v_22 w_23 hz_24 hS => ?_)
      refine Wx.rd (v := v_22) (rd_assign rfl) rfl ?_
      refine Wx.nil ?_
      refine W.reg ?_
      refine Wx.rd (v := .int .i64 (k + 1)) (rd_add rfl rfl (in_i64 (by omega) (by omega))) rfl ?_
      refine Wx.rd (v := .int .i64 (k + 1)) (rd_move rfl) rfl ?_
      refine Wx.nil ?_
      refine ⟨(k + 1, v_15, p ++ [1 + ((ix 0 zs (3 + i * 3 + k)) % 4)], v_22, t ++ [(ix 0 zs (21 + i * 3 + k)) % 5]), (by show ((1 + ix 0 zs 0 % 3) - (k + 1)).toNat < ((1 + ix 0 zs 0 % 3) - k).toNat; omega), ?_, ?_, Out.look rfl Out.self⟩
      · exact ⟨St.tl (hS.tl), (by first | omega | assumption), (by first | omega | assumption), (by simp only [List.length_append, List.length_cons, List.length_nil]; omega), (by simp only [List.length_append, List.length_cons, List.length_nil]; omega), (snoc_all k4 (by omega)), (snoc_all k5 (by omega))⟩
      · exact ⟨rfl, rfl, rfl, trivial⟩
    · -- no
      refine W.exit rfl ?_
      refine W.seq ?_
      refine W.seq ?_
      refine W.reg ?_
      refine Wx.rd (v := .pointer (some ⟨g_1, 0 + 2, none⟩)) (rd_fieldAddr (o := 0) rfl foLl_66_2) rfl ?_
      have bz_25 := ix_u8 i_zs 2
      refine Wx.rd (v := .int .u8 (ix 0 zs 2)) (rd_loadXa (d := 0) (f := (Value.int .u8)) (j := 2) hS 3 rfl rfl (by omega) (by omega) (by omega) Try.isAgg5) rfl ?_
      refine Wx.rd (v := .int .u8 ((ix 0 zs 2) % 2)) (rd_rem rfl rfl (by omega) (by omega)) rfl ?_
      refine Wx.rd (v := .bool (decide (((ix 0 zs 2) % 2) = 1))) (rd_eql rfl rfl) rfl ?_
      refine Wx.nil ?_
      have hS := hS.freeze 0 rfl
      refine W.cutK [10, 12, 13, 14, 15, 16, 17, 18, 19, 20, 21, 68, 69, 70, 71, 72, 73, 74, 75, 76, 77, 78, 79, 80, 81, 82, 83, 84, 85, 86, 87, 88, 89, 90, 91, 92, 93, 94, 95, 96, 97, 98, 99, 100, 101, 102, 103, 104, 105, 106, 107, 108, 109, 110, 111, 112, 113, 114, 115, 116, 117, 118, 119, 120, 121, 122, 123, 124, 125, 126, 127, 128, 129, 130, 131, 132] (fun x : Value × (List Int) => match x with | (jv, tj) => [(10, jv)]) (fun (x : Value × (List Int)) w' => match x with | (jv, tj) => St w O w' [Ob.v (tSl (tI .i64)) tj jv, Ob.v (tSl (tI .i64)) t tv, .row (tI .i64) 3 pv p, .row (tP (tSl (tI .i64)) (tSl (tI .i64))) 62 ov out, .box g_1 66 (List.map (Value.int .u8) zs)] ∧ (tj.length : Int) = (1 + ix 0 zs 0 % 3) ∧ (∀ x ∈ tj, 0 ≤ x ∧ x ≤ 4)) ?_ ?_
      · -- up to the cut
        refine W.condD rfl (fun c2 => ?_) (fun c2 => ?_)
        · -- yes
          refine W.seq ?_
          refine W.reg ?_
          refine Wx.rd (v := .int .i64 i) (rd_move rfl) rfl ?_
          refine Wx.rd (v := .pointer (some ⟨g_1, 0 + 21, none⟩)) (rd_fieldAddr (o := 0) rfl foLl_66_4) rfl ?_
          refine Wx.rd (v := .pointer (some ⟨g_1, 0 + 21 + i.toNat * 3, none⟩)) (rd_indexArr rfl rfl Try.underlying64 Try.sizeOf63 (by omega) (by omega)) rfl ?_
          refine Wx.rd (v := .pointer (some ⟨g_1, 0 + 21 + i.toNat * 3 + (0 : Int).toNat * 1, none⟩)) (rd_indexArr rfl rfl Try.underlying63 Try.sizeOf5 (by omega) (by omega)) rfl ?_
          have bz_28 := ix_u8 i_zs (21 + i * 3 + 0)
          refine Wx.rd (v := .int .u8 (ix 0 zs (21 + i * 3 + 0))) (rd_loadXa (d := 0) (f := (Value.int .u8)) (j := 21 + i * 3 + 0) hS 3 rfl rfl (by omega) (by omega) (by omega) Try.isAgg5) rfl ?_
          refine Wx.rd (v := .int .i64 (ix 0 zs (21 + i * 3 + 0))) (rd_convIn rfl Try.underlying5 Try.underlying3 (in_i64 (by omega) (by omega))) rfl ?_
          refine Wx.rd (v := .int .i64 ((ix 0 zs (21 + i * 3 + 0)) % 9)) (rd_rem rfl rfl (by omega) (by omega)) rfl ?_
          refine Wx.rd (v := .int .i64 (4 + ((ix 0 zs (21 + i * 3 + 0)) % 9))) (rd_add rfl rfl (in_i64 (by omega) (by omega))) rfl ?_
          refine Wx.rd (v := .int .i64 (4 + ((ix 0 zs (21 + i * 3 + 0)) % 9))) (rd_assign rfl) rfl ?_
          refine Wx.nil ?_
          refine W.seq ?_
          refine W.reg ?_
          refine Wx.rd (v := .int .i64 (-1)) (rd_assign rfl) rfl ?_
          refine Wx.nil ?_
          refine W.seq ?_
          refine W.reg ?_
          refine Wx.rd (v := .int .i64 0) (rd_move rfl) rfl ?_
          refine Wx.nil ?_
          refine W.block ?_
          have hv_30 : V (tSl (tI .i64)) t tv _ _ := (hS.v 0 rfl)
          have hS := hS.add (hv_30)
          refine W.loop [10, 13, 14, 15, 16, 17, 18, 19, 20, 21, 76, 77, 78, 79, 80, 81, 82, 83, 84, 85, 86, 87, 88, 89, 90, 91, 92, 93, 94, 95, 96, 97, 98, 99, 100, 101, 102, 103, 104, 105, 106, 107, 108, 109, 110, 111, 112, 113, 114, 115, 116, 117, 118, 119, 120, 121, 122, 123, 124, 125, 126, 127, 128, 129, 130, 131, 132] (fun x : Value × (List Int) × Int × Int => match x with | (t4v, t4, b4, xa) => [(10, t4v), (13, .int .i64 b4), (76, .int .i64 xa)]) (fun (x : Value × (List Int) × Int × Int) w' => match x with | (t4v, t4, b4, xa) => St w O w' [Ob.v (tSl (tI .i64)) t4 t4v, Ob.v (tSl (tI .i64)) t tv, .row (tI .i64) 3 pv p, .row (tP (tSl (tI .i64)) (tSl (tI .i64))) 62 ov out, .box g_1 66 (List.map (Value.int .u8) zs)] ∧ 0 ≤ xa ∧ xa ≤ 5 ∧ (t4.length : Int) = (1 + ix 0 zs 0 % 3) ∧ (∀ x ∈ t4, 0 ≤ x ∧ x ≤ 4) ∧ -1 ≤ b4 ∧ b4 ≤ 343) (fun x : Value × (List Int) × Int × Int => match x with | (t4v, t4, b4, xa) => (5 - xa).toNat) (tv, t, -1, 0) ⟨rfl, rfl, rfl, trivial⟩ ⟨hS, (by first | omega | simp), (by first | omega | simp), (by omega), (k5), (by first | omega | simp), (by first | omega | simp)⟩ ?_
          rintro ⟨t4v, t4, b4, xa⟩ u_32 w_31 ⟨hS, x0, x1, xl, xb, x4, x5⟩
          refine W.seq ?_
          refine W.reg ?_
          refine Wx.rd (v := .bool (decide (xa < 5))) (rd_lss rfl rfl) rfl ?_
          refine Wx.nil ?_
          refine W.seq ?_
          refine W.condD rfl (fun c3 => ?_) (fun c3 => ?_)
          · -- yes
            refine W.skip ?_
            refine W.seq ?_
            refine W.block ?_
            refine W.seq ?_
            refine W.reg ?_
            refine Wx.rd (v := .int .i64 xa) (rd_move rfl) rfl ?_
            refine Wx.rd (v := .int .i64 xa) (rd_assign rfl) rfl ?_
            refine Wx.nil ?_
            refine W.seq ?_
            refine W.reg ?_
            refine Wx.rd (v := .int .i64 0) (rd_move rfl) rfl ?_
            refine Wx.nil ?_
            refine W.block ?_
            have hv_34 : V (tSl (tI .i64)) t4 t4v _ _ := (hS.v 0 rfl)
            have hS := hS.add (hv_34)
            refine W.loop [10, 13, 15, 16, 17, 18, 19, 20, 21, 79, 80, 81, 82, 83, 84, 85, 86, 87, 88, 89, 90, 91, 92, 93, 94, 95, 96, 97, 98, 99, 100, 101, 102, 103, 104, 105, 106, 107, 108, 109, 110, 111, 112, 113, 114, 115, 116, 117, 118, 119, 120, 121, 122, 123, 124, 125, 126, 127, 128, 129, 130, 131] (fun x : Value × (List Int) × Int × Int => match x with | (t6v, t6, b6, ya) => [(10, t6v), (13, .int .i64 b6), (79, .int .i64 ya)]) (fun (x : Value × (List Int) × Int × Int) w' => match x with | (t6v, t6, b6, ya) => St w O w' [Ob.v (tSl (tI .i64)) t6 t6v, Ob.v (tSl (tI .i64)) t4 t4v, Ob.v (tSl (tI .i64)) t tv, .row (tI .i64) 3 pv p, .row (tP (tSl (tI .i64)) (tSl (tI .i64))) 62 ov out, .box g_1 66 (List.map (Value.int .u8) zs)] ∧ 0 ≤ ya ∧ ya ≤ 5 ∧ (t6.length : Int) = (1 + ix 0 zs 0 % 3) ∧ (∀ x ∈ t6, 0 ≤ x ∧ x ≤ 4) ∧ -1 ≤ b6 ∧ b6 ≤ 343) (fun x : Value × (List Int) × Int × Int => match x with | (t6v, t6, b6, ya) => (5 - ya).toNat) (t4v, t4, b4, 0) ⟨rfl, rfl, rfl, trivial⟩ ⟨hS, (by first | omega | simp), (by first | omega | simp), (xl), (xb), (by first | omega | simp), (by first | omega | simp)⟩ ?_
            rintro ⟨t6v, t6, b6, ya⟩ u_36 w_35 ⟨hS, y0, y1, yl, yb, y4, y5⟩
            refine W.seq ?_
            refine W.reg ?_
            refine Wx.rd (v := .bool (decide (ya < 5))) (rd_lss rfl rfl) rfl ?_
            refine Wx.nil ?_
            refine W.seq ?_
            refine W.condD rfl (fun c4 => ?_) (fun c4 => ?_)
            · -- yes
              refine W.skip ?_
              refine W.seq ?_
              refine W.block ?_
              refine W.seq ?_
              refine W.reg ?_
              refine Wx.rd (v := .int .i64 ya) (rd_move rfl) rfl ?_
              refine Wx.rd (v := .int .i64 ya) (rd_assign rfl) rfl ?_
              refine Wx.nil ?_
              refine W.seq ?_
              refine W.reg ?_
              refine Wx.rd (v := .int .i64 0) (rd_move rfl) rfl ?_
              refine Wx.nil ?_
              refine W.block ?_
              have hv_38 : V (tSl (tI .i64)) t6 t6v _ _ := (hS.v 0 rfl)
              have hS := hS.add (hv_38)
              refine W.loop [10, 13, 16, 17, 18, 19, 20, 21, 82, 83, 84, 85, 86, 87, 88, 89, 90, 91, 92, 93, 94, 95, 96, 97, 98, 99, 100, 101, 102, 103, 104, 105, 106, 107, 108, 109, 110, 111, 112, 113, 114, 115, 116, 117, 118, 119, 120, 121, 122, 123, 124, 125, 126, 127, 128, 129, 130] (fun x : Value × (List Int) × Int × Int => match x with | (t8v, t8, b8, za) => [(10, t8v), (13, .int .i64 b8), (82, .int .i64 za)]) (fun (x : Value × (List Int) × Int × Int) w' => match x with | (t8v, t8, b8, za) => St w O w' [Ob.v (tSl (tI .i64)) t8 t8v, Ob.v (tSl (tI .i64)) t6 t6v, Ob.v (tSl (tI .i64)) t4 t4v, Ob.v (tSl (tI .i64)) t tv, .row (tI .i64) 3 pv p, .row (tP (tSl (tI .i64)) (tSl (tI .i64))) 62 ov out, .box g_1 66 (List.map (Value.int .u8) zs)] ∧ 0 ≤ za ∧ za ≤ 5 ∧ (t8.length : Int) = (1 + ix 0 zs 0 % 3) ∧ (∀ x ∈ t8, 0 ≤ x ∧ x ≤ 4) ∧ -1 ≤ b8 ∧ b8 ≤ 343) (fun x : Value × (List Int) × Int × Int => match x with | (t8v, t8, b8, za) => (5 - za).toNat) (t6v, t6, b6, 0) ⟨rfl, rfl, rfl, trivial⟩ ⟨hS, (by first | omega | simp), (by first | omega | simp), (yl), (yb), (by first | omega | simp), (by first | omega | simp)⟩ ?_
              rintro ⟨t8v, t8, b8, za⟩ u_40 w_39 ⟨hS, z0, z1, zl, zb, z4, z5⟩
              refine W.seq ?_
              refine W.reg ?_
              refine Wx.rd (v := .bool (decide (za < 5))) (rd_lss rfl rfl) rfl ?_
              refine Wx.nil ?_
              refine W.seq ?_
              refine W.condD rfl (fun c5 => ?_) (fun c5 => ?_)
              · -- yes
                refine W.skip ?_
                refine W.seq ?_
                refine W.block ?_
                refine W.seq ?_
                refine W.reg ?_
                refine Wx.rd (v := .int .i64 za) (rd_move rfl) rfl ?_
                refine Wx.rd (v := .int .i64 za) (rd_assign rfl) rfl ?_
                refine Wx.nil ?_
                refine W.seq ?_
                refine W.reg ?_
                refine Wx.rd (v := .int .i64 xa) (rd_move rfl) rfl ?_
                refine Wx.rd (v := .int .i64 ya) (rd_move rfl) rfl ?_
                refine Wx.rd (v := .int .i64 za) (rd_move rfl) rfl ?_
                refine Wx.lit (t := (tI .i64)) (ys := [xa, ya, za]) (vs := [.int .i64 xa, .int .i64 ya, .int .i64 za]) elLl_39 hS rfl rfl ⟨(V.mkInt (in_i64 (by omega) (by omega))), ⟨(V.mkInt (in_i64 (by omega) (by omega))), ⟨(V.mkInt (in_i64 (by omega) (by omega))), trivial⟩⟩⟩ (by decide) rfl (fun v_41 w_42 hx_43 hS => ?_)
                refine Wx.rd (v := .int .i64 (1 + ((ix 0 zs 0) % 3))) (rd_move rfl) rfl ?_
                have hS := hS.freeze 0 rfl
                have h3l : (([xa, ya, za] : List Int).length : Int) = 3 := rfl
                refine Wx.ex (rd_sliceH (hS.v 0 rfl) Try.underlying39 Try.sizeOf3 rfl rfl (by omega) (by omega)) rfl (fun u_45 hu_46 => ?_)
                have ln_47 := hu_46.len63
                have hS := hS.add hu_46
                refine Wx.rd (v := u_45) (rd_assign rfl) rfl ?_
                refine Wx.nil ?_
                refine W.seq ?_
                refine W.reg ?_
                refine Wx.rd (v := .int .i64 0) (rd_assign rfl) rfl ?_
                refine Wx.rd (v := .int .i64 1) (rd_assign rfl) rfl ?_
                refine Wx.nil ?_
                refine W.seq ?_
                refine W.seq ?_
                refine W.reg ?_
                refine Wx.rd (v := u_45) (rd_move rfl) rfl ?_
                refine Wx.rd (v := .int .i64 (([xa, ya, za].take (1 + ((ix 0 zs 0) % 3)).toNat).length : Int)) (rd_lenV rfl (hS.v 0 rfl) Try.underlying39) rfl ?_
                refine Wx.rd (v := .int .i64 0) (rd_move rfl) rfl ?_
                refine Wx.nil ?_
                refine W.block ?_
                have hT := len3 (x := xa) (y := ya) (z := za) (g := (1 + ix 0 zs 0 % 3)) ⟨by omega, by omega⟩
                have hTb := take3 (x := xa) (y := ya) (z := za) (g := (1 + ix 0 zs 0 % 3)) ⟨by omega, by omega⟩ ⟨by omega, by omega⟩ ⟨by omega, by omega⟩
                refine W.loop [18, 19, 20, 21, 93, 94, 95, 96, 97, 98, 99, 100, 101, 102, 103, 104, 105, 106, 107, 108, 109, 110, 111, 112, 113, 114, 115, 116, 117, 118] (fun x : Int × Int × Int => match x with | (cost, worth, j) => [(18, .int .i64 cost), (19, .int .i64 worth), (93, .int .i64 j)]) (fun (x : Int × Int × Int) w' => match x with | (cost, worth, j) => St w O w' [Ob.v (tSl (tI .i64)) ([xa, ya, za].take (1 + ((ix 0 zs 0) % 3)).toNat) u_45, Ob.v (tSl (tI .i64)) [xa, ya, za] v_41, Ob.v (tSl (tI .i64)) t8 t8v, Ob.v (tSl (tI .i64)) t6 t6v, Ob.v (tSl (tI .i64)) t4 t4v, Ob.v (tSl (tI .i64)) t tv, .row (tI .i64) 3 pv p, .row (tP (tSl (tI .i64)) (tSl (tI .i64))) 62 ov out, .box g_1 66 (List.map (Value.int .u8) zs)] ∧ 0 ≤ j ∧ j ≤ (1 + ix 0 zs 0 % 3) ∧ 0 ≤ cost ∧ cost ≤ 16 * j ∧ 1 ≤ worth ∧ ((j = 0 → worth ≤ 1) ∧ (j = 1 → worth ≤ 7) ∧ (j = 2 → worth ≤ 49) ∧ (j = 3 → worth ≤ 343))) (fun x : Int × Int × Int => match x with | (cost, worth, j) => ((1 + ix 0 zs 0 % 3) - j).toNat) (0, 1, 0) ⟨rfl, rfl, rfl, trivial⟩ ⟨hS, (by first | omega | simp), (by first | omega | simp), (by first | omega | simp), (by first | omega | simp), (by first | omega | simp), (by omega)⟩ ?_
                rintro ⟨cost, worth, j⟩ u_50 w_49 ⟨hS, j0, j1, j2, j3, j4, j5⟩
                refine W.seq ?_
                refine W.reg ?_
                refine Wx.rd (v := .bool (decide (j < (([xa, ya, za].take (1 + ((ix 0 zs 0) % 3)).toNat).length : Int)))) (rd_lss rfl rfl) rfl ?_
                refine Wx.nil ?_
                refine W.seq ?_
                refine W.condD rfl (fun c6 => ?_) (fun c6 => ?_)
                · -- yes
                  refine W.skip ?_
                  refine W.seq ?_
                  refine W.block ?_
                  refine W.seq ?_
                  refine W.reg ?_
                  refine Wx.rd (v := .int .i64 j) (rd_move rfl) rfl ?_
                  refine Wx.ex (rd_index 0 (hS.v 0 rfl) rfl rfl Try.underlying39 Try.sizeOf3 (by first | omega | (simp only [List.length_set, List.length_append, List.length_cons, List.length_nil, List.length_replicate]; omega)) (by first | omega | (simp only [List.length_set, List.length_append, List.length_cons, List.length_nil, List.length_replicate]; omega))) rfl (fun p_51 hp_52 => ?_)
                  refine Wx.rd (v := .int .i64 (ix 0 ([xa, ya, za].take (1 + ((ix 0 zs 0) % 3)).toNat) j)) (rd_loadI hp_52 rfl Try.isAgg3 Try.sizeOf3) rfl ?_
                  have bd_53 := bd_i64 hp_52.inK
                  refine Wx.rd (v := .int .i64 j) (rd_assign rfl) rfl ?_
                  refine Wx.rd (v := .int .i64 (ix 0 ([xa, ya, za].take (1 + ((ix 0 zs 0) % 3)).toNat) j)) (rd_assign rfl) rfl ?_
                  refine Wx.nil ?_
                  refine W.seq ?_
                  refine W.reg ?_
                  refine Wx.rd (v := .int .i64 cost) (rd_move rfl) rfl ?_
                  refine Wx.rd (v := pv) (rd_move rfl) rfl ?_
                  refine Wx.rd (v := .int .i64 j) (rd_move rfl) rfl ?_
                  refine Wx.indexR hS 6 rfl rfl rfl Try.underlying39 Try.sizeOf3 (by first | omega | (simp only [List.length_set, List.length_append, List.length_cons, List.length_nil, List.length_replicate]; omega)) (by first | omega | (simp only [List.length_set, List.length_append, List.length_cons, List.length_nil, List.length_replicate]; omega)) rfl (fun g_54 hg_55 => ?_)
                  refine Wx.rd (v := .int .i64 (ix 0 p j)) (rd_loadRI' hS 6 rfl hg_55 rfl (by first | omega | (simp only [List.length_set, List.length_append, List.length_cons, List.length_nil, List.length_replicate]; omega)) (by first | omega | (simp only [List.length_set, List.length_append, List.length_cons, List.length_nil, List.length_replicate]; omega)) Try.isAgg3 Try.sizeOf3) rfl ?_
                  have bd_56 := bd_i64 (hS.rowInK' 6 rfl (by first | omega | (simp only [List.length_set, List.length_append, List.length_cons, List.length_nil, List.length_replicate]; omega)) (by first | omega | (simp only [List.length_set, List.length_append, List.length_cons, List.length_nil, List.length_replicate]; omega)) : InK .i64 (ix 0 p j))
                  refine Wx.rd (v := .int .i64 (ix 0 ([xa, ya, za].take (1 + ((ix 0 zs 0) % 3)).toNat) j)) (rd_move rfl) rfl ?_
                  have hqx := ix_in hTb j0 (by omega)
                  have hmm := mul16 (ix_in k4 j0 (by omega)) hqx
                  refine Wx.rd (v := .int .i64 ((ix 0 p j) * (ix 0 ([xa, ya, za].take (1 + ((ix 0 zs 0) % 3)).toNat) j))) (rd_mul rfl rfl (in_i64 (by omega) (by omega))) rfl ?_
                  refine Wx.rd (v := .int .i64 (cost + ((ix 0 p j) * (ix 0 ([xa, ya, za].take (1 + ((ix 0 zs 0) % 3)).toNat) j)))) (rd_add rfl rfl (in_i64 (by omega) (by omega))) rfl ?_
                  refine Wx.rd (v := .int .i64 (cost + ((ix 0 p j) * (ix 0 ([xa, ya, za].take (1 + ((ix 0 zs 0) % 3)).toNat) j)))) (rd_assign rfl) rfl ?_
                  refine Wx.nil ?_
                  refine W.reg ?_
                  refine Wx.rd (v := .int .i64 worth) (rd_move rfl) rfl ?_
                  refine Wx.rd (v := .int .i64 (ix 0 ([xa, ya, za].take (1 + ((ix 0 zs 0) % 3)).toNat) j)) (rd_move rfl) rfl ?_
                  refine Wx.rd (v := .int .i64 ((ix 0 ([xa, ya, za].take (1 + ((ix 0 zs 0) % 3)).toNat) j) + 1)) (rd_add rfl rfl (in_i64 (by omega) (by omega))) rfl ?_
                  refine Wx.rd (v := .pointer (some ⟨g_1, 0 + 2, none⟩)) (rd_fieldAddr (o := 0) rfl foLl_66_2) rfl ?_
                  have bz_57 := ix_u8 i_zs 2
                  refine Wx.rd (v := .int .u8 (ix 0 zs 2)) (rd_loadXa (d := 0) (f := (Value.int .u8)) (j := 2) hS 8 rfl rfl (by omega) (by omega) (by omega) Try.isAgg5) rfl ?_
                  refine Wx.rd (v := .int .u8 ((ix 0 zs 2) / 2)) (rd_quo rfl rfl (by omega) (by omega) (in_u8 (by omega) (by omega))) rfl ?_
                  refine Wx.rd (v := .int .i64 ((ix 0 zs 2) / 2)) (rd_convIn rfl Try.underlying5 Try.underlying3 (in_i64 (by omega) (by omega))) rfl ?_
                  refine Wx.rd (v := .int .i64 j) (rd_move rfl) rfl ?_
                  refine Wx.rd (v := .int .i64 (j + 1)) (rd_add rfl rfl (in_i64 (by omega) (by omega))) rfl ?_
                  have hr0 := Int.emod_nonneg (ix 0 zs 2 / 2) (show j + 1 ≠ 0 by omega)
                  have hr1 := Int.emod_lt_of_pos (ix 0 zs 2 / 2) (show 0 < j + 1 by omega)
                  refine Wx.rd (v := .int .i64 (((ix 0 zs 2) / 2) % (j + 1))) (rd_rem rfl rfl (by omega) (by omega)) rfl ?_
                  refine Wx.rd (v := .int .i64 (((ix 0 ([xa, ya, za].take (1 + ((ix 0 zs 0) % 3)).toNat) j) + 1) + (((ix 0 zs 2) / 2) % (j + 1)))) (rd_add rfl rfl (in_i64 (by omega) (by omega))) rfl ?_
                  have hw7 := mul7 j4 (f := ix 0 (List.take (1 + ix 0 zs 0 % 3).toNat ([xa, ya, za] : List Int)) j + 1 + (ix 0 zs 2 / 2) % (j + 1)) ⟨by omega, by omega⟩
                  refine Wx.rd (v := .int .i64 (worth * (((ix 0 ([xa, ya, za].take (1 + ((ix 0 zs 0) % 3)).toNat) j) + 1) + (((ix 0 zs 2) / 2) % (j + 1))))) (rd_mul rfl rfl (in_i64 (by omega) (by omega))) rfl ?_
                  refine Wx.rd (v := .int .i64 (worth * (((ix 0 ([xa, ya, za].take (1 + ((ix 0 zs 0) % 3)).toNat) j) + 1) + (((ix 0 zs 2) / 2) % (j + 1))))) (rd_assign rfl) rfl ?_
                  refine Wx.nil ?_
                  refine W.reg ?_
                  refine Wx.rd (v := .int .i64 (j + 1)) (rd_add rfl rfl (in_i64 (by omega) (by omega))) rfl ?_
                  refine Wx.rd (v := .int .i64 (j + 1)) (rd_move rfl) rfl ?_
                  refine Wx.nil ?_
                  refine ⟨(cost + ((ix 0 p j) * (ix 0 ([xa, ya, za].take (1 + ((ix 0 zs 0) % 3)).toNat) j)), worth * (((ix 0 ([xa, ya, za].take (1 + ((ix 0 zs 0) % 3)).toNat) j) + 1) + (((ix 0 zs 2) / 2) % (j + 1))), j + 1), (by show ((1 + ix 0 zs 0 % 3) - (j + 1)).toNat < ((1 + ix 0 zs 0 % 3) - j).toNat; omega), ?_, ?_, Out.look rfl Out.self⟩
                  · exact ⟨hS, (by first | omega | assumption), (by first | omega | assumption), (by first | omega | assumption), (by first | omega | assumption), (by first | omega | assumption), (by omega)⟩
                  · exact ⟨rfl, rfl, rfl, trivial⟩
                · -- no
                  refine W.exit rfl ?_
                  refine W.seq ?_
                  refine W.reg ?_
                  refine Wx.rd (v := .int .i64 cost) (rd_move rfl) rfl ?_
                  refine Wx.rd (v := .int .i64 (4 + ((ix 0 zs (21 + i * 3 + 0)) % 9))) (rd_move rfl) rfl ?_
                  refine Wx.rd (v := .bool (decide (cost ≤ (4 + ((ix 0 zs (21 + i * 3 + 0)) % 9))))) (rd_leq rfl rfl) rfl ?_
                  refine Wx.rd (v := .bool (decide (cost ≤ (4 + ((ix 0 zs (21 + i * 3 + 0)) % 9))))) (rd_move rfl) rfl ?_
                  refine Wx.cut (X := Unit) 4 [123, 124, 125, 126] (fun _ => [(126, .bool (decide (cost ≤ (4 + ((ix 0 zs (21 + i * 3 + 0)) % 9))) && decide (b8 < worth)))]) (fun _ w' => St w O w' [Ob.v (tSl (tI .i64)) ([xa, ya, za].take (1 + ((ix 0 zs 0) % 3)).toNat) u_45, Ob.v (tSl (tI .i64)) [xa, ya, za] v_41, Ob.v (tSl (tI .i64)) t8 t8v, Ob.v (tSl (tI .i64)) t6 t6v, Ob.v (tSl (tI .i64)) t4 t4v, Ob.v (tSl (tI .i64)) t tv, .row (tI .i64) 3 pv p, .row (tP (tSl (tI .i64)) (tSl (tI .i64))) 62 ov out, .box g_1 66 (List.map (Value.int .u8) zs)]) ?_ ?_
                  · rcases Bool.eq_false_or_eq_true (decide (cost ≤ (4 + ((ix 0 zs (21 + i * 3 + 0)) % 9)))) with g_58 | g_58
                    · -- True
                      have gp_59 := of_decide_eq_true g_58
                      refine Wx.gyes rfl rfl (congrArg Value.bool g_58) ?_
                      refine Wx.rd (v := .int .i64 worth) (rd_move rfl) rfl ?_
                      refine Wx.gyes rfl rfl (congrArg Value.bool g_58) ?_
                      refine Wx.rd (v := .int .i64 b8) (rd_move rfl) rfl ?_
                      refine Wx.gyes rfl rfl (congrArg Value.bool g_58) ?_
                      refine Wx.rd (v := .bool (decide (b8 < worth))) (rd_gtr rfl rfl) rfl ?_
                      refine Wx.rd (v := .bool (decide (b8 < worth))) (rd_pickT (congrArg Value.bool g_58) rfl) rfl ?_
                      refine Wx.nil ⟨(), hS, ⟨?_, trivial⟩, Out.look rfl Out.refl⟩
                      show Value.bool (decide (b8 < worth)) = Value.bool (decide (cost ≤ (4 + ((ix 0 zs (21 + i * 3 + 0)) % 9))) && decide (b8 < worth))
                      first | rw [g_58, Bool.true_and] | (rw [g_58]; rfl)
                    · -- False
                      have gp_60 := of_decide_eq_false g_58
                      refine Wx.gnoB rfl rfl (congrArg Value.bool g_58) rfl rfl ?_
                      refine Wx.gnoB rfl rfl (congrArg Value.bool g_58) rfl rfl ?_
                      refine Wx.gnoB rfl rfl (congrArg Value.bool g_58) rfl rfl ?_
                      refine Wx.rd (v := .bool false) (rd_pickF (congrArg Value.bool g_58) rfl) rfl ?_
                      refine Wx.nil ⟨(), hS, ⟨?_, trivial⟩, Out.look rfl Out.refl⟩
                      show Value.bool false = Value.bool (decide (cost ≤ (4 + ((ix 0 zs (21 + i * 3 + 0)) % 9))) && decide (b8 < worth))
                      first | rw [g_58, Bool.false_and] | (rw [g_58]; rfl)
                  rintro ⟨⟩ u_62 w_61 hS
                  refine Wx.nil ?_
                  refine W.cond rfl (fun c7 => ?_) (fun c7 => ?_)
                  · -- yes
                    try simp only [Bool.and_eq_true, Bool.or_eq_true, Bool.not_eq_true', Bool.and_eq_false_iff, Bool.or_eq_false_iff, Bool.not_eq_false', decide_eq_true_eq, decide_eq_false_iff_not, not_or, Bool.false_eq_true, Bool.true_eq_false, false_or, or_false, not_false_eq_true] at c7
                    refine W.reg ?_
                    refine Wx.rd (v := u_45) (rd_move rfl) rfl ?_
                    refine Wx.callF (run_callF Try.call57 rfl) (F57 (hS.v 0 rfl) (by omega)) rfl ?_
                    rintro r_63 w_64 hx_65 ⟨_, rfl, hv_66⟩
                    have hS := hS.pushFr hx_65 hv_66
                    refine Wx.rd (v := .int .i64 worth) (rd_move rfl) rfl ?_
                    refine Wx.rd (v := r_63) (rd_assign rfl) rfl ?_
                    refine Wx.rd (v := .int .i64 worth) (rd_assign rfl) rfl ?_
                    refine Wx.nil ?_
                    refine W.reg ?_
                    refine Wx.rd (v := .int .i64 (za + 1)) (rd_add rfl rfl (in_i64 (by omega) (by omega))) rfl ?_
                    refine Wx.rd (v := .int .i64 (za + 1)) (rd_move rfl) rfl ?_
                    refine Wx.nil ?_
                    have hS := hS.freeze 0 rfl
                    have hv_69 : V (tSl (tI .i64)) ([xa, ya, za].take (1 + ((ix 0 zs 0) % 3)).toNat) r_63 _ _ := (hS.v 0 rfl)
                    refine ⟨(r_63, ([xa, ya, za].take (1 + ((ix 0 zs 0) % 3)).toNat), worth, za + 1), (by show (5 - (za + 1)).toNat < (5 - za).toNat; omega), ?_, ?_, Out.look rfl (Out.hav rfl (Out.look rfl (Out.hav rfl (Out.look rfl Out.self))))⟩
                    · exact ⟨(St.add (St.tl (St.tl (St.tl (St.tl (hS))))) (V.tlF (V.tlF (V.tlF (V.tlF (hv_69)))))), (by first | omega | assumption), (by first | omega | assumption), (by rw [len3 ⟨by omega, by omega⟩]), (take3 ⟨by omega, by omega⟩ ⟨by omega, by omega⟩ ⟨by omega, by omega⟩), (by first | omega | assumption), (by first | omega | assumption)⟩
                    · exact ⟨rfl, rfl, rfl, trivial⟩
                  · -- no
                    try simp only [Bool.and_eq_true, Bool.or_eq_true, Bool.not_eq_true', Bool.and_eq_false_iff, Bool.or_eq_false_iff, Bool.not_eq_false', decide_eq_true_eq, decide_eq_false_iff_not, not_or, Bool.false_eq_true, Bool.true_eq_false, false_or, or_false, not_false_eq_true] at c7
                    refine W.skip ?_
                    refine W.reg ?_
                    refine Wx.rd (v := .int .i64 (za + 1)) (rd_add rfl rfl (in_i64 (by omega) (by omega))) rfl ?_
                    refine Wx.rd (v := .int .i64 (za + 1)) (rd_move rfl) rfl ?_
                    refine Wx.nil ?_
                    have hv_70 : V (tSl (tI .i64)) t8 t8v _ _ := (hS.v 2 rfl)
                    refine ⟨(t8v, t8, b8, za + 1), (by show (5 - (za + 1)).toNat < (5 - za).toNat; omega), ?_, ?_, Out.look rfl (Out.hav rfl (Out.look rfl (Out.hav rfl (Out.look rfl Out.self))))⟩
                    · exact ⟨(St.add (St.tl (St.tl (St.tl (hS)))) (V.tlF (V.tlF (V.tlF (hv_70))))), (by first | omega | assumption), (by first | omega | assumption), (zl), (zb), (by first | omega | assumption), (by first | omega | assumption)⟩
                    · exact ⟨rfl, rfl, rfl, trivial⟩
              · -- no
                refine W.exit rfl ?_
                refine W.reg ?_
                refine Wx.rd (v := .int .i64 (ya + 1)) (rd_add rfl rfl (in_i64 (by omega) (by omega))) rfl ?_
                refine Wx.rd (v := .int .i64 (ya + 1)) (rd_move rfl) rfl ?_
                refine Wx.nil ?_
                have hv_71 : V (tSl (tI .i64)) t8 t8v _ _ := (hS.v 0 rfl)
                refine ⟨(t8v, t8, b8, ya + 1), (by show (5 - (ya + 1)).toNat < (5 - ya).toNat; omega), ?_, ?_, Out.look rfl (Out.hav rfl (Out.look rfl Out.self))⟩
                · exact ⟨(St.add (St.tl (St.tl (hS))) (V.tlF (V.tlF (hv_71)))), (by first | omega | assumption), (by first | omega | assumption), (zl), (zb), (by first | omega | assumption), (by first | omega | assumption)⟩
                · exact ⟨rfl, rfl, rfl, trivial⟩
            · -- no
              refine W.exit rfl ?_
              refine W.reg ?_
              refine Wx.rd (v := .int .i64 (xa + 1)) (rd_add rfl rfl (in_i64 (by omega) (by omega))) rfl ?_
              refine Wx.rd (v := .int .i64 (xa + 1)) (rd_move rfl) rfl ?_
              refine Wx.nil ?_
              have hv_72 : V (tSl (tI .i64)) t6 t6v _ _ := (hS.v 0 rfl)
              refine ⟨(t6v, t6, b6, xa + 1), (by show (5 - (xa + 1)).toNat < (5 - xa).toNat; omega), ?_, ?_, Out.look rfl (Out.hav rfl (Out.look rfl Out.self))⟩
              · exact ⟨(St.add (St.tl (St.tl (hS))) (V.tlF (V.tlF (hv_72)))), (by first | omega | assumption), (by first | omega | assumption), (yl), (yb), (by first | omega | assumption), (by first | omega | assumption)⟩
              · exact ⟨rfl, rfl, rfl, trivial⟩
          · -- no
            refine W.exit rfl ?_
            have hv_73 : V (tSl (tI .i64)) t4 t4v _ _ := (hS.v 0 rfl)
            refine ⟨(t4v, t4), ?_, ?_, Out.look rfl (Out.hav rfl (Out.look rfl Out.refl))⟩
            · exact ⟨(St.add (St.tl (hS)) (V.tlF (hv_73))), (xl), (xb)⟩
            · exact ⟨rfl, trivial⟩
        · -- no
          refine W.skip ?_
          have hv_74 : V (tSl (tI .i64)) t tv _ _ := (hS.v 0 rfl)
          refine ⟨(tv, t), ?_, ?_, Out.look rfl Out.refl⟩
          · exact ⟨(St.add (hS) (hv_74)), (by omega), (k5)⟩
          · exact ⟨rfl, trivial⟩
      rintro ⟨jv, tj⟩ u_76 w_75 ⟨hS, jl, jb⟩
      refine W.reg ?_
      refine Wx.rd (v := ov) (rd_move rfl) rfl ?_
      refine Wx.rd (v := pv) (rd_move rfl) rfl ?_
      refine Wx.rd (v := jv) (rd_move rfl) rfl ?_
      have hS := hS.freeze 2 rfl
      refine Wx.rd (v := .agg #[pv, jv]) (rd_buildC (vs := [(0, pv), (1, jv)]) (us := [(0, .agg #[pv]), (1, .agg #[jv])]) rfl (parts_cons (Go.Wk.cells_one (V.oneC (hS.v 0 rfl))) (parts_cons (Go.Wk.cells_one (V.oneC (hS.v 1 rfl))) parts_nil)) (by kernel_rfl)) rfl ?_
      refine Wx.lit (t := (tP (tSl (tI .i64)) (tSl (tI .i64)))) (ys := [(p, tj)]) (vs := [.agg #[pv, jv]]) elLl_22 hS rfl rfl ⟨(V.mkS2 (z := (p, tj)) (hS.v 0 rfl) (hS.v 1 rfl)), trivial⟩ (by decide) rfl (fun v_78 w_79 hx_80 hS => ?_)
      refine Wx.append elLl_22 hS 4 rfl rfl rfl (Src.ofR hS 0 rfl) (by simp only [maxLen]; simp; omega) (by simp; omega) rfl (fun v_81 w_82 hz_83 hS => ?_)
      refine Wx.rd (v := v_81) (rd_assign rfl) rfl ?_
      refine Wx.nil ?_
      refine W.reg ?_
      refine Wx.rd (v := .int .i64 (i + 1)) (rd_add rfl rfl (in_i64 (by omega) (by omega))) rfl ?_
      refine Wx.rd (v := .int .i64 (i + 1)) (rd_move rfl) rfl ?_
      refine Wx.nil ?_
      refine ⟨(i + 1, v_81, out ++ [(p, tj)]), (by show ((ix 0 zs 1 % (most + 1)) - (i + 1)).toNat < ((ix 0 zs 1 % (most + 1)) - i).toNat; omega), ?_, ?_, Out.look rfl (Out.hav rfl (Out.look rfl (Out.hav rfl (Out.look rfl Out.self))))⟩
      · exact ⟨St.tl (St.tl (St.tl (hS.tl))), (by first | omega | assumption), (by first | omega | assumption), (by simp only [List.length_append, List.length_cons, List.length_nil]; omega), (snoc_all h3 (shop_one (by rw [shG]; omega) (by rw [shG]; omega) k4 jb))⟩
      · exact ⟨rfl, rfl, trivial⟩
  · -- no
    refine W.exit rfl ?_
    refine W.seq ?_
    refine W.reg ?_
    refine Wx.rd (v := .int .i64 (1 + ((ix 0 zs 0) % 3))) (rd_move rfl) rfl ?_
    refine Wx.rd (v := ov) (rd_move rfl) rfl ?_
    refine Wx.rd (v := .int .i64 (1 + ((ix 0 zs 0) % 3))) (rd_assign rfl) rfl ?_
    refine Wx.rd (v := ov) (rd_assign rfl) rfl ?_
    refine Wx.nil ?_
    have e0_0 : (shG zs) = (1 + ((ix 0 zs 0) % 3) : Int) := by rfl
    exact W.ret ⟨.tuple #[.int .i64 (1 + ((ix 0 zs 0) % 3)), ov], ResIs.two, hS.bel, ⟨out, (by exact ⟨by omega, h3⟩), ⟨ov, (by rw [e0_0]), (hS.frO 0 rfl)⟩⟩⟩

theorem F53 {pv : Value} {p : List Int} {Fr_pv : List (Option Nat)} {qv : Value} {q : List Int} {Fr_qv : List (Option Nat)} {uv : Value} {u : List Int} {Fr_uv : List (Option Nat)} {tv : Value} {t : List Int} {Fr_tv : List (Option Nat)} {w : World} (h_pv : V (tSl (tI .i64)) p pv Fr_pv w) (h_qv : V (tSl (tI .i64)) q qv Fr_qv w) (h_uv : V (tSl (tI .i64)) u uv Fr_uv w) (h_tv : V (tSl (tI .i64)) t tv Fr_tv w) (p_p : ∀ x ∈ p, 1 ≤ x ∧ x ≤ 9) (p_q : ∀ x ∈ q, 0 ≤ x ∧ x ≤ 9) (p_t : ∀ x ∈ t, 0 ≤ x ∧ x ≤ 9) (p_3 : (p.length : Int) ≤ 3) (p_e : (q.length : Int) = p.length) (p_f : (t.length : Int) = p.length) : Calls Try.prog 53 #[.agg #[pv, qv], .agg #[uv, tv]] w (Ret w (fun r _ => r = .int .i64 (leadS (p, q) (u, t)))) := by
  have a_pv := h_pv.any
  have l_pv := h_pv.len63
  have a_qv := h_qv.any
  have l_qv := h_qv.len63
  have a_uv := h_uv.any
  have l_uv := h_uv.len63
  have a_tv := h_tv.any
  have l_tv := h_tv.len63
  have hS := St.start0 w
  refine enterR Try.func53 rfl Try.ntmps53 Try.results53 rfl ?_
  refine W.seq ?_
  refine W.reg ?_
  refine Wx.box (cs := [pv, qv]) hS rfl rfl rfl (fun g_1 w_2 hx_4 hb_3 hS => ?_)
  refine Wx.box (cs := [uv, tv]) hS rfl rfl rfl (fun g_5 w_6 hx_8 hb_7 hS => ?_)
  refine Wx.rd (v := .int .i64 0) (rd_assign rfl) rfl ?_
  refine Wx.nil ?_
  refine W.seq ?_
  refine W.reg ?_
  refine Wx.rd (v := .int .i64 0) (rd_assign rfl) rfl ?_
  refine Wx.nil ?_
  refine W.seq ?_
  refine W.seq ?_
  refine W.reg ?_
  refine Wx.rd (v := .pointer (some ⟨g_1, 0, none⟩)) (rd_fieldAddr rfl foLl_62_0) rfl ?_
  refine Wx.rd (v := pv) (rd_loadX hS 1 rfl rfl rfl Try.isAgg39) rfl ?_
  refine Wx.rd (v := .int .i64 (p.length : Int)) (rd_lenV rfl (hS.arg a_pv) Try.underlying39) rfl ?_
  refine Wx.rd (v := .int .i64 0) (rd_move rfl) rfl ?_
  refine Wx.nil ?_
  refine W.block ?_
  refine W.loop [5, 6, 7, 11, 12, 13, 14, 15, 16, 17, 18, 19, 20, 21, 22, 23, 24, 25, 26, 27, 28, 29, 30, 31] (fun x : Int × Int => match x with | (out, k) => [(5, .int .i64 out), (11, .int .i64 k)]) (fun (x : Int × Int) w' => match x with | (out, k) => St w [] w' [.box g_5 62 [uv, tv], .box g_1 62 [pv, qv]] ∧ 0 ≤ k ∧ k ≤ p.length ∧ out + (costV (p.drop k.toNat) (q.drop k.toNat) - costV (p.drop k.toNat) (t.drop k.toNat)) = leadS (p, q) (u, t) ∧ -81 * k ≤ out ∧ out ≤ 81 * k) (fun x : Int × Int => match x with | (out, k) => (p.length - k).toNat) (0, 0) ⟨rfl, rfl, trivial⟩ ⟨hS, (by first | omega | simp), (by first | omega | simp), (Int.zero_add _), (by omega), (by omega)⟩ ?_
  rintro ⟨out, k⟩ u_10 w_9 ⟨hS, h0, h1, h2, h3, h4⟩
  have hm81 := fun h : k < p.length => mul81 (ix_in p_p h0 h) (ix_in p_q h0 (by omega)) (ix_in p_t h0 (by omega))
  have hqb := fun h : k < p.length => ix_in p_q h0 (show k < q.length by omega)
  have htb := fun h : k < p.length => ix_in p_t h0 (show k < t.length by omega)
  refine W.seq ?_
  refine W.reg ?_
  refine Wx.rd (v := .bool (decide (k < (p.length : Int)))) (rd_lss rfl rfl) rfl ?_
  refine Wx.nil ?_
  refine W.seq ?_
  refine W.condD rfl (fun c0 => ?_) (fun c0 => ?_)
  · -- yes
    have hm81 := hm81 c0
    have hqb := hqb c0
    have htb := htb c0
    refine W.skip ?_
    refine W.seq ?_
    refine W.block ?_
    refine W.seq ?_
    refine W.reg ?_
    refine Wx.rd (v := .int .i64 k) (rd_move rfl) rfl ?_
    refine Wx.ex (rd_index 0 (hS.arg a_pv) rfl rfl Try.underlying39 Try.sizeOf3 (by first | omega | (simp only [List.length_set, List.length_append, List.length_cons, List.length_nil, List.length_replicate]; omega)) (by first | omega | (simp only [List.length_set, List.length_append, List.length_cons, List.length_nil, List.length_replicate]; omega))) rfl (fun p_11 hp_12 => ?_)
    refine Wx.rd (v := .int .i64 (ix 0 p k)) (rd_loadI hp_12 rfl Try.isAgg3 Try.sizeOf3) rfl ?_
    have bd_13 := bd_i64 hp_12.inK
    refine Wx.rd (v := .int .i64 k) (rd_assign rfl) rfl ?_
    refine Wx.rd (v := .int .i64 (ix 0 p k)) (rd_assign rfl) rfl ?_
    refine Wx.nil ?_
    refine W.regQ mixedLl_ (by kernel_rfl) ?_
    refine Wx.rd (v := .int .i64 out) (rd_move rfl) rfl ?_
    refine Wx.rd (v := .int .i64 (ix 0 p k)) (rd_move rfl) rfl ?_
    refine Wx.rd (v := .pointer (some ⟨g_1, 1, none⟩)) (rd_fieldAddr rfl foLl_62_1) rfl ?_
    refine Wx.rd (v := qv) (rd_loadX hS 1 rfl rfl rfl Try.isAgg39) rfl ?_
    refine Wx.rd (v := .int .i64 k) (rd_move rfl) rfl ?_
    refine Wx.ex (rd_index 0 (hS.arg a_qv) rfl rfl Try.underlying39 Try.sizeOf3 (by first | omega | (simp only [List.length_set, List.length_append, List.length_cons, List.length_nil, List.length_replicate]; omega)) (by first | omega | (simp only [List.length_set, List.length_append, List.length_cons, List.length_nil, List.length_replicate]; omega))) rfl (fun p_14 hp_15 => ?_)
    refine Wx.rd (v := .int .i64 (ix 0 q k)) (rd_loadI hp_15 rfl Try.isAgg3 Try.sizeOf3) rfl ?_
    have bd_16 := bd_i64 hp_15.inK
    refine Wx.rd (v := .pointer (some ⟨g_5, 1, none⟩)) (rd_fieldAddr rfl foLl_62_1) rfl ?_
    refine Wx.rd (v := tv) (rd_loadX hS 0 rfl rfl rfl Try.isAgg39) rfl ?_
    refine Wx.rd (v := .int .i64 k) (rd_move rfl) rfl ?_
    refine Wx.ex (rd_index 0 (hS.arg a_tv) rfl rfl Try.underlying39 Try.sizeOf3 (by first | omega | (simp only [List.length_set, List.length_append, List.length_cons, List.length_nil, List.length_replicate]; omega)) (by first | omega | (simp only [List.length_set, List.length_append, List.length_cons, List.length_nil, List.length_replicate]; omega))) rfl (fun p_17 hp_18 => ?_)
    refine Wx.rd (v := .int .i64 (ix 0 t k)) (rd_loadI hp_18 rfl Try.isAgg3 Try.sizeOf3) rfl ?_
    have bd_19 := bd_i64 hp_18.inK
    refine Wx.rd (v := .int .i64 ((ix 0 q k) - (ix 0 t k))) (rd_sub rfl rfl (in_i64 (by omega) (by omega))) rfl ?_
    refine Wx.rd (v := .int .i64 ((ix 0 p k) * ((ix 0 q k) - (ix 0 t k)))) (rd_mul rfl rfl (in_i64 (by omega) (by omega))) rfl ?_
    refine Wx.rd (v := .int .i64 (out + ((ix 0 p k) * ((ix 0 q k) - (ix 0 t k))))) (rd_add rfl rfl (in_i64 (by omega) (by omega))) rfl ?_
    refine Wx.rd (v := .int .i64 (out + ((ix 0 p k) * ((ix 0 q k) - (ix 0 t k))))) (rd_assign rfl) rfl ?_
    refine Wx.nilQ (fun w_20 hx_21 => ?_)
    have hS := hS.ext hx_21
    refine W.reg ?_
    refine Wx.rd (v := .int .i64 (k + 1)) (rd_add rfl rfl (in_i64 (by omega) (by omega))) rfl ?_
    refine Wx.rd (v := .int .i64 (k + 1)) (rd_move rfl) rfl ?_
    refine Wx.nil ?_
    refine ⟨(out + ((ix 0 p k) * ((ix 0 q k) - (ix 0 t k))), k + 1), (by show (p.length - (k + 1)).toNat < (p.length - k).toNat; omega), ?_, ?_, Out.look rfl Out.self⟩
    · exact ⟨hS, (by first | omega | assumption), (by first | omega | assumption), (lead_next h0 (by omega) (by omega) (by omega) h2), (by first | omega | assumption), (by first | omega | assumption)⟩
    · exact ⟨rfl, rfl, trivial⟩
  · -- no
    refine W.exit rfl ?_
    refine W.seq ?_
    refine W.reg ?_
    refine Wx.rd (v := .int .i64 out) (rd_move rfl) rfl ?_
    refine Wx.rd (v := .int .i64 out) (rd_assign rfl) rfl ?_
    refine Wx.nil ?_
    have e0_0 : (leadS (p, q) (u, t)) = (out : Int) := by exact lead_end (by omega) h2
    exact W.ret ⟨.int .i64 out, ResIs.one, hS.bel, (by rw [e0_0])⟩
end Go.Proofs.Ytjbcpggikaeleaa

namespace Go.Proofs.Ytjbcpggikaeleaa
open Go.Wk Go.RowKit Go.Lib
set_option linter.unusedVariables false
set_option linter.unusedSimpArgs false
theorem mixedLm_ : Try.prog.follows .mixedOrders = true := by kernel_rfl

set_option maxHeartbeats 4000000 in
set_option maxRecDepth 10000 in
theorem F47 {v : Value} {l : List ((List Int) × (List Int))} {O : List (Option Nat)} {w : World} (h_v : V (tSl (tP (tSl (tI .i64)) (tSl (tI .i64)))) l v O w) (p_ok : SalesOK l) (hO : ∀ b, some b ∈ O → b < w.heap.size) : Calls Try.prog 47 #[v] w (Ret w (fun r _ => r = .bool (!(noR l)))) := by
  obtain ⟨gd, hgd, hok⟩ := p_ok.at
  have hl6 := p_ok.1
  have a_v := h_v
  have l_v := h_v.len63
  have hS := St.start w O hO
  refine enterR Try.func47 rfl Try.ntmps47 Try.results47 rfl ?_
  refine W.seq ?_
  refine W.reg ?_
  refine Wx.rd (v := .bool false) (rd_assign rfl) rfl ?_
  refine Wx.nil ?_
  refine W.seq ?_
  refine W.reg ?_
  refine Wx.rd (v := v) (rd_move rfl) rfl ?_
  refine Wx.rd (v := .int .i64 (l.length : Int)) (rd_lenV rfl (hS.arg a_v) Try.underlying22) rfl ?_
  refine Wx.rd (v := .int .i64 (l.length : Int)) (rd_assign rfl) rfl ?_
  refine Wx.nil ?_
  refine W.seq ?_
  refine W.reg ?_
  refine Wx.alloc (cs := List.map Value.bool (List.replicate 36 false)) hS Try.zeroValue82 (by kernel_rfl) rfl (fun g_1 w_2 hx_4 hb_3 hS => ?_)
  have hS : St _ _ w_2 [.box g_1 82 (List.map Value.bool (List.replicate 36 false))] := hS
  refine Wx.nil ?_
  refine W.seq ?_
  refine W.seq ?_
  refine W.reg ?_
  refine Wx.rd (v := .int .i64 (l.length : Int)) (rd_move rfl) rfl ?_
  refine Wx.rd (v := .int .i64 0) (rd_move rfl) rfl ?_
  refine Wx.nil ?_
  refine W.block ?_
  refine W.loop [5, 6, 15, 16, 17, 18, 19, 20, 21, 22, 23, 24, 25, 26, 27, 28, 29, 30, 31, 32, 33, 34, 35, 36, 37] (fun x : Int × (List Bool) => match x with | (a, T) => [(15, .int .i64 a)]) (fun (x : Int × (List Bool)) w' => match x with | (a, T) => St w O w' [.box g_1 82 (List.map Value.bool T)] ∧ 0 ≤ a ∧ a ≤ l.length ∧ (T.length : Int) = 36 ∧ fillI (gS l) l.length a 0 (tbR T)) (fun x : Int × (List Bool) => match x with | (a, T) => (l.length - a).toNat) (0, (List.replicate 36 false)) ⟨rfl, trivial⟩ ⟨hS, (by first | omega | simp), (by first | omega | simp), (rfl), (fill_start)⟩ ?_
  rintro ⟨a, T⟩ u_6 w_5 ⟨hS, h0, h1, h2, h3⟩
  refine W.seq ?_
  refine W.reg ?_
  refine Wx.rd (v := .bool (decide (a < (l.length : Int)))) (rd_lss rfl rfl) rfl ?_
  refine Wx.nil ?_
  refine W.seq ?_
  refine W.condD rfl (fun c0 => ?_) (fun c0 => ?_)
  · -- yes
    refine W.skip ?_
    refine W.seq ?_
    refine W.block ?_
    refine W.seq ?_
    refine W.reg ?_
    refine Wx.rd (v := .int .i64 a) (rd_move rfl) rfl ?_
    refine Wx.rd (v := .int .i64 a) (rd_assign rfl) rfl ?_
    refine Wx.nil ?_
    refine W.seq ?_
    refine W.reg ?_
    refine Wx.rd (v := .int .i64 (l.length : Int)) (rd_move rfl) rfl ?_
    refine Wx.rd (v := .int .i64 0) (rd_move rfl) rfl ?_
    refine Wx.nil ?_
    refine W.block ?_
    refine W.loop [6, 19, 20, 21, 22, 23, 24, 25, 26, 27, 28, 29, 30, 31, 32, 33, 34, 35, 36] (fun x : Int × (List Bool) => match x with | (b, T2) => [(19, .int .i64 b)]) (fun (x : Int × (List Bool)) w' => match x with | (b, T2) => St w O w' [.box g_1 82 (List.map Value.bool T2)] ∧ 0 ≤ b ∧ b ≤ l.length ∧ (T2.length : Int) = 36 ∧ fillI (gS l) l.length a b (tbR T2)) (fun x : Int × (List Bool) => match x with | (b, T2) => (l.length - b).toNat) (0, T) ⟨rfl, trivial⟩ ⟨hS, (by first | omega | simp), (by first | omega | simp), (h2), (h3)⟩ ?_
    rintro ⟨b, T2⟩ u_8 w_7 ⟨hS, k0, k1, k2, k3⟩
    refine W.seq ?_
    refine W.reg ?_
    refine Wx.rd (v := .bool (decide (b < (l.length : Int)))) (rd_lss rfl rfl) rfl ?_
    refine Wx.nil ?_
    refine W.seq ?_
    refine W.condD rfl (fun c1 => ?_) (fun c1 => ?_)
    · -- yes
      refine W.skip ?_
      refine W.seq ?_
      refine W.block ?_
      refine W.seq ?_
      refine W.reg ?_
      refine Wx.rd (v := .int .i64 b) (rd_move rfl) rfl ?_
      refine Wx.rd (v := .int .i64 b) (rd_assign rfl) rfl ?_
      refine Wx.nil ?_
      refine W.regT 14 mixedLm_ (by kernel_rfl) ?_
      refine Wx.rd (v := .int .i64 a) (rd_move rfl) rfl ?_
      refine Wx.rd (v := .int .i64 b) (rd_move rfl) rfl ?_
      refine Wx.rd (v := v) (rd_move rfl) rfl ?_
      refine Wx.rd (v := .int .i64 a) (rd_move rfl) rfl ?_
      refine Wx.ex (rd_index ([], []) (hS.arg a_v) rfl rfl Try.underlying22 Try.sizeOf62 (by first | omega | (simp only [List.length_set, List.length_append, List.length_cons, List.length_nil, List.length_replicate]; omega)) (by first | omega | (simp only [List.length_set, List.length_append, List.length_cons, List.length_nil, List.length_replicate]; omega))) rfl (fun p_9 hp_10 => ?_)
      refine Wx.ex (rd_load hp_10 rfl Try.isAgg62 Try.sizeOf62) rfl (fun v_11 hv_12 => ?_)
      obtain ⟨v_13, v_14, rfl, hv_15, hv_16⟩ := hv_12.s2
      have hS := hS.add (hv_15)
      have ln_18 := (hS.v 0 rfl).len63
      have hS := hS.add (V.upF (hv_16))
      have ln_20 := (hS.v 0 rfl).len63
      refine Wx.rd (v := v) (rd_move rfl) rfl ?_
      refine Wx.rd (v := .int .i64 b) (rd_move rfl) rfl ?_
      refine Wx.ex (rd_index ([], []) (hS.arg a_v) rfl rfl Try.underlying22 Try.sizeOf62 (by first | omega | (simp only [List.length_set, List.length_append, List.length_cons, List.length_nil, List.length_replicate]; omega)) (by first | omega | (simp only [List.length_set, List.length_append, List.length_cons, List.length_nil, List.length_replicate]; omega))) rfl (fun p_21 hp_22 => ?_)
      refine Wx.ex (rd_load hp_22 rfl Try.isAgg62 Try.sizeOf62) rfl (fun v_23 hv_24 => ?_)
      obtain ⟨v_25, v_26, rfl, hv_27, hv_28⟩ := hv_24.s2
      have hS := hS.add (hv_27)
      have ln_30 := (hS.v 0 rfl).len63
      have hS := hS.add (V.upF (hv_28))
      have ln_32 := (hS.v 0 rfl).len63
      refine Wx.callV (v := .int .i64 (leadS (((ix ([], []) l a).1), ((ix ([], []) l a).2)) (((ix ([], []) l b).1), ((ix ([], []) l b).2)))) (run_callF Try.call53 rfl) (fun w_33 hw_34 => (F53 ((hS.v 3 rfl).ext hw_34) ((hS.v 2 rfl).ext hw_34) ((hS.v 1 rfl).ext hw_34) ((hS.v 0 rfl).ext hw_34) (hok a (by omega) (by omega)).b1 (hok a (by omega) (by omega)).b2 (hok b (by omega) (by omega)).b2 (by have := (hok a (by omega) (by omega)).l1; omega) (by have h1 := (hok a (by omega) (by omega)).l1; have h2 := (hok a (by omega) (by omega)).l2; omega) (by have h1 := (hok a (by omega) (by omega)).l1; have h2 := (hok b (by omega) (by omega)).l2; omega))) rfl ?_
      rw [show (leadS (((ix ([], []) l a).1), ((ix ([], []) l a).2)) (((ix ([], []) l b).1), ((ix ([], []) l b).2)) : Int) = leadS (ix ([], []) l a) (ix ([], []) l b) from rfl]
      have hld := lead_bd9 (hok a (by omega) (by omega)) hgd.2 (hok b (by omega) (by omega))
      refine Wx.rd (v := .bool (decide (0 ≤ (leadS (ix ([], []) l a) (ix ([], []) l b))))) (rd_geq rfl rfl) rfl ?_
      refine Wx.rd (v := .pointer (some ⟨g_1, 0 + a.toNat * 6, none⟩)) (rd_indexArr rfl rfl Try.underlying82 Try.sizeOf81 (by omega) (by omega)) rfl ?_
      refine Wx.rd (v := .pointer (some ⟨g_1, 0 + a.toNat * 6 + b.toNat * 1, none⟩)) (rd_indexArr rfl rfl Try.underlying81 Try.sizeOf4 (by omega) (by omega)) rfl ?_
      refine Wx.nilQ (fun w_35 hx_36 => ?_)
      have hS := hS.ext hx_36
      refine Wx.storeXa (j := a * 6 + b) (f := Value.bool) (u := (decide (0 ≤ (leadS (ix ([], []) l a) (ix ([], []) l b))))) hS 4 rfl rfl (by omega) rfl rfl rfl Try.sizeOf4 (by omega) (by omega) (fun w_37 hz_38 hS => ?_)
      refine Wx.nil ?_
      refine W.reg ?_
      refine Wx.rd (v := .int .i64 (b + 1)) (rd_add rfl rfl (in_i64 (by omega) (by omega))) rfl ?_
      refine Wx.rd (v := .int .i64 (b + 1)) (rd_move rfl) rfl ?_
      refine Wx.nil ?_
      refine ⟨(b + 1, List.set T2 (a * 6 + b).toNat (decide (0 ≤ (leadS (ix ([], []) l a) (ix ([], []) l b))))), (by show (l.length - (b + 1)).toNat < (l.length - b).toNat; omega), ?_, ?_, Out.look rfl Out.self⟩
      · exact ⟨St.tl (St.tl (St.tl (hS.tl))), (by first | omega | assumption), (by first | omega | assumption), (by rw [List.length_set]; exact k2), (tb_fill hl6 k2 ⟨h0, by omega⟩ ⟨k0, by omega⟩ rfl k3)⟩
      · exact ⟨rfl, trivial⟩
    · -- no
      refine W.exit rfl ?_
      refine W.reg ?_
      refine Wx.rd (v := .int .i64 (a + 1)) (rd_add rfl rfl (in_i64 (by omega) (by omega))) rfl ?_
      refine Wx.rd (v := .int .i64 (a + 1)) (rd_move rfl) rfl ?_
      refine Wx.nil ?_
      refine ⟨(a + 1, T2), (by show (l.length - (a + 1)).toNat < (l.length - a).toNat; omega), ?_, ?_, Out.look rfl (Out.hav rfl (Out.look rfl Out.self))⟩
      · exact ⟨hS, (by first | omega | assumption), (by first | omega | assumption), (k2), (fill_row k3 (by omega))⟩
      · exact ⟨rfl, trivial⟩
  · -- no
    refine W.exit rfl ?_
    refine W.seq ?_
    refine W.seq ?_
    refine W.reg ?_
    refine Wx.rd (v := .int .i64 (l.length : Int)) (rd_move rfl) rfl ?_
    refine Wx.rd (v := .int .i64 0) (rd_move rfl) rfl ?_
    refine Wx.nil ?_
    refine W.block ?_
    refine W.loop [7, 8, 9, 39, 40, 41, 42, 43, 44, 45, 46, 47, 48, 49, 50, 51, 52, 53, 54, 55, 56, 57, 58, 59, 60, 61, 62, 63, 64, 65, 66, 67, 68, 69, 70, 71, 72, 73, 74, 75, 76, 77, 78, 79] (fun x : Int × (List Bool) => match x with | (r, T4) => [(39, .int .i64 r)]) (fun (x : Int × (List Bool)) w' => match x with | (r, T4) => St w O w' [.box g_1 82 (List.map Value.bool T4)] ∧ 0 ≤ r ∧ r ≤ l.length ∧ (T4.length : Int) = 36 ∧ RngI (gS l) l.length (r + 1) 0 0 0 (tbR T4)) (fun x : Int × (List Bool) => match x with | (r, T4) => (l.length - r).toNat) (0, T) ⟨rfl, trivial⟩ ⟨hS, (by first | omega | simp), (by first | omega | simp), (h2), (rg_start (fun i _ _ => gS_refl l i) h3 (by omega))⟩ ?_
    rintro ⟨r, T4⟩ u_40 w_39 ⟨hS, r0, r1, r2, r3⟩
    refine W.seq ?_
    refine W.reg ?_
    refine Wx.rd (v := .bool (decide (r < (l.length : Int)))) (rd_lss rfl rfl) rfl ?_
    refine Wx.nil ?_
    refine W.seq ?_
    refine W.condD rfl (fun c2 => ?_) (fun c2 => ?_)
    · -- yes
      refine W.skip ?_
      refine W.seq ?_
      refine W.block ?_
      refine W.seq ?_
      refine W.reg ?_
      refine Wx.rd (v := .int .i64 (l.length : Int)) (rd_move rfl) rfl ?_
      refine Wx.rd (v := .int .i64 0) (rd_move rfl) rfl ?_
      refine Wx.nil ?_
      refine W.block ?_
      refine W.loop [7, 8, 9, 42, 43, 44, 45, 46, 47, 48, 49, 50, 51, 52, 53, 54, 55, 56, 57, 58, 59, 60, 61, 62, 63, 64, 65, 66, 67, 68, 69, 70, 71, 72, 73, 74, 75, 76, 77, 78] (fun x : Int × (List Bool) => match x with | (a, T6) => [(42, .int .i64 a)]) (fun (x : Int × (List Bool)) w' => match x with | (a, T6) => St w O w' [.box g_1 82 (List.map Value.bool T6)] ∧ 0 ≤ a ∧ a ≤ l.length ∧ (T6.length : Int) = 36 ∧ RngI (gS l) l.length (r + 1) a 0 0 (tbR T6)) (fun x : Int × (List Bool) => match x with | (a, T6) => (l.length - a).toNat) (0, T4) ⟨rfl, trivial⟩ ⟨hS, (by first | omega | simp), (by first | omega | simp), (r2), (r3)⟩ ?_
      rintro ⟨a, T6⟩ u_42 w_41 ⟨hS, m0, m1, m2, m3⟩
      refine W.seq ?_
      refine W.reg ?_
      refine Wx.rd (v := .bool (decide (a < (l.length : Int)))) (rd_lss rfl rfl) rfl ?_
      refine Wx.nil ?_
      refine W.seq ?_
      refine W.condD rfl (fun c3 => ?_) (fun c3 => ?_)
      · -- yes
        refine W.skip ?_
        refine W.seq ?_
        refine W.block ?_
        refine W.seq ?_
        refine W.reg ?_
        refine Wx.rd (v := .int .i64 a) (rd_move rfl) rfl ?_
        refine Wx.rd (v := .int .i64 a) (rd_assign rfl) rfl ?_
        refine Wx.nil ?_
        refine W.seq ?_
        refine W.reg ?_
        refine Wx.rd (v := .int .i64 (l.length : Int)) (rd_move rfl) rfl ?_
        refine Wx.rd (v := .int .i64 0) (rd_move rfl) rfl ?_
        refine Wx.nil ?_
        refine W.block ?_
        refine W.loop [8, 9, 46, 47, 48, 49, 50, 51, 52, 53, 54, 55, 56, 57, 58, 59, 60, 61, 62, 63, 64, 65, 66, 67, 68, 69, 70, 71, 72, 73, 74, 75, 76, 77] (fun x : Int × (List Bool) => match x with | (b, T8) => [(46, .int .i64 b)]) (fun (x : Int × (List Bool)) w' => match x with | (b, T8) => St w O w' [.box g_1 82 (List.map Value.bool T8)] ∧ 0 ≤ b ∧ b ≤ l.length ∧ (T8.length : Int) = 36 ∧ RngI (gS l) l.length (r + 1) a b 0 (tbR T8)) (fun x : Int × (List Bool) => match x with | (b, T8) => (l.length - b).toNat) (0, T6) ⟨rfl, trivial⟩ ⟨hS, (by first | omega | simp), (by first | omega | simp), (m2), (m3)⟩ ?_
        rintro ⟨b, T8⟩ u_44 w_43 ⟨hS, q0, q1, q2, q3⟩
        refine W.seq ?_
        refine W.reg ?_
        refine Wx.rd (v := .bool (decide (b < (l.length : Int)))) (rd_lss rfl rfl) rfl ?_
        refine Wx.nil ?_
        refine W.seq ?_
        refine W.condD rfl (fun c4 => ?_) (fun c4 => ?_)
        · -- yes
          refine W.skip ?_
          refine W.seq ?_
          refine W.block ?_
          refine W.seq ?_
          refine W.reg ?_
          refine Wx.rd (v := .int .i64 b) (rd_move rfl) rfl ?_
          refine Wx.rd (v := .int .i64 b) (rd_assign rfl) rfl ?_
          refine Wx.nil ?_
          refine W.seq ?_
          refine W.reg ?_
          refine Wx.rd (v := .int .i64 (l.length : Int)) (rd_move rfl) rfl ?_
          refine Wx.rd (v := .int .i64 0) (rd_move rfl) rfl ?_
          refine Wx.nil ?_
          refine W.block ?_
          refine W.loop [9, 50, 51, 52, 53, 54, 55, 56, 57, 58, 59, 60, 61, 62, 63, 64, 65, 66, 67, 68, 69, 70, 71, 72, 73, 74, 75, 76] (fun x : Int × (List Bool) => match x with | (c, T10) => [(50, .int .i64 c)]) (fun (x : Int × (List Bool)) w' => match x with | (c, T10) => St w O w' [.box g_1 82 (List.map Value.bool T10)] ∧ 0 ≤ c ∧ c ≤ l.length ∧ (T10.length : Int) = 36 ∧ RngI (gS l) l.length (r + 1) a b c (tbR T10)) (fun x : Int × (List Bool) => match x with | (c, T10) => (l.length - c).toNat) (0, T8) ⟨rfl, trivial⟩ ⟨hS, (by first | omega | simp), (by first | omega | simp), (q2), (q3)⟩ ?_
          rintro ⟨c, T10⟩ u_46 w_45 ⟨hS, s0, s1, s2, s3⟩
          refine W.seq ?_
          refine W.reg ?_
          refine Wx.rd (v := .bool (decide (c < (l.length : Int)))) (rd_lss rfl rfl) rfl ?_
          refine Wx.nil ?_
          refine W.seq ?_
          refine W.condD rfl (fun c5 => ?_) (fun c5 => ?_)
          · -- yes
            refine W.skip ?_
            refine W.seq ?_
            refine W.block ?_
            refine W.seq ?_
            refine W.reg ?_
            refine Wx.rd (v := .int .i64 c) (rd_move rfl) rfl ?_
            refine Wx.rd (v := .int .i64 c) (rd_assign rfl) rfl ?_
            refine Wx.nil ?_
            refine W.regT 23 mixedLm_ (by kernel_rfl) ?_
            refine Wx.rd (v := .int .i64 a) (rd_move rfl) rfl ?_
            refine Wx.rd (v := .int .i64 c) (rd_move rfl) rfl ?_
            refine Wx.rd (v := .int .i64 a) (rd_move rfl) rfl ?_
            refine Wx.rd (v := .int .i64 c) (rd_move rfl) rfl ?_
            refine Wx.rd (v := .pointer (some ⟨g_1, 0 + a.toNat * 6, none⟩)) (rd_indexArr rfl rfl Try.underlying82 Try.sizeOf81 (by omega) (by omega)) rfl ?_
            refine Wx.rd (v := .pointer (some ⟨g_1, 0 + a.toNat * 6 + c.toNat * 1, none⟩)) (rd_indexArr rfl rfl Try.underlying81 Try.sizeOf4 (by omega) (by omega)) rfl ?_
            refine Wx.rd (v := .bool (ix false T10 (a * 6 + c))) (rd_loadXa (d := false) (f := Value.bool) (j := a * 6 + c) hS 0 rfl rfl (by omega) (by omega) (by omega) Try.isAgg4) rfl ?_
            refine Wx.rd (v := .bool (ix false T10 (a * 6 + c))) (rd_move rfl) rfl ?_
            refine Wx.cutQ (X := Unit) 13 [61, 62, 63, 64, 65, 66, 67, 68, 69, 70, 71, 72, 73] (fun _ => [(73, .bool (ix false T10 (a * 6 + c) || (ix false T10 (a * 6 + b) && ix false T10 (b * 6 + c))))]) (fun _ => True) ?_ ?_
            · rcases Bool.eq_false_or_eq_true (ix false T10 (a * 6 + c)) with g_47 | g_47
              · -- True
                have gp_48 := g_47
                try simp only [Bool.and_eq_true, Bool.or_eq_true, Bool.not_eq_true', Bool.and_eq_false_iff, Bool.or_eq_false_iff, Bool.not_eq_false', decide_eq_true_eq, decide_eq_false_iff_not, not_or, Bool.false_eq_true, Bool.true_eq_false, false_or, or_false, not_false_eq_true] at gp_48
                refine Wx.gnoB rfl rfl (congrArg Value.bool g_47) rfl rfl ?_
                refine Wx.gnoB rfl rfl (congrArg Value.bool g_47) rfl rfl ?_
                refine Wx.gnoB rfl rfl (congrArg Value.bool g_47) rfl rfl ?_
                refine Wx.gnoB rfl rfl (congrArg Value.bool g_47) rfl rfl ?_
                refine Wx.gnoB rfl rfl (congrArg Value.bool g_47) rfl rfl ?_
                refine Wx.gnoB rfl rfl (congrArg Value.bool g_47) rfl rfl ?_
                refine Wx.gno rfl rfl rfl rfl ?_
                refine Wx.gno rfl rfl rfl rfl ?_
                refine Wx.gno rfl rfl rfl rfl ?_
                refine Wx.gno rfl rfl rfl rfl ?_
                refine Wx.gno rfl rfl rfl rfl ?_
                refine Wx.gnoB rfl rfl (congrArg Value.bool g_47) rfl rfl ?_
                refine Wx.rd (v := .bool true) (rd_pickT (congrArg Value.bool g_47) rfl) rfl ?_
                refine Wx.nilQ (fun _ _ => ⟨(), trivial, ⟨?_, trivial⟩, Out.look rfl Out.refl⟩)
                show Value.bool true = Value.bool (ix false T10 (a * 6 + c) || (ix false T10 (a * 6 + b) && ix false T10 (b * 6 + c)))
                first | rw [g_47, Bool.true_or] | (rw [g_47]; rfl)
              · -- False
                have gp_49 := g_47
                try simp only [Bool.and_eq_true, Bool.or_eq_true, Bool.not_eq_true', Bool.and_eq_false_iff, Bool.or_eq_false_iff, Bool.not_eq_false', decide_eq_true_eq, decide_eq_false_iff_not, not_or, Bool.false_eq_true, Bool.true_eq_false, false_or, or_false, not_false_eq_true] at gp_49
                refine Wx.gyes rfl rfl (congrArg Value.bool g_47) ?_
                refine Wx.rd (v := .int .i64 a) (rd_move rfl) rfl ?_
                refine Wx.gyes rfl rfl (congrArg Value.bool g_47) ?_
                refine Wx.rd (v := .int .i64 b) (rd_move rfl) rfl ?_
                refine Wx.gyes rfl rfl (congrArg Value.bool g_47) ?_
                refine Wx.rd (v := .pointer (some ⟨g_1, 0 + a.toNat * 6, none⟩)) (rd_indexArr rfl rfl Try.underlying82 Try.sizeOf81 (by omega) (by omega)) rfl ?_
                refine Wx.gyes rfl rfl (congrArg Value.bool g_47) ?_
                refine Wx.rd (v := .pointer (some ⟨g_1, 0 + a.toNat * 6 + b.toNat * 1, none⟩)) (rd_indexArr rfl rfl Try.underlying81 Try.sizeOf4 (by omega) (by omega)) rfl ?_
                refine Wx.gyes rfl rfl (congrArg Value.bool g_47) ?_
                refine Wx.rd (v := .bool (ix false T10 (a * 6 + b))) (rd_loadXa (d := false) (f := Value.bool) (j := a * 6 + b) hS 0 rfl rfl (by omega) (by omega) (by omega) Try.isAgg4) rfl ?_
                refine Wx.gyes rfl rfl (congrArg Value.bool g_47) ?_
                refine Wx.rd (v := .bool (ix false T10 (a * 6 + b))) (rd_move rfl) rfl ?_
                refine Wx.cutQ (X := Unit) 6 [67, 68, 69, 70, 71, 72] (fun _ => [(72, .bool (ix false T10 (a * 6 + b) && ix false T10 (b * 6 + c)))]) (fun _ => True) ?_ ?_
                · rcases Bool.eq_false_or_eq_true (ix false T10 (a * 6 + b)) with g_50 | g_50
                  · -- True
                    have gp_51 := g_50
                    try simp only [Bool.and_eq_true, Bool.or_eq_true, Bool.not_eq_true', Bool.and_eq_false_iff, Bool.or_eq_false_iff, Bool.not_eq_false', decide_eq_true_eq, decide_eq_false_iff_not, not_or, Bool.false_eq_true, Bool.true_eq_false, false_or, or_false, not_false_eq_true] at gp_51
                    refine Wx.gyes rfl rfl (congrArg Value.bool g_50) ?_
                    refine Wx.rd (v := .int .i64 b) (rd_move rfl) rfl ?_
                    refine Wx.gyes rfl rfl (congrArg Value.bool g_50) ?_
                    refine Wx.rd (v := .int .i64 c) (rd_move rfl) rfl ?_
                    refine Wx.gyes rfl rfl (congrArg Value.bool g_50) ?_
                    refine Wx.rd (v := .pointer (some ⟨g_1, 0 + b.toNat * 6, none⟩)) (rd_indexArr rfl rfl Try.underlying82 Try.sizeOf81 (by omega) (by omega)) rfl ?_
                    refine Wx.gyes rfl rfl (congrArg Value.bool g_50) ?_
                    refine Wx.rd (v := .pointer (some ⟨g_1, 0 + b.toNat * 6 + c.toNat * 1, none⟩)) (rd_indexArr rfl rfl Try.underlying81 Try.sizeOf4 (by omega) (by omega)) rfl ?_
                    refine Wx.gyes rfl rfl (congrArg Value.bool g_50) ?_
                    refine Wx.rd (v := .bool (ix false T10 (b * 6 + c))) (rd_loadXa (d := false) (f := Value.bool) (j := b * 6 + c) hS 0 rfl rfl (by omega) (by omega) (by omega) Try.isAgg4) rfl ?_
                    refine Wx.gyes rfl rfl (congrArg Value.bool g_47) ?_
                    refine Wx.rd (v := .bool (ix false T10 (b * 6 + c))) (rd_pickT (congrArg Value.bool g_50) rfl) rfl ?_
                    refine Wx.nilQ (fun _ _ => ⟨(), trivial, ⟨?_, trivial⟩, Out.look rfl Out.refl⟩)
                    show Value.bool (ix false T10 (b * 6 + c)) = Value.bool (ix false T10 (a * 6 + b) && ix false T10 (b * 6 + c))
                    first | rw [g_50, Bool.true_and] | (rw [g_50]; rfl)
                  · -- False
                    have gp_52 := g_50
                    try simp only [Bool.and_eq_true, Bool.or_eq_true, Bool.not_eq_true', Bool.and_eq_false_iff, Bool.or_eq_false_iff, Bool.not_eq_false', decide_eq_true_eq, decide_eq_false_iff_not, not_or, Bool.false_eq_true, Bool.true_eq_false, false_or, or_false, not_false_eq_true] at gp_52
                    refine Wx.gnoB rfl rfl (congrArg Value.bool g_50) rfl rfl ?_
                    refine Wx.gnoB rfl rfl (congrArg Value.bool g_50) rfl rfl ?_
                    refine Wx.gnoB rfl rfl (congrArg Value.bool g_50) rfl rfl ?_
                    refine Wx.gnoB rfl rfl (congrArg Value.bool g_50) rfl rfl ?_
                    refine Wx.gnoB rfl rfl (congrArg Value.bool g_50) rfl rfl ?_
                    refine Wx.gyes rfl rfl (congrArg Value.bool g_47) ?_
                    refine Wx.rd (v := .bool false) (rd_pickF (congrArg Value.bool g_50) rfl) rfl ?_
                    refine Wx.nilQ (fun _ _ => ⟨(), trivial, ⟨?_, trivial⟩, Out.look rfl Out.refl⟩)
                    show Value.bool false = Value.bool (ix false T10 (a * 6 + b) && ix false T10 (b * 6 + c))
                    first | rw [g_50, Bool.false_and] | (rw [g_50]; rfl)
                rintro ⟨⟩ u_54 -
                refine Wx.rd (v := .bool (ix false T10 (a * 6 + b) && ix false T10 (b * 6 + c))) (rd_pickF (congrArg Value.bool g_47) rfl) rfl ?_
                refine Wx.nilQ (fun _ _ => ⟨(), trivial, ⟨?_, trivial⟩, Out.look rfl (Out.hav rfl (Out.look rfl Out.refl))⟩)
                show Value.bool (ix false T10 (a * 6 + b) && ix false T10 (b * 6 + c)) = Value.bool (ix false T10 (a * 6 + c) || (ix false T10 (a * 6 + b) && ix false T10 (b * 6 + c)))
                first | rw [g_47, Bool.false_or] | (rw [g_47]; rfl)
            rintro ⟨⟩ u_56 -
            refine Wx.rd (v := .pointer (some ⟨g_1, 0 + a.toNat * 6, none⟩)) (rd_indexArr rfl rfl Try.underlying82 Try.sizeOf81 (by omega) (by omega)) rfl ?_
            refine Wx.rd (v := .pointer (some ⟨g_1, 0 + a.toNat * 6 + c.toNat * 1, none⟩)) (rd_indexArr rfl rfl Try.underlying81 Try.sizeOf4 (by omega) (by omega)) rfl ?_
            refine Wx.nilQ (fun w_57 hx_58 => ?_)
            have hS := hS.ext hx_58
            refine Wx.storeXa (j := a * 6 + c) (f := Value.bool) (u := (ix false T10 (a * 6 + c) || (ix false T10 (a * 6 + b) && ix false T10 (b * 6 + c)))) hS 0 rfl rfl (by omega) rfl rfl rfl Try.sizeOf4 (by omega) (by omega) (fun w_59 hz_60 hS => ?_)
            refine Wx.nil ?_
            refine W.reg ?_
            refine Wx.rd (v := .int .i64 (c + 1)) (rd_add rfl rfl (in_i64 (by omega) (by omega))) rfl ?_
            refine Wx.rd (v := .int .i64 (c + 1)) (rd_move rfl) rfl ?_
            refine Wx.nil ?_
            refine ⟨(c + 1, List.set T10 (a * 6 + c).toNat (ix false T10 (a * 6 + c) || (ix false T10 (a * 6 + b) && ix false T10 (b * 6 + c)))), (by show (l.length - (c + 1)).toNat < (l.length - c).toNat; omega), ?_, ?_, Out.look rfl (Out.hav rfl (Out.look rfl Out.self))⟩
            · exact ⟨hS, (by first | omega | assumption), (by first | omega | assumption), (by rw [List.length_set]; exact s2), (rg_step hl6 s2 (by omega) ⟨m0, by omega⟩ ⟨q0, by omega⟩ ⟨s0, by omega⟩ s3)⟩
            · exact ⟨rfl, trivial⟩
          · -- no
            refine W.exit rfl ?_
            refine W.reg ?_
            refine Wx.rd (v := .int .i64 (b + 1)) (rd_add rfl rfl (in_i64 (by omega) (by omega))) rfl ?_
            refine Wx.rd (v := .int .i64 (b + 1)) (rd_move rfl) rfl ?_
            refine Wx.nil ?_
            refine ⟨(b + 1, T10), (by show (l.length - (b + 1)).toNat < (l.length - b).toNat; omega), ?_, ?_, Out.look rfl (Out.hav rfl (Out.look rfl Out.self))⟩
            · exact ⟨hS, (by first | omega | assumption), (by first | omega | assumption), (s2), (rg_col s3 (by omega))⟩
            · exact ⟨rfl, trivial⟩
        · -- no
          refine W.exit rfl ?_
          refine W.reg ?_
          refine Wx.rd (v := .int .i64 (a + 1)) (rd_add rfl rfl (in_i64 (by omega) (by omega))) rfl ?_
          refine Wx.rd (v := .int .i64 (a + 1)) (rd_move rfl) rfl ?_
          refine Wx.nil ?_
          refine ⟨(a + 1, T8), (by show (l.length - (a + 1)).toNat < (l.length - a).toNat; omega), ?_, ?_, Out.look rfl (Out.hav rfl (Out.look rfl Out.self))⟩
          · exact ⟨hS, (by first | omega | assumption), (by first | omega | assumption), (q2), (rg_row q3 (by omega))⟩
          · exact ⟨rfl, trivial⟩
      · -- no
        refine W.exit rfl ?_
        refine W.reg ?_
        refine Wx.rd (v := .int .i64 (r + 1)) (rd_add rfl rfl (in_i64 (by omega) (by omega))) rfl ?_
        refine Wx.rd (v := .int .i64 (r + 1)) (rd_move rfl) rfl ?_
        refine Wx.nil ?_
        refine ⟨(r + 1, T6), (by show (l.length - (r + 1)).toNat < (l.length - r).toNat; omega), ?_, ?_, Out.look rfl (Out.hav rfl (Out.look rfl Out.self))⟩
        · exact ⟨hS, (by first | omega | assumption), (by first | omega | assumption), (m2), (rg_next (by omega) m3 (by omega))⟩
        · exact ⟨rfl, trivial⟩
    · -- no
      refine W.exit rfl ?_
      refine W.seq ?_
      refine W.seq ?_
      refine W.reg ?_
      refine Wx.rd (v := .int .i64 (l.length : Int)) (rd_move rfl) rfl ?_
      refine Wx.rd (v := .int .i64 0) (rd_move rfl) rfl ?_
      refine Wx.nil ?_
      refine W.block ?_
      have hT := rg_end r3 (by omega)
      refine W.loop [2, 10, 11, 81, 82, 83, 84, 85, 86, 87, 88, 89, 90, 91, 92, 93, 94, 95, 96, 97, 98, 99, 100, 101, 102, 103, 104, 105, 106] (fun (a : Int) => [(81, .int .i64 a)]) (fun (a : Int) w' => St w O w' [.box g_1 82 (List.map Value.bool T4)] ∧ 0 ≤ a ∧ a ≤ l.length ∧ (∀ x y, (0 ≤ x ∧ x < (l.length : Int)) → (0 ≤ y ∧ y < (l.length : Int)) → x < a → ¬ (bS l x y = true ∧ ledB (gS l) l.length y x = true))) (fun (a : Int) => (l.length - a).toNat) 0 ⟨rfl, trivial⟩ ⟨hS, (by first | omega | simp), (by first | omega | simp), (fun x y hx hy hk => by omega)⟩ ?_
      rintro a u_62 w_61 ⟨hS, u0, u1, u2⟩
      refine W.seq ?_
      refine W.reg ?_
      refine Wx.rd (v := .bool (decide (a < (l.length : Int)))) (rd_lss rfl rfl) rfl ?_
      refine Wx.nil ?_
      refine W.seq ?_
      refine W.condD rfl (fun c6 => ?_) (fun c6 => ?_)
      · -- yes
        refine W.skip ?_
        refine W.seq ?_
        refine W.block ?_
        refine W.seq ?_
        refine W.reg ?_
        refine Wx.rd (v := .int .i64 a) (rd_move rfl) rfl ?_
        refine Wx.rd (v := .int .i64 a) (rd_assign rfl) rfl ?_
        refine Wx.nil ?_
        refine W.seq ?_
        refine W.reg ?_
        refine Wx.rd (v := .int .i64 (l.length : Int)) (rd_move rfl) rfl ?_
        refine Wx.rd (v := .int .i64 0) (rd_move rfl) rfl ?_
        refine Wx.nil ?_
        refine W.block ?_
        refine W.loop [2, 11, 85, 86, 87, 88, 89, 90, 91, 92, 93, 94, 95, 96, 97, 98, 99, 100, 101, 102, 103, 104, 105] (fun (b : Int) => [(85, .int .i64 b)]) (fun (b : Int) w' => St w O w' [.box g_1 82 (List.map Value.bool T4)] ∧ 0 ≤ b ∧ b ≤ l.length ∧ (∀ y, (0 ≤ y ∧ y < (l.length : Int)) → y < b → ¬ (bS l a y = true ∧ ledB (gS l) l.length y a = true))) (fun (b : Int) => (l.length - b).toNat) 0 ⟨rfl, trivial⟩ ⟨hS, (by first | omega | simp), (by first | omega | simp), (fun y hy hk => by omega)⟩ ?_
        rintro b u_64 w_63 ⟨hS, x0, x1, x2⟩
        refine W.seq ?_
        refine W.reg ?_
        refine Wx.rd (v := .bool (decide (b < (l.length : Int)))) (rd_lss rfl rfl) rfl ?_
        refine Wx.nil ?_
        refine W.seq ?_
        refine W.condD rfl (fun c7 => ?_) (fun c7 => ?_)
        · -- yes
          refine W.skip ?_
          refine W.seq ?_
          refine W.block ?_
          refine W.seq ?_
          refine W.reg ?_
          refine Wx.rd (v := .int .i64 b) (rd_move rfl) rfl ?_
          refine Wx.rd (v := .int .i64 b) (rd_assign rfl) rfl ?_
          refine Wx.nil ?_
          refine W.seq ?_
          refine W.regQ mixedLm_ (by kernel_rfl) ?_
          refine Wx.rd (v := v) (rd_move rfl) rfl ?_
          refine Wx.rd (v := .int .i64 a) (rd_move rfl) rfl ?_
          refine Wx.ex (rd_index ([], []) (hS.arg a_v) rfl rfl Try.underlying22 Try.sizeOf62 (by first | omega | (simp only [List.length_set, List.length_append, List.length_cons, List.length_nil, List.length_replicate]; omega)) (by first | omega | (simp only [List.length_set, List.length_append, List.length_cons, List.length_nil, List.length_replicate]; omega))) rfl (fun p_65 hp_66 => ?_)
          refine Wx.ex (rd_load hp_66 rfl Try.isAgg62 Try.sizeOf62) rfl (fun v_67 hv_68 => ?_)
          obtain ⟨v_69, v_70, rfl, hv_71, hv_72⟩ := hv_68.s2
          have hS := hS.add (hv_71)
          have ln_74 := (hS.v 0 rfl).len63
          have hS := hS.add (V.upF (hv_72))
          have ln_76 := (hS.v 0 rfl).len63
          refine Wx.rd (v := v) (rd_move rfl) rfl ?_
          refine Wx.rd (v := .int .i64 b) (rd_move rfl) rfl ?_
          refine Wx.ex (rd_index ([], []) (hS.arg a_v) rfl rfl Try.underlying22 Try.sizeOf62 (by first | omega | (simp only [List.length_set, List.length_append, List.length_cons, List.length_nil, List.length_replicate]; omega)) (by first | omega | (simp only [List.length_set, List.length_append, List.length_cons, List.length_nil, List.length_replicate]; omega))) rfl (fun p_77 hp_78 => ?_)
          refine Wx.ex (rd_load hp_78 rfl Try.isAgg62 Try.sizeOf62) rfl (fun v_79 hv_80 => ?_)
          obtain ⟨v_81, v_82, rfl, hv_83, hv_84⟩ := hv_80.s2
          have hS := hS.add (hv_83)
          have ln_86 := (hS.v 0 rfl).len63
          have hS := hS.add (V.upF (hv_84))
          have ln_88 := (hS.v 0 rfl).len63
          refine Wx.callV (v := .int .i64 (leadS (((ix ([], []) l a).1), ((ix ([], []) l a).2)) (((ix ([], []) l b).1), ((ix ([], []) l b).2)))) (run_callF Try.call53 rfl) (fun w_89 hw_90 => (F53 ((hS.v 3 rfl).ext hw_90) ((hS.v 2 rfl).ext hw_90) ((hS.v 1 rfl).ext hw_90) ((hS.v 0 rfl).ext hw_90) (hok a (by omega) (by omega)).b1 (hok a (by omega) (by omega)).b2 (hok b (by omega) (by omega)).b2 (by have := (hok a (by omega) (by omega)).l1; omega) (by have h1 := (hok a (by omega) (by omega)).l1; have h2 := (hok a (by omega) (by omega)).l2; omega) (by have h1 := (hok a (by omega) (by omega)).l1; have h2 := (hok b (by omega) (by omega)).l2; omega))) rfl ?_
          rw [show (leadS (((ix ([], []) l a).1), ((ix ([], []) l a).2)) (((ix ([], []) l b).1), ((ix ([], []) l b).2)) : Int) = leadS (ix ([], []) l a) (ix ([], []) l b) from rfl]
          have hld := lead_bd9 (hok a (by omega) (by omega)) hgd.2 (hok b (by omega) (by omega))
          refine Wx.rd (v := .bool (decide (0 < (leadS (ix ([], []) l a) (ix ([], []) l b))))) (rd_gtr rfl rfl) rfl ?_
          refine Wx.rd (v := .bool (decide (0 < (leadS (ix ([], []) l a) (ix ([], []) l b))))) (rd_move rfl) rfl ?_
          refine Wx.cutQ (X := Unit) 6 [99, 100, 101, 102, 103, 104] (fun _ => [(104, .bool (decide (0 < (leadS (ix ([], []) l a) (ix ([], []) l b))) && ix false T4 (b * 6 + a)))]) (fun _ => True) ?_ ?_
          · rcases Bool.eq_false_or_eq_true (decide (0 < (leadS (ix ([], []) l a) (ix ([], []) l b)))) with g_91 | g_91
            · -- True
              have gp_92 := of_decide_eq_true g_91
              refine Wx.gyes rfl rfl (congrArg Value.bool g_91) ?_
              refine Wx.rd (v := .int .i64 b) (rd_move rfl) rfl ?_
              refine Wx.gyes rfl rfl (congrArg Value.bool g_91) ?_
              refine Wx.rd (v := .int .i64 a) (rd_move rfl) rfl ?_
              refine Wx.gyes rfl rfl (congrArg Value.bool g_91) ?_
              refine Wx.rd (v := .pointer (some ⟨g_1, 0 + b.toNat * 6, none⟩)) (rd_indexArr rfl rfl Try.underlying82 Try.sizeOf81 (by omega) (by omega)) rfl ?_
              refine Wx.gyes rfl rfl (congrArg Value.bool g_91) ?_
              refine Wx.rd (v := .pointer (some ⟨g_1, 0 + b.toNat * 6 + a.toNat * 1, none⟩)) (rd_indexArr rfl rfl Try.underlying81 Try.sizeOf4 (by omega) (by omega)) rfl ?_
              refine Wx.gyes rfl rfl (congrArg Value.bool g_91) ?_
              refine Wx.rd (v := .bool (ix false T4 (b * 6 + a))) (rd_loadXa (d := false) (f := Value.bool) (j := b * 6 + a) hS 4 rfl rfl (by omega) (by omega) (by omega) Try.isAgg4) rfl ?_
              refine Wx.rd (v := .bool (ix false T4 (b * 6 + a))) (rd_pickT (congrArg Value.bool g_91) rfl) rfl ?_
              refine Wx.nilQ (fun _ _ => ⟨(), trivial, ⟨?_, trivial⟩, Out.look rfl Out.refl⟩)
              show Value.bool (ix false T4 (b * 6 + a)) = Value.bool (decide (0 < (leadS (ix ([], []) l a) (ix ([], []) l b))) && ix false T4 (b * 6 + a))
              first | rw [g_91, Bool.true_and] | (rw [g_91]; rfl)
            · -- False
              have gp_93 := of_decide_eq_false g_91
              refine Wx.gnoB rfl rfl (congrArg Value.bool g_91) rfl rfl ?_
              refine Wx.gnoB rfl rfl (congrArg Value.bool g_91) rfl rfl ?_
              refine Wx.gnoB rfl rfl (congrArg Value.bool g_91) rfl rfl ?_
              refine Wx.gnoB rfl rfl (congrArg Value.bool g_91) rfl rfl ?_
              refine Wx.gnoB rfl rfl (congrArg Value.bool g_91) rfl rfl ?_
              refine Wx.rd (v := .bool false) (rd_pickF (congrArg Value.bool g_91) rfl) rfl ?_
              refine Wx.nilQ (fun _ _ => ⟨(), trivial, ⟨?_, trivial⟩, Out.look rfl Out.refl⟩)
              show Value.bool false = Value.bool (decide (0 < (leadS (ix ([], []) l a) (ix ([], []) l b))) && ix false T4 (b * 6 + a))
              first | rw [g_91, Bool.false_and] | (rw [g_91]; rfl)
          rintro ⟨⟩ u_95 -
          refine Wx.nilQ (fun w_96 hx_97 => ?_)
          have hS := hS.ext hx_97
          refine W.cond rfl (fun c8 => ?_) (fun c8 => ?_)
          · -- yes
            try simp only [Bool.and_eq_true, Bool.or_eq_true, Bool.not_eq_true', Bool.and_eq_false_iff, Bool.or_eq_false_iff, Bool.not_eq_false', decide_eq_true_eq, decide_eq_false_iff_not, not_or, Bool.false_eq_true, Bool.true_eq_false, false_or, or_false, not_false_eq_true] at c8
            refine W.seq ?_
            refine W.reg ?_
            refine Wx.rd (v := .bool true) (rd_assign rfl) rfl ?_
            refine Wx.nil ?_
            have e0_0 : (!(noR l)) = true := by rw [noR_false (a := a) (b := b) ⟨by omega, by omega⟩ ⟨by omega, by omega⟩ (decide_eq_true c8.1) (by rw [← hT b a ⟨by omega, by omega⟩ ⟨by omega, by omega⟩]; exact c8.2)]; rfl
            exact W.ret ⟨.bool true, ResIs.one, hS.bel, (by rw [e0_0])⟩
          · -- no
            try simp only [Bool.and_eq_true, Bool.or_eq_true, Bool.not_eq_true', Bool.and_eq_false_iff, Bool.or_eq_false_iff, Bool.not_eq_false', decide_eq_true_eq, decide_eq_false_iff_not, not_or, Bool.false_eq_true, Bool.true_eq_false, false_or, or_false, not_false_eq_true] at c8
            refine W.skip ?_
            refine W.reg ?_
            refine Wx.rd (v := .int .i64 (b + 1)) (rd_add rfl rfl (in_i64 (by omega) (by omega))) rfl ?_
            refine Wx.rd (v := .int .i64 (b + 1)) (rd_move rfl) rfl ?_
            refine Wx.nil ?_
            refine ⟨b + 1, (by show (l.length - (b + 1)).toNat < (l.length - b).toNat; omega), ?_, ?_, Out.look rfl (Out.hav rfl (Out.look rfl Out.self))⟩
            · exact ⟨St.tl (St.tl (St.tl (hS.tl))), (by first | omega | assumption), (by first | omega | assumption), (fun y hy hk => by by_cases e : y = b; (rw [e, ← hT b a ⟨by omega, by omega⟩ ⟨by omega, by omega⟩]; exact fun hh => c8.elim (fun q => by have := of_decide_eq_true hh.1; omega) (fun q => by rw [show tbR T4 b a = false from q] at hh; cases hh.2)); exact x2 y hy (by omega))⟩
            · exact ⟨rfl, trivial⟩
        · -- no
          refine W.exit rfl ?_
          refine W.reg ?_
          refine Wx.rd (v := .int .i64 (a + 1)) (rd_add rfl rfl (in_i64 (by omega) (by omega))) rfl ?_
          refine Wx.rd (v := .int .i64 (a + 1)) (rd_move rfl) rfl ?_
          refine Wx.nil ?_
          refine ⟨a + 1, (by show (l.length - (a + 1)).toNat < (l.length - a).toNat; omega), ?_, ?_, Out.look rfl (Out.hav rfl (Out.look rfl Out.self))⟩
          · exact ⟨hS, (by first | omega | assumption), (by first | omega | assumption), (fun x y hx hy hk => by by_cases e : x = a; (rw [e]; exact x2 y hy (by omega)); exact u2 x y hx hy (by omega))⟩
          · exact ⟨rfl, trivial⟩
      · -- no
        refine W.exit rfl ?_
        refine W.seq ?_
        refine W.reg ?_
        refine Wx.rd (v := .bool false) (rd_assign rfl) rfl ?_
        refine Wx.nil ?_
        have e1_0 : (!(noR l)) = false := by rw [noR_true (a := a) (by omega) u2]; rfl
        exact W.ret ⟨.bool false, ResIs.one, hS.bel, (by rw [e1_0])⟩
end Go.Proofs.Ytjbcpggikaeleaa

namespace Go.Proofs.Ytjbcpggikaeleaa
open Go.Wk Go.RowKit Go.Lib
set_option linter.unusedVariables false
set_option linter.unusedSimpArgs false
theorem elLq_39 : ElemI Try.prog 39 3 (.int .i64 0) 1 8 := ElemI.of Try.underlying39 (by kernel_rfl) (by first | rfl | kernel_rfl) (by decide)
theorem elLq_22 : ElemI Try.prog 22 62 (.agg #[(.slice none 0 0), (.slice none 0 0)]) 2 48 := ElemI.of Try.underlying22 (by kernel_rfl) (by first | rfl | kernel_rfl) (by decide)

set_option maxHeartbeats 4000000 in
set_option maxRecDepth 10000 in
theorem F11 {zs : List Int} {O : List (Option Nat)} {w : World} (n_zs : zs.length = 39) (i_zs : ∀ z ∈ zs, InK .u8 z) (hO : ∀ b, some b ∈ O → b < w.heap.size) : Calls Try.prog 11 #[.agg (List.map (Value.int .u8) zs).toArray] w (Ret w (fun r _ => r = .bool true)) := by
  have hS := St.start w O hO
  refine enterR Try.func11 rfl Try.ntmps11 Try.results11 rfl ?_
  refine W.seq ?_
  refine W.reg ?_
  refine Wx.box (cs := List.map (Value.int .u8) zs) hS rfl rfl rfl (fun g_1 w_2 hx_4 hb_3 hS => ?_)
  refine Wx.rd (v := .bool false) (rd_assign rfl) rfl ?_
  refine Wx.nil ?_
  refine W.seq ?_
  refine W.reg ?_
  refine Wx.rd (v := .agg (List.map (Value.int .u8) zs).toArray) (rd_loadXs (ds := List.map (Value.int .u8) zs) hS 0 rfl rfl (by rw [List.drop_zero, List.take_of_length_le (by simp; omega)]) (by simp; omega) Try.isAgg66 Try.sizeOf66) rfl ?_
  refine Wx.callF (run_callF Try.call46 rfl) (F46 n_zs i_zs (in_i64 (by omega) (by omega)) (by omega) (by omega) hS.fb_lt) rfl ?_
  rintro r_5 w_6 hx_7 ⟨l, x_hc, v_8, rfl, hv_9⟩
  have hS := hS.pushFrO hx_7 hv_9
  obtain ⟨hc, ok_hc, h6_hc⟩ := shop_ok (by decide) (by decide) x_hc
  have hgz := shG_bd zs
  refine Wx.rd (v := .tuple #[.int .i64 (shG zs), v_8]) (rd_move rfl) rfl ?_
  refine Wx.rd (v := .int .i64 (shG zs)) (rd_extract rfl rfl) rfl ?_
  refine Wx.rd (v := v_8) (rd_extract rfl rfl) rfl ?_
  refine Wx.rd (v := .int .i64 (shG zs)) (rd_assign rfl) rfl ?_
  refine Wx.rd (v := v_8) (rd_assign rfl) rfl ?_
  refine Wx.nil ?_
  refine W.seq ?_
  refine W.reg ?_
  refine Wx.rd (v := (.slice none 0 0)) (rd_assign rfl) rfl ?_
  refine Wx.nil ?_
  refine W.seq ?_
  refine W.reg ?_
  refine Wx.rd (v := .bool false) (rd_assign rfl) rfl ?_
  refine Wx.nil ?_
  refine W.seq ?_
  refine W.seq ?_
  refine W.reg ?_
  refine Wx.rd (v := v_8) (rd_move rfl) rfl ?_
  refine Wx.rd (v := .int .i64 (l.length : Int)) (rd_lenR hS 0 rfl rfl Try.underlying22) rfl ?_
  obtain ⟨hpw, hp1, hp2⟩ := pow_len h6_hc
  refine Wx.rd (v := .int .i64 (2 ^ l.length)) (Rd.to (v := .int .i64 (IntKind.i64.wrap (1 * 2 ^ min (l.length : Int).toNat (IntKind.i64).bits))) (rd_shl rfl rfl (by omega)) (congrArg (Value.int .i64) (show (2 ^ l.length : Int) = (IntKind.i64.wrap (1 * 2 ^ min (l.length : Int).toNat (IntKind.i64).bits) : Int) from hpw.symm).symm)) rfl ?_
  have bd_11 := bd_i64 (wrap_inK .i64 (1 * 2 ^ min (l.length : Int).toNat (IntKind.i64).bits))
  refine Wx.rd (v := .int .i64 0) (rd_move rfl) rfl ?_
  refine Wx.nil ?_
  refine W.block ?_
  have hS := hS.add ((V.nil (t := (tI .i64))))
  refine W.loop [5, 6, 7, 8, 9, 10, 11, 29, 30, 31, 32, 33, 34, 35, 36, 37, 38, 39, 40, 41, 42, 43, 44, 45, 46, 47, 48, 49, 50, 51, 52, 53, 54, 55, 56, 57, 58, 59, 60, 61, 62, 63, 64, 65, 66, 67, 68, 69, 70, 71, 72, 73, 74, 75, 76, 77, 78, 79, 80, 81] (fun x : Value × (List Int) × Bool × Int => match x with | (bv, best, fd, s) => [(5, bv), (6, .bool fd), (29, .int .i64 s)]) (fun (x : Value × (List Int) × Bool × Int) w' => match x with | (bv, best, fd, s) => St w O w' [Ob.v (tSl (tI .i64)) best bv, .row (tP (tSl (tI .i64)) (tSl (tI .i64))) 62 v_8 l, .box g_1 66 (List.map (Value.int .u8) zs)] ∧ 0 ≤ s ∧ s ≤ 2 ^ l.length ∧ ((rng s (2 ^ l.length)).foldl (stepW l) (best, fd)).1 = wrgV l) (fun x : Value × (List Int) × Bool × Int => match x with | (bv, best, fd, s) => (2 ^ l.length - s).toNat) ((.slice none 0 0), [], false, 0) ⟨rfl, rfl, rfl, trivial⟩ ⟨hS, (by first | omega | simp), (by first | omega | simp), (rfl)⟩ ?_
  rintro ⟨bv, best, fd, s⟩ u_15 w_14 ⟨hS, h0, h1, h2⟩
  refine W.seq ?_
  refine W.reg ?_
  refine Wx.rd (v := .bool (decide (s < (2 ^ l.length)))) (rd_lss rfl rfl) rfl ?_
  refine Wx.nil ?_
  refine W.seq ?_
  refine W.condD rfl (fun c0 => ?_) (fun c0 => ?_)
  · -- yes
    refine W.skip ?_
    refine W.seq ?_
    refine W.block ?_
    refine W.seq ?_
    refine W.reg ?_
    refine Wx.rd (v := .int .i64 s) (rd_move rfl) rfl ?_
    refine Wx.rd (v := .int .i64 s) (rd_assign rfl) rfl ?_
    refine Wx.nil ?_
    refine W.seq ?_
    refine W.reg ?_
    refine Wx.rd (v := (.slice none 0 0)) (rd_assign rfl) rfl ?_
    refine Wx.nil ?_
    refine W.seq ?_
    refine W.reg ?_
    refine Wx.rd (v := (.slice none 0 0)) (rd_assign rfl) rfl ?_
    refine Wx.nil ?_
    refine W.seq ?_
    refine W.seq ?_
    refine W.reg ?_
    refine Wx.rd (v := v_8) (rd_move rfl) rfl ?_
    refine Wx.rd (v := .int .i64 (l.length : Int)) (rd_lenR hS 1 rfl rfl Try.underlying22) rfl ?_
    refine Wx.rd (v := .int .i64 0) (rd_move rfl) rfl ?_
    refine Wx.nil ?_
    refine W.block ?_
    have hS := hS.addNil (tI .i64) 3
    have hS := hS.addNil (tP (tSl (tI .i64)) (tSl (tI .i64))) 62
    refine W.loop [8, 9, 10, 11, 34, 35, 36, 37, 38, 39, 40, 41, 42, 43, 44, 45, 46, 47, 48, 49, 50, 51, 52] (fun x : Int × Value × (List Int) × Value × (List ((List Int) × (List Int))) => match x with | (i, ov, out, lv, left) => [(34, .int .i64 i), (8, ov), (9, lv)]) (fun (x : Int × Value × (List Int) × Value × (List ((List Int) × (List Int)))) w' => match x with | (i, ov, out, lv, left) => St w O w' [.row (tP (tSl (tI .i64)) (tSl (tI .i64))) 62 lv left, .row (tI .i64) 3 ov out, Ob.v (tSl (tI .i64)) best bv, .row (tP (tSl (tI .i64)) (tSl (tI .i64))) 62 v_8 l, .box g_1 66 (List.map (Value.int .u8) zs)] ∧ 0 ≤ i ∧ i ≤ l.length ∧ out = otP s i ∧ left = lfP l (bitB s) i ∧ (out.length : Int) ≤ i ∧ (left.length : Int) ≤ i) (fun x : Int × Value × (List Int) × Value × (List ((List Int) × (List Int))) => match x with | (i, ov, out, lv, left) => (l.length - i).toNat) (0, (.slice none 0 0), [], (.slice none 0 0), []) ⟨rfl, rfl, rfl, trivial⟩ ⟨hS, (by first | omega | simp), (by first | omega | simp), (rfl), (rfl), (by decide), (by decide)⟩ ?_
    rintro ⟨i, ov, out, lv, left⟩ u_17 w_16 ⟨hS, g0, g1, g2, g3, g4, g5⟩
    refine W.seq ?_
    refine W.reg ?_
    refine Wx.rd (v := .bool (decide (i < (l.length : Int)))) (rd_lss rfl rfl) rfl ?_
    refine Wx.nil ?_
    refine W.seq ?_
    refine W.condD rfl (fun c1 => ?_) (fun c1 => ?_)
    · -- yes
      refine W.skip ?_
      refine W.seq ?_
      refine W.block ?_
      refine W.seq ?_
      refine W.reg ?_
      refine Wx.rd (v := .int .i64 i) (rd_move rfl) rfl ?_
      refine Wx.indexR hS 3 rfl rfl rfl Try.underlying22 Try.sizeOf62 (by first | omega | (simp only [List.length_set, List.length_append, List.length_cons, List.length_nil, List.length_replicate]; omega)) (by first | omega | (simp only [List.length_set, List.length_append, List.length_cons, List.length_nil, List.length_replicate]; omega)) rfl (fun g_18 hg_19 => ?_)
      refine Wx.ex (rd_loadR' ([], []) hS 3 rfl hg_19 rfl (by first | omega | (simp only [List.length_set, List.length_append, List.length_cons, List.length_nil, List.length_replicate]; omega)) (by first | omega | (simp only [List.length_set, List.length_append, List.length_cons, List.length_nil, List.length_replicate]; omega)) Try.isAgg62 Try.sizeOf62) rfl (fun v_20 hv_21 => ?_)
      obtain ⟨v_22, v_23, rfl, hv_24, hv_25⟩ := hv_21.s2
      have hS := hS.add (hv_24)
      have ln_27 := (hS.v 0 rfl).len63
      have hS := hS.add (V.upF (hv_25))
      have ln_29 := (hS.v 0 rfl).len63
      refine Wx.alloc (cs := [(.slice none 0 0), (.slice none 0 0)]) hS Try.zeroValue62 rfl rfl (fun g_30 w_31 hx_33 hb_32 hS => ?_)
      refine Wx.rd (v := .int .i64 i) (rd_assign rfl) rfl ?_
      refine Wx.storeX (cs' := [v_22, v_23]) (ds := [v_22, v_23]) hS 0 rfl rfl rfl rfl Try.sizeOf62 (Nat.le_of_ble_eq_true rfl) (one_cons (V.oneC (hS.v 2 rfl)) (one_cons (V.oneC (hS.v 1 rfl)) one_nil)) rfl (fun w_34 hz_35 hS => ?_)
      refine Wx.nil ?_
      refine W.seq ?_
      refine W.reg ?_
      refine Wx.rd (v := .int .i64 s) (rd_move rfl) rfl ?_
      refine Wx.rd (v := .int .i64 i) (rd_move rfl) rfl ?_
      refine Wx.rd (v := .int .i64 (s / 2 ^ min i.toNat (IntKind.i64).bits)) (rd_shr rfl rfl (by omega)) rfl ?_
      refine Wx.rd (v := .int .i64 (s / 2 ^ i.toNat % 2)) (Rd.to (v := .int .i64 (bits .and .i64 (s / 2 ^ min i.toNat (IntKind.i64).bits) 1)) (rd_and rfl rfl) (congrArg (Value.int .i64) (show (s / 2 ^ i.toNat % 2 : Int) = (bits .and .i64 (s / 2 ^ min i.toNat (IntKind.i64).bits) 1 : Int) from (bit_and h0 (by omega) g0 (by omega)).symm).symm)) rfl ?_
      have bd_36 := bd_i64 (bits_in .and .i64 (s / 2 ^ min i.toNat (IntKind.i64).bits) 1)
      refine Wx.rd (v := .bool (decide ((s / 2 ^ i.toNat % 2) = 1))) (rd_eql rfl rfl) rfl ?_
      refine Wx.nil ?_
      refine W.condD rfl (fun c2 => ?_) (fun c2 => ?_)
      · -- yes
        refine W.reg ?_
        refine Wx.rd (v := ov) (rd_move rfl) rfl ?_
        refine Wx.rd (v := .int .i64 i) (rd_move rfl) rfl ?_
        refine Wx.lit (t := (tI .i64)) (ys := [i]) (vs := [.int .i64 i]) elLq_39 hS rfl rfl ⟨(V.mkInt (in_i64 (by omega) (by omega))), trivial⟩ (by decide) rfl (fun v_37 w_38 hx_39 hS => ?_)
        refine Wx.append elLq_39 hS 5 rfl rfl rfl (Src.ofR hS 0 rfl) (by simp only [maxLen]; simp; omega) (by simp; omega) rfl (fun v_40 w_41 hz_42 hS => ?_)
        refine Wx.rd (v := v_40) (rd_assign rfl) rfl ?_
        refine Wx.nil ?_
        refine W.reg ?_
        refine Wx.rd (v := .int .i64 (i + 1)) (rd_add rfl rfl (in_i64 (by omega) (by omega))) rfl ?_
        refine Wx.rd (v := .int .i64 (i + 1)) (rd_move rfl) rfl ?_
        refine Wx.nil ?_
        refine ⟨(i + 1, v_40, out ++ [i], lv, left), (by show (l.length - (i + 1)).toNat < (l.length - i).toNat; omega), ?_, ?_, Out.look rfl Out.self⟩
        · exact ⟨St.tl (St.tl (St.tl (hS.tl))), (by first | omega | assumption), (by first | omega | assumption), (by rw [g2, otP_yes g0 (decide_eq_true c2)]), (by rw [g3, lfP_no g0 (decide_eq_true c2)]), (by simp only [List.length_append, List.length_cons, List.length_nil]; omega), (by first | omega | assumption)⟩
        · exact ⟨rfl, rfl, rfl, trivial⟩
      · -- no
        refine W.reg ?_
        refine Wx.rd (v := lv) (rd_move rfl) rfl ?_
        refine Wx.rd (v := .agg #[v_22, v_23]) (rd_loadXs (ds := [v_22, v_23]) hS 0 rfl rfl rfl rfl Try.isAgg62 Try.sizeOf62) rfl ?_
        refine Wx.lit (t := (tP (tSl (tI .i64)) (tSl (tI .i64)))) (ys := [(ix ([], []) l i)]) (vs := [.agg #[v_22, v_23]]) elLq_22 hS rfl rfl ⟨(V.mkS2 (z := (ix ([], []) l i)) (hS.v 2 rfl) (hS.v 1 rfl)), trivial⟩ (by decide) rfl (fun v_43 w_44 hx_45 hS => ?_)
        refine Wx.append elLq_22 hS 4 rfl rfl rfl (Src.ofR hS 0 rfl) (by simp only [maxLen]; simp; omega) (by simp; omega) rfl (fun v_46 w_47 hz_48 hS => ?_)
        refine Wx.rd (v := v_46) (rd_assign rfl) rfl ?_
        refine Wx.nil ?_
        refine W.reg ?_
        refine Wx.rd (v := .int .i64 (i + 1)) (rd_add rfl rfl (in_i64 (by omega) (by omega))) rfl ?_
        refine Wx.rd (v := .int .i64 (i + 1)) (rd_move rfl) rfl ?_
        refine Wx.nil ?_
        refine ⟨(i + 1, ov, out, v_46, left ++ [(ix ([], []) l i)]), (by show (l.length - (i + 1)).toNat < (l.length - i).toNat; omega), ?_, ?_, Out.look rfl Out.self⟩
        · exact ⟨St.tl (St.tl (St.tl (hS.tl))), (by first | omega | assumption), (by first | omega | assumption), (by rw [g2, otP_no g0 (decide_eq_false c2)]), (by rw [g3, lfP_yes g0 (decide_eq_false c2)]), (by first | omega | assumption), (by simp only [List.length_append, List.length_cons, List.length_nil]; omega)⟩
        · exact ⟨rfl, rfl, rfl, trivial⟩
    · -- no
      have hle : left = leftS l s := by rw [g3, show i = l.length by omega]; rfl
      have hoe : out = outS l.length s := by rw [g2, show i = l.length by omega]; rfl
      refine W.exit rfl ?_
      refine W.seq ?_
      refine W.reg ?_
      refine Wx.rd (v := lv) (rd_move rfl) rfl ?_
      have hS := hS.freeze 0 rfl
      refine Wx.callF (run_callF Try.call47 rfl) (F47 (hS.v 0 rfl) (by rw [hle]; exact sok_left ok_hc _) hS.fb_lt) rfl ?_
      rintro r_50 w_51 hx_52 rfl
      have hS := hS.ext hx_52
      rw [show (!(noR left) : Bool) = !(noR (leftS l s)) from (by rw [hle])]
      refine Wx.rd (v := .bool (!(!(noR (leftS l s))))) (rd_not rfl) rfl ?_
      refine Wx.rd (v := .bool (!(!(noR (leftS l s))))) (rd_move rfl) rfl ?_
      refine Wx.cut (X := Unit) 23 [57, 58, 59, 60, 61, 62, 63, 64, 65, 66, 67, 68, 69, 70, 71, 72, 73, 74, 75, 76, 77, 78, 79] (fun _ => [(79, .bool (!(!(noR (leftS l s))) && ((!fd || decide ((out.length : Int) < (best.length : Int))) || (decide ((out.length : Int) = (best.length : Int)) && decide ((cmpL out best) < 0)))))]) (fun _ w' => St w O w' [Ob.v (tSl (tP (tSl (tI .i64)) (tSl (tI .i64)))) left lv, .row (tI .i64) 3 ov out, Ob.v (tSl (tI .i64)) best bv, .row (tP (tSl (tI .i64)) (tSl (tI .i64))) 62 v_8 l, .box g_1 66 (List.map (Value.int .u8) zs)]) ?_ ?_
      · rcases Bool.eq_false_or_eq_true (!(!(noR (leftS l s)))) with g_53 | g_53
        · -- True
          have gp_54 := g_53
          try simp only [Bool.and_eq_true, Bool.or_eq_true, Bool.not_eq_true', Bool.and_eq_false_iff, Bool.or_eq_false_iff, Bool.not_eq_false', decide_eq_true_eq, decide_eq_false_iff_not, not_or, Bool.false_eq_true, Bool.true_eq_false, false_or, or_false, not_false_eq_true] at gp_54
          refine Wx.gyes rfl rfl (congrArg Value.bool g_53) ?_
          refine Wx.rd (v := .bool fd) (rd_move rfl) rfl ?_
          refine Wx.gyes rfl rfl (congrArg Value.bool g_53) ?_
          refine Wx.rd (v := .bool (!fd)) (rd_not rfl) rfl ?_
          refine Wx.gyes rfl rfl (congrArg Value.bool g_53) ?_
          refine Wx.rd (v := .bool (!fd)) (rd_move rfl) rfl ?_
          refine Wx.cut (X := Unit) 6 [60, 61, 62, 63, 64, 65] (fun _ => [(65, .bool (!fd || decide ((out.length : Int) < (best.length : Int))))]) (fun _ w' => St w O w' [Ob.v (tSl (tP (tSl (tI .i64)) (tSl (tI .i64)))) left lv, .row (tI .i64) 3 ov out, Ob.v (tSl (tI .i64)) best bv, .row (tP (tSl (tI .i64)) (tSl (tI .i64))) 62 v_8 l, .box g_1 66 (List.map (Value.int .u8) zs)]) ?_ ?_
          · rcases Bool.eq_false_or_eq_true (!fd) with g_55 | g_55
            · -- True
              have gp_56 := g_55
              try simp only [Bool.and_eq_true, Bool.or_eq_true, Bool.not_eq_true', Bool.and_eq_false_iff, Bool.or_eq_false_iff, Bool.not_eq_false', decide_eq_true_eq, decide_eq_false_iff_not, not_or, Bool.false_eq_true, Bool.true_eq_false, false_or, or_false, not_false_eq_true] at gp_56
              refine Wx.gnoB rfl rfl (congrArg Value.bool g_55) rfl rfl ?_
              refine Wx.gnoB rfl rfl (congrArg Value.bool g_55) rfl rfl ?_
              refine Wx.gnoB rfl rfl (congrArg Value.bool g_55) rfl rfl ?_
              refine Wx.gnoB rfl rfl (congrArg Value.bool g_55) rfl rfl ?_
              refine Wx.gnoB rfl rfl (congrArg Value.bool g_55) rfl rfl ?_
              refine Wx.gyes rfl rfl (congrArg Value.bool g_53) ?_
              refine Wx.rd (v := .bool true) (rd_pickT (congrArg Value.bool g_55) rfl) rfl ?_
              refine Wx.nil ⟨(), hS, ⟨?_, trivial⟩, Out.look rfl Out.refl⟩
              show Value.bool true = Value.bool (!fd || decide ((out.length : Int) < (best.length : Int)))
              first | rw [g_55, Bool.true_or] | (rw [g_55]; rfl)
            · -- False
              have gp_57 := g_55
              try simp only [Bool.and_eq_true, Bool.or_eq_true, Bool.not_eq_true', Bool.and_eq_false_iff, Bool.or_eq_false_iff, Bool.not_eq_false', decide_eq_true_eq, decide_eq_false_iff_not, not_or, Bool.false_eq_true, Bool.true_eq_false, false_or, or_false, not_false_eq_true] at gp_57
              refine Wx.gyes rfl rfl (congrArg Value.bool g_55) ?_
              refine Wx.rd (v := ov) (rd_move rfl) rfl ?_
              refine Wx.gyes rfl rfl (congrArg Value.bool g_55) ?_
              refine Wx.rd (v := .int .i64 (out.length : Int)) (rd_lenR hS 1 rfl rfl Try.underlying39) rfl ?_
              refine Wx.gyes rfl rfl (congrArg Value.bool g_55) ?_
              refine Wx.rd (v := bv) (rd_move rfl) rfl ?_
              refine Wx.gyes rfl rfl (congrArg Value.bool g_55) ?_
              refine Wx.rd (v := .int .i64 (best.length : Int)) (rd_lenV rfl (hS.v 2 rfl) Try.underlying39) rfl ?_
              refine Wx.gyes rfl rfl (congrArg Value.bool g_55) ?_
              refine Wx.rd (v := .bool (decide ((out.length : Int) < (best.length : Int)))) (rd_lss rfl rfl) rfl ?_
              refine Wx.gyes rfl rfl (congrArg Value.bool g_53) ?_
              refine Wx.rd (v := .bool (decide ((out.length : Int) < (best.length : Int)))) (rd_pickF (congrArg Value.bool g_55) rfl) rfl ?_
              refine Wx.nil ⟨(), hS, ⟨?_, trivial⟩, Out.look rfl Out.refl⟩
              show Value.bool (decide ((out.length : Int) < (best.length : Int))) = Value.bool (!fd || decide ((out.length : Int) < (best.length : Int)))
              first | rw [g_55, Bool.false_or] | (rw [g_55]; rfl)
          rintro ⟨⟩ u_59 w_58 hS
          refine Wx.gyes rfl rfl (congrArg Value.bool g_53) ?_
          refine Wx.rd (v := .bool (!fd || decide ((out.length : Int) < (best.length : Int)))) (rd_move rfl) rfl ?_
          refine Wx.cut (X := Unit) 12 [67, 68, 69, 70, 71, 72, 73, 74, 75, 76, 77, 78] (fun _ => [(78, .bool ((!fd || decide ((out.length : Int) < (best.length : Int))) || (decide ((out.length : Int) = (best.length : Int)) && decide ((cmpL out best) < 0))))]) (fun _ w' => St w O w' [Ob.v (tSl (tP (tSl (tI .i64)) (tSl (tI .i64)))) left lv, .row (tI .i64) 3 ov out, Ob.v (tSl (tI .i64)) best bv, .row (tP (tSl (tI .i64)) (tSl (tI .i64))) 62 v_8 l, .box g_1 66 (List.map (Value.int .u8) zs)]) ?_ ?_
          · rcases Bool.eq_false_or_eq_true (!fd || decide ((out.length : Int) < (best.length : Int))) with g_60 | g_60
            · -- True
              have gp_61 := g_60
              try simp only [Bool.and_eq_true, Bool.or_eq_true, Bool.not_eq_true', Bool.and_eq_false_iff, Bool.or_eq_false_iff, Bool.not_eq_false', decide_eq_true_eq, decide_eq_false_iff_not, not_or, Bool.false_eq_true, Bool.true_eq_false, false_or, or_false, not_false_eq_true] at gp_61
              refine Wx.gnoB rfl rfl (congrArg Value.bool g_60) rfl rfl ?_
              refine Wx.gnoB rfl rfl (congrArg Value.bool g_60) rfl rfl ?_
              refine Wx.gnoB rfl rfl (congrArg Value.bool g_60) rfl rfl ?_
              refine Wx.gnoB rfl rfl (congrArg Value.bool g_60) rfl rfl ?_
              refine Wx.gnoB rfl rfl (congrArg Value.bool g_60) rfl rfl ?_
              refine Wx.gnoB rfl rfl (congrArg Value.bool g_60) rfl rfl ?_
              refine Wx.gno rfl rfl rfl rfl ?_
              refine Wx.gno rfl rfl rfl rfl ?_
              refine Wx.gno rfl rfl rfl rfl ?_
              refine Wx.gno rfl rfl rfl rfl ?_
              refine Wx.gnoB rfl rfl (congrArg Value.bool g_60) rfl rfl ?_
              refine Wx.gyes rfl rfl (congrArg Value.bool g_53) ?_
              refine Wx.rd (v := .bool true) (rd_pickT (congrArg Value.bool g_60) rfl) rfl ?_
              refine Wx.nil ⟨(), hS, ⟨?_, trivial⟩, Out.look rfl Out.refl⟩
              show Value.bool true = Value.bool ((!fd || decide ((out.length : Int) < (best.length : Int))) || (decide ((out.length : Int) = (best.length : Int)) && decide ((cmpL out best) < 0)))
              first | rw [g_60, Bool.true_or] | (rw [g_60]; rfl)
            · -- False
              have gp_62 := g_60
              try simp only [Bool.and_eq_true, Bool.or_eq_true, Bool.not_eq_true', Bool.and_eq_false_iff, Bool.or_eq_false_iff, Bool.not_eq_false', decide_eq_true_eq, decide_eq_false_iff_not, not_or, Bool.false_eq_true, Bool.true_eq_false, false_or, or_false, not_false_eq_true] at gp_62
              refine Wx.gyes rfl rfl (congrArg Value.bool g_60) ?_
              refine Wx.rd (v := ov) (rd_move rfl) rfl ?_
              refine Wx.gyes rfl rfl (congrArg Value.bool g_60) ?_
              refine Wx.rd (v := .int .i64 (out.length : Int)) (rd_lenR hS 1 rfl rfl Try.underlying39) rfl ?_
              refine Wx.gyes rfl rfl (congrArg Value.bool g_60) ?_
              refine Wx.rd (v := bv) (rd_move rfl) rfl ?_
              refine Wx.gyes rfl rfl (congrArg Value.bool g_60) ?_
              refine Wx.rd (v := .int .i64 (best.length : Int)) (rd_lenV rfl (hS.v 2 rfl) Try.underlying39) rfl ?_
              refine Wx.gyes rfl rfl (congrArg Value.bool g_60) ?_
              refine Wx.rd (v := .bool (decide ((out.length : Int) = (best.length : Int)))) (rd_eql rfl rfl) rfl ?_
              refine Wx.gyes rfl rfl (congrArg Value.bool g_60) ?_
              refine Wx.rd (v := .bool (decide ((out.length : Int) = (best.length : Int)))) (rd_move rfl) rfl ?_
              refine Wx.cut (X := Unit) 5 [73, 74, 75, 76, 77] (fun _ => [(77, .bool (decide ((out.length : Int) = (best.length : Int)) && decide ((cmpL out best) < 0)))]) (fun _ w' => St w O w' [Ob.v (tSl (tP (tSl (tI .i64)) (tSl (tI .i64)))) left lv, .row (tI .i64) 3 ov out, Ob.v (tSl (tI .i64)) best bv, .row (tP (tSl (tI .i64)) (tSl (tI .i64))) 62 v_8 l, .box g_1 66 (List.map (Value.int .u8) zs)]) ?_ ?_
              · rcases Bool.eq_false_or_eq_true (decide ((out.length : Int) = (best.length : Int))) with g_63 | g_63
                · -- True
                  have gp_64 := of_decide_eq_true g_63
                  refine Wx.gyes rfl rfl (congrArg Value.bool g_63) ?_
                  refine Wx.rd (v := ov) (rd_move rfl) rfl ?_
                  refine Wx.gyes rfl rfl (congrArg Value.bool g_63) ?_
                  refine Wx.rd (v := bv) (rd_move rfl) rfl ?_
                  refine Wx.gyes rfl rfl (congrArg Value.bool g_63) ?_
                  refine Wx.callF (run_callF Try.call52 rfl) (F52 (hS.lend 1 rfl) (hS.v 2 rfl)) rfl ?_
                  rintro r_65 w_66 hx_67 rfl
                  have hS := hS.ext hx_67
                  refine Wx.gyes rfl rfl (congrArg Value.bool g_63) ?_
                  refine Wx.rd (v := .bool (decide ((cmpL out best) < 0))) (rd_lss rfl rfl) rfl ?_
                  refine Wx.gyes rfl rfl (congrArg Value.bool g_60) ?_
                  refine Wx.rd (v := .bool (decide ((cmpL out best) < 0))) (rd_pickT (congrArg Value.bool g_63) rfl) rfl ?_
                  refine Wx.nil ⟨(), hS, ⟨?_, trivial⟩, Out.look rfl Out.refl⟩
                  show Value.bool (decide ((cmpL out best) < 0)) = Value.bool (decide ((out.length : Int) = (best.length : Int)) && decide ((cmpL out best) < 0))
                  first | rw [g_63, Bool.true_and] | (rw [g_63]; rfl)
                · -- False
                  have gp_68 := of_decide_eq_false g_63
                  refine Wx.gnoB rfl rfl (congrArg Value.bool g_63) rfl rfl ?_
                  refine Wx.gnoB rfl rfl (congrArg Value.bool g_63) rfl rfl ?_
                  refine Wx.gnoB rfl rfl (congrArg Value.bool g_63) rfl rfl ?_
                  refine Wx.gnoB rfl rfl (congrArg Value.bool g_63) rfl rfl ?_
                  refine Wx.gyes rfl rfl (congrArg Value.bool g_60) ?_
                  refine Wx.rd (v := .bool false) (rd_pickF (congrArg Value.bool g_63) rfl) rfl ?_
                  refine Wx.nil ⟨(), hS, ⟨?_, trivial⟩, Out.look rfl Out.refl⟩
                  show Value.bool false = Value.bool (decide ((out.length : Int) = (best.length : Int)) && decide ((cmpL out best) < 0))
                  first | rw [g_63, Bool.false_and] | (rw [g_63]; rfl)
              rintro ⟨⟩ u_70 w_69 hS
              refine Wx.gyes rfl rfl (congrArg Value.bool g_53) ?_
              refine Wx.rd (v := .bool (decide ((out.length : Int) = (best.length : Int)) && decide ((cmpL out best) < 0))) (rd_pickF (congrArg Value.bool g_60) rfl) rfl ?_
              refine Wx.nil ⟨(), hS, ⟨?_, trivial⟩, Out.look rfl (Out.hav rfl (Out.look rfl Out.refl))⟩
              show Value.bool (decide ((out.length : Int) = (best.length : Int)) && decide ((cmpL out best) < 0)) = Value.bool ((!fd || decide ((out.length : Int) < (best.length : Int))) || (decide ((out.length : Int) = (best.length : Int)) && decide ((cmpL out best) < 0)))
              first | rw [g_60, Bool.false_or] | (rw [g_60]; rfl)
          rintro ⟨⟩ u_72 w_71 hS
          refine Wx.rd (v := .bool ((!fd || decide ((out.length : Int) < (best.length : Int))) || (decide ((out.length : Int) = (best.length : Int)) && decide ((cmpL out best) < 0)))) (rd_pickT (congrArg Value.bool g_53) rfl) rfl ?_
          refine Wx.nil ⟨(), hS, ⟨?_, trivial⟩, Out.look rfl (Out.hav rfl (Out.look rfl (Out.hav rfl (Out.look rfl Out.refl))))⟩
          show Value.bool ((!fd || decide ((out.length : Int) < (best.length : Int))) || (decide ((out.length : Int) = (best.length : Int)) && decide ((cmpL out best) < 0))) = Value.bool (!(!(noR (leftS l s))) && ((!fd || decide ((out.length : Int) < (best.length : Int))) || (decide ((out.length : Int) = (best.length : Int)) && decide ((cmpL out best) < 0))))
          first | rw [g_53, Bool.true_and] | (rw [g_53]; rfl)
        · -- False
          have gp_73 := g_53
          try simp only [Bool.and_eq_true, Bool.or_eq_true, Bool.not_eq_true', Bool.and_eq_false_iff, Bool.or_eq_false_iff, Bool.not_eq_false', decide_eq_true_eq, decide_eq_false_iff_not, not_or, Bool.false_eq_true, Bool.true_eq_false, false_or, or_false, not_false_eq_true] at gp_73
          refine Wx.gnoB rfl rfl (congrArg Value.bool g_53) rfl rfl ?_
          refine Wx.gnoB rfl rfl (congrArg Value.bool g_53) rfl rfl ?_
          refine Wx.gnoB rfl rfl (congrArg Value.bool g_53) rfl rfl ?_
          refine Wx.gno rfl rfl rfl rfl ?_
          refine Wx.gno rfl rfl rfl rfl ?_
          refine Wx.gno rfl rfl rfl rfl ?_
          refine Wx.gno rfl rfl rfl rfl ?_
          refine Wx.gno rfl rfl rfl rfl ?_
          refine Wx.gnoB rfl rfl (congrArg Value.bool g_53) rfl rfl ?_
          refine Wx.gnoB rfl rfl (congrArg Value.bool g_53) rfl rfl ?_
          refine Wx.gno rfl rfl rfl rfl ?_
          refine Wx.gno rfl rfl rfl rfl ?_
          refine Wx.gno rfl rfl rfl rfl ?_
          refine Wx.gno rfl rfl rfl rfl ?_
          refine Wx.gno rfl rfl rfl rfl ?_
          refine Wx.gno rfl rfl rfl rfl ?_
          refine Wx.gno rfl rfl rfl rfl ?_
          refine Wx.gno rfl rfl rfl rfl ?_
          refine Wx.gno rfl rfl rfl rfl ?_
          refine Wx.gno rfl rfl rfl rfl ?_
          refine Wx.gno rfl rfl rfl rfl ?_
          refine Wx.gnoB rfl rfl (congrArg Value.bool g_53) rfl rfl ?_
          refine Wx.rd (v := .bool false) (rd_pickF (congrArg Value.bool g_53) rfl) rfl ?_
          refine Wx.nil ⟨(), hS, ⟨?_, trivial⟩, Out.look rfl Out.refl⟩
          show Value.bool false = Value.bool (!(!(noR (leftS l s))) && ((!fd || decide ((out.length : Int) < (best.length : Int))) || (decide ((out.length : Int) = (best.length : Int)) && decide ((cmpL out best) < 0))))
          first | rw [g_53, Bool.false_and] | (rw [g_53]; rfl)
      rintro ⟨⟩ u_75 w_74 hS
      refine Wx.nil ?_
      refine W.cond rfl (fun c3 => ?_) (fun c3 => ?_)
      · -- yes
        try simp only [Bool.and_eq_true, Bool.or_eq_true, Bool.not_eq_true', Bool.and_eq_false_iff, Bool.or_eq_false_iff, Bool.not_eq_false', decide_eq_true_eq, decide_eq_false_iff_not, not_or, Bool.false_eq_true, Bool.true_eq_false, false_or, or_false, not_false_eq_true] at c3
        refine W.reg ?_
        refine Wx.rd (v := ov) (rd_move rfl) rfl ?_
        refine Wx.rd (v := ov) (rd_assign rfl) rfl ?_
        refine Wx.rd (v := .bool true) (rd_assign rfl) rfl ?_
        refine Wx.nil ?_
        refine W.reg ?_
        refine Wx.rd (v := .int .i64 (s + 1)) (rd_add rfl rfl (in_i64 (by omega) (by omega))) rfl ?_
        refine Wx.rd (v := .int .i64 (s + 1)) (rd_move rfl) rfl ?_
        refine Wx.nil ?_
        have hS := hS.freeze 1 rfl
        have hv_77 : V (tSl (tI .i64)) out ov _ _ := (hS.v 0 rfl)
        refine ⟨(ov, out, true, s + 1), (by show (2 ^ l.length - (s + 1)).toNat < (2 ^ l.length - s).toNat; omega), ?_, ?_, Out.look rfl (Out.hav rfl (Out.look rfl (Out.hav rfl (Out.look rfl Out.self))))⟩
        · exact ⟨(St.add (St.tl (St.tl (St.tl (hS)))) (V.tlF (V.tlF (V.tlF (hv_77))))), (by first | omega | assumption), (by first | omega | assumption), (by rw [← h2, rng_cons c0, List.foldl_cons, lw_yes (by rw [← hoe]; exact c3), ← hoe])⟩
        · exact ⟨rfl, rfl, rfl, trivial⟩
      · -- no
        try simp only [Bool.and_eq_true, Bool.or_eq_true, Bool.not_eq_true', Bool.and_eq_false_iff, Bool.or_eq_false_iff, Bool.not_eq_false', decide_eq_true_eq, decide_eq_false_iff_not, not_or, Bool.false_eq_true, Bool.true_eq_false, false_or, or_false, not_false_eq_true] at c3
        refine W.skip ?_
        refine W.reg ?_
        refine Wx.rd (v := .int .i64 (s + 1)) (rd_add rfl rfl (in_i64 (by omega) (by omega))) rfl ?_
        refine Wx.rd (v := .int .i64 (s + 1)) (rd_move rfl) rfl ?_
        refine Wx.nil ?_
        have hv_78 : V (tSl (tI .i64)) best bv _ _ := (hS.v 2 rfl)
        refine ⟨(bv, best, fd, s + 1), (by show (2 ^ l.length - (s + 1)).toNat < (2 ^ l.length - s).toNat; omega), ?_, ?_, Out.look rfl (Out.hav rfl (Out.look rfl (Out.hav rfl (Out.look rfl Out.self))))⟩
        · exact ⟨(St.add (St.tl (St.tl (St.tl (hS)))) (V.tlF (V.tlF (V.tlF (hv_78))))), (by first | omega | assumption), (by first | omega | assumption), (by rw [← h2, rng_cons c0, List.foldl_cons, lw_no (by rw [← hoe]; exact c3)])⟩
        · exact ⟨rfl, rfl, rfl, trivial⟩
  · -- no
    refine W.exit rfl ?_
    refine W.seq ?_
    refine W.reg ?_
    refine Wx.rd (v := .int .i64 (shG zs)) (rd_move rfl) rfl ?_
    refine Wx.rd (v := v_8) (rd_move rfl) rfl ?_
    have hS := hS.freeze 1 rfl
    refine Wx.callF (run_callF Try.call39 rfl) (F39 (in_i64 (by omega) (by omega)) (hS.v 0 rfl) hS.fb_lt) rfl ?_
    rintro r_80 w_81 hx_82 ⟨v_83, rfl, hv_84⟩
    have ln_86 := hv_84.len63
    have hS := hS.ext hx_82
    have hS := hS.add hv_84
    refine Wx.rd (v := .tuple #[v_83, .int .i64 (checkE (shG zs) l)]) (rd_move rfl) rfl ?_
    refine Wx.rd (v := v_83) (rd_extract rfl rfl) rfl ?_
    refine Wx.rd (v := .int .i64 (checkE (shG zs) l)) (rd_extract rfl rfl) rfl ?_
    refine Wx.rd (v := v_83) (rd_assign rfl) rfl ?_
    refine Wx.rd (v := .int .i64 0) (Rd.to (v := .int .i64 (checkE (shG zs) l)) (rd_assign rfl) (congrArg (Value.int .i64) (show (0 : Int) = (checkE (shG zs) l : Int) from hc.symm).symm)) rfl ?_
    refine Wx.nil ?_
    refine W.seq ?_
    refine W.reg ?_
    refine Wx.rd (v := .int .i64 (shG zs)) (rd_move rfl) rfl ?_
    refine Wx.rd (v := v_8) (rd_move rfl) rfl ?_
    refine Wx.callF (run_callF Try.call29 rfl) (F29 (in_i64 (by omega) (by omega)) (hS.v 1 rfl) hS.fb_lt) rfl ?_
    rintro r_87 w_88 hx_89 rfl
    have hS := hS.ext hx_89
    refine Wx.rd (v := .tuple #[.bool (tasteE (shG zs) l), .int .i64 (checkE (shG zs) l)]) (rd_move rfl) rfl ?_
    refine Wx.rd (v := .bool (tasteE (shG zs) l)) (rd_extract rfl rfl) rfl ?_
    refine Wx.rd (v := .int .i64 (checkE (shG zs) l)) (rd_extract rfl rfl) rfl ?_
    refine Wx.rd (v := .bool (noR l)) (Rd.to (v := .bool (tasteE (shG zs) l)) (rd_assign rfl) (congrArg (Value.bool) (show (noR l : Bool) = (tasteE (shG zs) l : Bool) from (taste_noR hc).symm).symm)) rfl ?_
    refine Wx.rd (v := .int .i64 0) (Rd.to (v := .int .i64 (checkE (shG zs) l)) (rd_assign rfl) (congrArg (Value.int .i64) (show (0 : Int) = (checkE (shG zs) l : Int) from hc.symm).symm)) rfl ?_
    refine Wx.nil ?_
    refine W.seq ?_
    refine W.reg ?_
    refine Wx.rd (v := .int .i64 (shG zs)) (rd_move rfl) rfl ?_
    refine Wx.rd (v := v_8) (rd_move rfl) rfl ?_
    refine Wx.callF (run_callF Try.call31 rfl) (F31 (in_i64 (by omega) (by omega)) (hS.v 1 rfl) hS.fb_lt) rfl ?_
    rintro r_90 w_91 hx_92 ⟨v_93, rfl, hv_94⟩
    have ln_96 := hv_94.len63
    have hS := hS.ext hx_92
    have hS := hS.add hv_94
    refine Wx.rd (v := .tuple #[v_93, .int .i64 (ringX (shG zs) l)]) (rd_move rfl) rfl ?_
    refine Wx.rd (v := v_93) (rd_extract rfl rfl) rfl ?_
    refine Wx.rd (v := .int .i64 (ringX (shG zs) l)) (rd_extract rfl rfl) rfl ?_
    refine Wx.rd (v := v_93) (rd_assign rfl) rfl ?_
    refine Wx.rd (v := .int .i64 (ringX (shG zs) l)) (rd_assign rfl) rfl ?_
    refine Wx.nil ?_
    refine W.seq ?_
    refine W.reg ?_
    refine Wx.rd (v := .int .i64 (ringX (shG zs) l)) (rd_move rfl) rfl ?_
    refine Wx.rd (v := .bool (decide ((ringX (shG zs) l) ≠ 0))) (rd_neq rfl rfl) rfl ?_
    refine Wx.rd (v := .bool (decide ((ringX (shG zs) l) ≠ 0))) (rd_assign rfl) rfl ?_
    refine Wx.nil ?_
    refine W.seq ?_
    refine W.seq ?_
    refine W.reg ?_
    refine Wx.rd (v := v_93) (rd_move rfl) rfl ?_
    refine Wx.rd (v := .int .i64 ((ringE (shG zs) l).length : Int)) (rd_lenV rfl (hS.v 0 rfl) Try.underlying39) rfl ?_
    refine Wx.rd (v := .int .i64 0) (rd_move rfl) rfl ?_
    refine Wx.nil ?_
    refine W.block ?_
    refine W.loop [18, 20, 104, 105, 106, 107, 108, 109, 110, 111, 112, 113, 114] (fun x : Bool × Int => match x with | (hit, q) => [(18, .bool hit), (104, .int .i64 q)]) (fun (x : Bool × Int) w' => match x with | (hit, q) => St w O w' [Ob.v (tSl (tI .i64)) (ringE (shG zs) l) v_93, Ob.v (tSl (tI .i64)) (wrongE (shG zs) l) v_83, Ob.v (tSl (tP (tSl (tI .i64)) (tSl (tI .i64)))) l v_8, Ob.v (tSl (tI .i64)) best bv, .box g_1 66 (List.map (Value.int .u8) zs)] ∧ 0 ≤ q ∧ q ≤ ((ringE (shG zs) l).length : Int) ∧ (decide (ringX (shG zs) l ≠ 0) || (rng 0 q).any fun i => hasL (wrongE (shG zs) l) (ix 0 (ringE (shG zs) l) i)) = hit) (fun x : Bool × Int => match x with | (hit, q) => ((ringE (shG zs) l).length - q).toNat) (decide ((ringX (shG zs) l) ≠ 0), 0) ⟨rfl, rfl, trivial⟩ ⟨hS, (by first | omega | simp), (by first | omega | simp), (by rw [rng_nil (Int.le_refl _)]; exact Bool.or_false _)⟩ ?_
    rintro ⟨hit, q⟩ u_98 w_97 ⟨hS, q0, q1, q2⟩
    refine W.seq ?_
    refine W.reg ?_
    refine Wx.rd (v := .bool (decide (q < ((ringE (shG zs) l).length : Int)))) (rd_lss rfl rfl) rfl ?_
    refine Wx.nil ?_
    refine W.seq ?_
    refine W.condD rfl (fun c4 => ?_) (fun c4 => ?_)
    · -- yes
      refine W.skip ?_
      refine W.seq ?_
      refine W.block ?_
      refine W.seq ?_
      refine W.reg ?_
      refine Wx.ex (rd_index 0 (hS.v 0 rfl) rfl rfl Try.underlying39 Try.sizeOf3 (by first | omega | (simp only [List.length_set, List.length_append, List.length_cons, List.length_nil, List.length_replicate]; omega)) (by first | omega | (simp only [List.length_set, List.length_append, List.length_cons, List.length_nil, List.length_replicate]; omega))) rfl (fun p_99 hp_100 => ?_)
      refine Wx.rd (v := .int .i64 (ix 0 (ringE (shG zs) l) q)) (rd_loadI hp_100 rfl Try.isAgg3 Try.sizeOf3) rfl ?_
      have bd_101 := bd_i64 hp_100.inK
      refine Wx.rd (v := .int .i64 (ix 0 (ringE (shG zs) l) q)) (rd_assign rfl) rfl ?_
      refine Wx.nil ?_
      refine W.reg ?_
      refine Wx.rd (v := .bool hit) (rd_move rfl) rfl ?_
      refine Wx.rd (v := .bool hit) (rd_move rfl) rfl ?_
      refine Wx.cut (X := Unit) 4 [110, 111, 112, 113] (fun _ => [(113, .bool (hit || hasL (wrongE (shG zs) l) (ix 0 (ringE (shG zs) l) q)))]) (fun _ w' => St w O w' [Ob.v (tSl (tI .i64)) (ringE (shG zs) l) v_93, Ob.v (tSl (tI .i64)) (wrongE (shG zs) l) v_83, Ob.v (tSl (tP (tSl (tI .i64)) (tSl (tI .i64)))) l v_8, Ob.v (tSl (tI .i64)) best bv, .box g_1 66 (List.map (Value.int .u8) zs)]) ?_ ?_
      · rcases Bool.eq_false_or_eq_true hit with g_102 | g_102
        · -- True
          have gp_103 := g_102
          try simp only [Bool.and_eq_true, Bool.or_eq_true, Bool.not_eq_true', Bool.and_eq_false_iff, Bool.or_eq_false_iff, Bool.not_eq_false', decide_eq_true_eq, decide_eq_false_iff_not, not_or, Bool.false_eq_true, Bool.true_eq_false, false_or, or_false, not_false_eq_true] at gp_103
          refine Wx.gnoB rfl rfl (congrArg Value.bool g_102) rfl rfl ?_
          refine Wx.gnoB rfl rfl (congrArg Value.bool g_102) rfl rfl ?_
          refine Wx.gnoB rfl rfl (congrArg Value.bool g_102) rfl rfl ?_
          refine Wx.rd (v := .bool true) (rd_pickT (congrArg Value.bool g_102) rfl) rfl ?_
          refine Wx.nil ⟨(), hS, ⟨?_, trivial⟩, Out.look rfl Out.refl⟩
          show Value.bool true = Value.bool (hit || hasL (wrongE (shG zs) l) (ix 0 (ringE (shG zs) l) q))
          first | rw [g_102, Bool.true_or] | (rw [g_102]; rfl)
        · -- False
          have gp_104 := g_102
          try simp only [Bool.and_eq_true, Bool.or_eq_true, Bool.not_eq_true', Bool.and_eq_false_iff, Bool.or_eq_false_iff, Bool.not_eq_false', decide_eq_true_eq, decide_eq_false_iff_not, not_or, Bool.false_eq_true, Bool.true_eq_false, false_or, or_false, not_false_eq_true] at gp_104
          refine Wx.gyes rfl rfl (congrArg Value.bool g_102) ?_
          refine Wx.rd (v := v_83) (rd_move rfl) rfl ?_
          refine Wx.gyes rfl rfl (congrArg Value.bool g_102) ?_
          refine Wx.rd (v := .int .i64 (ix 0 (ringE (shG zs) l) q)) (rd_move rfl) rfl ?_
          refine Wx.gyes rfl rfl (congrArg Value.bool g_102) ?_
          refine Wx.callF (run_callF Try.call55 rfl) (F55 (hS.v 1 rfl) (in_i64 (by omega) (by omega))) rfl ?_
          rintro r_105 w_106 hx_107 rfl
          have hS := hS.ext hx_107
          refine Wx.rd (v := .bool (hasL (wrongE (shG zs) l) (ix 0 (ringE (shG zs) l) q))) (rd_pickF (congrArg Value.bool g_102) rfl) rfl ?_
          refine Wx.nil ⟨(), hS, ⟨?_, trivial⟩, Out.look rfl Out.refl⟩
          show Value.bool (hasL (wrongE (shG zs) l) (ix 0 (ringE (shG zs) l) q)) = Value.bool (hit || hasL (wrongE (shG zs) l) (ix 0 (ringE (shG zs) l) q))
          first | rw [g_102, Bool.false_or] | (rw [g_102]; rfl)
      rintro ⟨⟩ u_109 w_108 hS
      refine Wx.rd (v := .bool (hit || hasL (wrongE (shG zs) l) (ix 0 (ringE (shG zs) l) q))) (rd_assign rfl) rfl ?_
      refine Wx.nil ?_
      refine W.reg ?_
      refine Wx.rd (v := .int .i64 (q + 1)) (rd_add rfl rfl (in_i64 (by omega) (by omega))) rfl ?_
      refine Wx.rd (v := .int .i64 (q + 1)) (rd_move rfl) rfl ?_
      refine Wx.nil ?_
      refine ⟨((hit || hasL (wrongE (shG zs) l) (ix 0 (ringE (shG zs) l) q)), q + 1), (by show ((ringE (shG zs) l).length - (q + 1)).toNat < ((ringE (shG zs) l).length - q).toNat; omega), ?_, ?_, Out.look rfl (Out.hav rfl (Out.look rfl Out.self))⟩
      · exact ⟨hS, (by first | omega | assumption), (by first | omega | assumption), (by rw [any_snoc' q0, ← Bool.or_assoc, q2])⟩
      · exact ⟨rfl, rfl, trivial⟩
    · -- no
      have hht : hit = true := by rw [← q2]; exact left_hit hc (by omega)
      refine W.exit rfl ?_
      refine W.seq ?_
      refine W.reg ?_
      refine Wx.rd (v := .int .i64 0) (rd_move rfl) rfl ?_
      refine Wx.rd (v := .bool true) (Rd.to (v := .bool (decide ((0 : Int) = 0))) (rd_eql rfl rfl) rfl) rfl ?_
      refine Wx.rd (v := .bool true) (rd_move rfl) rfl ?_
      refine Wx.gyes rfl rfl rfl ?_
      refine Wx.rd (v := .int .i64 0) (rd_move rfl) rfl ?_
      refine Wx.gyes rfl rfl rfl ?_
      refine Wx.rd (v := .bool true) (Rd.to (v := .bool (decide ((0 : Int) = 0))) (rd_eql rfl rfl) rfl) rfl ?_
      refine Wx.rd (v := .bool true) (rd_pickT rfl rfl) rfl ?_
      refine Wx.rd (v := .bool true) (rd_move rfl) rfl ?_
      refine Wx.gyes rfl rfl rfl ?_
      refine Wx.rd (v := v_83) (rd_move rfl) rfl ?_
      refine Wx.gyes rfl rfl rfl ?_
      refine Wx.rd (v := bv) (rd_move rfl) rfl ?_
      refine Wx.gyes rfl rfl rfl ?_
      refine Wx.callF (run_callF Try.call33 rfl) (F33 (hS.v 1 rfl) (hS.v 3 rfl)) rfl ?_
      rintro r_110 w_111 hx_112 rfl
      have hS := hS.ext hx_112
      rw [show (decide ((wrongE (shG zs) l) = best) : Bool) = true from (decide_eq_true (by rw [wrongE_ok hc, ← h2, rng_nil (by omega)]; rfl))]
      refine Wx.rd (v := .bool true) (rd_pickT rfl rfl) rfl ?_
      refine Wx.rd (v := .bool true) (rd_move rfl) rfl ?_
      refine Wx.gyes rfl rfl rfl ?_
      refine Wx.rd (v := .bool (noR l)) (rd_move rfl) rfl ?_
      refine Wx.gyes rfl rfl rfl ?_
      refine Wx.rd (v := v_83) (rd_move rfl) rfl ?_
      refine Wx.gyes rfl rfl rfl ?_
      refine Wx.rd (v := .int .i64 ((wrongE (shG zs) l).length : Int)) (rd_lenV rfl (hS.v 1 rfl) Try.underlying39) rfl ?_
      refine Wx.gyes rfl rfl rfl ?_
      refine Wx.rd (v := .bool (decide (((wrongE (shG zs) l).length : Int) = 0))) (rd_eql rfl rfl) rfl ?_
      refine Wx.gyes rfl rfl rfl ?_
      refine Wx.rd (v := .bool true) (Rd.to (v := .bool ((noR l) == (decide (((wrongE (shG zs) l).length : Int) = 0)))) (rd_eqlB rfl rfl Try.underlying4) (congrArg (Value.bool) (show (true : Bool) = ((noR l) == (decide (((wrongE (shG zs) l).length : Int) = 0)) : Bool) from (by rw [wrongE_ok hc, wrg_nil]; exact (beq_self_eq_true _).symm)).symm)) rfl ?_
      refine Wx.rd (v := .bool true) (rd_pickT rfl rfl) rfl ?_
      refine Wx.rd (v := .bool true) (rd_move rfl) rfl ?_
      refine Wx.gyes rfl rfl rfl ?_
      refine Wx.rd (v := .bool hit) (rd_move rfl) rfl ?_
      refine Wx.rd (v := .bool hit) (rd_pickT rfl rfl) rfl ?_
      refine Wx.rd (v := .bool hit) (rd_move rfl) rfl ?_
      refine Wx.cut (X := Unit) 2 [137, 138] (fun _ => [(138, .bool (hit && true))]) (fun _ w' => St w O w' [Ob.v (tSl (tI .i64)) (ringE (shG zs) l) v_93, Ob.v (tSl (tI .i64)) (wrongE (shG zs) l) v_83, Ob.v (tSl (tP (tSl (tI .i64)) (tSl (tI .i64)))) l v_8, Ob.v (tSl (tI .i64)) best bv, .box g_1 66 (List.map (Value.int .u8) zs)]) ?_ ?_
      · rcases Bool.eq_false_or_eq_true hit with g_113 | g_113
        · -- True
          have gp_114 := g_113
          try simp only [Bool.and_eq_true, Bool.or_eq_true, Bool.not_eq_true', Bool.and_eq_false_iff, Bool.or_eq_false_iff, Bool.not_eq_false', decide_eq_true_eq, decide_eq_false_iff_not, not_or, Bool.false_eq_true, Bool.true_eq_false, false_or, or_false, not_false_eq_true] at gp_114
          refine Wx.gyes rfl rfl (congrArg Value.bool g_113) ?_
          refine Wx.callF (run_callF Try.call16 rfl) (F16 hS.fb_lt) rfl ?_
          rintro r_115 w_116 hx_117 rfl
          have hS := hS.ext hx_117
          refine Wx.rd (v := .bool true) (rd_pickT (congrArg Value.bool g_113) rfl) rfl ?_
          refine Wx.nil ⟨(), hS, ⟨?_, trivial⟩, Out.look rfl Out.refl⟩
          show Value.bool true = Value.bool (hit && true)
          first | rw [g_113, Bool.true_and] | (rw [g_113]; rfl)
        · -- False
          have gp_118 := g_113
          try simp only [Bool.and_eq_true, Bool.or_eq_true, Bool.not_eq_true', Bool.and_eq_false_iff, Bool.or_eq_false_iff, Bool.not_eq_false', decide_eq_true_eq, decide_eq_false_iff_not, not_or, Bool.false_eq_true, Bool.true_eq_false, false_or, or_false, not_false_eq_true] at gp_118
          refine Wx.gnoB rfl rfl (congrArg Value.bool g_113) rfl rfl ?_
          refine Wx.rd (v := .bool false) (rd_pickF (congrArg Value.bool g_113) rfl) rfl ?_
          refine Wx.nil ⟨(), hS, ⟨?_, trivial⟩, Out.look rfl Out.refl⟩
          show Value.bool false = Value.bool (hit && true)
          first | rw [g_113, Bool.false_and] | (rw [g_113]; rfl)
      rintro ⟨⟩ u_120 w_119 hS
      refine Wx.rd (v := .bool (hit && true)) (rd_assign rfl) rfl ?_
      refine Wx.nil ?_
      have e0_0 : (hit && true) = true := by rw [hht]; rfl
      exact W.ret ⟨.bool (hit && true), ResIs.one, hS.bel, (by rw [e0_0])⟩
end Go.Proofs.Ytjbcpggikaeleaa

namespace Go.Wk
open Go.RowKit Go.ChangeShapes
section
variable {H : Type} {enc : TypeId × Value → H} {P : Program} {W : World}
theorem RdI.arrayN {k : IntKind} {n m : Nat} {e t : TypeId} (hu : P.underlying t = some (.array n e)) (he : RdI enc P W k m e) (hc : P.cellsOf e = m) (hn : P.cellsOf t = n * m) : RdI enc P W k (n * m) t := by
  intro fuel cs x h
  obtain ⟨xs, f', _, _, hl, hx, hel⟩ := DataW.trod_array hu h
  rw [hc] at hel
  rw [hn] at hl
  have h1 : ∀ j, j ≤ n → ∃ zs : List Int, zs.length = j * m ∧ cs.take (j * m) = zs.map (Value.int k) ∧ ∀ z ∈ zs, InK k z := by
    intro j
    induction j with
    | zero => exact fun _ => ⟨[], by simp, by simp, fun z hz => by cases hz⟩
    | succ j ih =>
      intro hj
      obtain ⟨zs, l1, l2, l3⟩ := ih (by omega)
      have := hel j (by omega)
      cases hxi : xs[j]? with
      | none => rw [List.getElem?_eq_none_iff] at hxi; omega
      | some y =>
        rw [hxi] at this
        obtain ⟨zt, m1, m2, m3⟩ := he _ _ _ this
        refine ⟨zs ++ zt, by rw [List.length_append, l1, m1, Nat.succ_mul], ?_, fun z hz => (List.mem_append.1 hz).elim (l3 z) (m3 z)⟩
        rw [Nat.succ_mul, List.take_add, l2, List.map_append, ← m2]
  obtain ⟨zs, l1, l2, l3⟩ := h1 n (Nat.le_refl n)
  exact ⟨zs, l1, by rw [← l2, List.take_of_length_le (by omega)], l3⟩
end
end Go.Wk

namespace Go.Wk
open Go.RowKit Go.ChangeShapes
section
variable {H : Type} {enc : TypeId × Value → H} {P : Program} {W : World}
theorem drop_split (l : List Value) (a b : Nat) : l.drop a = (l.drop a).take b ++ l.drop (a + b) := by
  have := (List.take_append_drop b (l.drop a)).symm
  rw [List.drop_drop] at this
  exact this
theorem RdI.struct5 {k : IntKind} {t : TypeId} {f0 f1 f2 f3 f4 : Field} {m0 m1 m2 m3 m4 : Nat} (hu : P.underlying t = some (.struct #[f0, f1, f2, f3, f4])) (h0 : RdI enc P W k m0 f0.type) (h1 : RdI enc P W k m1 f1.type) (h2 : RdI enc P W k m2 f2.type) (h3 : RdI enc P W k m3 f3.type) (h4 : RdI enc P W k m4 f4.type)
    (c0 : P.cellsOf f0.type = m0) (c1 : P.cellsOf f1.type = m1) (c2 : P.cellsOf f2.type = m2) (c3 : P.cellsOf f3.type = m3) (c4 : P.cellsOf f4.type = m4) (o0 : f0.offset = 0) (o1 : f1.offset = m0) (o2 : f2.offset = m0 + m1) (o3 : f3.offset = m0 + m1 + m2) (o4 : f4.offset = m0 + m1 + m2 + m3)
    (hC : P.cellsOf t = m0 + m1 + m2 + m3 + m4) : RdI enc P W k (m0 + m1 + m2 + m3 + m4) t := by
  intro fuel cs x h
  obtain ⟨xs, n, _, rfl, hl, hlen, hf⟩ := DataW.trod_struct hu h
  match xs, hlen with
  | [y0, y1, y2, y3, y4], _ =>
    have r0 := hf 0 f0 rfl
    have r1 := hf 1 f1 rfl
    have r2 := hf 2 f2 rfl
    have r3 := hf 3 f3 rfl
    have r4 := hf 4 f4 rfl
    rw [c0, o0] at r0
    rw [c1, o1] at r1
    rw [c2, o2] at r2
    rw [c3, o3] at r3
    rw [c4, o4] at r4
    rw [hC] at hl
    obtain ⟨z0, l0, e0, i0⟩ := h0 _ _ _ (by simpa using r0)
    obtain ⟨z1, l1, e1, i1⟩ := h1 _ _ _ (by simpa using r1)
    obtain ⟨z2, l2, e2, i2⟩ := h2 _ _ _ (by simpa using r2)
    obtain ⟨z3, l3, e3, i3⟩ := h3 _ _ _ (by simpa using r3)
    obtain ⟨z4, l4, e4, i4⟩ := h4 _ _ _ (by simpa using r4)
    refine ⟨z0 ++ (z1 ++ (z2 ++ (z3 ++ z4))), by simp only [List.length_append, l0, l1, l2, l3, l4]; omega, ?_, fun z hz => ?_⟩
    · have e5 : (cs.drop (m0 + m1 + m2 + m3)).take m4 = cs.drop (m0 + m1 + m2 + m3) := List.take_of_length_le (by rw [List.length_drop]; omega)
      rw [List.map_append, List.map_append, List.map_append, List.map_append, ← e0, ← e1, ← e2, ← e3, ← e4, e5, ← drop_split, ← drop_split, ← drop_split, List.take_append_drop]
    · rw [List.mem_append, List.mem_append, List.mem_append, List.mem_append] at hz
      rcases hz with hz | hz | hz | hz | hz
      · exact i0 z hz
      · exact i1 z hz
      · exact i2 z hz
      · exact i3 z hz
      · exact i4 z hz
end
end Go.Wk

namespace Go.Proofs.Ytjbcpggikaeleaa.tasteLeft
open Go.ChangeShapes Go.WideShapes Go.ChangeAt Go.RowKit Go.Joins Go.Wk
set_option linter.unusedVariables false

theorem own : ownKnob Try.prog.godebug = none := by kernel_rfl
theorem laidOut : laidOutB Try.prog = true := by kernel_rfl
theorem cells5 : Try.prog.cellsOf 5 = 1 := by kernel_rfl
theorem cells63 : Try.prog.cellsOf 63 = 3 := by kernel_rfl
theorem cells64 : Try.prog.cellsOf 64 = 18 := by kernel_rfl
theorem cells66 : Try.prog.cellsOf 66 = 39 := by kernel_rfl

set_option maxRecDepth 100000 in
theorem lifted (os : Os) (started : os.Started) (H : Type) (enc : TypeId × Value → H) :
    ReturnsInHanded {} Try.checked os 11 .any (Rows.tasteLeftSpec.pre6 enc Try.prog Try.f11 Rows.tasteLeftRow.domain false) (Rows.tasteLeftSpec.post enc Try.prog Try.f11 false true false false) := by
  refine returnsInHanded_of_change (C := Try.checked) own started (by kernel_rfl) Try.func11
    (ChangeSpec.witness6 (enc := enc) (C := Try.checked) false ⟨#[], #[.agg #[.int .u8 0, .int .u8 0, .int .u8 0, .int .u8 0, .int .u8 0, .int .u8 0, .int .u8 0, .int .u8 0, .int .u8 0, .int .u8 0, .int .u8 0, .int .u8 0, .int .u8 0, .int .u8 0, .int .u8 0, .int .u8 0, .int .u8 0, .int .u8 0, .int .u8 0, .int .u8 0, .int .u8 0, .int .u8 0, .int .u8 0, .int .u8 0, .int .u8 0, .int .u8 0, .int .u8 0, .int .u8 0, .int .u8 0, .int .u8 0, .int .u8 0, .int .u8 0, .int .u8 0, .int .u8 0, .int .u8 0, .int .u8 0, .int .u8 0, .int .u8 0, .int .u8 0]], []⟩ 8 (by kernel_rfl) (by kernel_rfl) (by kernel_rfl) (by kernel_rfl)) ?_
  intro W base args ds gs before hval0 hW hcnd _
  have hval : ∀ (j : Nat) t v, Try.f11.params[j]? = some t → args[j]? = some v → Value.okWide Try.prog W .any base t v := hval0
  have hW' := hW
  obtain ⟨p, q, hA0, hV, rfl, hfz, hnd⟩ := hW
  have hA : DataW.TrodAll enc Try.prog W 0 (fun _ => true) true Try.f11.params.toList args.toList ds p := hA0
  rw [Try.params11] at hA hval
  obtain ⟨v0, vs0, d0, ds0, p0, q0, hargs, rfl, rfl, h0, r0⟩ := trodAll_cons hA
  obtain ⟨rfl, rfl, rfl⟩ := trodAll_nil r0
  obtain rfl : args = #[v0] := by cases args; simp_all
  obtain ⟨rfl, rfl⟩ := trodVars_none hV
  have k0 := h0
  have lt0 : ∀ x ∈ p0, x.block < W.heap.size := by obtain ⟨m, hm⟩ := k0; exact DataW.trod_lt m _ _ _ hm
  obtain ⟨cs0, rfl, hsz0⟩ := okWide_struct Try.underlying66 (hval 0 66 v0 rfl rfl)
  obtain ⟨zs0, hz0, rfl, hin0⟩ := RdI.v (RdI.struct5 Try.underlying66 (RdI.int Try.underlying5) (RdI.int Try.underlying5) (RdI.int Try.underlying5) (RdI.arrayN (n := 6) Try.underlying64 (RdI.array Try.underlying63 Try.underlying5 cells5 cells63) cells63 cells64) (RdI.arrayN (n := 6) Try.underlying64 (RdI.array Try.underlying63 Try.underlying5 cells5 cells63) cells63 cells64) cells5 cells5 cells5 cells64 cells64 rfl rfl rfl rfl rfl cells66) h0
  clear hA0 hval0
  refine (F11 hz0 hin0 (fun b (h : some b ∈ ([] : List (Option Nat))) => nomatch h)).mono fun e W' hE => ?_
  obtain ⟨r, he, bel, hr⟩ := hE
  subst he
  subst hr
  exact ⟨_, rfl, _, _, _, [], _, [], hW', trodAll_mk1 (shut_bool Try.underlying4 _), (trodAll_cons_mk (Below.trod laidOut (by kernel_rfl) (of_decide_eq_true (by kernel_rfl)) k0 bel lt0) trodAll_mk0), rfl, bel.frame _, fun h => by cases h⟩

theorem over : Rows.tasteLeftRow.holds Try.pinned (OpenSpec.ofChange Rows.tasteLeftSpec) :=
  OpenClaim.holds_of_wide 11 Try.f11 rfl rfl rfl rfl rfl rfl rfl ⟨rfl, rfl, rfl, rfl, rfl⟩ rfl rfl rfl rfl rfl (by kernel_rfl) Try.func11 (by kernel_rfl)
    (of_decide_eq_true (by kernel_rfl)) (by unfold Func.isWrapper; first | (rw [if_pos (by decide +kernel)]; kernel_rfl) | (rw [if_neg (by decide +kernel)]; exact ⟨rfl, rfl⟩))
    (fun os started H enc _ => lifted os started H enc)

end Go.Proofs.Ytjbcpggikaeleaa.tasteLeft
namespace Go.Proofs.Ytjbcpggikaeleaa
/-- The statement. -/
theorem tasteLeft_proved : Rows.TasteLeftSaid := tasteLeft.over
#print axioms tasteLeft_proved
end Go.Proofs.Ytjbcpggikaeleaa
