/-
  WHAT IS PROVED HERE, TEXT BY TEXT (several texts of one prover, joined to one file; the conditions stand in each statement):
  * WHAT IS PROVED HERE: what functions of layer 10 hand back, each out of its own code; the conditions stand in each statement.
  * WHAT IS PROVED HERE: what functions of layer 10 hand back, each out of its own code; the conditions stand in each statement.
  * WHAT IS PROVED HERE: arrays of arrays of numbers as they are read at the start. Conditions: the types' closed facts, as hypotheses.
  * WHAT IS PROVED HERE: structs of five parts, integers of one kind all, as they are read at the start. Conditions: the types' closed facts, as hypotheses.
  * WHAT IS PROVED HERE: the given statement of TasteMore: for every input it returns true, and each argument reads as it did. Conditions: none.
-/
import Derived.Test.YtjbcpggikaeleaaProg
import Derived.Test.YtjbcpggikaeleaaU2
import Derived.Test.YtjbcpggikaeleaaU5
import Derived.Test.YtjbcpggikaeleaaRows
import Derived.WalkKit
import Derived.ProofKit
import Derived.OpenShut
import Derived.Carry
import Derived.Lib.SmallJoins

set_option linter.unusedVariables false
set_option linter.unusedSimpArgs false

namespace Go.Proofs.Ytjbcpggikaeleaa
open Go.Wk Go.RowKit Go.Lib
set_option linter.unusedVariables false
set_option linter.unusedSimpArgs false
theorem foLl_66_0 : fldOff Try.prog 66 0 = some 0 := by kernel_rfl
theorem foLl_66_1 : fldOff Try.prog 66 1 = some 1 := by kernel_rfl
theorem foLl_66_3 : fldOff Try.prog 66 3 = some 3 := by kernel_rfl
theorem elLl_39 : ElemI Try.prog 39 3 (.int .i64 0) 1 8 := ElemI.of Try.underlying39 (by kernel_rfl) (by first | rfl | kernel_rfl) (by decide)
theorem foLl_66_4 : fldOff Try.prog 66 4 = some 21 := by kernel_rfl
theorem foLl_66_2 : fldOff Try.prog 66 2 = some 2 := by kernel_rfl
theorem elLl_22 : ElemI Try.prog 22 62 (.agg #[(.slice none 0 0), (.slice none 0 0)]) 2 48 := ElemI.of Try.underlying22 (by kernel_rfl) (by first | rfl | kernel_rfl) (by decide)
set_option maxHeartbeats 2000000 in
set_option maxRecDepth 10000 in
theorem F46 {zs : List Int} {most : Int} {O : List (Option Nat)} {w : World} (n_zs : zs.length = 39) (i_zs : ∀ z ∈ zs, InK .u8 z) (i_most : InK .i64 most) (p_m : 0 ≤ most) (p_6 : most ≤ 6) (hO : ∀ b, some b ∈ O → b < w.heap.size) : Calls Try.prog 46 #[.agg (List.map (Value.int .u8) zs).toArray, .int .i64 most] w (Ret w (fun r w' => ∃ l : List Sale, (shopP zs most l) ∧ ∃ rv, r = .tuple #[.int .i64 (shG zs), rv] ∧ FreshO (tP (tSl (tI .i64)) (tSl (tI .i64))) 62 l rv O w.heap.size w')) := by
  have b_most := bd_i64 i_most
  have hz0 := ix_u8 i_zs 0
  have hz1 := ix_u8 i_zs 1
  have hz2 := ix_u8 i_zs 2
  have hN0 := Int.emod_nonneg (ix 0 zs 1) (show most + 1 ≠ 0 by omega)
  have hN1 := Int.emod_lt_of_pos (ix 0 zs 1) (show 0 < most + 1 by omega)
  have hS := St.start w O hO
  refine enterR Try.func46 rfl Try.ntmps46 Try.results46 rfl ?_
  refine W.seq ?_
  refine W.reg ?_
  refine Wx.box (cs := List.map (Value.int .u8) zs) hS rfl rfl rfl (fun g_1 w_2 hx_4 hb_3 hS => ?_)
  refine Wx.rd (v := .int .i64 0) (rd_assign rfl) rfl ?_
  refine Wx.rd (v := (.slice none 0 0)) (rd_assign rfl) rfl ?_
  refine Wx.nil ?_
  refine W.seq ?_
  refine W.reg ?_
  refine Wx.rd (v := .pointer (some ⟨g_1, 0 + 0, none⟩)) (rd_fieldAddr (o := 0) rfl foLl_66_0) rfl ?_
  have bz_5 := ix_u8 i_zs 0
  refine Wx.rd (v := .int .u8 (ix 0 zs 0)) (rd_loadXa (d := 0) (f := (Value.int .u8)) (j := 0) hS 0 rfl rfl (by omega) (by omega) (by omega) Try.isAgg5) rfl ?_
  refine Wx.rd (v := .int .i64 (ix 0 zs 0)) (rd_convIn rfl Try.underlying5 Try.underlying3 (in_i64 (by omega) (by omega))) rfl ?_
  refine Wx.rd (v := .int .i64 ((ix 0 zs 0) % 3)) (rd_rem rfl rfl (by omega) (by omega)) rfl ?_
  refine Wx.rd (v := .int .i64 (1 + ((ix 0 zs 0) % 3))) (rd_add rfl rfl (in_i64 (by omega) (by omega))) rfl ?_
  refine Wx.rd (v := .int .i64 (1 + ((ix 0 zs 0) % 3))) (rd_assign rfl) rfl ?_
  refine Wx.nil ?_
  refine W.seq ?_
  refine W.reg ?_
  refine Wx.rd (v := (.slice none 0 0)) (rd_assign rfl) rfl ?_
  refine Wx.nil ?_
  refine W.seq ?_
  refine W.seq ?_
  refine W.reg ?_
  refine Wx.rd (v := .pointer (some ⟨g_1, 0 + 1, none⟩)) (rd_fieldAddr (o := 0) rfl foLl_66_1) rfl ?_
  have bz_6 := ix_u8 i_zs 1
  refine Wx.rd (v := .int .u8 (ix 0 zs 1)) (rd_loadXa (d := 0) (f := (Value.int .u8)) (j := 1) hS 0 rfl rfl (by omega) (by omega) (by omega) Try.isAgg5) rfl ?_
  refine Wx.rd (v := .int .i64 (ix 0 zs 1)) (rd_convIn rfl Try.underlying5 Try.underlying3 (in_i64 (by omega) (by omega))) rfl ?_
  refine Wx.rd (v := .int .i64 most) (rd_move rfl) rfl ?_
  refine Wx.rd (v := .int .i64 (most + 1)) (rd_add rfl rfl (in_i64 (by omega) (by omega))) rfl ?_
  refine Wx.rd (v := .int .i64 ((ix 0 zs 1) % (most + 1))) (rd_rem rfl rfl (by omega) (by omega)) rfl ?_
  refine Wx.rd (v := .int .i64 0) (rd_move rfl) rfl ?_
  refine Wx.nil ?_
  refine W.block ?_
  have hS := hS.addNil (tP (tSl (tI .i64)) (tSl (tI .i64))) 62
  refine W.loop [7, 8, 9, 10, 11, 12, 13, 14, 15, 16, 17, 18, 19, 20, 21, 33, 34, 35, 36, 37, 38, 39, 40, 41, 42, 43, 44, 45, 46, 47, 48, 49, 50, 51, 52, 53, 54, 55, 56, 57, 58, 59, 60, 61, 62, 63, 64, 65, 66, 67, 68, 69, 70, 71, 72, 73, 74, 75, 76, 77, 78, 79, 80, 81, 82, 83, 84, 85, 86, 87, 88, 89, 90, 91, 92, 93, 94, 95, 96, 97, 98, 99, 100, 101, 102, 103, 104, 105, 106, 107, 108, 109, 110, 111, 112, 113, 114, 115, 116, 117, 118, 119, 120, 121, 122, 123, 124, 125, 126, 127, 128, 129, 130, 131, 132, 133, 134, 135, 136, 137, 138, 139] (fun x : Int × Value × (List ((List Int) × (List Int))) => match x with | (i, ov, out) => [(33, .int .i64 i), (7, ov)]) (fun (x : Int × Value × (List ((List Int) × (List Int)))) w' => match x with | (i, ov, out) => St w O w' [.row (tP (tSl (tI .i64)) (tSl (tI .i64))) 62 ov out, .box g_1 66 (List.map (Value.int .u8) zs)] ∧ 0 ≤ i ∧ i ≤ (ix 0 zs 1 % (most + 1)) ∧ (out.length : Int) = i ∧ (∀ s ∈ out, shS (shG zs) s)) (fun x : Int × Value × (List ((List Int) × (List Int))) => match x with | (i, ov, out) => ((ix 0 zs 1 % (most + 1)) - i).toNat) (0, (.slice none 0 0), []) ⟨rfl, rfl, trivial⟩ ⟨hS, (by first | omega | simp), (by first | omega | simp), (rfl), (fun s hs => nomatch hs)⟩ ?_
  rintro ⟨i, ov, out⟩ u_8 w_7 ⟨hS, h0, h1, h2, h3⟩
  refine W.seq ?_
  refine W.reg ?_
  refine Wx.rd (v := .bool (decide (i < ((ix 0 zs 1) % (most + 1))))) (rd_lss rfl rfl) rfl ?_
  refine Wx.nil ?_
  refine W.seq ?_
  refine W.condD rfl (fun c0 => ?_) (fun c0 => ?_)
  · -- yes
    refine W.skip ?_
    refine W.seq ?_
    refine W.block ?_
    refine W.seq ?_
    refine W.reg ?_
    refine Wx.rd (v := .int .i64 i) (rd_move rfl) rfl ?_
    refine Wx.rd (v := .int .i64 i) (rd_assign rfl) rfl ?_
    refine Wx.nil ?_
    refine W.seq ?_
    refine W.reg ?_
    refine Wx.rd (v := (.slice none 0 0)) (rd_assign rfl) rfl ?_
    refine Wx.rd (v := (.slice none 0 0)) (rd_assign rfl) rfl ?_
    refine Wx.nil ?_
    refine W.seq ?_
    refine W.seq ?_
    refine W.reg ?_
    refine Wx.rd (v := .int .i64 (1 + ((ix 0 zs 0) % 3))) (rd_move rfl) rfl ?_
    refine Wx.rd (v := .int .i64 0) (rd_move rfl) rfl ?_
    refine Wx.nil ?_
    refine W.block ?_
    have hS := hS.addNil (tI .i64) 3
    have hS := hS.addNil (tI .i64) 3
    refine W.loop [9, 10, 11, 37, 38, 39, 40, 41, 42, 43, 44, 45, 46, 47, 48, 49, 50, 51, 52, 53, 54, 55, 56, 57, 58, 59, 60, 61, 62, 63] (fun x : Int × Value × (List Int) × Value × (List Int) => match x with | (k, pv, p, tv, t) => [(37, .int .i64 k), (9, pv), (10, tv)]) (fun (x : Int × Value × (List Int) × Value × (List Int)) w' => match x with | (k, pv, p, tv, t) => St w O w' [.row (tI .i64) 3 tv t, .row (tI .i64) 3 pv p, .row (tP (tSl (tI .i64)) (tSl (tI .i64))) 62 ov out, .box g_1 66 (List.map (Value.int .u8) zs)] ∧ 0 ≤ k ∧ k ≤ (1 + ix 0 zs 0 % 3) ∧ (p.length : Int) = k ∧ (t.length : Int) = k ∧ (∀ x ∈ p, 1 ≤ x ∧ x ≤ 4) ∧ (∀ x ∈ t, 0 ≤ x ∧ x ≤ 4)) (fun x : Int × Value × (List Int) × Value × (List Int) => match x with | (k, pv, p, tv, t) => ((1 + ix 0 zs 0 % 3) - k).toNat) (0, (.slice none 0 0), [], (.slice none 0 0), []) ⟨rfl, rfl, rfl, trivial⟩ ⟨hS, (by first | omega | simp), (by first | omega | simp), (rfl), (rfl), (fun s hs => nomatch hs), (fun s hs => nomatch hs)⟩ ?_
    rintro ⟨k, pv, p, tv, t⟩ u_10 w_9 ⟨hS, k0, k1, k2, k3, k4, k5⟩
    refine W.seq ?_
    refine W.reg ?_
    refine Wx.rd (v := .bool (decide (k < (1 + ((ix 0 zs 0) % 3))))) (rd_lss rfl rfl) rfl ?_
    refine Wx.nil ?_
    refine W.seq ?_
    refine W.condD rfl (fun c1 => ?_) (fun c1 => ?_)
    · -- yes
      refine W.skip ?_
      refine W.seq ?_
      refine W.block ?_
      refine W.seq ?_
      refine W.reg ?_
      refine Wx.rd (v := .int .i64 k) (rd_move rfl) rfl ?_
      refine Wx.rd (v := .int .i64 k) (rd_assign rfl) rfl ?_
      refine Wx.nil ?_
      refine W.seq ?_
      refine W.reg ?_
      refine Wx.rd (v := pv) (rd_move rfl) rfl ?_
      refine Wx.rd (v := .int .i64 i) (rd_move rfl) rfl ?_
      refine Wx.rd (v := .int .i64 k) (rd_move rfl) rfl ?_
      refine Wx.rd (v := .pointer (some ⟨g_1, 0 + 3, none⟩)) (rd_fieldAddr (o := 0) rfl foLl_66_3) rfl ?_
      refine Wx.rd (v := .pointer (some ⟨g_1, 0 + 3 + i.toNat * 3, none⟩)) (rd_indexArr rfl rfl Try.underlying64 Try.sizeOf63 (by omega) (by omega)) rfl ?_
      refine Wx.rd (v := .pointer (some ⟨g_1, 0 + 3 + i.toNat * 3 + k.toNat * 1, none⟩)) (rd_indexArr rfl rfl Try.underlying63 Try.sizeOf5 (by omega) (by omega)) rfl ?_
      have bz_11 := ix_u8 i_zs (3 + i * 3 + k)
      refine Wx.rd (v := .int .u8 (ix 0 zs (3 + i * 3 + k))) (rd_loadXa (d := 0) (f := (Value.int .u8)) (j := 3 + i * 3 + k) hS 3 rfl rfl (by omega) (by omega) (by omega) Try.isAgg5) rfl ?_
      refine Wx.rd (v := .int .i64 (ix 0 zs (3 + i * 3 + k))) (rd_convIn rfl Try.underlying5 Try.underlying3 (in_i64 (by omega) (by omega))) rfl ?_
      refine Wx.rd (v := .int .i64 ((ix 0 zs (3 + i * 3 + k)) % 4)) (rd_rem rfl rfl (by omega) (by omega)) rfl ?_
      refine Wx.rd (v := .int .i64 (1 + ((ix 0 zs (3 + i * 3 + k)) % 4))) (rd_add rfl rfl (in_i64 (by omega) (by omega))) rfl ?_
      refine Wx.lit (t := (tI .i64)) (ys := [1 + ((ix 0 zs (3 + i * 3 + k)) % 4)]) (vs := [.int .i64 (1 + ((ix 0 zs (3 + i * 3 + k)) % 4))]) elLl_39 hS rfl rfl ⟨(V.mkInt (in_i64 (by omega) (by omega))), trivial⟩ (by decide) rfl (fun v_12 w_13 hx_14 hS => ?_)
      refine Wx.append elLl_39 hS 2 rfl rfl rfl (Src.ofR hS 0 rfl) (by simp only [maxLen]; simp; omega) (by simp; omega) rfl (fun v_15 w_16 hz_17 hS => ?_)
      refine Wx.rd (v := v_15) (rd_assign rfl) rfl ?_
      refine Wx.nil ?_
      refine W.reg ?_
      refine Wx.rd (v := tv) (rd_move rfl) rfl ?_
      refine Wx.rd (v := .int .i64 i) (rd_move rfl) rfl ?_
      refine Wx.rd (v := .int .i64 k) (rd_move rfl) rfl ?_
      refine Wx.rd (v := .pointer (some ⟨g_1, 0 + 21, none⟩)) (rd_fieldAddr (o := 0) rfl foLl_66_4) rfl ?_
      refine Wx.rd (v := .pointer (some ⟨g_1, 0 + 21 + i.toNat * 3, none⟩)) (rd_indexArr rfl rfl Try.underlying64 Try.sizeOf63 (by omega) (by omega)) rfl ?_
      refine Wx.rd (v := .pointer (some ⟨g_1, 0 + 21 + i.toNat * 3 + k.toNat * 1, none⟩)) (rd_indexArr rfl rfl Try.underlying63 Try.sizeOf5 (by omega) (by omega)) rfl ?_
      have bz_18 := ix_u8 i_zs (21 + i * 3 + k)
      refine Wx.rd (v := .int .u8 (ix 0 zs (21 + i * 3 + k))) (rd_loadXa (d := 0) (f := (Value.int .u8)) (j := 21 + i * 3 + k) hS 4 rfl rfl (by omega) (by omega) (by omega) Try.isAgg5) rfl ?_
      refine Wx.rd (v := .int .i64 (ix 0 zs (21 + i * 3 + k))) (rd_convIn rfl Try.underlying5 Try.underlying3 (in_i64 (by omega) (by omega))) rfl ?_
      refine Wx.rd (v := .int .i64 ((ix 0 zs (21 + i * 3 + k)) % 5)) (rd_rem rfl rfl (by omega) (by omega)) rfl ?_
      refine Wx.lit (t := (tI .i64)) (ys := [(ix 0 zs (21 + i * 3 + k)) % 5]) (vs := [.int .i64 ((ix 0 zs (21 + i * 3 + k)) % 5)]) elLl_39 hS rfl rfl ⟨(V.mkInt (in_i64 (by omega) (by omega))), trivial⟩ (by decide) rfl (fun v_19 w_20 hx_21 hS => ?_)
      refine Wx.append elLl_39 hS 2 rfl rfl rfl (Src.ofR hS 0 rfl) (by simp only [maxLen]; simp; omega) (by simp; omega) rfl (fun v_22 w_23 hz_24 hS => ?_)
      refine Wx.rd (v := v_22) (rd_assign rfl) rfl ?_
      refine Wx.nil ?_
      refine W.reg ?_
      refine Wx.rd (v := .int .i64 (k + 1)) (rd_add rfl rfl (in_i64 (by omega) (by omega))) rfl ?_
      refine Wx.rd (v := .int .i64 (k + 1)) (rd_move rfl) rfl ?_
      refine Wx.nil ?_
      refine ⟨(k + 1, v_15, p ++ [1 + ((ix 0 zs (3 + i * 3 + k)) % 4)], v_22, t ++ [(ix 0 zs (21 + i * 3 + k)) % 5]), (by show ((1 + ix 0 zs 0 % 3) - (k + 1)).toNat < ((1 + ix 0 zs 0 % 3) - k).toNat; omega), ?_, ?_, Out.look rfl Out.self⟩
      · exact ⟨St.tl (hS.tl), (by first | omega | assumption), (by first | omega | assumption), (by simp only [List.length_append, List.length_cons, List.length_nil]; omega), (by simp only [List.length_append, List.length_cons, List.length_nil]; omega), (snoc_all k4 (by omega)), (snoc_all k5 (by omega))⟩
      · exact ⟨rfl, rfl, rfl, trivial⟩
    · -- no
      refine W.exit rfl ?_
      refine W.seq ?_
      refine W.seq ?_
      refine W.reg ?_
      refine Wx.rd (v := .pointer (some ⟨g_1, 0 + 2, none⟩)) (rd_fieldAddr (o := 0) rfl foLl_66_2) rfl ?_
      have bz_25 := ix_u8 i_zs 2
      refine Wx.rd (v := .int .u8 (ix 0 zs 2)) (rd_loadXa (d := 0) (f := (Value.int .u8)) (j := 2) hS 3 rfl rfl (by omega) (by omega) (by omega) Try.isAgg5) rfl ?_
      refine Wx.rd (v := .int .u8 ((ix 0 zs 2) % 2)) (rd_rem rfl rfl (by omega) (by omega)) rfl ?_
      refine Wx.rd (v := .bool (decide (((ix 0 zs 2) % 2) = 1))) (rd_eql rfl rfl) rfl ?_
      refine Wx.nil ?_
      have hS := hS.freeze 0 rfl
      refine W.cutK [10, 12, 13, 14, 15, 16, 17, 18, 19, 20, 21, 68, 69, 70, 71, 72, 73, 74, 75, 76, 77, 78, 79, 80, 81, 82, 83, 84, 85, 86, 87, 88, 89, 90, 91, 92, 93, 94, 95, 96, 97, 98, 99, 100, 101, 102, 103, 104, 105, 106, 107, 108, 109, 110, 111, 112, 113, 114, 115, 116, 117, 118, 119, 120, 121, 122, 123, 124, 125, 126, 127, 128, 129, 130, 131, 132] (fun x : Value × (List Int) => match x with | (jv, tj) => [(10, jv)]) (fun (x : Value × (List Int)) w' => match x with | (jv, tj) => St w O w' [Ob.v (tSl (tI .i64)) tj jv, Ob.v (tSl (tI .i64)) t tv, .row (tI .i64) 3 pv p, .row (tP (tSl (tI .i64)) (tSl (tI .i64))) 62 ov out, .box g_1 66 (List.map (Value.int .u8) zs)] ∧ (tj.length : Int) = (1 + ix 0 zs 0 % 3) ∧ (∀ x ∈ tj, 0 ≤ x ∧ x ≤ 4)) ?_ ?_
      · -- up to the cut
        refine W.condD rfl (fun c2 => ?_) (fun c2 => ?_)
        · -- yes
          refine W.seq ?_
          refine W.reg ?_
          refine Wx.rd (v := .int .i64 i) (rd_move rfl) rfl ?_
          refine Wx.rd (v := .pointer (some ⟨g_1, 0 + 21, none⟩)) (rd_fieldAddr (o := 0) rfl foLl_66_4) rfl ?_
          refine Wx.rd (v := .pointer (some ⟨g_1, 0 + 21 + i.toNat * 3, none⟩)) (rd_indexArr rfl rfl Try.underlying64 Try.sizeOf63 (by omega) (by omega)) rfl ?_
          refine Wx.rd (v := .pointer (some ⟨g_1, 0 + 21 + i.toNat * 3 + (0 : Int).toNat * 1, none⟩)) (rd_indexArr rfl rfl Try.underlying63 Try.sizeOf5 (by omega) (by omega)) rfl ?_
          have bz_28 := ix_u8 i_zs (21 + i * 3 + 0)
          refine Wx.rd (v := .int .u8 (ix 0 zs (21 + i * 3 + 0))) (rd_loadXa (d := 0) (f := (Value.int .u8)) (j := 21 + i * 3 + 0) hS 3 rfl rfl (by omega) (by omega) (by omega) Try.isAgg5) rfl ?_
          refine Wx.rd (v := .int .i64 (ix 0 zs (21 + i * 3 + 0))) (rd_convIn rfl Try.underlying5 Try.underlying3 (in_i64 (by omega) (by omega))) rfl ?_
          refine Wx.rd (v := .int .i64 ((ix 0 zs (21 + i * 3 + 0)) % 9)) (rd_rem rfl rfl (by omega) (by omega)) rfl ?_
          refine Wx.rd (v := .int .i64 (4 + ((ix 0 zs (21 + i * 3 + 0)) % 9))) (rd_add rfl rfl (in_i64 (by omega) (by omega))) rfl ?_
          refine Wx.rd (v := .int .i64 (4 + ((ix 0 zs (21 + i * 3 + 0)) % 9))) (rd_assign rfl) rfl ?_
          refine Wx.nil ?_
          refine W.seq ?_
          refine W.reg ?_
          refine Wx.rd (v := .int .i64 (-1)) (rd_assign rfl) rfl ?_
          refine Wx.nil ?_
          refine W.seq ?_
          refine W.reg ?_
          refine Wx.rd (v := .int .i64 0) (rd_move rfl) rfl ?_
          refine Wx.nil ?_
          refine W.block ?_
          have hv_30 : V (tSl (tI .i64)) t tv _ _ := (hS.v 0 rfl)
          have hS := hS.add (hv_30)
          refine W.loop [10, 13, 14, 15, 16, 17, 18, 19, 20, 21, 76, 77, 78, 79, 80, 81, 82, 83, 84, 85, 86, 87, 88, 89, 90, 91, 92, 93, 94, 95, 96, 97, 98, 99, 100, 101, 102, 103, 104, 105, 106, 107, 108, 109, 110, 111, 112, 113, 114, 115, 116, 117, 118, 119, 120, 121, 122, 123, 124, 125, 126, 127, 128, 129, 130, 131, 132] (fun x : Value × (List Int) × Int × Int => match x with | (t4v, t4, b4, xa) => [(10, t4v), (13, .int .i64 b4), (76, .int .i64 xa)]) (fun (x : Value × (List Int) × Int × Int) w' => match x with | (t4v, t4, b4, xa) => St w O w' [Ob.v (tSl (tI .i64)) t4 t4v, Ob.v (tSl (tI .i64)) t tv, .row (tI .i64) 3 pv p, .row (tP (tSl (tI .i64)) (tSl (tI .i64))) 62 ov out, .box g_1 66 (List.map (Value.int .u8) zs)] ∧ 0 ≤ xa ∧ xa ≤ 5 ∧ (t4.length : Int) = (1 + ix 0 zs 0 % 3) ∧ (∀ x ∈ t4, 0 ≤ x ∧ x ≤ 4) ∧ -1 ≤ b4 ∧ b4 ≤ 343) (fun x : Value × (List Int) × Int × Int => match x with | (t4v, t4, b4, xa) => (5 - xa).toNat) (tv, t, -1, 0) ⟨rfl, rfl, rfl, trivial⟩ ⟨hS, (by first | omega | simp), (by first | omega | simp), (by omega), (k5), (by first | omega | simp), (by first | omega | simp)⟩ ?_
          rintro ⟨t4v, t4, b4, xa⟩ u_32 w_31 ⟨hS, x0, x1, xl, xb, x4, x5⟩
          refine W.seq ?_
          refine W.reg ?_
          refine Wx.rd (v := .bool (decide (xa < 5))) (rd_lss rfl rfl) rfl ?_
          refine Wx.nil ?_
          refine W.seq ?_
          refine W.condD rfl (fun c3 => ?_) (fun c3 => ?_)
          · -- yes
            refine W.skip ?_
            refine W.seq ?_
            refine W.block ?_
            refine W.seq ?_
            refine W.reg ?_
            refine Wx.rd (v := .int .i64 xa) (rd_move rfl) rfl ?_
            refine Wx.rd (v := .int .i64 xa) (rd_assign rfl) rfl ?_
            refine Wx.nil ?_
            refine W.seq ?_
            refine W.reg ?_
            refine Wx.rd (v := .int .i64 0) (rd_move rfl) rfl ?_
            refine Wx.nil ?_
            refine W.block ?_
            have hv_34 : V (tSl (tI .i64)) t4 t4v _ _ := (hS.v 0 rfl)
            have hS := hS.add (hv_34)
            refine W.loop [10, 13, 15, 16, 17, 18, 19, 20, 21, 79, 80, 81, 82, 83, 84, 85, 86, 87, 88, 89, 90, 91, 92, 93, 94, 95, 96, 97, 98, 99, 100, 101, 102, 103, 104, 105, 106, 107, 108, 109, 110, 111, 112, 113, 114, 115, 116, 117, 118, 119, 120, 121, 122, 123, 124, 125, 126, 127, 128, 129, 130, 131] (fun x : Value × (List Int) × Int × Int => match x with | (t6v, t6, b6, ya) => [(10, t6v), (13, .int .i64 b6), (79, .int .i64 ya)]) (fun (x : Value × (List Int) × Int × Int) w' => match x with | (t6v, t6, b6, ya) => St w O w' [Ob.v (tSl (tI .i64)) t6 t6v, Ob.v (tSl (tI .i64)) t4 t4v, Ob.v (tSl (tI .i64)) t tv, .row (tI .i64) 3 pv p, .row (tP (tSl (tI .i64)) (tSl (tI .i64))) 62 ov out, .box g_1 66 (List.map (Value.int .u8) zs)] ∧ 0 ≤ ya ∧ ya ≤ 5 ∧ (t6.length : Int) = (1 + ix 0 zs 0 % 3) ∧ (∀ x ∈ t6, 0 ≤ x ∧ x ≤ 4) ∧ -1 ≤ b6 ∧ b6 ≤ 343) (fun x : Value × (List Int) × Int × Int => match x with | (t6v, t6, b6, ya) => (5 - ya).toNat) (t4v, t4, b4, 0) ⟨rfl, rfl, rfl, trivial⟩ ⟨hS, (by first | omega | simp), (by first | omega | simp), (xl), (xb), (by first | omega | simp), (by first | omega | simp)⟩ ?_
            rintro ⟨t6v, t6, b6, ya⟩ u_36 w_35 ⟨hS, y0, y1, yl, yb, y4, y5⟩
            refine W.seq ?_
            refine W.reg ?_
            refine Wx.rd (v := .bool (decide (ya < 5))) (rd_lss rfl rfl) rfl ?_
            refine Wx.nil ?_
            refine W.seq ?_
            refine W.condD rfl (fun c4 => ?_) (fun c4 => ?_)
            · -- yes
              refine W.skip ?_
              refine W.seq ?_
              refine W.block ?_
              refine W.seq ?_
              refine W.reg ?_
              refine Wx.rd (v := .int .i64 ya) (rd_move rfl) rfl ?_
              refine Wx.rd (v := .int .i64 ya) (rd_assign rfl) rfl ?_
              refine Wx.nil ?_
              refine W.seq ?_
              refine W.reg ?_
              refine Wx.rd (v := .int .i64 0) (rd_move rfl) rfl ?_
              refine Wx.nil ?_
              refine W.block ?_
              have hv_38 : V (tSl (tI .i64)) t6 t6v _ _ := (hS.v 0 rfl)
              have hS := hS.add (hv_38)
              refine W.loop [10, 13, 16, 17, 18, 19, 20, 21, 82, 83, 84, 85, 86, 87, 88, 89, 90, 91, 92, 93, 94, 95, 96, 97, 98, 99, 100, 101, 102, 103, 104, 105, 106, 107, 108, 109, 110, 111, 112, 113, 114, 115, 116, 117, 118, 119, 120, 121, 122, 123, 124, 125, 126, 127, 128, 129, 130] (fun x : Value × (List Int) × Int × Int => match x with | (t8v, t8, b8, za) => [(10, t8v), (13, .int .i64 b8), (82, .int .i64 za)]) (fun (x : Value × (List Int) × Int × Int) w' => match x with | (t8v, t8, b8, za) => St w O w' [Ob.v (tSl (tI .i64)) t8 t8v, Ob.v (tSl (tI .i64)) t6 t6v, Ob.v (tSl (tI .i64)) t4 t4v, Ob.v (tSl (tI .i64)) t tv, .row (tI .i64) 3 pv p, .row (tP (tSl (tI .i64)) (tSl (tI .i64))) 62 ov out, .box g_1 66 (List.map (Value.int .u8) zs)] ∧ 0 ≤ za ∧ za ≤ 5 ∧ (t8.length : Int) = (1 + ix 0 zs 0 % 3) ∧ (∀ x ∈ t8, 0 ≤ x ∧ x ≤ 4) ∧ -1 ≤ b8 ∧ b8 ≤ 343) (fun x : Value × (List Int) × Int × Int => match x with | (t8v, t8, b8, za) => (5 - za).toNat) (t6v, t6, b6, 0) ⟨rfl, rfl, rfl, trivial⟩ ⟨hS, (by first | omega | simp), (by first | omega | simp), (yl), (yb), (by first | omega | simp), (by first | omega | simp)⟩ ?_
              rintro ⟨t8v, t8, b8, za⟩ u_40 w_39 ⟨hS, z0, z1, zl, zb, z4, z5⟩
              refine W.seq ?_
              refine W.reg ?_
              refine Wx.rd (v := .bool (decide (za < 5))) (rd_lss rfl rfl) rfl ?_
              refine Wx.nil ?_
              refine W.seq ?_
              refine W.condD rfl (fun c5 => ?_) (fun c5 => ?_)
              · -- yes
                refine W.skip ?_
                refine W.seq ?_
                refine W.block ?_
                refine W.seq ?_
                refine W.reg ?_
                refine Wx.rd (v := .int .i64 za) (rd_move rfl) rfl ?_
                refine Wx.rd (v := .int .i64 za) (rd_assign rfl) rfl ?_
                refine Wx.nil ?_
                refine W.seq ?_
                refine W.reg ?_
                refine Wx.rd (v := .int .i64 xa) (rd_move rfl) rfl ?_
                refine Wx.rd (v := .int .i64 ya) (rd_move rfl) rfl ?_
                refine Wx.rd (v := .int .i64 za) (rd_move rfl) rfl ?_
                refine Wx.lit (t := (tI .i64)) (ys := [xa, ya, za]) (vs := [.int .i64 xa, .int .i64 ya, .int .i64 za]) elLl_39 hS rfl rfl ⟨(V.mkInt (in_i64 (by omega) (by omega))), ⟨(V.mkInt (in_i64 (by omega) (by omega))), ⟨(V.mkInt (in_i64 (by omega) (by omega))), trivial⟩⟩⟩ (by decide) rfl (fun v_41 w_42 hx_43 hS => ?_)
                refine Wx.rd (v := .int .i64 (1 + ((ix 0 zs 0) % 3))) (rd_move rfl) rfl ?_
                have hS := hS.freeze 0 rfl
                have h3l : (([xa, ya, za] : List Int).length : Int) = 3 := rfl
                refine Wx.ex (rd_sliceH (hS.v 0 rfl) Try.underlying39 Try.sizeOf3 rfl rfl (by omega) (by omega)) rfl (fun u_45 hu_46 => ?_)
                have ln_47 := hu_46.len63
                have hS := hS.add hu_46
                refine Wx.rd (v := u_45) (rd_assign rfl) rfl ?_
                refine Wx.nil ?_
                refine W.seq ?_
                refine W.reg ?_
                refine Wx.rd (v := .int .i64 0) (rd_assign rfl) rfl ?_
                refine Wx.rd (v := .int .i64 1) (rd_assign rfl) rfl ?_
                refine Wx.nil ?_
                refine W.seq ?_
                refine W.seq ?_
                refine W.reg ?_
                refine Wx.rd (v := u_45) (rd_move rfl) rfl ?_
                refine Wx.rd (v := .int .i64 (([xa, ya, za].take (1 + ((ix 0 zs 0) % 3)).toNat).length : Int)) (rd_lenV rfl (hS.v 0 rfl) Try.underlying39) rfl ?_
                refine Wx.rd (v := .int .i64 0) (rd_move rfl) rfl ?_
                refine Wx.nil ?_
                refine W.block ?_
                have hT := len3 (x := xa) (y := ya) (z := za) (g := (1 + ix 0 zs 0 % 3)) ⟨by omega, by omega⟩
                have hTb := take3 (x := xa) (y := ya) (z := za) (g := (1 + ix 0 zs 0 % 3)) ⟨by omega, by omega⟩ ⟨by omega, by omega⟩ ⟨by omega, by omega⟩
                refine W.loop [18, 19, 20, 21, 93, 94, 95, 96, 97, 98, 99, 100, 101, 102, 103, 104, 105, 106, 107, 108, 109, 110, 111, 112, 113, 114, 115, 116, 117, 118] (fun x : Int × Int × Int => match x with | (cost, worth, j) => [(18, .int .i64 cost), (19, .int .i64 worth), (93, .int .i64 j)]) (fun (x : Int × Int × Int) w' => match x with | (cost, worth, j) => St w O w' [Ob.v (tSl (tI .i64)) ([xa, ya, za].take (1 + ((ix 0 zs 0) % 3)).toNat) u_45, Ob.v (tSl (tI .i64)) [xa, ya, za] v_41, Ob.v (tSl (tI .i64)) t8 t8v, Ob.v (tSl (tI .i64)) t6 t6v, Ob.v (tSl (tI .i64)) t4 t4v, Ob.v (tSl (tI .i64)) t tv, .row (tI .i64) 3 pv p, .row (tP (tSl (tI .i64)) (tSl (tI .i64))) 62 ov out, .box g_1 66 (List.map (Value.int .u8) zs)] ∧ 0 ≤ j ∧ j ≤ (1 + ix 0 zs 0 % 3) ∧ 0 ≤ cost ∧ cost ≤ 16 * j ∧ 1 ≤ worth ∧ ((j = 0 → worth ≤ 1) ∧ (j = 1 → worth ≤ 7) ∧ (j = 2 → worth ≤ 49) ∧ (j = 3 → worth ≤ 343))) (fun x : Int × Int × Int => match x with | (cost, worth, j) => ((1 + ix 0 zs 0 % 3) - j).toNat) (0, 1, 0) ⟨rfl, rfl, rfl, trivial⟩ ⟨hS, (by first | omega | simp), (by first | omega | simp), (by first | omega | simp), (by first | omega | simp), (by first | omega | simp), (by omega)⟩ ?_
                rintro ⟨cost, worth, j⟩ u_50 w_49 ⟨hS, j0, j1, j2, j3, j4, j5⟩
                refine W.seq ?_
                refine W.reg ?_
                refine Wx.rd (v := .bool (decide (j < (([xa, ya, za].take (1 + ((ix 0 zs 0) % 3)).toNat).length : Int)))) (rd_lss rfl rfl) rfl ?_
                refine Wx.nil ?_
                refine W.seq ?_
                refine W.condD rfl (fun c6 => ?_) (fun c6 => ?_)
                · -- yes
                  refine W.skip ?_
                  refine W.seq ?_
                  refine W.block ?_
                  refine W.seq ?_
                  refine W.reg ?_
                  refine Wx.rd (v := .int .i64 j) (rd_move rfl) rfl ?_
                  refine Wx.ex (rd_index 0 (hS.v 0 rfl) rfl rfl Try.underlying39 Try.sizeOf3 (by first | omega | (simp only [List.length_set, List.length_append, List.length_cons, List.length_nil, List.length_replicate]; omega)) (by first | omega | (simp only [List.length_set, List.length_append, List.length_cons, List.length_nil, List.length_replicate]; omega))) rfl (fun p_51 hp_52 => ?_)
                  refine Wx.rd (v := .int .i64 (ix 0 ([xa, ya, za].take (1 + ((ix 0 zs 0) % 3)).toNat) j)) (rd_loadI hp_52 rfl Try.isAgg3 Try.sizeOf3) rfl ?_
                  have bd_53 := bd_i64 hp_52.inK
                  refine Wx.rd (v := .int .i64 j) (rd_assign rfl) rfl ?_
                  refine Wx.rd (v := .int .i64 (ix 0 ([xa, ya, za].take (1 + ((ix 0 zs 0) % 3)).toNat) j)) (rd_assign rfl) rfl ?_
                  refine Wx.nil ?_
                  refine W.seq ?_
                  refine W.reg ?_
                  refine Wx.rd (v := .int .i64 cost) (rd_move rfl) rfl ?_
                  refine Wx.rd (v := pv) (rd_move rfl) rfl ?_
                  refine Wx.rd (v := .int .i64 j) (rd_move rfl) rfl ?_
                  refine Wx.indexR hS 6 rfl rfl rfl Try.underlying39 Try.sizeOf3 (by first | omega | (simp only [List.length_set, List.length_append, List.length_cons, List.length_nil, List.length_replicate]; omega)) (by first | omega | (simp only [List.length_set, List.length_append, List.length_cons, List.length_nil, List.length_replicate]; omega)) rfl (fun g_54 hg_55 => ?_)
                  refine Wx.rd (v := .int .i64 (ix 0 p j)) (rd_loadRI' hS 6 rfl hg_55 rfl (by first | omega | (simp only [List.length_set, List.length_append, List.length_cons, List.length_nil, List.length_replicate]; omega)) (by first | omega | (simp only [List.length_set, List.length_append, List.length_cons, List.length_nil, List.length_replicate]; omega)) Try.isAgg3 Try.sizeOf3) rfl ?_
                  have bd_56 := bd_i64 (hS.rowInK' 6 rfl (by first | omega | (simp only [List.length_set, List.length_append, List.length_cons, List.length_nil, List.length_replicate]; omega)) (by first | omega | (simp only [List.length_set, List.length_append, List.length_cons, List.length_nil, List.length_replicate]; omega)) : InK .i64 (ix 0 p j))
                  refine Wx.rd (v := .int .i64 (ix 0 ([xa, ya, za].take (1 + ((ix 0 zs 0) % 3)).toNat) j)) (rd_move rfl) rfl ?_
                  have hqx := ix_in hTb j0 (by omega)
                  have hmm := mul16 (ix_in k4 j0 (by omega)) hqx
                  refine Wx.rd (v := .int .i64 ((ix 0 p j) * (ix 0 ([xa, ya, za].take (1 + ((ix 0 zs 0) % 3)).toNat) j))) (rd_mul rfl rfl (in_i64 (by omega) (by omega))) rfl ?_
                  refine Wx.rd (v := .int .i64 (cost + ((ix 0 p j) * (ix 0 ([xa, ya, za].take (1 + ((ix 0 zs 0) % 3)).toNat) j)))) (rd_add rfl rfl (in_i64 (by omega) (by omega))) rfl ?_
                  refine Wx.rd (v := .int .i64 (cost + ((ix 0 p j) * (ix 0 ([xa, ya, za].take (1 + ((ix 0 zs 0) % 3)).toNat) j)))) (rd_assign rfl) rfl ?_
                  refine Wx.nil ?_
                  refine W.reg ?_
                  refine Wx.rd (v := .int .i64 worth) (rd_move rfl) rfl ?_
                  refine Wx.rd (v := .int .i64 (ix 0 ([xa, ya, za].take (1 + ((ix 0 zs 0) % 3)).toNat) j)) (rd_move rfl) rfl ?_
                  refine Wx.rd (v := .int .i64 ((ix 0 ([xa, ya, za].take (1 + ((ix 0 zs 0) % 3)).toNat) j) + 1)) (rd_add rfl rfl (in_i64 (by omega) (by omega))) rfl ?_
                  refine Wx.rd (v := .pointer (some ⟨g_1, 0 + 2, none⟩)) (rd_fieldAddr (o := 0) rfl foLl_66_2) rfl ?_
                  have bz_57 := ix_u8 i_zs 2
                  refine Wx.rd (v := .int .u8 (ix 0 zs 2)) (rd_loadXa (d := 0) (f := (Value.int .u8)) (j := 2) hS 8 rfl rfl (by omega) (by omega) (by omega) Try.isAgg5) rfl ?_
                  refine Wx.rd (v := .int .u8 ((ix 0 zs 2) / 2)) (rd_quo rfl rfl (by omega) (by omega) (in_u8 (by omega) (by omega))) rfl ?_
                  refine Wx.rd (v := .int .i64 ((ix 0 zs 2) / 2)) (rd_convIn rfl Try.underlying5 Try.underlying3 (in_i64 (by omega) (by omega))) rfl ?_
                  refine Wx.rd (v := .int .i64 j) (rd_move rfl) rfl ?_
                  refine Wx.rd (v := .int .i64 (j + 1)) (rd_add rfl rfl (in_i64 (by omega) (by omega))) rfl ?_
                  have hr0 := Int.emod_nonneg (ix 0 zs 2 / 2) (show j + 1 ≠ 0 by omega)
                  have hr1 := Int.emod_lt_of_pos (ix 0 zs 2 / 2) (show 0 < j + 1 by omega)
                  refine Wx.rd (v := .int .i64 (((ix 0 zs 2) / 2) % (j + 1))) (rd_rem rfl rfl (by omega) (by omega)) rfl ?_
                  refine Wx.rd (v := .int .i64 (((ix 0 ([xa, ya, za].take (1 + ((ix 0 zs 0) % 3)).toNat) j) + 1) + (((ix 0 zs 2) / 2) % (j + 1)))) (rd_add rfl rfl (in_i64 (by omega) (by omega))) rfl ?_
                  have hw7 := mul7 j4 (f := ix 0 (List.take (1 + ix 0 zs 0 % 3).toNat ([xa, ya, za] : List Int)) j + 1 + (ix 0 zs 2 / 2) % (j + 1)) ⟨by omega, by omega⟩
                  refine Wx.rd (v := .int .i64 (worth * (((ix 0 ([xa, ya, za].take (1 + ((ix 0 zs 0) % 3)).toNat) j) + 1) + (((ix 0 zs 2) / 2) % (j + 1))))) (rd_mul rfl rfl (in_i64 (by omega) (by omega))) rfl ?_
                  refine Wx.rd (v := .int .i64 (worth * (((ix 0 ([xa, ya, za].take (1 + ((ix 0 zs 0) % 3)).toNat) j) + 1) + (((ix 0 zs 2) / 2) % (j + 1))))) (rd_assign rfl) rfl ?_
                  refine Wx.nil ?_
                  refine W.reg ?_
                  refine Wx.rd (v := .int .i64 (j + 1)) (rd_add rfl rfl (in_i64 (by omega) (by omega))) rfl ?_
                  refine Wx.rd (v := .int .i64 (j + 1)) (rd_move rfl) rfl ?_
                  refine Wx.nil ?_
                  refine ⟨(cost + ((ix 0 p j) * (ix 0 ([xa, ya, za].take (1 + ((ix 0 zs 0) % 3)).toNat) j)), worth * (((ix 0 ([xa, ya, za].take (1 + ((ix 0 zs 0) % 3)).toNat) j) + 1) + (((ix 0 zs 2) / 2) % (j + 1))), j + 1), (by show ((1 + ix 0 zs 0 % 3) - (j + 1)).toNat < ((1 + ix 0 zs 0 % 3) - j).toNat; omega), ?_, ?_, Out.look rfl Out.self⟩
                  · exact ⟨hS, (by first | omega | assumption), (by first | omega | assumption), (by first | omega | assumption), (by first | omega | assumption), (by first | omega | assumption), (by omega)⟩
                  · exact ⟨rfl, rfl, rfl, trivial⟩
                · -- no
                  refine W.exit rfl ?_
                  refine W.seq ?_
                  refine W.reg ?_
                  refine Wx.rd (v := .int .i64 cost) (rd_move rfl) rfl ?_
                  refine Wx.rd (v := .int .i64 (4 + ((ix 0 zs (21 + i * 3 + 0)) % 9))) (rd_move rfl) rfl ?_
                  refine Wx.rd (v := .bool (decide (cost ≤ (4 + ((ix 0 zs (21 + i * 3 + 0)) % 9))))) (rd_leq rfl rfl) rfl ?_
                  refine Wx.rd (v := .bool (decide (cost ≤ (4 + ((ix 0 zs (21 + i * 3 + 0)) % 9))))) (rd_move rfl) rfl ?_
                  refine Wx.cut (X := Unit) 4 [123, 124, 125, 126] (fun _ => [(126, .bool (decide (cost ≤ (4 + ((ix 0 zs (21 + i * 3 + 0)) % 9))) && decide (b8 < worth)))]) (fun _ w' => St w O w' [Ob.v (tSl (tI .i64)) ([xa, ya, za].take (1 + ((ix 0 zs 0) % 3)).toNat) u_45, Ob.v (tSl (tI .i64)) [xa, ya, za] v_41, Ob.v (tSl (tI .i64)) t8 t8v, Ob.v (tSl (tI .i64)) t6 t6v, Ob.v (tSl (tI .i64)) t4 t4v, Ob.v (tSl (tI .i64)) t tv, .row (tI .i64) 3 pv p, .row (tP (tSl (tI .i64)) (tSl (tI .i64))) 62 ov out, .box g_1 66 (List.map (Value.int .u8) zs)]) ?_ ?_
                  · rcases Bool.eq_false_or_eq_true (decide (cost ≤ (4 + ((ix 0 zs (21 + i * 3 + 0)) % 9)))) with g_58 | g_58
                    · -- True
                      have gp_59 := of_decide_eq_true g_58
                      refine Wx.gyes rfl rfl (congrArg Value.bool g_58) ?_
                      refine Wx.rd (v := .int .i64 worth) (rd_move rfl) rfl ?_
                      refine Wx.gyes rfl rfl (congrArg Value.bool g_58) ?_
                      refine Wx.rd (v := .int .i64 b8) (rd_move rfl) rfl ?_
                      refine Wx.gyes rfl rfl (congrArg Value.bool g_58) ?_
                      refine Wx.rd (v := .bool (decide (b8 < worth))) (rd_gtr rfl rfl) rfl ?_
                      refine Wx.rd (v := .bool (decide (b8 < worth))) (rd_pickT (congrArg Value.bool g_58) rfl) rfl ?_
                      refine Wx.nil ⟨(), hS, ⟨?_, trivial⟩, Out.look rfl Out.refl⟩
                      show Value.bool (decide (b8 < worth)) = Value.bool (decide (cost ≤ (4 + ((ix 0 zs (21 + i * 3 + 0)) % 9))) && decide (b8 < worth))
                      first | rw [g_58, Bool.true_and] | (rw [g_58]; rfl)
                    · -- False
                      have gp_60 := of_decide_eq_false g_58
                      refine Wx.gnoB rfl rfl (congrArg Value.bool g_58) rfl rfl ?_
                      refine Wx.gnoB rfl rfl (congrArg Value.bool g_58) rfl rfl ?_
                      refine Wx.gnoB rfl rfl (congrArg Value.bool g_58) rfl rfl ?_
                      refine Wx.rd (v := .bool false) (rd_pickF (congrArg Value.bool g_58) rfl) rfl ?_
                      refine Wx.nil ⟨(), hS, ⟨?_, trivial⟩, Out.look rfl Out.refl⟩
                      show Value.bool false = Value.bool (decide (cost ≤ (4 + ((ix 0 zs (21 + i * 3 + 0)) % 9))) && decide (b8 < worth))
                      first | rw [g_58, Bool.false_and] | (rw [g_58]; rfl)
                  rintro ⟨⟩ u_62 w_61 hS
                  refine Wx.nil ?_
                  refine W.cond rfl (fun c7 => ?_) (fun c7 => ?_)
                  · -- yes
                    try simp only [Bool.and_eq_true, Bool.or_eq_true, Bool.not_eq_true', Bool.and_eq_false_iff, Bool.or_eq_false_iff, Bool.not_eq_false', decide_eq_true_eq, decide_eq_false_iff_not, not_or, Bool.false_eq_true, Bool.true_eq_false, false_or, or_false, not_false_eq_true] at c7
                    refine W.reg ?_
                    refine Wx.rd (v := u_45) (rd_move rfl) rfl ?_
                    refine Wx.callF (run_callF Try.call57 rfl) (F57 (hS.v 0 rfl) (by omega)) rfl ?_
                    rintro r_63 w_64 hx_65 ⟨_, rfl, hv_66⟩
                    have hS := hS.pushFr hx_65 hv_66
                    refine Wx.rd (v := .int .i64 worth) (rd_move rfl) rfl ?_
                    refine Wx.rd (v := r_63) (rd_assign rfl) rfl ?_
                    refine Wx.rd (v := .int .i64 worth) (rd_assign rfl) rfl ?_
                    refine Wx.nil ?_
                    refine W.reg ?_
                    refine Wx.rd (v := .int .i64 (za + 1)) (rd_add rfl rfl (in_i64 (by omega) (by omega))) rfl ?_
                    refine Wx.rd (v := .int .i64 (za + 1)) (rd_move rfl) rfl ?_
                    refine Wx.nil ?_
                    have hS := hS.freeze 0 rfl
                    have hv_69 : V (tSl (tI .i64)) ([xa, ya, za].take (1 + ((ix 0 zs 0) % 3)).toNat) r_63 _ _ := (hS.v 0 rfl)
                    refine ⟨(r_63, ([xa, ya, za].take (1 + ((ix 0 zs 0) % 3)).toNat), worth, za + 1), (by show (5 - (za + 1)).toNat < (5 - za).toNat; omega), ?_, ?_, Out.look rfl (Out.hav rfl (Out.look rfl (Out.hav rfl (Out.look rfl Out.self))))⟩
                    · exact ⟨(St.add (St.tl (St.tl (St.tl (St.tl (hS))))) (V.tlF (V.tlF (V.tlF (V.tlF (hv_69)))))), (by first | omega | assumption), (by first | omega | assumption), (by rw [len3 ⟨by omega, by omega⟩]), (take3 ⟨by omega, by omega⟩ ⟨by omega, by omega⟩ ⟨by omega, by omega⟩), (by first | omega | assumption), (by first | omega | assumption)⟩
                    · exact ⟨rfl, rfl, rfl, trivial⟩
                  · -- no
                    try simp only [Bool.and_eq_true, Bool.or_eq_true, Bool.not_eq_true', Bool.and_eq_false_iff, Bool.or_eq_false_iff, Bool.not_eq_false', decide_eq_true_eq, decide_eq_false_iff_not, not_or, Bool.false_eq_true, Bool.true_eq_false, false_or, or_false, not_false_eq_true] at c7
                    refine W.skip ?_
                    refine W.reg ?_
                    refine Wx.rd (v := .int .i64 (za + 1)) (rd_add rfl rfl (in_i64 (by omega) (by omega))) rfl ?_
                    refine Wx.rd (v := .int .i64 (za + 1)) (rd_move rfl) rfl ?_
                    refine Wx.nil ?_
                    have hv_70 : V (tSl (tI .i64)) t8 t8v _ _ := (hS.v 2 rfl)
                    refine ⟨(t8v, t8, b8, za + 1), (by show (5 - (za + 1)).toNat < (5 - za).toNat; omega), ?_, ?_, Out.look rfl (Out.hav rfl (Out.look rfl (Out.hav rfl (Out.look rfl Out.self))))⟩
                    · exact ⟨(St.add (St.tl (St.tl (St.tl (hS)))) (V.tlF (V.tlF (V.tlF (hv_70))))), (by first | omega | assumption), (by first | omega | assumption), (zl), (zb), (by first | omega | assumption), (by first | omega | assumption)⟩
                    · exact ⟨rfl, rfl, rfl, trivial⟩
              · -- no
                refine W.exit rfl ?_
                refine W.reg ?_
                refine Wx.rd (v := .int .i64 (ya + 1)) (rd_add rfl rfl (in_i64 (by omega) (by omega))) rfl ?_
                refine Wx.rd (v := .int .i64 (ya + 1)) (rd_move rfl) rfl ?_
                refine Wx.nil ?_
                have hv_71 : V (tSl (tI .i64)) t8 t8v _ _ := (hS.v 0 rfl)
                refine ⟨(t8v, t8, b8, ya + 1), (by show (5 - (ya + 1)).toNat < (5 - ya).toNat; omega), ?_, ?_, Out.look rfl (Out.hav rfl (Out.look rfl Out.self))⟩
                · exact ⟨(St.add (St.tl (St.tl (hS))) (V.tlF (V.tlF (hv_71)))), (by first | omega | assumption), (by first | omega | assumption), (zl), (zb), (by first | omega | assumption), (by first | omega | assumption)⟩
                · exact ⟨rfl, rfl, rfl, trivial⟩
            · -- no
              refine W.exit rfl ?_
              refine W.reg ?_
              refine Wx.rd (v := .int .i64 (xa + 1)) (rd_add rfl rfl (in_i64 (by omega) (by omega))) rfl ?_
              refine Wx.rd (v := .int .i64 (xa + 1)) (rd_move rfl) rfl ?_
              refine Wx.nil ?_
              have hv_72 : V (tSl (tI .i64)) t6 t6v _ _ := (hS.v 0 rfl)
              refine ⟨(t6v, t6, b6, xa + 1), (by show (5 - (xa + 1)).toNat < (5 - xa).toNat; omega), ?_, ?_, Out.look rfl (Out.hav rfl (Out.look rfl Out.self))⟩
              · exact ⟨(St.add (St.tl (St.tl (hS))) (V.tlF (V.tlF (hv_72)))), (by first | omega | assumption), (by first | omega | assumption), (yl), (yb), (by first | omega | assumption), (by first | omega | assumption)⟩
              · exact ⟨rfl, rfl, rfl, trivial⟩
          · -- no
            refine W.exit rfl ?_
            have hv_73 : V (tSl (tI .i64)) t4 t4v _ _ := (hS.v 0 rfl)
            refine ⟨(t4v, t4), ?_, ?_, Out.look rfl (Out.hav rfl (Out.look rfl Out.refl))⟩
            · exact ⟨(St.add (St.tl (hS)) (V.tlF (hv_73))), (xl), (xb)⟩
            · exact ⟨rfl, trivial⟩
        · -- no
          refine W.skip ?_
          have hv_74 : V (tSl (tI .i64)) t tv _ _ := (hS.v 0 rfl)
          refine ⟨(tv, t), ?_, ?_, Out.look rfl Out.refl⟩
          · exact ⟨(St.add (hS) (hv_74)), (by omega), (k5)⟩
          · exact ⟨rfl, trivial⟩
      rintro ⟨jv, tj⟩ u_76 w_75 ⟨hS, jl, jb⟩
      refine W.reg ?_
      refine Wx.rd (v := ov) (rd_move rfl) rfl ?_
      refine Wx.rd (v := pv) (rd_move rfl) rfl ?_
      refine Wx.rd (v := jv) (rd_move rfl) rfl ?_
      have hS := hS.freeze 2 rfl
      refine Wx.rd (v := .agg #[pv, jv]) (rd_buildC (vs := [(0, pv), (1, jv)]) (us := [(0, .agg #[pv]), (1, .agg #[jv])]) rfl (parts_cons (Go.Wk.cells_one (V.oneC (hS.v 0 rfl))) (parts_cons (Go.Wk.cells_one (V.oneC (hS.v 1 rfl))) parts_nil)) (by kernel_rfl)) rfl ?_
      refine Wx.lit (t := (tP (tSl (tI .i64)) (tSl (tI .i64)))) (ys := [(p, tj)]) (vs := [.agg #[pv, jv]]) elLl_22 hS rfl rfl ⟨(V.mkS2 (z := (p, tj)) (hS.v 0 rfl) (hS.v 1 rfl)), trivial⟩ (by decide) rfl (fun v_78 w_79 hx_80 hS => ?_)
      refine Wx.append elLl_22 hS 4 rfl rfl rfl (Src.ofR hS 0 rfl) (by simp only [maxLen]; simp; omega) (by simp; omega) rfl (fun v_81 w_82 hz_83 hS => ?_)
      refine Wx.rd (v := v_81) (rd_assign rfl) rfl ?_
      refine Wx.nil ?_
      refine W.reg ?_
      refine Wx.rd (v := .int .i64 (i + 1)) (rd_add rfl rfl (in_i64 (by omega) (by omega))) rfl ?_
      refine Wx.rd (v := .int .i64 (i + 1)) (rd_move rfl) rfl ?_
      refine Wx.nil ?_
      refine ⟨(i + 1, v_81, out ++ [(p, tj)]), (by show ((ix 0 zs 1 % (most + 1)) - (i + 1)).toNat < ((ix 0 zs 1 % (most + 1)) - i).toNat; omega), ?_, ?_, Out.look rfl (Out.hav rfl (Out.look rfl (Out.hav rfl (Out.look rfl Out.self))))⟩
      · exact ⟨St.tl (St.tl (St.tl (hS.tl))), (by first | omega | assumption), (by first | omega | assumption), (by simp only [List.length_append, List.length_cons, List.length_nil]; omega), (snoc_all h3 (shop_one (by rw [shG]; omega) (by rw [shG]; omega) k4 jb))⟩
      · exact ⟨rfl, rfl, trivial⟩
  · -- no
    refine W.exit rfl ?_
    refine W.seq ?_
    refine W.reg ?_
    refine Wx.rd (v := .int .i64 (1 + ((ix 0 zs 0) % 3))) (rd_move rfl) rfl ?_
    refine Wx.rd (v := ov) (rd_move rfl) rfl ?_
    refine Wx.rd (v := .int .i64 (1 + ((ix 0 zs 0) % 3))) (rd_assign rfl) rfl ?_
    refine Wx.rd (v := ov) (rd_assign rfl) rfl ?_
    refine Wx.nil ?_
    have e0_0 : (shG zs) = (1 + ((ix 0 zs 0) % 3) : Int) := by rfl
    exact W.ret ⟨.tuple #[.int .i64 (1 + ((ix 0 zs 0) % 3)), ov], ResIs.two, hS.bel, ⟨out, (by exact ⟨by omega, h3⟩), ⟨ov, (by rw [e0_0]), (hS.frO 0 rfl)⟩⟩⟩

end Go.Proofs.Ytjbcpggikaeleaa

namespace Go.Proofs.Ytjbcpggikaeleaa
open Go.Wk Go.RowKit Go.Lib
set_option linter.unusedVariables false
set_option linter.unusedSimpArgs false
theorem foLs_66_1 : fldOff Try.prog 66 1 = some 1 := by kernel_rfl
theorem mixedLs_ : Try.prog.follows .mixedOrders = true := by kernel_rfl
theorem elLs_22 : ElemI Try.prog 22 62 (.agg #[(.slice none 0 0), (.slice none 0 0)]) 2 48 := ElemI.of Try.underlying22 (by kernel_rfl) (by first | rfl | kernel_rfl) (by decide)

set_option maxHeartbeats 4000000 in
set_option maxRecDepth 10000 in
theorem F14 {zs : List Int} {which : Int} {O : List (Option Nat)} {w : World} (n_zs : zs.length = 39) (i_zs : ∀ z ∈ zs, InK .u8 z) (i_which : InK .u8 which) (hO : ∀ b, some b ∈ O → b < w.heap.size) : Calls Try.prog 14 #[.agg (List.map (Value.int .u8) zs).toArray, .int .u8 which] w (Ret w (fun r _ => r = .bool true)) := by
  have b_which := bd_u8 i_which
  have hS := St.start w O hO
  refine enterR Try.func14 rfl Try.ntmps14 Try.results14 rfl ?_
  refine W.seq ?_
  refine W.reg ?_
  refine Wx.box (cs := List.map (Value.int .u8) zs) hS rfl rfl rfl (fun g_1 w_2 hx_4 hb_3 hS => ?_)
  refine Wx.rd (v := .bool false) (rd_assign rfl) rfl ?_
  refine Wx.nil ?_
  refine W.seq ?_
  refine W.reg ?_
  refine Wx.rd (v := .agg (List.map (Value.int .u8) zs).toArray) (rd_loadXs (ds := List.map (Value.int .u8) zs) hS 0 rfl rfl (by rw [List.drop_zero, List.take_of_length_le (by simp; omega)]) (by simp; omega) Try.isAgg66 Try.sizeOf66) rfl ?_
  refine Wx.callF (run_callF Try.call46 rfl) (F46 n_zs i_zs (in_i64 (by omega) (by omega)) (by omega) (by omega) hS.fb_lt) rfl ?_
  rintro r_5 w_6 hx_7 ⟨l, x_hc, v_8, rfl, hv_9⟩
  have hS := hS.pushFrO hx_7 hv_9
  obtain ⟨hc, ok_hc, h6_hc⟩ := shop_ok (by decide) (by decide) x_hc
  have hgz := shG_bd zs
  refine Wx.rd (v := .tuple #[.int .i64 (shG zs), v_8]) (rd_move rfl) rfl ?_
  refine Wx.rd (v := .int .i64 (shG zs)) (rd_extract rfl rfl) rfl ?_
  refine Wx.rd (v := v_8) (rd_extract rfl rfl) rfl ?_
  refine Wx.rd (v := .int .i64 (shG zs)) (rd_assign rfl) rfl ?_
  have hS := hS.freeze 0 rfl
  refine Wx.rd (v := v_8) (rd_assign rfl) rfl ?_
  refine Wx.nil ?_
  refine W.seq ?_
  refine W.reg ?_
  refine Wx.rd (v := .int .i64 (shG zs)) (rd_move rfl) rfl ?_
  refine Wx.rd (v := v_8) (rd_move rfl) rfl ?_
  refine Wx.callF (run_callF Try.call29 rfl) (F29 (in_i64 (by omega) (by omega)) (hS.v 0 rfl) hS.fb_lt) rfl ?_
  rintro r_12 w_13 hx_14 rfl
  have hS := hS.ext hx_14
  refine Wx.rd (v := .tuple #[.bool (tasteE (shG zs) l), .int .i64 (checkE (shG zs) l)]) (rd_move rfl) rfl ?_
  refine Wx.rd (v := .bool (tasteE (shG zs) l)) (rd_extract rfl rfl) rfl ?_
  refine Wx.rd (v := .int .i64 (checkE (shG zs) l)) (rd_extract rfl rfl) rfl ?_
  refine Wx.rd (v := .bool (noR l)) (Rd.to (v := .bool (tasteE (shG zs) l)) (rd_assign rfl) (congrArg (Value.bool) (show (noR l : Bool) = (tasteE (shG zs) l : Bool) from (taste_noR hc).symm).symm)) rfl ?_
  refine Wx.rd (v := .int .i64 0) (Rd.to (v := .int .i64 (checkE (shG zs) l)) (rd_assign rfl) (congrArg (Value.int .i64) (show (0 : Int) = (checkE (shG zs) l : Int) from hc.symm).symm)) rfl ?_
  refine Wx.nil ?_
  refine W.seq ?_
  refine W.reg ?_
  refine Wx.rd (v := .int .i64 (shG zs)) (rd_move rfl) rfl ?_
  refine Wx.rd (v := v_8) (rd_move rfl) rfl ?_
  refine Wx.callF (run_callF Try.call39 rfl) (F39 (in_i64 (by omega) (by omega)) (hS.v 0 rfl) hS.fb_lt) rfl ?_
  rintro r_15 w_16 hx_17 ⟨v_18, rfl, hv_19⟩
  have ln_21 := hv_19.len63
  have hS := hS.ext hx_17
  have hS := hS.add hv_19
  refine Wx.rd (v := .tuple #[v_18, .int .i64 (checkE (shG zs) l)]) (rd_move rfl) rfl ?_
  refine Wx.rd (v := v_18) (rd_extract rfl rfl) rfl ?_
  refine Wx.rd (v := .int .i64 (checkE (shG zs) l)) (rd_extract rfl rfl) rfl ?_
  refine Wx.rd (v := v_18) (rd_assign rfl) rfl ?_
  refine Wx.rd (v := .int .i64 0) (Rd.to (v := .int .i64 (checkE (shG zs) l)) (rd_assign rfl) (congrArg (Value.int .i64) (show (0 : Int) = (checkE (shG zs) l : Int) from hc.symm).symm)) rfl ?_
  have hwl := wrongE_len hc
  refine Wx.nil ?_
  refine W.seq ?_
  refine W.seq ?_
  refine W.reg ?_
  refine Wx.rd (v := .int .i64 0) (rd_move rfl) rfl ?_
  refine Wx.rd (v := .bool false) (Rd.to (v := .bool (decide ((0 : Int) ≠ 0))) (rd_neq rfl rfl) rfl) rfl ?_
  refine Wx.rd (v := .bool false) (rd_move rfl) rfl ?_
  refine Wx.gyes rfl rfl rfl ?_
  refine Wx.rd (v := .int .i64 0) (rd_move rfl) rfl ?_
  refine Wx.gyes rfl rfl rfl ?_
  refine Wx.rd (v := .bool false) (Rd.to (v := .bool (decide ((0 : Int) ≠ 0))) (rd_neq rfl rfl) rfl) rfl ?_
  refine Wx.rd (v := .bool false) (rd_pickF rfl rfl) rfl ?_
  refine Wx.rd (v := .bool false) (rd_move rfl) rfl ?_
  refine Wx.gyes rfl rfl rfl ?_
  refine Wx.rd (v := .bool (noR l)) (rd_move rfl) rfl ?_
  refine Wx.gyes rfl rfl rfl ?_
  refine Wx.rd (v := v_18) (rd_move rfl) rfl ?_
  refine Wx.gyes rfl rfl rfl ?_
  refine Wx.rd (v := .int .i64 ((wrongE (shG zs) l).length : Int)) (rd_lenV rfl (hS.v 0 rfl) Try.underlying39) rfl ?_
  refine Wx.gyes rfl rfl rfl ?_
  refine Wx.rd (v := .bool (decide (((wrongE (shG zs) l).length : Int) = 0))) (rd_eql rfl rfl) rfl ?_
  refine Wx.gyes rfl rfl rfl ?_
  refine Wx.rd (v := .bool (!((noR l) == (decide (((wrongE (shG zs) l).length : Int) = 0))))) (rd_neqB rfl rfl Try.underlying4) rfl ?_
  refine Wx.rd (v := .bool (!((noR l) == (decide (((wrongE (shG zs) l).length : Int) = 0))))) (rd_pickF rfl rfl) rfl ?_
  refine Wx.nil ?_
  refine W.condF rfl (by rw [wrongE_ok hc, ← wrg_nil]; cases noR l <;> rfl) ?_
  refine W.skip ?_
  refine W.seq ?_
  refine W.reg ?_
  refine Wx.rd (v := .agg (List.map (Value.int .u8) zs).toArray) (rd_loadXs (ds := List.map (Value.int .u8) zs) hS 2 rfl rfl (by rw [List.drop_zero, List.take_of_length_le (by simp; omega)]) (by simp; omega) Try.isAgg66 Try.sizeOf66) rfl ?_
  refine Wx.alloc (cs := List.map (Value.int .u8) (List.replicate 39 0)) hS Try.zeroValue66 (by kernel_rfl) rfl (fun g_22 w_23 hx_25 hb_24 hS => ?_)
  have hS : St _ _ w_23 [.box g_22 66 (List.map (Value.int .u8) (List.replicate 39 0)), Ob.v (tSl (tI .i64)) (wrongE (shG zs) l) v_18, Ob.v (tSl (tP (tSl (tI .i64)) (tSl (tI .i64)))) l v_8, .box g_1 66 (List.map (Value.int .u8) zs)] := hS
  refine Wx.storeX (cs' := List.map (Value.int .u8) zs) (ds := List.map (Value.int .u8) zs) hS 0 rfl rfl rfl rfl (fun w' => by rw [List.length_map, show List.length zs = 39 by first | omega | (simp; omega)]; exact Try.sizeOf66 w') (by simp; omega) (by intro u hu; obtain ⟨_, _, rfl⟩ := List.mem_map.1 hu; rfl) (by rw [List.take_zero, List.nil_append, List.drop_of_length_le (by simp; omega), List.append_nil]) (fun w_26 hz_27 hS => ?_)
  refine Wx.nil ?_
  refine W.seq ?_
  refine W.reg ?_
  refine Wx.rd (v := .pointer (some ⟨g_22, 0 + 1, none⟩)) (rd_fieldAddr (o := 0) rfl foLs_66_1) rfl ?_
  refine Wx.storeXa (j := 1) (f := (Value.int .u8)) (u := 6) hS 0 rfl rfl (by omega) rfl rfl rfl Try.sizeOf5 (by omega) (by omega) (fun w_28 hz_29 hS => ?_)
  refine Wx.nil ?_
  refine W.seq ?_
  refine W.reg ?_
  refine Wx.rd (v := .agg (List.map (Value.int .u8) (List.set zs (1 : Int).toNat 6)).toArray) (rd_loadXs (ds := List.map (Value.int .u8) (List.set zs (1 : Int).toNat 6)) hS 0 rfl rfl (by rw [List.drop_zero, List.take_of_length_le (by simp; omega)]) (by simp; omega) Try.isAgg66 Try.sizeOf66) rfl ?_
  refine Wx.callF (run_callF Try.call46 rfl) (F46 (by rw [List.length_set]; exact n_zs) (set_inK i_zs (in_u8 (by decide) (by decide))) (in_i64 (by omega) (by omega)) (by omega) (by omega) hS.fb_lt) rfl ?_
  rintro r_30 w_31 hx_32 ⟨l2, x_2, v_33, rfl, hv_34⟩
  have hS := hS.pushFrO hx_32 hv_34
  obtain ⟨h6l, ok5⟩ := six_ok n_zs x_2
  have hc2 := chk_more hc h6_hc ok5
  have hmf := more_F hc hc2
  refine Wx.rd (v := .tuple #[.int .i64 (shG (List.set zs (1 : Int).toNat 6)), v_33]) (rd_move rfl) rfl ?_
  refine Wx.rd (v := .int .i64 (shG (List.set zs (1 : Int).toNat 6))) (rd_extract rfl rfl) rfl ?_
  refine Wx.rd (v := v_33) (rd_extract rfl rfl) rfl ?_
  refine Wx.rd (v := .int .i64 (shG (List.set zs (1 : Int).toNat 6))) (rd_assign rfl) rfl ?_
  have hS := hS.freeze 0 rfl
  refine Wx.rd (v := v_33) (rd_assign rfl) rfl ?_
  refine Wx.nil ?_
  refine W.seq ?_
  refine W.regH mixedLs_ (fun w_37 hx_38 => ?_)
  have h0 := hS
  have hS := (St.start _ _ h0.fb_lt).ext hx_38
  refine Wh.rd (v := .int .i64 (shG zs)) 0 rfl (by kernel_rfl) hS.bel (rd_move rfl) rfl ?_
  refine Wh.rd (v := v_8) 1 rfl (by kernel_rfl) hS.bel (rd_move rfl) rfl ?_
  refine Wh.rd (v := v_33) 3 rfl (by kernel_rfl) hS.bel (rd_move rfl) rfl ?_
  refine Wh.ex 4 rfl (by kernel_rfl) hS.bel (rd_index ([], []) (h0.v 0 rfl) rfl rfl Try.underlying22 Try.sizeOf62 (by first | omega | (simp only [List.length_set, List.length_append, List.length_cons, List.length_nil, List.length_replicate]; omega)) (by first | omega | (simp only [List.length_set, List.length_append, List.length_cons, List.length_nil, List.length_replicate]; omega))) rfl (fun p_39 hp_40 => ?_)
  refine Wh.ex 5 rfl (by kernel_rfl) hS.bel (rd_load hp_40 rfl Try.isAgg62 Try.sizeOf62) rfl (fun v_41 hv_42 => ?_)
  obtain ⟨v_43, v_44, rfl, hv_45, hv_46⟩ := hv_42.s2
  have ln_47 := hv_45.len63
  have ln_48 := hv_46.len63
  refine Wh.br [2, 6] (by kernel_rfl) (by decide) ⟨⟨_, rfl, ?_⟩, ⟨_, rfl, ?_⟩, trivial⟩
  · -- operation 2
    refine Wx.callF (run_callF Try.call60 rfl) (F60 (hS.arg (h0.v 3 rfl)) (by omega) hS.fb_lt) rfl ?_
    rintro r_49 w_50 hx_51 ⟨_, rfl, hv_52⟩
    have hS := hS.pushFrO hx_51 hv_52
    refine Wx.nil ⟨hS.bel, ?_⟩
    refine Wh.br [6] (by kernel_rfl) (by decide) ⟨⟨_, rfl, ?_⟩, trivial⟩
    refine Wx.lit (t := (tP (tSl (tI .i64)) (tSl (tI .i64)))) (ys := [(ix ([], []) l2 5)]) (vs := [.agg #[v_43, v_44]]) elLs_22 hS rfl rfl ⟨(V.mkS2 (z := (ix ([], []) l2 5)) (hS.arg hv_45) (hS.arg hv_46)), trivial⟩ (by decide) rfl (fun v_54 w_55 hx_56 hS => ?_)
    refine Wx.nil ⟨hS.bel, ?_⟩
    refine Wh.br [7] (by kernel_rfl) (by decide) ⟨⟨_, rfl, ?_⟩, trivial⟩
    refine Wx.append elLs_22 hS 1 rfl rfl rfl (Src.ofR hS 0 rfl) (by simp only [maxLen]; simp; omega) (by simp; omega) rfl (fun v_57 w_58 hz_59 hS => ?_)
    refine Wx.nil ⟨hS.bel, ?_⟩
    refine Wh.br [8] (by kernel_rfl) (by decide) ⟨⟨_, rfl, ?_⟩, trivial⟩
    have hS := hS.freeze 1 rfl
    refine Wx.callF (run_callF Try.call39 rfl) (F39 (in_i64 (by omega) (by omega)) (hS.v 0 rfl) hS.fb_lt) rfl ?_
    rintro r_61 w_62 hx_63 ⟨v_64, rfl, hv_65⟩
    have ln_67 := hv_65.len63
    have hS := hS.ext hx_63
    have hS := hS.add hv_65
    refine Wx.nil ⟨hS.bel, ?_⟩
    refine Wh.rd (v := .tuple #[v_64, .int .i64 (checkE (shG zs) (l ++ [(ix ([], []) l2 5)]))]) 9 rfl (by kernel_rfl) hS.bel (rd_move rfl) rfl ?_
    refine Wh.rd (v := v_64) 10 rfl (by kernel_rfl) hS.bel (rd_extract rfl rfl) rfl ?_
    refine Wh.rd (v := .int .i64 (checkE (shG zs) (l ++ [(ix ([], []) l2 5)]))) 11 rfl (by kernel_rfl) hS.bel (rd_extract rfl rfl) rfl ?_
    refine Wh.rd (v := v_64) 12 rfl (by kernel_rfl) hS.bel (rd_assign rfl) rfl ?_
    refine Wh.rd (v := .int .i64 0) 13 rfl (by kernel_rfl) hS.bel (Rd.to (v := .int .i64 (checkE (shG zs) (l ++ [(ix ([], []) l2 5)]))) (rd_assign rfl) (congrArg (Value.int .i64) (show (0 : Int) = (checkE (shG zs) (l ++ [(ix ([], []) l2 5)]) : Int) from hc2.symm).symm)) rfl ?_
    refine Wh.done (by kernel_rfl) ?_
    have hm_68 := V.merge hS hv_45
    have hm_69 := V.merge hS hv_46
    have hS := h0.merge hS
    have hS := hS.add (hm_68)
    have hS := hS.add (V.upF (hm_69))
    refine W.seq ?_
    refine W.seq ?_
    refine W.reg ?_
    refine Wx.rd (v := .int .i64 0) (rd_move rfl) rfl ?_
    refine Wx.rd (v := .bool false) (Rd.to (v := .bool (decide ((0 : Int) ≠ 0))) (rd_neq rfl rfl) rfl) rfl ?_
    refine Wx.rd (v := .bool false) (rd_move rfl) rfl ?_
    refine Wx.gyes rfl rfl rfl ?_
    refine Wx.rd (v := v_64) (rd_move rfl) rfl ?_
    refine Wx.gyes rfl rfl rfl ?_
    refine Wx.rd (v := .int .i64 ((wrongE (shG zs) (l ++ [(ix ([], []) l2 5)])).length : Int)) (rd_lenV rfl (hS.v 2 rfl) Try.underlying39) rfl ?_
    refine Wx.gyes rfl rfl rfl ?_
    refine Wx.rd (v := v_18) (rd_move rfl) rfl ?_
    refine Wx.gyes rfl rfl rfl ?_
    refine Wx.rd (v := .int .i64 ((wrongE (shG zs) l).length : Int)) (rd_lenV rfl (hS.v 7 rfl) Try.underlying39) rfl ?_
    refine Wx.gyes rfl rfl rfl ?_
    refine Wx.rd (v := .bool (decide (((wrongE (shG zs) (l ++ [(ix ([], []) l2 5)])).length : Int) < ((wrongE (shG zs) l).length : Int)))) (rd_lss rfl rfl) rfl ?_
    refine Wx.rd (v := .bool (decide (((wrongE (shG zs) (l ++ [(ix ([], []) l2 5)])).length : Int) < ((wrongE (shG zs) l).length : Int)))) (rd_pickF rfl rfl) rfl ?_
    refine Wx.rd (v := .bool (decide (((wrongE (shG zs) (l ++ [(ix ([], []) l2 5)])).length : Int) < ((wrongE (shG zs) l).length : Int)))) (rd_move rfl) rfl ?_
    refine Wx.cut (X := Unit) 7 [78, 79, 80, 81, 82, 83, 84] (fun _ => [(84, .bool (decide (((wrongE (shG zs) (l ++ [(ix ([], []) l2 5)])).length : Int) < ((wrongE (shG zs) l).length : Int)) || decide ((((wrongE (shG zs) l).length : Int) + 1) < ((wrongE (shG zs) (l ++ [(ix ([], []) l2 5)])).length : Int))))]) (fun _ w' => St w O w' [Ob.v (tSl (tI .i64)) ((ix ([], []) l2 5).2) v_44, Ob.v (tSl (tI .i64)) ((ix ([], []) l2 5).1) v_43, Ob.v (tSl (tI .i64)) (wrongE (shG zs) (l ++ [(ix ([], []) l2 5)])) v_64, Ob.v (tSl (tP (tSl (tI .i64)) (tSl (tI .i64)))) (l ++ [(ix ([], []) l2 5)]) v_57, .row (tP (tSl (tI .i64)) (tSl (tI .i64))) 62 v_54 [(ix ([], []) l2 5)], Ob.v (tSl (tP (tSl (tI .i64)) (tSl (tI .i64)))) l2 v_33, .box g_22 66 (List.map (Value.int .u8) (List.set zs (1 : Int).toNat 6)), Ob.v (tSl (tI .i64)) (wrongE (shG zs) l) v_18, Ob.v (tSl (tP (tSl (tI .i64)) (tSl (tI .i64)))) l v_8, .box g_1 66 (List.map (Value.int .u8) zs)]) ?_ ?_
    · rcases Bool.eq_false_or_eq_true (decide (((wrongE (shG zs) (l ++ [(ix ([], []) l2 5)])).length : Int) < ((wrongE (shG zs) l).length : Int))) with g_72 | g_72
      · -- True
        have gp_73 := of_decide_eq_true g_72
        refine Wx.gnoB rfl rfl (congrArg Value.bool g_72) rfl rfl ?_
        refine Wx.gnoB rfl rfl (congrArg Value.bool g_72) rfl rfl ?_
        refine Wx.gnoB rfl rfl (congrArg Value.bool g_72) rfl rfl ?_
        refine Wx.gnoB rfl rfl (congrArg Value.bool g_72) rfl rfl ?_
        refine Wx.gnoB rfl rfl (congrArg Value.bool g_72) rfl rfl ?_
        refine Wx.gnoB rfl rfl (congrArg Value.bool g_72) rfl rfl ?_
        refine Wx.rd (v := .bool true) (rd_pickT (congrArg Value.bool g_72) rfl) rfl ?_
        refine Wx.nil ⟨(), hS, ⟨?_, trivial⟩, Out.look rfl Out.refl⟩
        show Value.bool true = Value.bool (decide (((wrongE (shG zs) (l ++ [(ix ([], []) l2 5)])).length : Int) < ((wrongE (shG zs) l).length : Int)) || decide ((((wrongE (shG zs) l).length : Int) + 1) < ((wrongE (shG zs) (l ++ [(ix ([], []) l2 5)])).length : Int)))
        first | rw [g_72, Bool.true_or] | (rw [g_72]; rfl)
      · -- False
        have gp_74 := of_decide_eq_false g_72
        refine Wx.gyes rfl rfl (congrArg Value.bool g_72) ?_
        refine Wx.rd (v := v_64) (rd_move rfl) rfl ?_
        refine Wx.gyes rfl rfl (congrArg Value.bool g_72) ?_
        refine Wx.rd (v := .int .i64 ((wrongE (shG zs) (l ++ [(ix ([], []) l2 5)])).length : Int)) (rd_lenV rfl (hS.v 2 rfl) Try.underlying39) rfl ?_
        refine Wx.gyes rfl rfl (congrArg Value.bool g_72) ?_
        refine Wx.rd (v := v_18) (rd_move rfl) rfl ?_
        refine Wx.gyes rfl rfl (congrArg Value.bool g_72) ?_
        refine Wx.rd (v := .int .i64 ((wrongE (shG zs) l).length : Int)) (rd_lenV rfl (hS.v 7 rfl) Try.underlying39) rfl ?_
        refine Wx.gyes rfl rfl (congrArg Value.bool g_72) ?_
        refine Wx.rd (v := .int .i64 (((wrongE (shG zs) l).length : Int) + 1)) (rd_add rfl rfl (in_i64 (by omega) (by omega))) rfl ?_
        refine Wx.gyes rfl rfl (congrArg Value.bool g_72) ?_
        refine Wx.rd (v := .bool (decide ((((wrongE (shG zs) l).length : Int) + 1) < ((wrongE (shG zs) (l ++ [(ix ([], []) l2 5)])).length : Int)))) (rd_gtr rfl rfl) rfl ?_
        refine Wx.rd (v := .bool (decide ((((wrongE (shG zs) l).length : Int) + 1) < ((wrongE (shG zs) (l ++ [(ix ([], []) l2 5)])).length : Int)))) (rd_pickF (congrArg Value.bool g_72) rfl) rfl ?_
        refine Wx.nil ⟨(), hS, ⟨?_, trivial⟩, Out.look rfl Out.refl⟩
        show Value.bool (decide ((((wrongE (shG zs) l).length : Int) + 1) < ((wrongE (shG zs) (l ++ [(ix ([], []) l2 5)])).length : Int))) = Value.bool (decide (((wrongE (shG zs) (l ++ [(ix ([], []) l2 5)])).length : Int) < ((wrongE (shG zs) l).length : Int)) || decide ((((wrongE (shG zs) l).length : Int) + 1) < ((wrongE (shG zs) (l ++ [(ix ([], []) l2 5)])).length : Int)))
        first | rw [g_72, Bool.false_or] | (rw [g_72]; rfl)
    rintro ⟨⟩ u_76 w_75 hS
    refine Wx.nil ?_
    refine W.condF rfl (by simp; omega) ?_
    refine W.skip ?_
    refine W.seq ?_
    refine W.seq ?_
    refine W.reg ?_
    refine Wx.rd (v := v_8) (rd_move rfl) rfl ?_
    refine Wx.rd (v := .int .i64 (l.length : Int)) (rd_lenV rfl (hS.v 8 rfl) Try.underlying22) rfl ?_
    refine Wx.rd (v := .bool (decide ((l.length : Int) = 0))) (rd_eql rfl rfl) rfl ?_
    refine Wx.nil ?_
    refine W.condD rfl (fun c2 => ?_) (fun c2 => ?_)
    · -- yes
      refine W.seq ?_
      refine W.reg ?_
      refine Wx.callF (run_callF Try.call16 rfl) (F16 hS.fb_lt) rfl ?_
      rintro r_77 w_78 hx_79 rfl
      have hS := hS.ext hx_79
      refine Wx.rd (v := .bool true) (rd_assign rfl) rfl ?_
      refine Wx.nil ?_
      exact W.ret ⟨.bool true, ResIs.one, hS.bel, rfl⟩
    · -- no
      have hw0 := Int.emod_nonneg which (show (l.length : Int) ≠ 0 by omega)
      have hw1 := Int.emod_lt_of_pos which (show 0 < (l.length : Int) by omega)
      have hc3 := chk_more hc h6_hc (chk_ix hc hw0 hw1)
      refine W.skip ?_
      refine W.seq ?_
      refine W.reg ?_
      refine Wx.rd (v := .int .u8 which) (rd_move rfl) rfl ?_
      refine Wx.rd (v := .int .i64 which) (rd_convIn rfl Try.underlying5 Try.underlying3 (in_i64 (by omega) (by omega))) rfl ?_
      refine Wx.rd (v := v_8) (rd_move rfl) rfl ?_
      refine Wx.rd (v := .int .i64 (l.length : Int)) (rd_lenV rfl (hS.v 8 rfl) Try.underlying22) rfl ?_
      refine Wx.rd (v := .int .i64 (which % (l.length : Int))) (rd_rem rfl rfl (by omega) (by omega)) rfl ?_
      refine Wx.rd (v := .int .i64 (which % (l.length : Int))) (rd_assign rfl) rfl ?_
      refine Wx.nil ?_
      refine W.seq ?_
      refine W.regH mixedLs_ (fun w_80 hx_81 => ?_)
      have h0 := hS
      have hS := (St.start _ _ h0.fb_lt).ext hx_81
      refine Wh.rd (v := .int .i64 (shG zs)) 0 rfl (by kernel_rfl) hS.bel (rd_move rfl) rfl ?_
      refine Wh.rd (v := v_8) 1 rfl (by kernel_rfl) hS.bel (rd_move rfl) rfl ?_
      refine Wh.rd (v := v_8) 3 rfl (by kernel_rfl) hS.bel (rd_move rfl) rfl ?_
      refine Wh.rd (v := .int .i64 (which % (l.length : Int))) 4 rfl (by kernel_rfl) hS.bel (rd_move rfl) rfl ?_
      refine Wh.ex 5 rfl (by kernel_rfl) hS.bel (rd_index ([], []) (h0.v 8 rfl) rfl rfl Try.underlying22 Try.sizeOf62 (by first | omega | (simp only [List.length_set, List.length_append, List.length_cons, List.length_nil, List.length_replicate]; omega)) (by first | omega | (simp only [List.length_set, List.length_append, List.length_cons, List.length_nil, List.length_replicate]; omega))) rfl (fun p_82 hp_83 => ?_)
      refine Wh.ex 6 rfl (by kernel_rfl) hS.bel (rd_load hp_83 rfl Try.isAgg62 Try.sizeOf62) rfl (fun v_84 hv_85 => ?_)
      obtain ⟨v_86, v_87, rfl, hv_88, hv_89⟩ := hv_85.s2
      have ln_90 := hv_88.len63
      have ln_91 := hv_89.len63
      refine Wh.br [2, 7] (by kernel_rfl) (by decide) ⟨⟨_, rfl, ?_⟩, ⟨_, rfl, ?_⟩, trivial⟩
      · -- operation 2
        refine Wx.callF (run_callF Try.call60 rfl) (F60 (hS.arg (h0.v 8 rfl)) (by omega) hS.fb_lt) rfl ?_
        rintro r_92 w_93 hx_94 ⟨_, rfl, hv_95⟩
        have hS := hS.pushFrO hx_94 hv_95
        refine Wx.nil ⟨hS.bel, ?_⟩
        refine Wh.br [7] (by kernel_rfl) (by decide) ⟨⟨_, rfl, ?_⟩, trivial⟩
        refine Wx.lit (t := (tP (tSl (tI .i64)) (tSl (tI .i64)))) (ys := [(ix ([], []) l (which % (l.length : Int)))]) (vs := [.agg #[v_86, v_87]]) elLs_22 hS rfl rfl ⟨(V.mkS2 (z := (ix ([], []) l (which % (l.length : Int)))) (hS.arg hv_88) (hS.arg hv_89)), trivial⟩ (by decide) rfl (fun v_97 w_98 hx_99 hS => ?_)
        refine Wx.nil ⟨hS.bel, ?_⟩
        refine Wh.br [8] (by kernel_rfl) (by decide) ⟨⟨_, rfl, ?_⟩, trivial⟩
        refine Wx.append elLs_22 hS 1 rfl rfl rfl (Src.ofR hS 0 rfl) (by simp only [maxLen]; simp; omega) (by simp; omega) rfl (fun v_100 w_101 hz_102 hS => ?_)
        refine Wx.nil ⟨hS.bel, ?_⟩
        refine Wh.br [9] (by kernel_rfl) (by decide) ⟨⟨_, rfl, ?_⟩, trivial⟩
        have hS := hS.freeze 1 rfl
        refine Wx.callF (run_callF Try.call29 rfl) (F29 (in_i64 (by omega) (by omega)) (hS.v 0 rfl) hS.fb_lt) rfl ?_
        rintro r_104 w_105 hx_106 rfl
        have hS := hS.ext hx_106
        refine Wx.nil ⟨hS.bel, ?_⟩
        refine Wh.rd (v := .tuple #[.bool (tasteE (shG zs) (l ++ [(ix ([], []) l (which % (l.length : Int)))])), .int .i64 (checkE (shG zs) (l ++ [(ix ([], []) l (which % (l.length : Int)))]))]) 10 rfl (by kernel_rfl) hS.bel (rd_move rfl) rfl ?_
        refine Wh.rd (v := .bool (tasteE (shG zs) (l ++ [(ix ([], []) l (which % (l.length : Int)))]))) 11 rfl (by kernel_rfl) hS.bel (rd_extract rfl rfl) rfl ?_
        refine Wh.rd (v := .int .i64 (checkE (shG zs) (l ++ [(ix ([], []) l (which % (l.length : Int)))]))) 12 rfl (by kernel_rfl) hS.bel (rd_extract rfl rfl) rfl ?_
        refine Wh.rd (v := .bool (noR l)) 13 rfl (by kernel_rfl) hS.bel (Rd.to (v := .bool (tasteE (shG zs) (l ++ [(ix ([], []) l (which % (l.length : Int)))]))) (rd_assign rfl) (congrArg (Value.bool) (show (noR l : Bool) = (tasteE (shG zs) (l ++ [(ix ([], []) l (which % (l.length : Int)))]) : Bool) from (by rw [taste_noR hc3, noR_twice hw0 hw1])).symm)) rfl ?_
        refine Wh.rd (v := .int .i64 0) 14 rfl (by kernel_rfl) hS.bel (Rd.to (v := .int .i64 (checkE (shG zs) (l ++ [(ix ([], []) l (which % (l.length : Int)))]))) (rd_assign rfl) (congrArg (Value.int .i64) (show (0 : Int) = (checkE (shG zs) (l ++ [(ix ([], []) l (which % (l.length : Int)))]) : Int) from hc3.symm).symm)) rfl ?_
        refine Wh.done (by kernel_rfl) ?_
        have hm_107 := V.merge hS hv_88
        have hm_108 := V.merge hS hv_89
        have hS := h0.merge hS
        have hS := hS.add (hm_107)
        have hS := hS.add (V.upF (hm_108))
        refine W.seq ?_
        refine W.reg ?_
        refine Wx.rd (v := .int .i64 (shG zs)) (rd_move rfl) rfl ?_
        refine Wx.rd (v := v_8) (rd_move rfl) rfl ?_
        refine Wx.callF (run_callF Try.call60 rfl) (F60 (hS.v 12 rfl) (by omega) hS.fb_lt) rfl ?_
        rintro r_111 w_112 hx_113 ⟨_, rfl, hv_114⟩
        have hS := hS.pushFrO hx_113 hv_114
        refine Wx.rd (v := .int .i64 (which % (l.length : Int))) (rd_move rfl) rfl ?_
        refine Wx.rd (v := .int .i64 (which % (l.length : Int))) (rd_move rfl) rfl ?_
        refine Wx.rd (v := .int .i64 ((which % (l.length : Int)) + 1)) (rd_add rfl rfl (in_i64 (by omega) (by omega))) rfl ?_
        refine Wx.callB (run_callF Try.call61 rfl) (F61 (ob := [Ob.v (tSl (tI .i64)) ((ix ([], []) l (which % (l.length : Int))).2) v_87, Ob.v (tSl (tI .i64)) ((ix ([], []) l (which % (l.length : Int))).1) v_86, Ob.v (tSl (tP (tSl (tI .i64)) (tSl (tI .i64)))) (l ++ [(ix ([], []) l (which % (l.length : Int)))]) v_100, .row (tP (tSl (tI .i64)) (tSl (tI .i64))) 62 v_97 [(ix ([], []) l (which % (l.length : Int)))], Ob.v (tSl (tI .i64)) ((ix ([], []) l2 5).2) v_44, Ob.v (tSl (tI .i64)) ((ix ([], []) l2 5).1) v_43, Ob.v (tSl (tI .i64)) (wrongE (shG zs) (l ++ [(ix ([], []) l2 5)])) v_64, Ob.v (tSl (tP (tSl (tI .i64)) (tSl (tI .i64)))) (l ++ [(ix ([], []) l2 5)]) v_57, .row (tP (tSl (tI .i64)) (tSl (tI .i64))) 62 v_54 [(ix ([], []) l2 5)], Ob.v (tSl (tP (tSl (tI .i64)) (tSl (tI .i64)))) l2 v_33, .box g_22 66 (List.map (Value.int .u8) (List.set zs (1 : Int).toNat 6)), Ob.v (tSl (tI .i64)) (wrongE (shG zs) l) v_18, Ob.v (tSl (tP (tSl (tI .i64)) (tSl (tI .i64)))) l v_8, .box g_1 66 (List.map (Value.int .u8) zs)]) (in_i64 (by omega) (by omega)) (in_i64 (by omega) (by omega)) (by omega) (by omega) (by omega) (hS.front 0 rfl)) rfl ?_
        rintro r_116 w_117 ⟨_, rfl, hS⟩
        have hS : St _ _ w_117 [.row (tP (tSl (tI .i64)) (tSl (tI .i64))) 62 r_116 (List.take (which % (l.length : Int)).toNat l ++ List.drop ((which % (l.length : Int)) + 1).toNat l), Ob.v (tSl (tI .i64)) ((ix ([], []) l (which % (l.length : Int))).2) v_87, Ob.v (tSl (tI .i64)) ((ix ([], []) l (which % (l.length : Int))).1) v_86, Ob.v (tSl (tP (tSl (tI .i64)) (tSl (tI .i64)))) (l ++ [(ix ([], []) l (which % (l.length : Int)))]) v_100, .row (tP (tSl (tI .i64)) (tSl (tI .i64))) 62 v_97 [(ix ([], []) l (which % (l.length : Int)))], Ob.v (tSl (tI .i64)) ((ix ([], []) l2 5).2) v_44, Ob.v (tSl (tI .i64)) ((ix ([], []) l2 5).1) v_43, Ob.v (tSl (tI .i64)) (wrongE (shG zs) (l ++ [(ix ([], []) l2 5)])) v_64, Ob.v (tSl (tP (tSl (tI .i64)) (tSl (tI .i64)))) (l ++ [(ix ([], []) l2 5)]) v_57, .row (tP (tSl (tI .i64)) (tSl (tI .i64))) 62 v_54 [(ix ([], []) l2 5)], Ob.v (tSl (tP (tSl (tI .i64)) (tSl (tI .i64)))) l2 v_33, .box g_22 66 (List.map (Value.int .u8) (List.set zs (1 : Int).toNat 6)), Ob.v (tSl (tI .i64)) (wrongE (shG zs) l) v_18, Ob.v (tSl (tP (tSl (tI .i64)) (tSl (tI .i64)))) l v_8, .box g_1 66 (List.map (Value.int .u8) zs)] := St.putBack (obs := [.row (tP (tSl (tI .i64)) (tSl (tI .i64))) 62 r_111 l, Ob.v (tSl (tI .i64)) ((ix ([], []) l (which % (l.length : Int))).2) v_87, Ob.v (tSl (tI .i64)) ((ix ([], []) l (which % (l.length : Int))).1) v_86, Ob.v (tSl (tP (tSl (tI .i64)) (tSl (tI .i64)))) (l ++ [(ix ([], []) l (which % (l.length : Int)))]) v_100, .row (tP (tSl (tI .i64)) (tSl (tI .i64))) 62 v_97 [(ix ([], []) l (which % (l.length : Int)))], Ob.v (tSl (tI .i64)) ((ix ([], []) l2 5).2) v_44, Ob.v (tSl (tI .i64)) ((ix ([], []) l2 5).1) v_43, Ob.v (tSl (tI .i64)) (wrongE (shG zs) (l ++ [(ix ([], []) l2 5)])) v_64, Ob.v (tSl (tP (tSl (tI .i64)) (tSl (tI .i64)))) (l ++ [(ix ([], []) l2 5)]) v_57, .row (tP (tSl (tI .i64)) (tSl (tI .i64))) 62 v_54 [(ix ([], []) l2 5)], Ob.v (tSl (tP (tSl (tI .i64)) (tSl (tI .i64)))) l2 v_33, .box g_22 66 (List.map (Value.int .u8) (List.set zs (1 : Int).toNat 6)), Ob.v (tSl (tI .i64)) (wrongE (shG zs) l) v_18, Ob.v (tSl (tP (tSl (tI .i64)) (tSl (tI .i64)))) l v_8, .box g_1 66 (List.map (Value.int .u8) zs)]) 0 hS (by simp)
        have hS := hS.freeze 0 rfl
        refine Wx.callF (run_callF Try.call29 rfl) (F29 (in_i64 (by omega) (by omega)) (hS.v 0 rfl) hS.fb_lt) rfl ?_
        rintro r_119 w_120 hx_121 rfl
        have hS := hS.ext hx_121
        refine Wx.rd (v := .tuple #[.bool (tasteE (shG zs) (List.take (which % (l.length : Int)).toNat l ++ List.drop ((which % (l.length : Int)) + 1).toNat l)), .int .i64 (checkE (shG zs) (List.take (which % (l.length : Int)).toNat l ++ List.drop ((which % (l.length : Int)) + 1).toNat l))]) (rd_move rfl) rfl ?_
        refine Wx.rd (v := .bool (tasteE (shG zs) (List.take (which % (l.length : Int)).toNat l ++ List.drop ((which % (l.length : Int)) + 1).toNat l))) (rd_extract rfl rfl) rfl ?_
        refine Wx.rd (v := .int .i64 (checkE (shG zs) (List.take (which % (l.length : Int)).toNat l ++ List.drop ((which % (l.length : Int)) + 1).toNat l))) (rd_extract rfl rfl) rfl ?_
        refine Wx.rd (v := .bool (noR (List.take (which % (l.length : Int)).toNat l ++ List.drop (which % (l.length : Int) + 1).toNat l))) (Rd.to (v := .bool (tasteE (shG zs) (List.take (which % (l.length : Int)).toNat l ++ List.drop ((which % (l.length : Int)) + 1).toNat l))) (rd_assign rfl) (congrArg (Value.bool) (show (noR (List.take (which % (l.length : Int)).toNat l ++ List.drop (which % (l.length : Int) + 1).toNat l) : Bool) = (tasteE (shG zs) (List.take (which % (l.length : Int)).toNat l ++ List.drop ((which % (l.length : Int)) + 1).toNat l) : Bool) from (taste_noR (chk_less hc (by omega))).symm).symm)) rfl ?_
        refine Wx.rd (v := .int .i64 0) (Rd.to (v := .int .i64 (checkE (shG zs) (List.take (which % (l.length : Int)).toNat l ++ List.drop ((which % (l.length : Int)) + 1).toNat l))) (rd_assign rfl) (congrArg (Value.int .i64) (show (0 : Int) = (checkE (shG zs) (List.take (which % (l.length : Int)).toNat l ++ List.drop ((which % (l.length : Int)) + 1).toNat l) : Int) from (chk_less hc (by omega)).symm).symm)) rfl ?_
        refine Wx.nil ?_
        refine W.seq ?_
        refine W.reg ?_
        refine Wx.rd (v := .int .i64 0) (rd_move rfl) rfl ?_
        refine Wx.rd (v := .bool true) (Rd.to (v := .bool (decide ((0 : Int) = 0))) (rd_eql rfl rfl) rfl) rfl ?_
        refine Wx.rd (v := .bool true) (rd_move rfl) rfl ?_
        refine Wx.gyes rfl rfl rfl ?_
        refine Wx.rd (v := .int .i64 0) (rd_move rfl) rfl ?_
        refine Wx.gyes rfl rfl rfl ?_
        refine Wx.rd (v := .bool true) (Rd.to (v := .bool (decide ((0 : Int) = 0))) (rd_eql rfl rfl) rfl) rfl ?_
        refine Wx.rd (v := .bool true) (rd_pickT rfl rfl) rfl ?_
        refine Wx.rd (v := .bool true) (rd_move rfl) rfl ?_
        refine Wx.gyes rfl rfl rfl ?_
        refine Wx.rd (v := .bool (noR l)) (rd_move rfl) rfl ?_
        refine Wx.gyes rfl rfl rfl ?_
        refine Wx.rd (v := .bool (noR l)) (rd_move rfl) rfl ?_
        refine Wx.gyes rfl rfl rfl ?_
        refine Wx.rd (v := .bool ((noR l) == (noR l))) (rd_eqlB rfl rfl Try.underlying4) rfl ?_
        refine Wx.rd (v := .bool ((noR l) == (noR l))) (rd_pickT rfl rfl) rfl ?_
        refine Wx.rd (v := .bool ((noR l) == (noR l))) (rd_move rfl) rfl ?_
        refine Wx.cut (X := Unit) 6 [130, 131, 132, 133, 134, 135] (fun _ => [(135, .bool ((noR l) == (noR l) && (!(noR l) || noR (List.take (which % (l.length : Int)).toNat l ++ List.drop (which % (l.length : Int) + 1).toNat l))))]) (fun _ w' => St w O w' [Ob.v (tSl (tP (tSl (tI .i64)) (tSl (tI .i64)))) (List.take (which % (l.length : Int)).toNat l ++ List.drop ((which % (l.length : Int)) + 1).toNat l) r_116, Ob.v (tSl (tI .i64)) ((ix ([], []) l (which % (l.length : Int))).2) v_87, Ob.v (tSl (tI .i64)) ((ix ([], []) l (which % (l.length : Int))).1) v_86, Ob.v (tSl (tP (tSl (tI .i64)) (tSl (tI .i64)))) (l ++ [(ix ([], []) l (which % (l.length : Int)))]) v_100, .row (tP (tSl (tI .i64)) (tSl (tI .i64))) 62 v_97 [(ix ([], []) l (which % (l.length : Int)))], Ob.v (tSl (tI .i64)) ((ix ([], []) l2 5).2) v_44, Ob.v (tSl (tI .i64)) ((ix ([], []) l2 5).1) v_43, Ob.v (tSl (tI .i64)) (wrongE (shG zs) (l ++ [(ix ([], []) l2 5)])) v_64, Ob.v (tSl (tP (tSl (tI .i64)) (tSl (tI .i64)))) (l ++ [(ix ([], []) l2 5)]) v_57, .row (tP (tSl (tI .i64)) (tSl (tI .i64))) 62 v_54 [(ix ([], []) l2 5)], Ob.v (tSl (tP (tSl (tI .i64)) (tSl (tI .i64)))) l2 v_33, .box g_22 66 (List.map (Value.int .u8) (List.set zs (1 : Int).toNat 6)), Ob.v (tSl (tI .i64)) (wrongE (shG zs) l) v_18, Ob.v (tSl (tP (tSl (tI .i64)) (tSl (tI .i64)))) l v_8, .box g_1 66 (List.map (Value.int .u8) zs)]) ?_ ?_
        · rcases Bool.eq_false_or_eq_true ((noR l) == (noR l)) with g_122 | g_122
          · -- True
            have gp_123 := g_122
            try simp only [Bool.and_eq_true, Bool.or_eq_true, Bool.not_eq_true', Bool.and_eq_false_iff, Bool.or_eq_false_iff, Bool.not_eq_false', decide_eq_true_eq, decide_eq_false_iff_not, not_or, Bool.false_eq_true, Bool.true_eq_false, false_or, or_false, not_false_eq_true] at gp_123
            refine Wx.gyes rfl rfl (congrArg Value.bool g_122) ?_
            refine Wx.rd (v := .bool (noR l)) (rd_move rfl) rfl ?_
            refine Wx.gyes rfl rfl (congrArg Value.bool g_122) ?_
            refine Wx.rd (v := .bool (!(noR l))) (rd_not rfl) rfl ?_
            refine Wx.gyes rfl rfl (congrArg Value.bool g_122) ?_
            refine Wx.rd (v := .bool (!(noR l))) (rd_move rfl) rfl ?_
            refine Wx.cut (X := Unit) 2 [133, 134] (fun _ => [(134, .bool (!(noR l) || noR (List.take (which % (l.length : Int)).toNat l ++ List.drop (which % (l.length : Int) + 1).toNat l)))]) (fun _ w' => St w O w' [Ob.v (tSl (tP (tSl (tI .i64)) (tSl (tI .i64)))) (List.take (which % (l.length : Int)).toNat l ++ List.drop ((which % (l.length : Int)) + 1).toNat l) r_116, Ob.v (tSl (tI .i64)) ((ix ([], []) l (which % (l.length : Int))).2) v_87, Ob.v (tSl (tI .i64)) ((ix ([], []) l (which % (l.length : Int))).1) v_86, Ob.v (tSl (tP (tSl (tI .i64)) (tSl (tI .i64)))) (l ++ [(ix ([], []) l (which % (l.length : Int)))]) v_100, .row (tP (tSl (tI .i64)) (tSl (tI .i64))) 62 v_97 [(ix ([], []) l (which % (l.length : Int)))], Ob.v (tSl (tI .i64)) ((ix ([], []) l2 5).2) v_44, Ob.v (tSl (tI .i64)) ((ix ([], []) l2 5).1) v_43, Ob.v (tSl (tI .i64)) (wrongE (shG zs) (l ++ [(ix ([], []) l2 5)])) v_64, Ob.v (tSl (tP (tSl (tI .i64)) (tSl (tI .i64)))) (l ++ [(ix ([], []) l2 5)]) v_57, .row (tP (tSl (tI .i64)) (tSl (tI .i64))) 62 v_54 [(ix ([], []) l2 5)], Ob.v (tSl (tP (tSl (tI .i64)) (tSl (tI .i64)))) l2 v_33, .box g_22 66 (List.map (Value.int .u8) (List.set zs (1 : Int).toNat 6)), Ob.v (tSl (tI .i64)) (wrongE (shG zs) l) v_18, Ob.v (tSl (tP (tSl (tI .i64)) (tSl (tI .i64)))) l v_8, .box g_1 66 (List.map (Value.int .u8) zs)]) ?_ ?_
            · rcases Bool.eq_false_or_eq_true (!(noR l)) with g_124 | g_124
              · -- True
                have gp_125 := g_124
                try simp only [Bool.and_eq_true, Bool.or_eq_true, Bool.not_eq_true', Bool.and_eq_false_iff, Bool.or_eq_false_iff, Bool.not_eq_false', decide_eq_true_eq, decide_eq_false_iff_not, not_or, Bool.false_eq_true, Bool.true_eq_false, false_or, or_false, not_false_eq_true] at gp_125
                refine Wx.gnoB rfl rfl (congrArg Value.bool g_124) rfl rfl ?_
                refine Wx.gyes rfl rfl (congrArg Value.bool g_122) ?_
                refine Wx.rd (v := .bool true) (rd_pickT (congrArg Value.bool g_124) rfl) rfl ?_
                refine Wx.nil ⟨(), hS, ⟨?_, trivial⟩, Out.look rfl Out.refl⟩
                show Value.bool true = Value.bool (!(noR l) || noR (List.take (which % (l.length : Int)).toNat l ++ List.drop (which % (l.length : Int) + 1).toNat l))
                first | rw [g_124, Bool.true_or] | (rw [g_124]; rfl)
              · -- False
                have gp_126 := g_124
                try simp only [Bool.and_eq_true, Bool.or_eq_true, Bool.not_eq_true', Bool.and_eq_false_iff, Bool.or_eq_false_iff, Bool.not_eq_false', decide_eq_true_eq, decide_eq_false_iff_not, not_or, Bool.false_eq_true, Bool.true_eq_false, false_or, or_false, not_false_eq_true] at gp_126
                refine Wx.gyes rfl rfl (congrArg Value.bool g_124) ?_
                refine Wx.rd (v := .bool (noR (List.take (which % (l.length : Int)).toNat l ++ List.drop (which % (l.length : Int) + 1).toNat l))) (rd_move rfl) rfl ?_
                refine Wx.gyes rfl rfl (congrArg Value.bool g_122) ?_
                refine Wx.rd (v := .bool (noR (List.take (which % (l.length : Int)).toNat l ++ List.drop (which % (l.length : Int) + 1).toNat l))) (rd_pickF (congrArg Value.bool g_124) rfl) rfl ?_
                refine Wx.nil ⟨(), hS, ⟨?_, trivial⟩, Out.look rfl Out.refl⟩
                show Value.bool (noR (List.take (which % (l.length : Int)).toNat l ++ List.drop (which % (l.length : Int) + 1).toNat l)) = Value.bool (!(noR l) || noR (List.take (which % (l.length : Int)).toNat l ++ List.drop (which % (l.length : Int) + 1).toNat l))
                first | rw [g_124, Bool.false_or] | (rw [g_124]; rfl)
            rintro ⟨⟩ u_128 w_127 hS
            refine Wx.rd (v := .bool (!(noR l) || noR (List.take (which % (l.length : Int)).toNat l ++ List.drop (which % (l.length : Int) + 1).toNat l))) (rd_pickT (congrArg Value.bool g_122) rfl) rfl ?_
            refine Wx.nil ⟨(), hS, ⟨?_, trivial⟩, Out.look rfl (Out.hav rfl (Out.look rfl Out.refl))⟩
            show Value.bool (!(noR l) || noR (List.take (which % (l.length : Int)).toNat l ++ List.drop (which % (l.length : Int) + 1).toNat l)) = Value.bool ((noR l) == (noR l) && (!(noR l) || noR (List.take (which % (l.length : Int)).toNat l ++ List.drop (which % (l.length : Int) + 1).toNat l)))
            first | rw [g_122, Bool.true_and] | (rw [g_122]; rfl)
          · -- False
            have gp_129 := g_122
            try simp only [Bool.and_eq_true, Bool.or_eq_true, Bool.not_eq_true', Bool.and_eq_false_iff, Bool.or_eq_false_iff, Bool.not_eq_false', decide_eq_true_eq, decide_eq_false_iff_not, not_or, Bool.false_eq_true, Bool.true_eq_false, false_or, or_false, not_false_eq_true] at gp_129
            refine Wx.gnoB rfl rfl (congrArg Value.bool g_122) rfl rfl ?_
            refine Wx.gnoB rfl rfl (congrArg Value.bool g_122) rfl rfl ?_
            refine Wx.gnoB rfl rfl (congrArg Value.bool g_122) rfl rfl ?_
            refine Wx.gno rfl rfl rfl rfl ?_
            refine Wx.gnoB rfl rfl (congrArg Value.bool g_122) rfl rfl ?_
            refine Wx.rd (v := .bool false) (rd_pickF (congrArg Value.bool g_122) rfl) rfl ?_
            refine Wx.nil ⟨(), hS, ⟨?_, trivial⟩, Out.look rfl Out.refl⟩
            show Value.bool false = Value.bool ((noR l) == (noR l) && (!(noR l) || noR (List.take (which % (l.length : Int)).toNat l ++ List.drop (which % (l.length : Int) + 1).toNat l)))
            first | rw [g_122, Bool.false_and] | (rw [g_122]; rfl)
        rintro ⟨⟩ u_131 w_130 hS
        refine Wx.rd (v := .bool ((noR l) == (noR l) && (!(noR l) || noR (List.take (which % (l.length : Int)).toNat l ++ List.drop (which % (l.length : Int) + 1).toNat l)))) (rd_move rfl) rfl ?_
        refine Wx.cut (X := Unit) 2 [137, 138] (fun _ => [(138, .bool (((noR l) == (noR l) && (!(noR l) || noR (List.take (which % (l.length : Int)).toNat l ++ List.drop (which % (l.length : Int) + 1).toNat l))) && true))]) (fun _ w' => St w O w' [Ob.v (tSl (tP (tSl (tI .i64)) (tSl (tI .i64)))) (List.take (which % (l.length : Int)).toNat l ++ List.drop ((which % (l.length : Int)) + 1).toNat l) r_116, Ob.v (tSl (tI .i64)) ((ix ([], []) l (which % (l.length : Int))).2) v_87, Ob.v (tSl (tI .i64)) ((ix ([], []) l (which % (l.length : Int))).1) v_86, Ob.v (tSl (tP (tSl (tI .i64)) (tSl (tI .i64)))) (l ++ [(ix ([], []) l (which % (l.length : Int)))]) v_100, .row (tP (tSl (tI .i64)) (tSl (tI .i64))) 62 v_97 [(ix ([], []) l (which % (l.length : Int)))], Ob.v (tSl (tI .i64)) ((ix ([], []) l2 5).2) v_44, Ob.v (tSl (tI .i64)) ((ix ([], []) l2 5).1) v_43, Ob.v (tSl (tI .i64)) (wrongE (shG zs) (l ++ [(ix ([], []) l2 5)])) v_64, Ob.v (tSl (tP (tSl (tI .i64)) (tSl (tI .i64)))) (l ++ [(ix ([], []) l2 5)]) v_57, .row (tP (tSl (tI .i64)) (tSl (tI .i64))) 62 v_54 [(ix ([], []) l2 5)], Ob.v (tSl (tP (tSl (tI .i64)) (tSl (tI .i64)))) l2 v_33, .box g_22 66 (List.map (Value.int .u8) (List.set zs (1 : Int).toNat 6)), Ob.v (tSl (tI .i64)) (wrongE (shG zs) l) v_18, Ob.v (tSl (tP (tSl (tI .i64)) (tSl (tI .i64)))) l v_8, .box g_1 66 (List.map (Value.int .u8) zs)]) ?_ ?_
        · rcases Bool.eq_false_or_eq_true ((noR l) == (noR l) && (!(noR l) || noR (List.take (which % (l.length : Int)).toNat l ++ List.drop (which % (l.length : Int) + 1).toNat l))) with g_132 | g_132
          · -- True
            have gp_133 := g_132
            try simp only [Bool.and_eq_true, Bool.or_eq_true, Bool.not_eq_true', Bool.and_eq_false_iff, Bool.or_eq_false_iff, Bool.not_eq_false', decide_eq_true_eq, decide_eq_false_iff_not, not_or, Bool.false_eq_true, Bool.true_eq_false, false_or, or_false, not_false_eq_true] at gp_133
            refine Wx.gyes rfl rfl (congrArg Value.bool g_132) ?_
            refine Wx.callF (run_callF Try.call16 rfl) (F16 hS.fb_lt) rfl ?_
            rintro r_134 w_135 hx_136 rfl
            have hS := hS.ext hx_136
            refine Wx.rd (v := .bool true) (rd_pickT (congrArg Value.bool g_132) rfl) rfl ?_
            refine Wx.nil ⟨(), hS, ⟨?_, trivial⟩, Out.look rfl Out.refl⟩
            show Value.bool true = Value.bool (((noR l) == (noR l) && (!(noR l) || noR (List.take (which % (l.length : Int)).toNat l ++ List.drop (which % (l.length : Int) + 1).toNat l))) && true)
            first | rw [g_132, Bool.true_and] | (rw [g_132]; rfl)
          · -- False
            have gp_137 := g_132
            try simp only [Bool.and_eq_true, Bool.or_eq_true, Bool.not_eq_true', Bool.and_eq_false_iff, Bool.or_eq_false_iff, Bool.not_eq_false', decide_eq_true_eq, decide_eq_false_iff_not, not_or, Bool.false_eq_true, Bool.true_eq_false, false_or, or_false, not_false_eq_true] at gp_137
            refine Wx.gnoB rfl rfl (congrArg Value.bool g_132) rfl rfl ?_
            refine Wx.rd (v := .bool false) (rd_pickF (congrArg Value.bool g_132) rfl) rfl ?_
            refine Wx.nil ⟨(), hS, ⟨?_, trivial⟩, Out.look rfl Out.refl⟩
            show Value.bool false = Value.bool (((noR l) == (noR l) && (!(noR l) || noR (List.take (which % (l.length : Int)).toNat l ++ List.drop (which % (l.length : Int) + 1).toNat l))) && true)
            first | rw [g_132, Bool.false_and] | (rw [g_132]; rfl)
        rintro ⟨⟩ u_139 w_138 hS
        refine Wx.rd (v := .bool (((noR l) == (noR l) && (!(noR l) || noR (List.take (which % (l.length : Int)).toNat l ++ List.drop (which % (l.length : Int) + 1).toNat l))) && true)) (rd_assign rfl) rfl ?_
        refine Wx.nil ?_
        have e1_0 : (((noR l) == (noR l) && (!(noR l) || noR (List.take (which % (l.length : Int)).toNat l ++ List.drop (which % (l.length : Int) + 1).toNat l))) && true) = true := by cases h : noR l with | false => rfl | true => rw [noR_less h]; rfl
        exact W.ret ⟨.bool (((noR l) == (noR l) && (!(noR l) || noR (List.take (which % (l.length : Int)).toNat l ++ List.drop (which % (l.length : Int) + 1).toNat l))) && true), ResIs.one, hS.bel, (by rw [e1_0])⟩
      · -- operation 7
        refine Wx.lit (t := (tP (tSl (tI .i64)) (tSl (tI .i64)))) (ys := [(ix ([], []) l (which % (l.length : Int)))]) (vs := [.agg #[v_86, v_87]]) elLs_22 hS rfl rfl ⟨(V.mkS2 (z := (ix ([], []) l (which % (l.length : Int)))) (hS.arg hv_88) (hS.arg hv_89)), trivial⟩ (by decide) rfl (fun v_140 w_141 hx_142 hS => ?_)
        refine Wx.nil ⟨hS.bel, ?_⟩
        refine Wh.br [2] (by kernel_rfl) (by decide) ⟨⟨_, rfl, ?_⟩, trivial⟩
        refine Wx.callF (run_callF Try.call60 rfl) (F60 (hS.arg (h0.v 8 rfl)) (by omega) hS.fb_lt) rfl ?_
        rintro r_143 w_144 hx_145 ⟨_, rfl, hv_146⟩
        have hS := hS.pushFrO hx_145 hv_146
        refine Wx.nil ⟨hS.bel, ?_⟩
        refine Wh.br [8] (by kernel_rfl) (by decide) ⟨⟨_, rfl, ?_⟩, trivial⟩
        refine Wx.append elLs_22 hS 0 rfl rfl rfl (Src.ofR hS 1 rfl) (by simp only [maxLen]; simp; omega) (by simp; omega) rfl (fun v_148 w_149 hz_150 hS => ?_)
        refine Wx.nil ⟨hS.bel, ?_⟩
        refine Wh.br [9] (by kernel_rfl) (by decide) ⟨⟨_, rfl, ?_⟩, trivial⟩
        have hS := hS.freeze 0 rfl
        refine Wx.callF (run_callF Try.call29 rfl) (F29 (in_i64 (by omega) (by omega)) (hS.v 0 rfl) hS.fb_lt) rfl ?_
        rintro r_152 w_153 hx_154 rfl
        have hS := hS.ext hx_154
        refine Wx.nil ⟨hS.bel, ?_⟩
        refine Wh.rd (v := .tuple #[.bool (tasteE (shG zs) (l ++ [(ix ([], []) l (which % (l.length : Int)))])), .int .i64 (checkE (shG zs) (l ++ [(ix ([], []) l (which % (l.length : Int)))]))]) 10 rfl (by kernel_rfl) hS.bel (rd_move rfl) rfl ?_
        refine Wh.rd (v := .bool (tasteE (shG zs) (l ++ [(ix ([], []) l (which % (l.length : Int)))]))) 11 rfl (by kernel_rfl) hS.bel (rd_extract rfl rfl) rfl ?_
        refine Wh.rd (v := .int .i64 (checkE (shG zs) (l ++ [(ix ([], []) l (which % (l.length : Int)))]))) 12 rfl (by kernel_rfl) hS.bel (rd_extract rfl rfl) rfl ?_
        refine Wh.rd (v := .bool (noR l)) 13 rfl (by kernel_rfl) hS.bel (Rd.to (v := .bool (tasteE (shG zs) (l ++ [(ix ([], []) l (which % (l.length : Int)))]))) (rd_assign rfl) (congrArg (Value.bool) (show (noR l : Bool) = (tasteE (shG zs) (l ++ [(ix ([], []) l (which % (l.length : Int)))]) : Bool) from (by rw [taste_noR hc3, noR_twice hw0 hw1])).symm)) rfl ?_
        refine Wh.rd (v := .int .i64 0) 14 rfl (by kernel_rfl) hS.bel (Rd.to (v := .int .i64 (checkE (shG zs) (l ++ [(ix ([], []) l (which % (l.length : Int)))]))) (rd_assign rfl) (congrArg (Value.int .i64) (show (0 : Int) = (checkE (shG zs) (l ++ [(ix ([], []) l (which % (l.length : Int)))]) : Int) from hc3.symm).symm)) rfl ?_
        refine Wh.done (by kernel_rfl) ?_
        have hm_155 := V.merge hS hv_88
        have hm_156 := V.merge hS hv_89
        have hS := h0.merge hS
        have hS := hS.add (hm_155)
        have hS := hS.add (V.upF (hm_156))
        refine W.seq ?_
        refine W.reg ?_
        refine Wx.rd (v := .int .i64 (shG zs)) (rd_move rfl) rfl ?_
        refine Wx.rd (v := v_8) (rd_move rfl) rfl ?_
        refine Wx.callF (run_callF Try.call60 rfl) (F60 (hS.v 12 rfl) (by omega) hS.fb_lt) rfl ?_
        rintro r_159 w_160 hx_161 ⟨_, rfl, hv_162⟩
        have hS := hS.pushFrO hx_161 hv_162
        refine Wx.rd (v := .int .i64 (which % (l.length : Int))) (rd_move rfl) rfl ?_
        refine Wx.rd (v := .int .i64 (which % (l.length : Int))) (rd_move rfl) rfl ?_
        refine Wx.rd (v := .int .i64 ((which % (l.length : Int)) + 1)) (rd_add rfl rfl (in_i64 (by omega) (by omega))) rfl ?_
        refine Wx.callB (run_callF Try.call61 rfl) (F61 (ob := [Ob.v (tSl (tI .i64)) ((ix ([], []) l (which % (l.length : Int))).2) v_87, Ob.v (tSl (tI .i64)) ((ix ([], []) l (which % (l.length : Int))).1) v_86, Ob.v (tSl (tP (tSl (tI .i64)) (tSl (tI .i64)))) (l ++ [(ix ([], []) l (which % (l.length : Int)))]) v_148, .row (tP (tSl (tI .i64)) (tSl (tI .i64))) 62 v_140 [(ix ([], []) l (which % (l.length : Int)))], Ob.v (tSl (tI .i64)) ((ix ([], []) l2 5).2) v_44, Ob.v (tSl (tI .i64)) ((ix ([], []) l2 5).1) v_43, Ob.v (tSl (tI .i64)) (wrongE (shG zs) (l ++ [(ix ([], []) l2 5)])) v_64, Ob.v (tSl (tP (tSl (tI .i64)) (tSl (tI .i64)))) (l ++ [(ix ([], []) l2 5)]) v_57, .row (tP (tSl (tI .i64)) (tSl (tI .i64))) 62 v_54 [(ix ([], []) l2 5)], Ob.v (tSl (tP (tSl (tI .i64)) (tSl (tI .i64)))) l2 v_33, .box g_22 66 (List.map (Value.int .u8) (List.set zs (1 : Int).toNat 6)), Ob.v (tSl (tI .i64)) (wrongE (shG zs) l) v_18, Ob.v (tSl (tP (tSl (tI .i64)) (tSl (tI .i64)))) l v_8, .box g_1 66 (List.map (Value.int .u8) zs)]) (in_i64 (by omega) (by omega)) (in_i64 (by omega) (by omega)) (by omega) (by omega) (by omega) (hS.front 0 rfl)) rfl ?_
        rintro r_164 w_165 ⟨_, rfl, hS⟩
        have hS : St _ _ w_165 [.row (tP (tSl (tI .i64)) (tSl (tI .i64))) 62 r_164 (List.take (which % (l.length : Int)).toNat l ++ List.drop ((which % (l.length : Int)) + 1).toNat l), Ob.v (tSl (tI .i64)) ((ix ([], []) l (which % (l.length : Int))).2) v_87, Ob.v (tSl (tI .i64)) ((ix ([], []) l (which % (l.length : Int))).1) v_86, Ob.v (tSl (tP (tSl (tI .i64)) (tSl (tI .i64)))) (l ++ [(ix ([], []) l (which % (l.length : Int)))]) v_148, .row (tP (tSl (tI .i64)) (tSl (tI .i64))) 62 v_140 [(ix ([], []) l (which % (l.length : Int)))], Ob.v (tSl (tI .i64)) ((ix ([], []) l2 5).2) v_44, Ob.v (tSl (tI .i64)) ((ix ([], []) l2 5).1) v_43, Ob.v (tSl (tI .i64)) (wrongE (shG zs) (l ++ [(ix ([], []) l2 5)])) v_64, Ob.v (tSl (tP (tSl (tI .i64)) (tSl (tI .i64)))) (l ++ [(ix ([], []) l2 5)]) v_57, .row (tP (tSl (tI .i64)) (tSl (tI .i64))) 62 v_54 [(ix ([], []) l2 5)], Ob.v (tSl (tP (tSl (tI .i64)) (tSl (tI .i64)))) l2 v_33, .box g_22 66 (List.map (Value.int .u8) (List.set zs (1 : Int).toNat 6)), Ob.v (tSl (tI .i64)) (wrongE (shG zs) l) v_18, Ob.v (tSl (tP (tSl (tI .i64)) (tSl (tI .i64)))) l v_8, .box g_1 66 (List.map (Value.int .u8) zs)] := St.putBack (obs := [.row (tP (tSl (tI .i64)) (tSl (tI .i64))) 62 r_159 l, Ob.v (tSl (tI .i64)) ((ix ([], []) l (which % (l.length : Int))).2) v_87, Ob.v (tSl (tI .i64)) ((ix ([], []) l (which % (l.length : Int))).1) v_86, Ob.v (tSl (tP (tSl (tI .i64)) (tSl (tI .i64)))) (l ++ [(ix ([], []) l (which % (l.length : Int)))]) v_148, .row (tP (tSl (tI .i64)) (tSl (tI .i64))) 62 v_140 [(ix ([], []) l (which % (l.length : Int)))], Ob.v (tSl (tI .i64)) ((ix ([], []) l2 5).2) v_44, Ob.v (tSl (tI .i64)) ((ix ([], []) l2 5).1) v_43, Ob.v (tSl (tI .i64)) (wrongE (shG zs) (l ++ [(ix ([], []) l2 5)])) v_64, Ob.v (tSl (tP (tSl (tI .i64)) (tSl (tI .i64)))) (l ++ [(ix ([], []) l2 5)]) v_57, .row (tP (tSl (tI .i64)) (tSl (tI .i64))) 62 v_54 [(ix ([], []) l2 5)], Ob.v (tSl (tP (tSl (tI .i64)) (tSl (tI .i64)))) l2 v_33, .box g_22 66 (List.map (Value.int .u8) (List.set zs (1 : Int).toNat 6)), Ob.v (tSl (tI .i64)) (wrongE (shG zs) l) v_18, Ob.v (tSl (tP (tSl (tI .i64)) (tSl (tI .i64)))) l v_8, .box g_1 66 (List.map (Value.int .u8) zs)]) 0 hS (by simp)
        have hS := hS.freeze 0 rfl
        refine Wx.callF (run_callF Try.call29 rfl) (F29 (in_i64 (by omega) (by omega)) (hS.v 0 rfl) hS.fb_lt) rfl ?_
        rintro r_167 w_168 hx_169 rfl
        have hS := hS.ext hx_169
        refine Wx.rd (v := .tuple #[.bool (tasteE (shG zs) (List.take (which % (l.length : Int)).toNat l ++ List.drop ((which % (l.length : Int)) + 1).toNat l)), .int .i64 (checkE (shG zs) (List.take (which % (l.length : Int)).toNat l ++ List.drop ((which % (l.length : Int)) + 1).toNat l))]) (rd_move rfl) rfl ?_
        refine Wx.rd (v := .bool (tasteE (shG zs) (List.take (which % (l.length : Int)).toNat l ++ List.drop ((which % (l.length : Int)) + 1).toNat l))) (rd_extract rfl rfl) rfl ?_
        refine Wx.rd (v := .int .i64 (checkE (shG zs) (List.take (which % (l.length : Int)).toNat l ++ List.drop ((which % (l.length : Int)) + 1).toNat l))) (rd_extract rfl rfl) rfl ?_
        refine Wx.rd (v := .bool (noR (List.take (which % (l.length : Int)).toNat l ++ List.drop (which % (l.length : Int) + 1).toNat l))) (Rd.to (v := .bool (tasteE (shG zs) (List.take (which % (l.length : Int)).toNat l ++ List.drop ((which % (l.length : Int)) + 1).toNat l))) (rd_assign rfl) (congrArg (Value.bool) (show (noR (List.take (which % (l.length : Int)).toNat l ++ List.drop (which % (l.length : Int) + 1).toNat l) : Bool) = (tasteE (shG zs) (List.take (which % (l.length : Int)).toNat l ++ List.drop ((which % (l.length : Int)) + 1).toNat l) : Bool) from (taste_noR (chk_less hc (by omega))).symm).symm)) rfl ?_
        refine Wx.rd (v := .int .i64 0) (Rd.to (v := .int .i64 (checkE (shG zs) (List.take (which % (l.length : Int)).toNat l ++ List.drop ((which % (l.length : Int)) + 1).toNat l))) (rd_assign rfl) (congrArg (Value.int .i64) (show (0 : Int) = (checkE (shG zs) (List.take (which % (l.length : Int)).toNat l ++ List.drop ((which % (l.length : Int)) + 1).toNat l) : Int) from (chk_less hc (by omega)).symm).symm)) rfl ?_
        refine Wx.nil ?_
        refine W.seq ?_
        refine W.reg ?_
        refine Wx.rd (v := .int .i64 0) (rd_move rfl) rfl ?_
        refine Wx.rd (v := .bool true) (Rd.to (v := .bool (decide ((0 : Int) = 0))) (rd_eql rfl rfl) rfl) rfl ?_
        refine Wx.rd (v := .bool true) (rd_move rfl) rfl ?_
        refine Wx.gyes rfl rfl rfl ?_
        refine Wx.rd (v := .int .i64 0) (rd_move rfl) rfl ?_
        refine Wx.gyes rfl rfl rfl ?_
        refine Wx.rd (v := .bool true) (Rd.to (v := .bool (decide ((0 : Int) = 0))) (rd_eql rfl rfl) rfl) rfl ?_
        refine Wx.rd (v := .bool true) (rd_pickT rfl rfl) rfl ?_
        refine Wx.rd (v := .bool true) (rd_move rfl) rfl ?_
        refine Wx.gyes rfl rfl rfl ?_
        refine Wx.rd (v := .bool (noR l)) (rd_move rfl) rfl ?_
        refine Wx.gyes rfl rfl rfl ?_
        refine Wx.rd (v := .bool (noR l)) (rd_move rfl) rfl ?_
        refine Wx.gyes rfl rfl rfl ?_
        refine Wx.rd (v := .bool ((noR l) == (noR l))) (rd_eqlB rfl rfl Try.underlying4) rfl ?_
        refine Wx.rd (v := .bool ((noR l) == (noR l))) (rd_pickT rfl rfl) rfl ?_
        refine Wx.rd (v := .bool ((noR l) == (noR l))) (rd_move rfl) rfl ?_
        refine Wx.cut (X := Unit) 6 [130, 131, 132, 133, 134, 135] (fun _ => [(135, .bool ((noR l) == (noR l) && (!(noR l) || noR (List.take (which % (l.length : Int)).toNat l ++ List.drop (which % (l.length : Int) + 1).toNat l))))]) (fun _ w' => St w O w' [Ob.v (tSl (tP (tSl (tI .i64)) (tSl (tI .i64)))) (List.take (which % (l.length : Int)).toNat l ++ List.drop ((which % (l.length : Int)) + 1).toNat l) r_164, Ob.v (tSl (tI .i64)) ((ix ([], []) l (which % (l.length : Int))).2) v_87, Ob.v (tSl (tI .i64)) ((ix ([], []) l (which % (l.length : Int))).1) v_86, Ob.v (tSl (tP (tSl (tI .i64)) (tSl (tI .i64)))) (l ++ [(ix ([], []) l (which % (l.length : Int)))]) v_148, .row (tP (tSl (tI .i64)) (tSl (tI .i64))) 62 v_140 [(ix ([], []) l (which % (l.length : Int)))], Ob.v (tSl (tI .i64)) ((ix ([], []) l2 5).2) v_44, Ob.v (tSl (tI .i64)) ((ix ([], []) l2 5).1) v_43, Ob.v (tSl (tI .i64)) (wrongE (shG zs) (l ++ [(ix ([], []) l2 5)])) v_64, Ob.v (tSl (tP (tSl (tI .i64)) (tSl (tI .i64)))) (l ++ [(ix ([], []) l2 5)]) v_57, .row (tP (tSl (tI .i64)) (tSl (tI .i64))) 62 v_54 [(ix ([], []) l2 5)], Ob.v (tSl (tP (tSl (tI .i64)) (tSl (tI .i64)))) l2 v_33, .box g_22 66 (List.map (Value.int .u8) (List.set zs (1 : Int).toNat 6)), Ob.v (tSl (tI .i64)) (wrongE (shG zs) l) v_18, Ob.v (tSl (tP (tSl (tI .i64)) (tSl (tI .i64)))) l v_8, .box g_1 66 (List.map (Value.int .u8) zs)]) ?_ ?_
        · rcases Bool.eq_false_or_eq_true ((noR l) == (noR l)) with g_170 | g_170
          · -- True
            have gp_171 := g_170
            try simp only [Bool.and_eq_true, Bool.or_eq_true, Bool.not_eq_true', Bool.and_eq_false_iff, Bool.or_eq_false_iff, Bool.not_eq_false', decide_eq_true_eq, decide_eq_false_iff_not, not_or, Bool.false_eq_true, Bool.true_eq_false, false_or, or_false, not_false_eq_true] at gp_171
            refine Wx.gyes rfl rfl (congrArg Value.bool g_170) ?_
            refine Wx.rd (v := .bool (noR l)) (rd_move rfl) rfl ?_
            refine Wx.gyes rfl rfl (congrArg Value.bool g_170) ?_
            refine Wx.rd (v := .bool (!(noR l))) (rd_not rfl) rfl ?_
            refine Wx.gyes rfl rfl (congrArg Value.bool g_170) ?_
            refine Wx.rd (v := .bool (!(noR l))) (rd_move rfl) rfl ?_
            refine Wx.cut (X := Unit) 2 [133, 134] (fun _ => [(134, .bool (!(noR l) || noR (List.take (which % (l.length : Int)).toNat l ++ List.drop (which % (l.length : Int) + 1).toNat l)))]) (fun _ w' => St w O w' [Ob.v (tSl (tP (tSl (tI .i64)) (tSl (tI .i64)))) (List.take (which % (l.length : Int)).toNat l ++ List.drop ((which % (l.length : Int)) + 1).toNat l) r_164, Ob.v (tSl (tI .i64)) ((ix ([], []) l (which % (l.length : Int))).2) v_87, Ob.v (tSl (tI .i64)) ((ix ([], []) l (which % (l.length : Int))).1) v_86, Ob.v (tSl (tP (tSl (tI .i64)) (tSl (tI .i64)))) (l ++ [(ix ([], []) l (which % (l.length : Int)))]) v_148, .row (tP (tSl (tI .i64)) (tSl (tI .i64))) 62 v_140 [(ix ([], []) l (which % (l.length : Int)))], Ob.v (tSl (tI .i64)) ((ix ([], []) l2 5).2) v_44, Ob.v (tSl (tI .i64)) ((ix ([], []) l2 5).1) v_43, Ob.v (tSl (tI .i64)) (wrongE (shG zs) (l ++ [(ix ([], []) l2 5)])) v_64, Ob.v (tSl (tP (tSl (tI .i64)) (tSl (tI .i64)))) (l ++ [(ix ([], []) l2 5)]) v_57, .row (tP (tSl (tI .i64)) (tSl (tI .i64))) 62 v_54 [(ix ([], []) l2 5)], Ob.v (tSl (tP (tSl (tI .i64)) (tSl (tI .i64)))) l2 v_33, .box g_22 66 (List.map (Value.int .u8) (List.set zs (1 : Int).toNat 6)), Ob.v (tSl (tI .i64)) (wrongE (shG zs) l) v_18, Ob.v (tSl (tP (tSl (tI .i64)) (tSl (tI .i64)))) l v_8, .box g_1 66 (List.map (Value.int .u8) zs)]) ?_ ?_
            · rcases Bool.eq_false_or_eq_true (!(noR l)) with g_172 | g_172
              · -- True
                have gp_173 := g_172
                try simp only [Bool.and_eq_true, Bool.or_eq_true, Bool.not_eq_true', Bool.and_eq_false_iff, Bool.or_eq_false_iff, Bool.not_eq_false', decide_eq_true_eq, decide_eq_false_iff_not, not_or, Bool.false_eq_true, Bool.true_eq_false, false_or, or_false, not_false_eq_true] at gp_173
                refine Wx.gnoB rfl rfl (congrArg Value.bool g_172) rfl rfl ?_
                refine Wx.gyes rfl rfl (congrArg Value.bool g_170) ?_
                refine Wx.rd (v := .bool true) (rd_pickT (congrArg Value.bool g_172) rfl) rfl ?_
                refine Wx.nil ⟨(), hS, ⟨?_, trivial⟩, Out.look rfl Out.refl⟩
                show Value.bool true = Value.bool (!(noR l) || noR (List.take (which % (l.length : Int)).toNat l ++ List.drop (which % (l.length : Int) + 1).toNat l))
                first | rw [g_172, Bool.true_or] | (rw [g_172]; rfl)
              · -- False
                have gp_174 := g_172
                try simp only [Bool.and_eq_true, Bool.or_eq_true, Bool.not_eq_true', Bool.and_eq_false_iff, Bool.or_eq_false_iff, Bool.not_eq_false', decide_eq_true_eq, decide_eq_false_iff_not, not_or, Bool.false_eq_true, Bool.true_eq_false, false_or, or_false, not_false_eq_true] at gp_174
                refine Wx.gyes rfl rfl (congrArg Value.bool g_172) ?_
                refine Wx.rd (v := .bool (noR (List.take (which % (l.length : Int)).toNat l ++ List.drop (which % (l.length : Int) + 1).toNat l))) (rd_move rfl) rfl ?_
                refine Wx.gyes rfl rfl (congrArg Value.bool g_170) ?_
                refine Wx.rd (v := .bool (noR (List.take (which % (l.length : Int)).toNat l ++ List.drop (which % (l.length : Int) + 1).toNat l))) (rd_pickF (congrArg Value.bool g_172) rfl) rfl ?_
                refine Wx.nil ⟨(), hS, ⟨?_, trivial⟩, Out.look rfl Out.refl⟩
                show Value.bool (noR (List.take (which % (l.length : Int)).toNat l ++ List.drop (which % (l.length : Int) + 1).toNat l)) = Value.bool (!(noR l) || noR (List.take (which % (l.length : Int)).toNat l ++ List.drop (which % (l.length : Int) + 1).toNat l))
                first | rw [g_172, Bool.false_or] | (rw [g_172]; rfl)
            rintro ⟨⟩ u_176 w_175 hS
            refine Wx.rd (v := .bool (!(noR l) || noR (List.take (which % (l.length : Int)).toNat l ++ List.drop (which % (l.length : Int) + 1).toNat l))) (rd_pickT (congrArg Value.bool g_170) rfl) rfl ?_
            refine Wx.nil ⟨(), hS, ⟨?_, trivial⟩, Out.look rfl (Out.hav rfl (Out.look rfl Out.refl))⟩
            show Value.bool (!(noR l) || noR (List.take (which % (l.length : Int)).toNat l ++ List.drop (which % (l.length : Int) + 1).toNat l)) = Value.bool ((noR l) == (noR l) && (!(noR l) || noR (List.take (which % (l.length : Int)).toNat l ++ List.drop (which % (l.length : Int) + 1).toNat l)))
            first | rw [g_170, Bool.true_and] | (rw [g_170]; rfl)
          · -- False
            have gp_177 := g_170
            try simp only [Bool.and_eq_true, Bool.or_eq_true, Bool.not_eq_true', Bool.and_eq_false_iff, Bool.or_eq_false_iff, Bool.not_eq_false', decide_eq_true_eq, decide_eq_false_iff_not, not_or, Bool.false_eq_true, Bool.true_eq_false, false_or, or_false, not_false_eq_true] at gp_177
            refine Wx.gnoB rfl rfl (congrArg Value.bool g_170) rfl rfl ?_
            refine Wx.gnoB rfl rfl (congrArg Value.bool g_170) rfl rfl ?_
            refine Wx.gnoB rfl rfl (congrArg Value.bool g_170) rfl rfl ?_
            refine Wx.gno rfl rfl rfl rfl ?_
            refine Wx.gnoB rfl rfl (congrArg Value.bool g_170) rfl rfl ?_
            refine Wx.rd (v := .bool false) (rd_pickF (congrArg Value.bool g_170) rfl) rfl ?_
            refine Wx.nil ⟨(), hS, ⟨?_, trivial⟩, Out.look rfl Out.refl⟩
            show Value.bool false = Value.bool ((noR l) == (noR l) && (!(noR l) || noR (List.take (which % (l.length : Int)).toNat l ++ List.drop (which % (l.length : Int) + 1).toNat l)))
            first | rw [g_170, Bool.false_and] | (rw [g_170]; rfl)
        rintro ⟨⟩ u_179 w_178 hS
        refine Wx.rd (v := .bool ((noR l) == (noR l) && (!(noR l) || noR (List.take (which % (l.length : Int)).toNat l ++ List.drop (which % (l.length : Int) + 1).toNat l)))) (rd_move rfl) rfl ?_
        refine Wx.cut (X := Unit) 2 [137, 138] (fun _ => [(138, .bool (((noR l) == (noR l) && (!(noR l) || noR (List.take (which % (l.length : Int)).toNat l ++ List.drop (which % (l.length : Int) + 1).toNat l))) && true))]) (fun _ w' => St w O w' [Ob.v (tSl (tP (tSl (tI .i64)) (tSl (tI .i64)))) (List.take (which % (l.length : Int)).toNat l ++ List.drop ((which % (l.length : Int)) + 1).toNat l) r_164, Ob.v (tSl (tI .i64)) ((ix ([], []) l (which % (l.length : Int))).2) v_87, Ob.v (tSl (tI .i64)) ((ix ([], []) l (which % (l.length : Int))).1) v_86, Ob.v (tSl (tP (tSl (tI .i64)) (tSl (tI .i64)))) (l ++ [(ix ([], []) l (which % (l.length : Int)))]) v_148, .row (tP (tSl (tI .i64)) (tSl (tI .i64))) 62 v_140 [(ix ([], []) l (which % (l.length : Int)))], Ob.v (tSl (tI .i64)) ((ix ([], []) l2 5).2) v_44, Ob.v (tSl (tI .i64)) ((ix ([], []) l2 5).1) v_43, Ob.v (tSl (tI .i64)) (wrongE (shG zs) (l ++ [(ix ([], []) l2 5)])) v_64, Ob.v (tSl (tP (tSl (tI .i64)) (tSl (tI .i64)))) (l ++ [(ix ([], []) l2 5)]) v_57, .row (tP (tSl (tI .i64)) (tSl (tI .i64))) 62 v_54 [(ix ([], []) l2 5)], Ob.v (tSl (tP (tSl (tI .i64)) (tSl (tI .i64)))) l2 v_33, .box g_22 66 (List.map (Value.int .u8) (List.set zs (1 : Int).toNat 6)), Ob.v (tSl (tI .i64)) (wrongE (shG zs) l) v_18, Ob.v (tSl (tP (tSl (tI .i64)) (tSl (tI .i64)))) l v_8, .box g_1 66 (List.map (Value.int .u8) zs)]) ?_ ?_
        · rcases Bool.eq_false_or_eq_true ((noR l) == (noR l) && (!(noR l) || noR (List.take (which % (l.length : Int)).toNat l ++ List.drop (which % (l.length : Int) + 1).toNat l))) with g_180 | g_180
          · -- True
            have gp_181 := g_180
            try simp only [Bool.and_eq_true, Bool.or_eq_true, Bool.not_eq_true', Bool.and_eq_false_iff, Bool.or_eq_false_iff, Bool.not_eq_false', decide_eq_true_eq, decide_eq_false_iff_not, not_or, Bool.false_eq_true, Bool.true_eq_false, false_or, or_false, not_false_eq_true] at gp_181
            refine Wx.gyes rfl rfl (congrArg Value.bool g_180) ?_
            refine Wx.callF (run_callF Try.call16 rfl) (F16 hS.fb_lt) rfl ?_
            rintro r_182 w_183 hx_184 rfl
            have hS := hS.ext hx_184
            refine Wx.rd (v := .bool true) (rd_pickT (congrArg Value.bool g_180) rfl) rfl ?_
            refine Wx.nil ⟨(), hS, ⟨?_, trivial⟩, Out.look rfl Out.refl⟩
            show Value.bool true = Value.bool (((noR l) == (noR l) && (!(noR l) || noR (List.take (which % (l.length : Int)).toNat l ++ List.drop (which % (l.length : Int) + 1).toNat l))) && true)
            first | rw [g_180, Bool.true_and] | (rw [g_180]; rfl)
          · -- False
            have gp_185 := g_180
            try simp only [Bool.and_eq_true, Bool.or_eq_true, Bool.not_eq_true', Bool.and_eq_false_iff, Bool.or_eq_false_iff, Bool.not_eq_false', decide_eq_true_eq, decide_eq_false_iff_not, not_or, Bool.false_eq_true, Bool.true_eq_false, false_or, or_false, not_false_eq_true] at gp_185
            refine Wx.gnoB rfl rfl (congrArg Value.bool g_180) rfl rfl ?_
            refine Wx.rd (v := .bool false) (rd_pickF (congrArg Value.bool g_180) rfl) rfl ?_
            refine Wx.nil ⟨(), hS, ⟨?_, trivial⟩, Out.look rfl Out.refl⟩
            show Value.bool false = Value.bool (((noR l) == (noR l) && (!(noR l) || noR (List.take (which % (l.length : Int)).toNat l ++ List.drop (which % (l.length : Int) + 1).toNat l))) && true)
            first | rw [g_180, Bool.false_and] | (rw [g_180]; rfl)
        rintro ⟨⟩ u_187 w_186 hS
        refine Wx.rd (v := .bool (((noR l) == (noR l) && (!(noR l) || noR (List.take (which % (l.length : Int)).toNat l ++ List.drop (which % (l.length : Int) + 1).toNat l))) && true)) (rd_assign rfl) rfl ?_
        refine Wx.nil ?_
        have e1_0 : (((noR l) == (noR l) && (!(noR l) || noR (List.take (which % (l.length : Int)).toNat l ++ List.drop (which % (l.length : Int) + 1).toNat l))) && true) = true := by cases h : noR l with | false => rfl | true => rw [noR_less h]; rfl
        exact W.ret ⟨.bool (((noR l) == (noR l) && (!(noR l) || noR (List.take (which % (l.length : Int)).toNat l ++ List.drop (which % (l.length : Int) + 1).toNat l))) && true), ResIs.one, hS.bel, (by rw [e1_0])⟩
  · -- operation 6
    refine Wx.lit (t := (tP (tSl (tI .i64)) (tSl (tI .i64)))) (ys := [(ix ([], []) l2 5)]) (vs := [.agg #[v_43, v_44]]) elLs_22 hS rfl rfl ⟨(V.mkS2 (z := (ix ([], []) l2 5)) (hS.arg hv_45) (hS.arg hv_46)), trivial⟩ (by decide) rfl (fun v_188 w_189 hx_190 hS => ?_)
    refine Wx.nil ⟨hS.bel, ?_⟩
    refine Wh.br [2] (by kernel_rfl) (by decide) ⟨⟨_, rfl, ?_⟩, trivial⟩
    refine Wx.callF (run_callF Try.call60 rfl) (F60 (hS.arg (h0.v 3 rfl)) (by omega) hS.fb_lt) rfl ?_
    rintro r_191 w_192 hx_193 ⟨_, rfl, hv_194⟩
    have hS := hS.pushFrO hx_193 hv_194
    refine Wx.nil ⟨hS.bel, ?_⟩
    refine Wh.br [7] (by kernel_rfl) (by decide) ⟨⟨_, rfl, ?_⟩, trivial⟩
    refine Wx.append elLs_22 hS 0 rfl rfl rfl (Src.ofR hS 1 rfl) (by simp only [maxLen]; simp; omega) (by simp; omega) rfl (fun v_196 w_197 hz_198 hS => ?_)
    refine Wx.nil ⟨hS.bel, ?_⟩
    refine Wh.br [8] (by kernel_rfl) (by decide) ⟨⟨_, rfl, ?_⟩, trivial⟩
    have hS := hS.freeze 0 rfl
    refine Wx.callF (run_callF Try.call39 rfl) (F39 (in_i64 (by omega) (by omega)) (hS.v 0 rfl) hS.fb_lt) rfl ?_
    rintro r_200 w_201 hx_202 ⟨v_203, rfl, hv_204⟩
    have ln_206 := hv_204.len63
    have hS := hS.ext hx_202
    have hS := hS.add hv_204
    refine Wx.nil ⟨hS.bel, ?_⟩
    refine Wh.rd (v := .tuple #[v_203, .int .i64 (checkE (shG zs) (l ++ [(ix ([], []) l2 5)]))]) 9 rfl (by kernel_rfl) hS.bel (rd_move rfl) rfl ?_
    refine Wh.rd (v := v_203) 10 rfl (by kernel_rfl) hS.bel (rd_extract rfl rfl) rfl ?_
    refine Wh.rd (v := .int .i64 (checkE (shG zs) (l ++ [(ix ([], []) l2 5)]))) 11 rfl (by kernel_rfl) hS.bel (rd_extract rfl rfl) rfl ?_
    refine Wh.rd (v := v_203) 12 rfl (by kernel_rfl) hS.bel (rd_assign rfl) rfl ?_
    refine Wh.rd (v := .int .i64 0) 13 rfl (by kernel_rfl) hS.bel (Rd.to (v := .int .i64 (checkE (shG zs) (l ++ [(ix ([], []) l2 5)]))) (rd_assign rfl) (congrArg (Value.int .i64) (show (0 : Int) = (checkE (shG zs) (l ++ [(ix ([], []) l2 5)]) : Int) from hc2.symm).symm)) rfl ?_
    refine Wh.done (by kernel_rfl) ?_
    have hm_207 := V.merge hS hv_45
    have hm_208 := V.merge hS hv_46
    have hS := h0.merge hS
    have hS := hS.add (hm_207)
    have hS := hS.add (V.upF (hm_208))
    refine W.seq ?_
    refine W.seq ?_
    refine W.reg ?_
    refine Wx.rd (v := .int .i64 0) (rd_move rfl) rfl ?_
    refine Wx.rd (v := .bool false) (Rd.to (v := .bool (decide ((0 : Int) ≠ 0))) (rd_neq rfl rfl) rfl) rfl ?_
    refine Wx.rd (v := .bool false) (rd_move rfl) rfl ?_
    refine Wx.gyes rfl rfl rfl ?_
    refine Wx.rd (v := v_203) (rd_move rfl) rfl ?_
    refine Wx.gyes rfl rfl rfl ?_
    refine Wx.rd (v := .int .i64 ((wrongE (shG zs) (l ++ [(ix ([], []) l2 5)])).length : Int)) (rd_lenV rfl (hS.v 2 rfl) Try.underlying39) rfl ?_
    refine Wx.gyes rfl rfl rfl ?_
    refine Wx.rd (v := v_18) (rd_move rfl) rfl ?_
    refine Wx.gyes rfl rfl rfl ?_
    refine Wx.rd (v := .int .i64 ((wrongE (shG zs) l).length : Int)) (rd_lenV rfl (hS.v 7 rfl) Try.underlying39) rfl ?_
    refine Wx.gyes rfl rfl rfl ?_
    refine Wx.rd (v := .bool (decide (((wrongE (shG zs) (l ++ [(ix ([], []) l2 5)])).length : Int) < ((wrongE (shG zs) l).length : Int)))) (rd_lss rfl rfl) rfl ?_
    refine Wx.rd (v := .bool (decide (((wrongE (shG zs) (l ++ [(ix ([], []) l2 5)])).length : Int) < ((wrongE (shG zs) l).length : Int)))) (rd_pickF rfl rfl) rfl ?_
    refine Wx.rd (v := .bool (decide (((wrongE (shG zs) (l ++ [(ix ([], []) l2 5)])).length : Int) < ((wrongE (shG zs) l).length : Int)))) (rd_move rfl) rfl ?_
    refine Wx.cut (X := Unit) 7 [78, 79, 80, 81, 82, 83, 84] (fun _ => [(84, .bool (decide (((wrongE (shG zs) (l ++ [(ix ([], []) l2 5)])).length : Int) < ((wrongE (shG zs) l).length : Int)) || decide ((((wrongE (shG zs) l).length : Int) + 1) < ((wrongE (shG zs) (l ++ [(ix ([], []) l2 5)])).length : Int))))]) (fun _ w' => St w O w' [Ob.v (tSl (tI .i64)) ((ix ([], []) l2 5).2) v_44, Ob.v (tSl (tI .i64)) ((ix ([], []) l2 5).1) v_43, Ob.v (tSl (tI .i64)) (wrongE (shG zs) (l ++ [(ix ([], []) l2 5)])) v_203, Ob.v (tSl (tP (tSl (tI .i64)) (tSl (tI .i64)))) (l ++ [(ix ([], []) l2 5)]) v_196, .row (tP (tSl (tI .i64)) (tSl (tI .i64))) 62 v_188 [(ix ([], []) l2 5)], Ob.v (tSl (tP (tSl (tI .i64)) (tSl (tI .i64)))) l2 v_33, .box g_22 66 (List.map (Value.int .u8) (List.set zs (1 : Int).toNat 6)), Ob.v (tSl (tI .i64)) (wrongE (shG zs) l) v_18, Ob.v (tSl (tP (tSl (tI .i64)) (tSl (tI .i64)))) l v_8, .box g_1 66 (List.map (Value.int .u8) zs)]) ?_ ?_
    · rcases Bool.eq_false_or_eq_true (decide (((wrongE (shG zs) (l ++ [(ix ([], []) l2 5)])).length : Int) < ((wrongE (shG zs) l).length : Int))) with g_211 | g_211
      · -- True
        have gp_212 := of_decide_eq_true g_211
        refine Wx.gnoB rfl rfl (congrArg Value.bool g_211) rfl rfl ?_
        refine Wx.gnoB rfl rfl (congrArg Value.bool g_211) rfl rfl ?_
        refine Wx.gnoB rfl rfl (congrArg Value.bool g_211) rfl rfl ?_
        refine Wx.gnoB rfl rfl (congrArg Value.bool g_211) rfl rfl ?_
        refine Wx.gnoB rfl rfl (congrArg Value.bool g_211) rfl rfl ?_
        refine Wx.gnoB rfl rfl (congrArg Value.bool g_211) rfl rfl ?_
        refine Wx.rd (v := .bool true) (rd_pickT (congrArg Value.bool g_211) rfl) rfl ?_
        refine Wx.nil ⟨(), hS, ⟨?_, trivial⟩, Out.look rfl Out.refl⟩
        show Value.bool true = Value.bool (decide (((wrongE (shG zs) (l ++ [(ix ([], []) l2 5)])).length : Int) < ((wrongE (shG zs) l).length : Int)) || decide ((((wrongE (shG zs) l).length : Int) + 1) < ((wrongE (shG zs) (l ++ [(ix ([], []) l2 5)])).length : Int)))
        first | rw [g_211, Bool.true_or] | (rw [g_211]; rfl)
      · -- False
        have gp_213 := of_decide_eq_false g_211
        refine Wx.gyes rfl rfl (congrArg Value.bool g_211) ?_
        refine Wx.rd (v := v_203) (rd_move rfl) rfl ?_
        refine Wx.gyes rfl rfl (congrArg Value.bool g_211) ?_
        refine Wx.rd (v := .int .i64 ((wrongE (shG zs) (l ++ [(ix ([], []) l2 5)])).length : Int)) (rd_lenV rfl (hS.v 2 rfl) Try.underlying39) rfl ?_
        refine Wx.gyes rfl rfl (congrArg Value.bool g_211) ?_
        refine Wx.rd (v := v_18) (rd_move rfl) rfl ?_
        refine Wx.gyes rfl rfl (congrArg Value.bool g_211) ?_
        refine Wx.rd (v := .int .i64 ((wrongE (shG zs) l).length : Int)) (rd_lenV rfl (hS.v 7 rfl) Try.underlying39) rfl ?_
        refine Wx.gyes rfl rfl (congrArg Value.bool g_211) ?_
        refine Wx.rd (v := .int .i64 (((wrongE (shG zs) l).length : Int) + 1)) (rd_add rfl rfl (in_i64 (by omega) (by omega))) rfl ?_
        refine Wx.gyes rfl rfl (congrArg Value.bool g_211) ?_
        refine Wx.rd (v := .bool (decide ((((wrongE (shG zs) l).length : Int) + 1) < ((wrongE (shG zs) (l ++ [(ix ([], []) l2 5)])).length : Int)))) (rd_gtr rfl rfl) rfl ?_
        refine Wx.rd (v := .bool (decide ((((wrongE (shG zs) l).length : Int) + 1) < ((wrongE (shG zs) (l ++ [(ix ([], []) l2 5)])).length : Int)))) (rd_pickF (congrArg Value.bool g_211) rfl) rfl ?_
        refine Wx.nil ⟨(), hS, ⟨?_, trivial⟩, Out.look rfl Out.refl⟩
        show Value.bool (decide ((((wrongE (shG zs) l).length : Int) + 1) < ((wrongE (shG zs) (l ++ [(ix ([], []) l2 5)])).length : Int))) = Value.bool (decide (((wrongE (shG zs) (l ++ [(ix ([], []) l2 5)])).length : Int) < ((wrongE (shG zs) l).length : Int)) || decide ((((wrongE (shG zs) l).length : Int) + 1) < ((wrongE (shG zs) (l ++ [(ix ([], []) l2 5)])).length : Int)))
        first | rw [g_211, Bool.false_or] | (rw [g_211]; rfl)
    rintro ⟨⟩ u_215 w_214 hS
    refine Wx.nil ?_
    refine W.condF rfl (by simp; omega) ?_
    refine W.skip ?_
    refine W.seq ?_
    refine W.seq ?_
    refine W.reg ?_
    refine Wx.rd (v := v_8) (rd_move rfl) rfl ?_
    refine Wx.rd (v := .int .i64 (l.length : Int)) (rd_lenV rfl (hS.v 8 rfl) Try.underlying22) rfl ?_
    refine Wx.rd (v := .bool (decide ((l.length : Int) = 0))) (rd_eql rfl rfl) rfl ?_
    refine Wx.nil ?_
    refine W.condD rfl (fun c2 => ?_) (fun c2 => ?_)
    · -- yes
      refine W.seq ?_
      refine W.reg ?_
      refine Wx.callF (run_callF Try.call16 rfl) (F16 hS.fb_lt) rfl ?_
      rintro r_216 w_217 hx_218 rfl
      have hS := hS.ext hx_218
      refine Wx.rd (v := .bool true) (rd_assign rfl) rfl ?_
      refine Wx.nil ?_
      exact W.ret ⟨.bool true, ResIs.one, hS.bel, rfl⟩
    · -- no
      have hw0 := Int.emod_nonneg which (show (l.length : Int) ≠ 0 by omega)
      have hw1 := Int.emod_lt_of_pos which (show 0 < (l.length : Int) by omega)
      have hc3 := chk_more hc h6_hc (chk_ix hc hw0 hw1)
      refine W.skip ?_
      refine W.seq ?_
      refine W.reg ?_
      refine Wx.rd (v := .int .u8 which) (rd_move rfl) rfl ?_
      refine Wx.rd (v := .int .i64 which) (rd_convIn rfl Try.underlying5 Try.underlying3 (in_i64 (by omega) (by omega))) rfl ?_
      refine Wx.rd (v := v_8) (rd_move rfl) rfl ?_
      refine Wx.rd (v := .int .i64 (l.length : Int)) (rd_lenV rfl (hS.v 8 rfl) Try.underlying22) rfl ?_
      refine Wx.rd (v := .int .i64 (which % (l.length : Int))) (rd_rem rfl rfl (by omega) (by omega)) rfl ?_
      refine Wx.rd (v := .int .i64 (which % (l.length : Int))) (rd_assign rfl) rfl ?_
      refine Wx.nil ?_
      refine W.seq ?_
      refine W.regH mixedLs_ (fun w_219 hx_220 => ?_)
      have h0 := hS
      have hS := (St.start _ _ h0.fb_lt).ext hx_220
      refine Wh.rd (v := .int .i64 (shG zs)) 0 rfl (by kernel_rfl) hS.bel (rd_move rfl) rfl ?_
      refine Wh.rd (v := v_8) 1 rfl (by kernel_rfl) hS.bel (rd_move rfl) rfl ?_
      refine Wh.rd (v := v_8) 3 rfl (by kernel_rfl) hS.bel (rd_move rfl) rfl ?_
      refine Wh.rd (v := .int .i64 (which % (l.length : Int))) 4 rfl (by kernel_rfl) hS.bel (rd_move rfl) rfl ?_
      refine Wh.ex 5 rfl (by kernel_rfl) hS.bel (rd_index ([], []) (h0.v 8 rfl) rfl rfl Try.underlying22 Try.sizeOf62 (by first | omega | (simp only [List.length_set, List.length_append, List.length_cons, List.length_nil, List.length_replicate]; omega)) (by first | omega | (simp only [List.length_set, List.length_append, List.length_cons, List.length_nil, List.length_replicate]; omega))) rfl (fun p_221 hp_222 => ?_)
      refine Wh.ex 6 rfl (by kernel_rfl) hS.bel (rd_load hp_222 rfl Try.isAgg62 Try.sizeOf62) rfl (fun v_223 hv_224 => ?_)
      obtain ⟨v_225, v_226, rfl, hv_227, hv_228⟩ := hv_224.s2
      have ln_229 := hv_227.len63
      have ln_230 := hv_228.len63
      refine Wh.br [2, 7] (by kernel_rfl) (by decide) ⟨⟨_, rfl, ?_⟩, ⟨_, rfl, ?_⟩, trivial⟩
      · -- operation 2
        refine Wx.callF (run_callF Try.call60 rfl) (F60 (hS.arg (h0.v 8 rfl)) (by omega) hS.fb_lt) rfl ?_
        rintro r_231 w_232 hx_233 ⟨_, rfl, hv_234⟩
        have hS := hS.pushFrO hx_233 hv_234
        refine Wx.nil ⟨hS.bel, ?_⟩
        refine Wh.br [7] (by kernel_rfl) (by decide) ⟨⟨_, rfl, ?_⟩, trivial⟩
        refine Wx.lit (t := (tP (tSl (tI .i64)) (tSl (tI .i64)))) (ys := [(ix ([], []) l (which % (l.length : Int)))]) (vs := [.agg #[v_225, v_226]]) elLs_22 hS rfl rfl ⟨(V.mkS2 (z := (ix ([], []) l (which % (l.length : Int)))) (hS.arg hv_227) (hS.arg hv_228)), trivial⟩ (by decide) rfl (fun v_236 w_237 hx_238 hS => ?_)
        refine Wx.nil ⟨hS.bel, ?_⟩
        refine Wh.br [8] (by kernel_rfl) (by decide) ⟨⟨_, rfl, ?_⟩, trivial⟩
        refine Wx.append elLs_22 hS 1 rfl rfl rfl (Src.ofR hS 0 rfl) (by simp only [maxLen]; simp; omega) (by simp; omega) rfl (fun v_239 w_240 hz_241 hS => ?_)
        refine Wx.nil ⟨hS.bel, ?_⟩
        refine Wh.br [9] (by kernel_rfl) (by decide) ⟨⟨_, rfl, ?_⟩, trivial⟩
        have hS := hS.freeze 1 rfl
        refine Wx.callF (run_callF Try.call29 rfl) (F29 (in_i64 (by omega) (by omega)) (hS.v 0 rfl) hS.fb_lt) rfl ?_
        rintro r_243 w_244 hx_245 rfl
        have hS := hS.ext hx_245
        refine Wx.nil ⟨hS.bel, ?_⟩
        refine Wh.rd (v := .tuple #[.bool (tasteE (shG zs) (l ++ [(ix ([], []) l (which % (l.length : Int)))])), .int .i64 (checkE (shG zs) (l ++ [(ix ([], []) l (which % (l.length : Int)))]))]) 10 rfl (by kernel_rfl) hS.bel (rd_move rfl) rfl ?_
        refine Wh.rd (v := .bool (tasteE (shG zs) (l ++ [(ix ([], []) l (which % (l.length : Int)))]))) 11 rfl (by kernel_rfl) hS.bel (rd_extract rfl rfl) rfl ?_
        refine Wh.rd (v := .int .i64 (checkE (shG zs) (l ++ [(ix ([], []) l (which % (l.length : Int)))]))) 12 rfl (by kernel_rfl) hS.bel (rd_extract rfl rfl) rfl ?_
        refine Wh.rd (v := .bool (noR l)) 13 rfl (by kernel_rfl) hS.bel (Rd.to (v := .bool (tasteE (shG zs) (l ++ [(ix ([], []) l (which % (l.length : Int)))]))) (rd_assign rfl) (congrArg (Value.bool) (show (noR l : Bool) = (tasteE (shG zs) (l ++ [(ix ([], []) l (which % (l.length : Int)))]) : Bool) from (by rw [taste_noR hc3, noR_twice hw0 hw1])).symm)) rfl ?_
        refine Wh.rd (v := .int .i64 0) 14 rfl (by kernel_rfl) hS.bel (Rd.to (v := .int .i64 (checkE (shG zs) (l ++ [(ix ([], []) l (which % (l.length : Int)))]))) (rd_assign rfl) (congrArg (Value.int .i64) (show (0 : Int) = (checkE (shG zs) (l ++ [(ix ([], []) l (which % (l.length : Int)))]) : Int) from hc3.symm).symm)) rfl ?_
        refine Wh.done (by kernel_rfl) ?_
        have hm_246 := V.merge hS hv_227
        have hm_247 := V.merge hS hv_228
        have hS := h0.merge hS
        have hS := hS.add (hm_246)
        have hS := hS.add (V.upF (hm_247))
        refine W.seq ?_
        refine W.reg ?_
        refine Wx.rd (v := .int .i64 (shG zs)) (rd_move rfl) rfl ?_
        refine Wx.rd (v := v_8) (rd_move rfl) rfl ?_
        refine Wx.callF (run_callF Try.call60 rfl) (F60 (hS.v 12 rfl) (by omega) hS.fb_lt) rfl ?_
        rintro r_250 w_251 hx_252 ⟨_, rfl, hv_253⟩
        have hS := hS.pushFrO hx_252 hv_253
        refine Wx.rd (v := .int .i64 (which % (l.length : Int))) (rd_move rfl) rfl ?_
        refine Wx.rd (v := .int .i64 (which % (l.length : Int))) (rd_move rfl) rfl ?_
        refine Wx.rd (v := .int .i64 ((which % (l.length : Int)) + 1)) (rd_add rfl rfl (in_i64 (by omega) (by omega))) rfl ?_
        refine Wx.callB (run_callF Try.call61 rfl) (F61 (ob := [Ob.v (tSl (tI .i64)) ((ix ([], []) l (which % (l.length : Int))).2) v_226, Ob.v (tSl (tI .i64)) ((ix ([], []) l (which % (l.length : Int))).1) v_225, Ob.v (tSl (tP (tSl (tI .i64)) (tSl (tI .i64)))) (l ++ [(ix ([], []) l (which % (l.length : Int)))]) v_239, .row (tP (tSl (tI .i64)) (tSl (tI .i64))) 62 v_236 [(ix ([], []) l (which % (l.length : Int)))], Ob.v (tSl (tI .i64)) ((ix ([], []) l2 5).2) v_44, Ob.v (tSl (tI .i64)) ((ix ([], []) l2 5).1) v_43, Ob.v (tSl (tI .i64)) (wrongE (shG zs) (l ++ [(ix ([], []) l2 5)])) v_203, Ob.v (tSl (tP (tSl (tI .i64)) (tSl (tI .i64)))) (l ++ [(ix ([], []) l2 5)]) v_196, .row (tP (tSl (tI .i64)) (tSl (tI .i64))) 62 v_188 [(ix ([], []) l2 5)], Ob.v (tSl (tP (tSl (tI .i64)) (tSl (tI .i64)))) l2 v_33, .box g_22 66 (List.map (Value.int .u8) (List.set zs (1 : Int).toNat 6)), Ob.v (tSl (tI .i64)) (wrongE (shG zs) l) v_18, Ob.v (tSl (tP (tSl (tI .i64)) (tSl (tI .i64)))) l v_8, .box g_1 66 (List.map (Value.int .u8) zs)]) (in_i64 (by omega) (by omega)) (in_i64 (by omega) (by omega)) (by omega) (by omega) (by omega) (hS.front 0 rfl)) rfl ?_
        rintro r_255 w_256 ⟨_, rfl, hS⟩
        have hS : St _ _ w_256 [.row (tP (tSl (tI .i64)) (tSl (tI .i64))) 62 r_255 (List.take (which % (l.length : Int)).toNat l ++ List.drop ((which % (l.length : Int)) + 1).toNat l), Ob.v (tSl (tI .i64)) ((ix ([], []) l (which % (l.length : Int))).2) v_226, Ob.v (tSl (tI .i64)) ((ix ([], []) l (which % (l.length : Int))).1) v_225, Ob.v (tSl (tP (tSl (tI .i64)) (tSl (tI .i64)))) (l ++ [(ix ([], []) l (which % (l.length : Int)))]) v_239, .row (tP (tSl (tI .i64)) (tSl (tI .i64))) 62 v_236 [(ix ([], []) l (which % (l.length : Int)))], Ob.v (tSl (tI .i64)) ((ix ([], []) l2 5).2) v_44, Ob.v (tSl (tI .i64)) ((ix ([], []) l2 5).1) v_43, Ob.v (tSl (tI .i64)) (wrongE (shG zs) (l ++ [(ix ([], []) l2 5)])) v_203, Ob.v (tSl (tP (tSl (tI .i64)) (tSl (tI .i64)))) (l ++ [(ix ([], []) l2 5)]) v_196, .row (tP (tSl (tI .i64)) (tSl (tI .i64))) 62 v_188 [(ix ([], []) l2 5)], Ob.v (tSl (tP (tSl (tI .i64)) (tSl (tI .i64)))) l2 v_33, .box g_22 66 (List.map (Value.int .u8) (List.set zs (1 : Int).toNat 6)), Ob.v (tSl (tI .i64)) (wrongE (shG zs) l) v_18, Ob.v (tSl (tP (tSl (tI .i64)) (tSl (tI .i64)))) l v_8, .box g_1 66 (List.map (Value.int .u8) zs)] := St.putBack (obs := [.row (tP (tSl (tI .i64)) (tSl (tI .i64))) 62 r_250 l, Ob.v (tSl (tI .i64)) ((ix ([], []) l (which % (l.length : Int))).2) v_226, Ob.v (tSl (tI .i64)) ((ix ([], []) l (which % (l.length : Int))).1) v_225, Ob.v (tSl (tP (tSl (tI .i64)) (tSl (tI .i64)))) (l ++ [(ix ([], []) l (which % (l.length : Int)))]) v_239, .row (tP (tSl (tI .i64)) (tSl (tI .i64))) 62 v_236 [(ix ([], []) l (which % (l.length : Int)))], Ob.v (tSl (tI .i64)) ((ix ([], []) l2 5).2) v_44, Ob.v (tSl (tI .i64)) ((ix ([], []) l2 5).1) v_43, Ob.v (tSl (tI .i64)) (wrongE (shG zs) (l ++ [(ix ([], []) l2 5)])) v_203, Ob.v (tSl (tP (tSl (tI .i64)) (tSl (tI .i64)))) (l ++ [(ix ([], []) l2 5)]) v_196, .row (tP (tSl (tI .i64)) (tSl (tI .i64))) 62 v_188 [(ix ([], []) l2 5)], Ob.v (tSl (tP (tSl (tI .i64)) (tSl (tI .i64)))) l2 v_33, .box g_22 66 (List.map (Value.int .u8) (List.set zs (1 : Int).toNat 6)), Ob.v (tSl (tI .i64)) (wrongE (shG zs) l) v_18, Ob.v (tSl (tP (tSl (tI .i64)) (tSl (tI .i64)))) l v_8, .box g_1 66 (List.map (Value.int .u8) zs)]) 0 hS (by simp)
        have hS := hS.freeze 0 rfl
        refine Wx.callF (run_callF Try.call29 rfl) (F29 (in_i64 (by omega) (by omega)) (hS.v 0 rfl) hS.fb_lt) rfl ?_
        rintro r_258 w_259 hx_260 rfl
        have hS := hS.ext hx_260
        refine Wx.rd (v := .tuple #[.bool (tasteE (shG zs) (List.take (which % (l.length : Int)).toNat l ++ List.drop ((which % (l.length : Int)) + 1).toNat l)), .int .i64 (checkE (shG zs) (List.take (which % (l.length : Int)).toNat l ++ List.drop ((which % (l.length : Int)) + 1).toNat l))]) (rd_move rfl) rfl ?_
        refine Wx.rd (v := .bool (tasteE (shG zs) (List.take (which % (l.length : Int)).toNat l ++ List.drop ((which % (l.length : Int)) + 1).toNat l))) (rd_extract rfl rfl) rfl ?_
        refine Wx.rd (v := .int .i64 (checkE (shG zs) (List.take (which % (l.length : Int)).toNat l ++ List.drop ((which % (l.length : Int)) + 1).toNat l))) (rd_extract rfl rfl) rfl ?_
        refine Wx.rd (v := .bool (noR (List.take (which % (l.length : Int)).toNat l ++ List.drop (which % (l.length : Int) + 1).toNat l))) (Rd.to (v := .bool (tasteE (shG zs) (List.take (which % (l.length : Int)).toNat l ++ List.drop ((which % (l.length : Int)) + 1).toNat l))) (rd_assign rfl) (congrArg (Value.bool) (show (noR (List.take (which % (l.length : Int)).toNat l ++ List.drop (which % (l.length : Int) + 1).toNat l) : Bool) = (tasteE (shG zs) (List.take (which % (l.length : Int)).toNat l ++ List.drop ((which % (l.length : Int)) + 1).toNat l) : Bool) from (taste_noR (chk_less hc (by omega))).symm).symm)) rfl ?_
        refine Wx.rd (v := .int .i64 0) (Rd.to (v := .int .i64 (checkE (shG zs) (List.take (which % (l.length : Int)).toNat l ++ List.drop ((which % (l.length : Int)) + 1).toNat l))) (rd_assign rfl) (congrArg (Value.int .i64) (show (0 : Int) = (checkE (shG zs) (List.take (which % (l.length : Int)).toNat l ++ List.drop ((which % (l.length : Int)) + 1).toNat l) : Int) from (chk_less hc (by omega)).symm).symm)) rfl ?_
        refine Wx.nil ?_
        refine W.seq ?_
        refine W.reg ?_
        refine Wx.rd (v := .int .i64 0) (rd_move rfl) rfl ?_
        refine Wx.rd (v := .bool true) (Rd.to (v := .bool (decide ((0 : Int) = 0))) (rd_eql rfl rfl) rfl) rfl ?_
        refine Wx.rd (v := .bool true) (rd_move rfl) rfl ?_
        refine Wx.gyes rfl rfl rfl ?_
        refine Wx.rd (v := .int .i64 0) (rd_move rfl) rfl ?_
        refine Wx.gyes rfl rfl rfl ?_
        refine Wx.rd (v := .bool true) (Rd.to (v := .bool (decide ((0 : Int) = 0))) (rd_eql rfl rfl) rfl) rfl ?_
        refine Wx.rd (v := .bool true) (rd_pickT rfl rfl) rfl ?_
        refine Wx.rd (v := .bool true) (rd_move rfl) rfl ?_
        refine Wx.gyes rfl rfl rfl ?_
        refine Wx.rd (v := .bool (noR l)) (rd_move rfl) rfl ?_
        refine Wx.gyes rfl rfl rfl ?_
        refine Wx.rd (v := .bool (noR l)) (rd_move rfl) rfl ?_
        refine Wx.gyes rfl rfl rfl ?_
        refine Wx.rd (v := .bool ((noR l) == (noR l))) (rd_eqlB rfl rfl Try.underlying4) rfl ?_
        refine Wx.rd (v := .bool ((noR l) == (noR l))) (rd_pickT rfl rfl) rfl ?_
        refine Wx.rd (v := .bool ((noR l) == (noR l))) (rd_move rfl) rfl ?_
        refine Wx.cut (X := Unit) 6 [130, 131, 132, 133, 134, 135] (fun _ => [(135, .bool ((noR l) == (noR l) && (!(noR l) || noR (List.take (which % (l.length : Int)).toNat l ++ List.drop (which % (l.length : Int) + 1).toNat l))))]) (fun _ w' => St w O w' [Ob.v (tSl (tP (tSl (tI .i64)) (tSl (tI .i64)))) (List.take (which % (l.length : Int)).toNat l ++ List.drop ((which % (l.length : Int)) + 1).toNat l) r_255, Ob.v (tSl (tI .i64)) ((ix ([], []) l (which % (l.length : Int))).2) v_226, Ob.v (tSl (tI .i64)) ((ix ([], []) l (which % (l.length : Int))).1) v_225, Ob.v (tSl (tP (tSl (tI .i64)) (tSl (tI .i64)))) (l ++ [(ix ([], []) l (which % (l.length : Int)))]) v_239, .row (tP (tSl (tI .i64)) (tSl (tI .i64))) 62 v_236 [(ix ([], []) l (which % (l.length : Int)))], Ob.v (tSl (tI .i64)) ((ix ([], []) l2 5).2) v_44, Ob.v (tSl (tI .i64)) ((ix ([], []) l2 5).1) v_43, Ob.v (tSl (tI .i64)) (wrongE (shG zs) (l ++ [(ix ([], []) l2 5)])) v_203, Ob.v (tSl (tP (tSl (tI .i64)) (tSl (tI .i64)))) (l ++ [(ix ([], []) l2 5)]) v_196, .row (tP (tSl (tI .i64)) (tSl (tI .i64))) 62 v_188 [(ix ([], []) l2 5)], Ob.v (tSl (tP (tSl (tI .i64)) (tSl (tI .i64)))) l2 v_33, .box g_22 66 (List.map (Value.int .u8) (List.set zs (1 : Int).toNat 6)), Ob.v (tSl (tI .i64)) (wrongE (shG zs) l) v_18, Ob.v (tSl (tP (tSl (tI .i64)) (tSl (tI .i64)))) l v_8, .box g_1 66 (List.map (Value.int .u8) zs)]) ?_ ?_
        · rcases Bool.eq_false_or_eq_true ((noR l) == (noR l)) with g_261 | g_261
          · -- True
            have gp_262 := g_261
            try simp only [Bool.and_eq_true, Bool.or_eq_true, Bool.not_eq_true', Bool.and_eq_false_iff, Bool.or_eq_false_iff, Bool.not_eq_false', decide_eq_true_eq, decide_eq_false_iff_not, not_or, Bool.false_eq_true, Bool.true_eq_false, false_or, or_false, not_false_eq_true] at gp_262
            refine Wx.gyes rfl rfl (congrArg Value.bool g_261) ?_
            refine Wx.rd (v := .bool (noR l)) (rd_move rfl) rfl ?_
            refine Wx.gyes rfl rfl (congrArg Value.bool g_261) ?_
            refine Wx.rd (v := .bool (!(noR l))) (rd_not rfl) rfl ?_
            refine Wx.gyes rfl rfl (congrArg Value.bool g_261) ?_
            refine Wx.rd (v := .bool (!(noR l))) (rd_move rfl) rfl ?_
            refine Wx.cut (X := Unit) 2 [133, 134] (fun _ => [(134, .bool (!(noR l) || noR (List.take (which % (l.length : Int)).toNat l ++ List.drop (which % (l.length : Int) + 1).toNat l)))]) (fun _ w' => St w O w' [Ob.v (tSl (tP (tSl (tI .i64)) (tSl (tI .i64)))) (List.take (which % (l.length : Int)).toNat l ++ List.drop ((which % (l.length : Int)) + 1).toNat l) r_255, Ob.v (tSl (tI .i64)) ((ix ([], []) l (which % (l.length : Int))).2) v_226, Ob.v (tSl (tI .i64)) ((ix ([], []) l (which % (l.length : Int))).1) v_225, Ob.v (tSl (tP (tSl (tI .i64)) (tSl (tI .i64)))) (l ++ [(ix ([], []) l (which % (l.length : Int)))]) v_239, .row (tP (tSl (tI .i64)) (tSl (tI .i64))) 62 v_236 [(ix ([], []) l (which % (l.length : Int)))], Ob.v (tSl (tI .i64)) ((ix ([], []) l2 5).2) v_44, Ob.v (tSl (tI .i64)) ((ix ([], []) l2 5).1) v_43, Ob.v (tSl (tI .i64)) (wrongE (shG zs) (l ++ [(ix ([], []) l2 5)])) v_203, Ob.v (tSl (tP (tSl (tI .i64)) (tSl (tI .i64)))) (l ++ [(ix ([], []) l2 5)]) v_196, .row (tP (tSl (tI .i64)) (tSl (tI .i64))) 62 v_188 [(ix ([], []) l2 5)], Ob.v (tSl (tP (tSl (tI .i64)) (tSl (tI .i64)))) l2 v_33, .box g_22 66 (List.map (Value.int .u8) (List.set zs (1 : Int).toNat 6)), Ob.v (tSl (tI .i64)) (wrongE (shG zs) l) v_18, Ob.v (tSl (tP (tSl (tI .i64)) (tSl (tI .i64)))) l v_8, .box g_1 66 (List.map (Value.int .u8) zs)]) ?_ ?_
            · rcases Bool.eq_false_or_eq_true (!(noR l)) with g_263 | g_263
              · -- True
                have gp_264 := g_263
                try simp only [Bool.and_eq_true, Bool.or_eq_true, Bool.not_eq_true', Bool.and_eq_false_iff, Bool.or_eq_false_iff, Bool.not_eq_false', decide_eq_true_eq, decide_eq_false_iff_not, not_or, Bool.false_eq_true, Bool.true_eq_false, false_or, or_false, not_false_eq_true] at gp_264
                refine Wx.gnoB rfl rfl (congrArg Value.bool g_263) rfl rfl ?_
                refine Wx.gyes rfl rfl (congrArg Value.bool g_261) ?_
                refine Wx.rd (v := .bool true) (rd_pickT (congrArg Value.bool g_263) rfl) rfl ?_
                refine Wx.nil ⟨(), hS, ⟨?_, trivial⟩, Out.look rfl Out.refl⟩
                show Value.bool true = Value.bool (!(noR l) || noR (List.take (which % (l.length : Int)).toNat l ++ List.drop (which % (l.length : Int) + 1).toNat l))
                first | rw [g_263, Bool.true_or] | (rw [g_263]; rfl)
              · -- False
                have gp_265 := g_263
                try simp only [Bool.and_eq_true, Bool.or_eq_true, Bool.not_eq_true', Bool.and_eq_false_iff, Bool.or_eq_false_iff, Bool.not_eq_false', decide_eq_true_eq, decide_eq_false_iff_not, not_or, Bool.false_eq_true, Bool.true_eq_false, false_or, or_false, not_false_eq_true] at gp_265
                refine Wx.gyes rfl rfl (congrArg Value.bool g_263) ?_
                refine Wx.rd (v := .bool (noR (List.take (which % (l.length : Int)).toNat l ++ List.drop (which % (l.length : Int) + 1).toNat l))) (rd_move rfl) rfl ?_
                refine Wx.gyes rfl rfl (congrArg Value.bool g_261) ?_
                refine Wx.rd (v := .bool (noR (List.take (which % (l.length : Int)).toNat l ++ List.drop (which % (l.length : Int) + 1).toNat l))) (rd_pickF (congrArg Value.bool g_263) rfl) rfl ?_
                refine Wx.nil ⟨(), hS, ⟨?_, trivial⟩, Out.look rfl Out.refl⟩
                show Value.bool (noR (List.take (which % (l.length : Int)).toNat l ++ List.drop (which % (l.length : Int) + 1).toNat l)) = Value.bool (!(noR l) || noR (List.take (which % (l.length : Int)).toNat l ++ List.drop (which % (l.length : Int) + 1).toNat l))
                first | rw [g_263, Bool.false_or] | (rw [g_263]; rfl)
            rintro ⟨⟩ u_267 w_266 hS
            refine Wx.rd (v := .bool (!(noR l) || noR (List.take (which % (l.length : Int)).toNat l ++ List.drop (which % (l.length : Int) + 1).toNat l))) (rd_pickT (congrArg Value.bool g_261) rfl) rfl ?_
            refine Wx.nil ⟨(), hS, ⟨?_, trivial⟩, Out.look rfl (Out.hav rfl (Out.look rfl Out.refl))⟩
            show Value.bool (!(noR l) || noR (List.take (which % (l.length : Int)).toNat l ++ List.drop (which % (l.length : Int) + 1).toNat l)) = Value.bool ((noR l) == (noR l) && (!(noR l) || noR (List.take (which % (l.length : Int)).toNat l ++ List.drop (which % (l.length : Int) + 1).toNat l)))
            first | rw [g_261, Bool.true_and] | (rw [g_261]; rfl)
          · -- False
            have gp_268 := g_261
            try simp only [Bool.and_eq_true, Bool.or_eq_true, Bool.not_eq_true', Bool.and_eq_false_iff, Bool.or_eq_false_iff, Bool.not_eq_false', decide_eq_true_eq, decide_eq_false_iff_not, not_or, Bool.false_eq_true, Bool.true_eq_false, false_or, or_false, not_false_eq_true] at gp_268
            refine Wx.gnoB rfl rfl (congrArg Value.bool g_261) rfl rfl ?_
            refine Wx.gnoB rfl rfl (congrArg Value.bool g_261) rfl rfl ?_
            refine Wx.gnoB rfl rfl (congrArg Value.bool g_261) rfl rfl ?_
            refine Wx.gno rfl rfl rfl rfl ?_
            refine Wx.gnoB rfl rfl (congrArg Value.bool g_261) rfl rfl ?_
            refine Wx.rd (v := .bool false) (rd_pickF (congrArg Value.bool g_261) rfl) rfl ?_
            refine Wx.nil ⟨(), hS, ⟨?_, trivial⟩, Out.look rfl Out.refl⟩
            show Value.bool false = Value.bool ((noR l) == (noR l) && (!(noR l) || noR (List.take (which % (l.length : Int)).toNat l ++ List.drop (which % (l.length : Int) + 1).toNat l)))
            first | rw [g_261, Bool.false_and] | (rw [g_261]; rfl)
        rintro ⟨⟩ u_270 w_269 hS
        refine Wx.rd (v := .bool ((noR l) == (noR l) && (!(noR l) || noR (List.take (which % (l.length : Int)).toNat l ++ List.drop (which % (l.length : Int) + 1).toNat l)))) (rd_move rfl) rfl ?_
        refine Wx.cut (X := Unit) 2 [137, 138] (fun _ => [(138, .bool (((noR l) == (noR l) && (!(noR l) || noR (List.take (which % (l.length : Int)).toNat l ++ List.drop (which % (l.length : Int) + 1).toNat l))) && true))]) (fun _ w' => St w O w' [Ob.v (tSl (tP (tSl (tI .i64)) (tSl (tI .i64)))) (List.take (which % (l.length : Int)).toNat l ++ List.drop ((which % (l.length : Int)) + 1).toNat l) r_255, Ob.v (tSl (tI .i64)) ((ix ([], []) l (which % (l.length : Int))).2) v_226, Ob.v (tSl (tI .i64)) ((ix ([], []) l (which % (l.length : Int))).1) v_225, Ob.v (tSl (tP (tSl (tI .i64)) (tSl (tI .i64)))) (l ++ [(ix ([], []) l (which % (l.length : Int)))]) v_239, .row (tP (tSl (tI .i64)) (tSl (tI .i64))) 62 v_236 [(ix ([], []) l (which % (l.length : Int)))], Ob.v (tSl (tI .i64)) ((ix ([], []) l2 5).2) v_44, Ob.v (tSl (tI .i64)) ((ix ([], []) l2 5).1) v_43, Ob.v (tSl (tI .i64)) (wrongE (shG zs) (l ++ [(ix ([], []) l2 5)])) v_203, Ob.v (tSl (tP (tSl (tI .i64)) (tSl (tI .i64)))) (l ++ [(ix ([], []) l2 5)]) v_196, .row (tP (tSl (tI .i64)) (tSl (tI .i64))) 62 v_188 [(ix ([], []) l2 5)], Ob.v (tSl (tP (tSl (tI .i64)) (tSl (tI .i64)))) l2 v_33, .box g_22 66 (List.map (Value.int .u8) (List.set zs (1 : Int).toNat 6)), Ob.v (tSl (tI .i64)) (wrongE (shG zs) l) v_18, Ob.v (tSl (tP (tSl (tI .i64)) (tSl (tI .i64)))) l v_8, .box g_1 66 (List.map (Value.int .u8) zs)]) ?_ ?_
        · rcases Bool.eq_false_or_eq_true ((noR l) == (noR l) && (!(noR l) || noR (List.take (which % (l.length : Int)).toNat l ++ List.drop (which % (l.length : Int) + 1).toNat l))) with g_271 | g_271
          · -- True
            have gp_272 := g_271
            try simp only [Bool.and_eq_true, Bool.or_eq_true, Bool.not_eq_true', Bool.and_eq_false_iff, Bool.or_eq_false_iff, Bool.not_eq_false', decide_eq_true_eq, decide_eq_false_iff_not, not_or, Bool.false_eq_true, Bool.true_eq_false, false_or, or_false, not_false_eq_true] at gp_272
            refine Wx.gyes rfl rfl (congrArg Value.bool g_271) ?_
            refine Wx.callF (run_callF Try.call16 rfl) (F16 hS.fb_lt) rfl ?_
            rintro r_273 w_274 hx_275 rfl
            have hS := hS.ext hx_275
            refine Wx.rd (v := .bool true) (rd_pickT (congrArg Value.bool g_271) rfl) rfl ?_
            refine Wx.nil ⟨(), hS, ⟨?_, trivial⟩, Out.look rfl Out.refl⟩
            show Value.bool true = Value.bool (((noR l) == (noR l) && (!(noR l) || noR (List.take (which % (l.length : Int)).toNat l ++ List.drop (which % (l.length : Int) + 1).toNat l))) && true)
            first | rw [g_271, Bool.true_and] | (rw [g_271]; rfl)
          · -- False
            have gp_276 := g_271
            try simp only [Bool.and_eq_true, Bool.or_eq_true, Bool.not_eq_true', Bool.and_eq_false_iff, Bool.or_eq_false_iff, Bool.not_eq_false', decide_eq_true_eq, decide_eq_false_iff_not, not_or, Bool.false_eq_true, Bool.true_eq_false, false_or, or_false, not_false_eq_true] at gp_276
            refine Wx.gnoB rfl rfl (congrArg Value.bool g_271) rfl rfl ?_
            refine Wx.rd (v := .bool false) (rd_pickF (congrArg Value.bool g_271) rfl) rfl ?_
            refine Wx.nil ⟨(), hS, ⟨?_, trivial⟩, Out.look rfl Out.refl⟩
            show Value.bool false = Value.bool (((noR l) == (noR l) && (!(noR l) || noR (List.take (which % (l.length : Int)).toNat l ++ List.drop (which % (l.length : Int) + 1).toNat l))) && true)
            first | rw [g_271, Bool.false_and] | (rw [g_271]; rfl)
        rintro ⟨⟩ u_278 w_277 hS
        refine Wx.rd (v := .bool (((noR l) == (noR l) && (!(noR l) || noR (List.take (which % (l.length : Int)).toNat l ++ List.drop (which % (l.length : Int) + 1).toNat l))) && true)) (rd_assign rfl) rfl ?_
        refine Wx.nil ?_
        have e1_0 : (((noR l) == (noR l) && (!(noR l) || noR (List.take (which % (l.length : Int)).toNat l ++ List.drop (which % (l.length : Int) + 1).toNat l))) && true) = true := by cases h : noR l with | false => rfl | true => rw [noR_less h]; rfl
        exact W.ret ⟨.bool (((noR l) == (noR l) && (!(noR l) || noR (List.take (which % (l.length : Int)).toNat l ++ List.drop (which % (l.length : Int) + 1).toNat l))) && true), ResIs.one, hS.bel, (by rw [e1_0])⟩
      · -- operation 7
        refine Wx.lit (t := (tP (tSl (tI .i64)) (tSl (tI .i64)))) (ys := [(ix ([], []) l (which % (l.length : Int)))]) (vs := [.agg #[v_225, v_226]]) elLs_22 hS rfl rfl ⟨(V.mkS2 (z := (ix ([], []) l (which % (l.length : Int)))) (hS.arg hv_227) (hS.arg hv_228)), trivial⟩ (by decide) rfl (fun v_279 w_280 hx_281 hS => ?_)
        refine Wx.nil ⟨hS.bel, ?_⟩
        refine Wh.br [2] (by kernel_rfl) (by decide) ⟨⟨_, rfl, ?_⟩, trivial⟩
        refine Wx.callF (run_callF Try.call60 rfl) (F60 (hS.arg (h0.v 8 rfl)) (by omega) hS.fb_lt) rfl ?_
        rintro r_282 w_283 hx_284 ⟨_, rfl, hv_285⟩
        have hS := hS.pushFrO hx_284 hv_285
        refine Wx.nil ⟨hS.bel, ?_⟩
        refine Wh.br [8] (by kernel_rfl) (by decide) ⟨⟨_, rfl, ?_⟩, trivial⟩
        refine Wx.append elLs_22 hS 0 rfl rfl rfl (Src.ofR hS 1 rfl) (by simp only [maxLen]; simp; omega) (by simp; omega) rfl (fun v_287 w_288 hz_289 hS => ?_)
        refine Wx.nil ⟨hS.bel, ?_⟩
        refine Wh.br [9] (by kernel_rfl) (by decide) ⟨⟨_, rfl, ?_⟩, trivial⟩
        have hS := hS.freeze 0 rfl
        refine Wx.callF (run_callF Try.call29 rfl) (F29 (in_i64 (by omega) (by omega)) (hS.v 0 rfl) hS.fb_lt) rfl ?_
        rintro r_291 w_292 hx_293 rfl
        have hS := hS.ext hx_293
        refine Wx.nil ⟨hS.bel, ?_⟩
        refine Wh.rd (v := .tuple #[.bool (tasteE (shG zs) (l ++ [(ix ([], []) l (which % (l.length : Int)))])), .int .i64 (checkE (shG zs) (l ++ [(ix ([], []) l (which % (l.length : Int)))]))]) 10 rfl (by kernel_rfl) hS.bel (rd_move rfl) rfl ?_
        refine Wh.rd (v := .bool (tasteE (shG zs) (l ++ [(ix ([], []) l (which % (l.length : Int)))]))) 11 rfl (by kernel_rfl) hS.bel (rd_extract rfl rfl) rfl ?_
        refine Wh.rd (v := .int .i64 (checkE (shG zs) (l ++ [(ix ([], []) l (which % (l.length : Int)))]))) 12 rfl (by kernel_rfl) hS.bel (rd_extract rfl rfl) rfl ?_
        refine Wh.rd (v := .bool (noR l)) 13 rfl (by kernel_rfl) hS.bel (Rd.to (v := .bool (tasteE (shG zs) (l ++ [(ix ([], []) l (which % (l.length : Int)))]))) (rd_assign rfl) (congrArg (Value.bool) (show (noR l : Bool) = (tasteE (shG zs) (l ++ [(ix ([], []) l (which % (l.length : Int)))]) : Bool) from (by rw [taste_noR hc3, noR_twice hw0 hw1])).symm)) rfl ?_
        refine Wh.rd (v := .int .i64 0) 14 rfl (by kernel_rfl) hS.bel (Rd.to (v := .int .i64 (checkE (shG zs) (l ++ [(ix ([], []) l (which % (l.length : Int)))]))) (rd_assign rfl) (congrArg (Value.int .i64) (show (0 : Int) = (checkE (shG zs) (l ++ [(ix ([], []) l (which % (l.length : Int)))]) : Int) from hc3.symm).symm)) rfl ?_
        refine Wh.done (by kernel_rfl) ?_
        have hm_294 := V.merge hS hv_227
        have hm_295 := V.merge hS hv_228
        have hS := h0.merge hS
        have hS := hS.add (hm_294)
        have hS := hS.add (V.upF (hm_295))
        refine W.seq ?_
        refine W.reg ?_
        refine Wx.rd (v := .int .i64 (shG zs)) (rd_move rfl) rfl ?_
        refine Wx.rd (v := v_8) (rd_move rfl) rfl ?_
        refine Wx.callF (run_callF Try.call60 rfl) (F60 (hS.v 12 rfl) (by omega) hS.fb_lt) rfl ?_
        rintro r_298 w_299 hx_300 ⟨_, rfl, hv_301⟩
        have hS := hS.pushFrO hx_300 hv_301
        refine Wx.rd (v := .int .i64 (which % (l.length : Int))) (rd_move rfl) rfl ?_
        refine Wx.rd (v := .int .i64 (which % (l.length : Int))) (rd_move rfl) rfl ?_
        refine Wx.rd (v := .int .i64 ((which % (l.length : Int)) + 1)) (rd_add rfl rfl (in_i64 (by omega) (by omega))) rfl ?_
        refine Wx.callB (run_callF Try.call61 rfl) (F61 (ob := [Ob.v (tSl (tI .i64)) ((ix ([], []) l (which % (l.length : Int))).2) v_226, Ob.v (tSl (tI .i64)) ((ix ([], []) l (which % (l.length : Int))).1) v_225, Ob.v (tSl (tP (tSl (tI .i64)) (tSl (tI .i64)))) (l ++ [(ix ([], []) l (which % (l.length : Int)))]) v_287, .row (tP (tSl (tI .i64)) (tSl (tI .i64))) 62 v_279 [(ix ([], []) l (which % (l.length : Int)))], Ob.v (tSl (tI .i64)) ((ix ([], []) l2 5).2) v_44, Ob.v (tSl (tI .i64)) ((ix ([], []) l2 5).1) v_43, Ob.v (tSl (tI .i64)) (wrongE (shG zs) (l ++ [(ix ([], []) l2 5)])) v_203, Ob.v (tSl (tP (tSl (tI .i64)) (tSl (tI .i64)))) (l ++ [(ix ([], []) l2 5)]) v_196, .row (tP (tSl (tI .i64)) (tSl (tI .i64))) 62 v_188 [(ix ([], []) l2 5)], Ob.v (tSl (tP (tSl (tI .i64)) (tSl (tI .i64)))) l2 v_33, .box g_22 66 (List.map (Value.int .u8) (List.set zs (1 : Int).toNat 6)), Ob.v (tSl (tI .i64)) (wrongE (shG zs) l) v_18, Ob.v (tSl (tP (tSl (tI .i64)) (tSl (tI .i64)))) l v_8, .box g_1 66 (List.map (Value.int .u8) zs)]) (in_i64 (by omega) (by omega)) (in_i64 (by omega) (by omega)) (by omega) (by omega) (by omega) (hS.front 0 rfl)) rfl ?_
        rintro r_303 w_304 ⟨_, rfl, hS⟩
        have hS : St _ _ w_304 [.row (tP (tSl (tI .i64)) (tSl (tI .i64))) 62 r_303 (List.take (which % (l.length : Int)).toNat l ++ List.drop ((which % (l.length : Int)) + 1).toNat l), Ob.v (tSl (tI .i64)) ((ix ([], []) l (which % (l.length : Int))).2) v_226, Ob.v (tSl (tI .i64)) ((ix ([], []) l (which % (l.length : Int))).1) v_225, Ob.v (tSl (tP (tSl (tI .i64)) (tSl (tI .i64)))) (l ++ [(ix ([], []) l (which % (l.length : Int)))]) v_287, .row (tP (tSl (tI .i64)) (tSl (tI .i64))) 62 v_279 [(ix ([], []) l (which % (l.length : Int)))], Ob.v (tSl (tI .i64)) ((ix ([], []) l2 5).2) v_44, Ob.v (tSl (tI .i64)) ((ix ([], []) l2 5).1) v_43, Ob.v (tSl (tI .i64)) (wrongE (shG zs) (l ++ [(ix ([], []) l2 5)])) v_203, Ob.v (tSl (tP (tSl (tI .i64)) (tSl (tI .i64)))) (l ++ [(ix ([], []) l2 5)]) v_196, .row (tP (tSl (tI .i64)) (tSl (tI .i64))) 62 v_188 [(ix ([], []) l2 5)], Ob.v (tSl (tP (tSl (tI .i64)) (tSl (tI .i64)))) l2 v_33, .box g_22 66 (List.map (Value.int .u8) (List.set zs (1 : Int).toNat 6)), Ob.v (tSl (tI .i64)) (wrongE (shG zs) l) v_18, Ob.v (tSl (tP (tSl (tI .i64)) (tSl (tI .i64)))) l v_8, .box g_1 66 (List.map (Value.int .u8) zs)] := St.putBack (obs := [.row (tP (tSl (tI .i64)) (tSl (tI .i64))) 62 r_298 l, Ob.v (tSl (tI .i64)) ((ix ([], []) l (which % (l.length : Int))).2) v_226, Ob.v (tSl (tI .i64)) ((ix ([], []) l (which % (l.length : Int))).1) v_225, Ob.v (tSl (tP (tSl (tI .i64)) (tSl (tI .i64)))) (l ++ [(ix ([], []) l (which % (l.length : Int)))]) v_287, .row (tP (tSl (tI .i64)) (tSl (tI .i64))) 62 v_279 [(ix ([], []) l (which % (l.length : Int)))], Ob.v (tSl (tI .i64)) ((ix ([], []) l2 5).2) v_44, Ob.v (tSl (tI .i64)) ((ix ([], []) l2 5).1) v_43, Ob.v (tSl (tI .i64)) (wrongE (shG zs) (l ++ [(ix ([], []) l2 5)])) v_203, Ob.v (tSl (tP (tSl (tI .i64)) (tSl (tI .i64)))) (l ++ [(ix ([], []) l2 5)]) v_196, .row (tP (tSl (tI .i64)) (tSl (tI .i64))) 62 v_188 [(ix ([], []) l2 5)], Ob.v (tSl (tP (tSl (tI .i64)) (tSl (tI .i64)))) l2 v_33, .box g_22 66 (List.map (Value.int .u8) (List.set zs (1 : Int).toNat 6)), Ob.v (tSl (tI .i64)) (wrongE (shG zs) l) v_18, Ob.v (tSl (tP (tSl (tI .i64)) (tSl (tI .i64)))) l v_8, .box g_1 66 (List.map (Value.int .u8) zs)]) 0 hS (by simp)
        have hS := hS.freeze 0 rfl
        refine Wx.callF (run_callF Try.call29 rfl) (F29 (in_i64 (by omega) (by omega)) (hS.v 0 rfl) hS.fb_lt) rfl ?_
        rintro r_306 w_307 hx_308 rfl
        have hS := hS.ext hx_308
        refine Wx.rd (v := .tuple #[.bool (tasteE (shG zs) (List.take (which % (l.length : Int)).toNat l ++ List.drop ((which % (l.length : Int)) + 1).toNat l)), .int .i64 (checkE (shG zs) (List.take (which % (l.length : Int)).toNat l ++ List.drop ((which % (l.length : Int)) + 1).toNat l))]) (rd_move rfl) rfl ?_
        refine Wx.rd (v := .bool (tasteE (shG zs) (List.take (which % (l.length : Int)).toNat l ++ List.drop ((which % (l.length : Int)) + 1).toNat l))) (rd_extract rfl rfl) rfl ?_
        refine Wx.rd (v := .int .i64 (checkE (shG zs) (List.take (which % (l.length : Int)).toNat l ++ List.drop ((which % (l.length : Int)) + 1).toNat l))) (rd_extract rfl rfl) rfl ?_
        refine Wx.rd (v := .bool (noR (List.take (which % (l.length : Int)).toNat l ++ List.drop (which % (l.length : Int) + 1).toNat l))) (Rd.to (v := .bool (tasteE (shG zs) (List.take (which % (l.length : Int)).toNat l ++ List.drop ((which % (l.length : Int)) + 1).toNat l))) (rd_assign rfl) (congrArg (Value.bool) (show (noR (List.take (which % (l.length : Int)).toNat l ++ List.drop (which % (l.length : Int) + 1).toNat l) : Bool) = (tasteE (shG zs) (List.take (which % (l.length : Int)).toNat l ++ List.drop ((which % (l.length : Int)) + 1).toNat l) : Bool) from (taste_noR (chk_less hc (by omega))).symm).symm)) rfl ?_
        refine Wx.rd (v := .int .i64 0) (Rd.to (v := .int .i64 (checkE (shG zs) (List.take (which % (l.length : Int)).toNat l ++ List.drop ((which % (l.length : Int)) + 1).toNat l))) (rd_assign rfl) (congrArg (Value.int .i64) (show (0 : Int) = (checkE (shG zs) (List.take (which % (l.length : Int)).toNat l ++ List.drop ((which % (l.length : Int)) + 1).toNat l) : Int) from (chk_less hc (by omega)).symm).symm)) rfl ?_
        refine Wx.nil ?_
        refine W.seq ?_
        refine W.reg ?_
        refine Wx.rd (v := .int .i64 0) (rd_move rfl) rfl ?_
        refine Wx.rd (v := .bool true) (Rd.to (v := .bool (decide ((0 : Int) = 0))) (rd_eql rfl rfl) rfl) rfl ?_
        refine Wx.rd (v := .bool true) (rd_move rfl) rfl ?_
        refine Wx.gyes rfl rfl rfl ?_
        refine Wx.rd (v := .int .i64 0) (rd_move rfl) rfl ?_
        refine Wx.gyes rfl rfl rfl ?_
        refine Wx.rd (v := .bool true) (Rd.to (v := .bool (decide ((0 : Int) = 0))) (rd_eql rfl rfl) rfl) rfl ?_
        refine Wx.rd (v := .bool true) (rd_pickT rfl rfl) rfl ?_
        refine Wx.rd (v := .bool true) (rd_move rfl) rfl ?_
        refine Wx.gyes rfl rfl rfl ?_
        refine Wx.rd (v := .bool (noR l)) (rd_move rfl) rfl ?_
        refine Wx.gyes rfl rfl rfl ?_
        refine Wx.rd (v := .bool (noR l)) (rd_move rfl) rfl ?_
        refine Wx.gyes rfl rfl rfl ?_
        refine Wx.rd (v := .bool ((noR l) == (noR l))) (rd_eqlB rfl rfl Try.underlying4) rfl ?_
        refine Wx.rd (v := .bool ((noR l) == (noR l))) (rd_pickT rfl rfl) rfl ?_
        refine Wx.rd (v := .bool ((noR l) == (noR l))) (rd_move rfl) rfl ?_
        refine Wx.cut (X := Unit) 6 [130, 131, 132, 133, 134, 135] (fun _ => [(135, .bool ((noR l) == (noR l) && (!(noR l) || noR (List.take (which % (l.length : Int)).toNat l ++ List.drop (which % (l.length : Int) + 1).toNat l))))]) (fun _ w' => St w O w' [Ob.v (tSl (tP (tSl (tI .i64)) (tSl (tI .i64)))) (List.take (which % (l.length : Int)).toNat l ++ List.drop ((which % (l.length : Int)) + 1).toNat l) r_303, Ob.v (tSl (tI .i64)) ((ix ([], []) l (which % (l.length : Int))).2) v_226, Ob.v (tSl (tI .i64)) ((ix ([], []) l (which % (l.length : Int))).1) v_225, Ob.v (tSl (tP (tSl (tI .i64)) (tSl (tI .i64)))) (l ++ [(ix ([], []) l (which % (l.length : Int)))]) v_287, .row (tP (tSl (tI .i64)) (tSl (tI .i64))) 62 v_279 [(ix ([], []) l (which % (l.length : Int)))], Ob.v (tSl (tI .i64)) ((ix ([], []) l2 5).2) v_44, Ob.v (tSl (tI .i64)) ((ix ([], []) l2 5).1) v_43, Ob.v (tSl (tI .i64)) (wrongE (shG zs) (l ++ [(ix ([], []) l2 5)])) v_203, Ob.v (tSl (tP (tSl (tI .i64)) (tSl (tI .i64)))) (l ++ [(ix ([], []) l2 5)]) v_196, .row (tP (tSl (tI .i64)) (tSl (tI .i64))) 62 v_188 [(ix ([], []) l2 5)], Ob.v (tSl (tP (tSl (tI .i64)) (tSl (tI .i64)))) l2 v_33, .box g_22 66 (List.map (Value.int .u8) (List.set zs (1 : Int).toNat 6)), Ob.v (tSl (tI .i64)) (wrongE (shG zs) l) v_18, Ob.v (tSl (tP (tSl (tI .i64)) (tSl (tI .i64)))) l v_8, .box g_1 66 (List.map (Value.int .u8) zs)]) ?_ ?_
        · rcases Bool.eq_false_or_eq_true ((noR l) == (noR l)) with g_309 | g_309
          · -- True
            have gp_310 := g_309
            try simp only [Bool.and_eq_true, Bool.or_eq_true, Bool.not_eq_true', Bool.and_eq_false_iff, Bool.or_eq_false_iff, Bool.not_eq_false', decide_eq_true_eq, decide_eq_false_iff_not, not_or, Bool.false_eq_true, Bool.true_eq_false, false_or, or_false, not_false_eq_true] at gp_310
            refine Wx.gyes rfl rfl (congrArg Value.bool g_309) ?_
            refine Wx.rd (v := .bool (noR l)) (rd_move rfl) rfl ?_
            refine Wx.gyes rfl rfl (congrArg Value.bool g_309) ?_
            refine Wx.rd (v := .bool (!(noR l))) (rd_not rfl) rfl ?_
            refine Wx.gyes rfl rfl (congrArg Value.bool g_309) ?_
            refine Wx.rd (v := .bool (!(noR l))) (rd_move rfl) rfl ?_
            refine Wx.cut (X := Unit) 2 [133, 134] (fun _ => [(134, .bool (!(noR l) || noR (List.take (which % (l.length : Int)).toNat l ++ List.drop (which % (l.length : Int) + 1).toNat l)))]) (fun _ w' => St w O w' [Ob.v (tSl (tP (tSl (tI .i64)) (tSl (tI .i64)))) (List.take (which % (l.length : Int)).toNat l ++ List.drop ((which % (l.length : Int)) + 1).toNat l) r_303, Ob.v (tSl (tI .i64)) ((ix ([], []) l (which % (l.length : Int))).2) v_226, Ob.v (tSl (tI .i64)) ((ix ([], []) l (which % (l.length : Int))).1) v_225, Ob.v (tSl (tP (tSl (tI .i64)) (tSl (tI .i64)))) (l ++ [(ix ([], []) l (which % (l.length : Int)))]) v_287, .row (tP (tSl (tI .i64)) (tSl (tI .i64))) 62 v_279 [(ix ([], []) l (which % (l.length : Int)))], Ob.v (tSl (tI .i64)) ((ix ([], []) l2 5).2) v_44, Ob.v (tSl (tI .i64)) ((ix ([], []) l2 5).1) v_43, Ob.v (tSl (tI .i64)) (wrongE (shG zs) (l ++ [(ix ([], []) l2 5)])) v_203, Ob.v (tSl (tP (tSl (tI .i64)) (tSl (tI .i64)))) (l ++ [(ix ([], []) l2 5)]) v_196, .row (tP (tSl (tI .i64)) (tSl (tI .i64))) 62 v_188 [(ix ([], []) l2 5)], Ob.v (tSl (tP (tSl (tI .i64)) (tSl (tI .i64)))) l2 v_33, .box g_22 66 (List.map (Value.int .u8) (List.set zs (1 : Int).toNat 6)), Ob.v (tSl (tI .i64)) (wrongE (shG zs) l) v_18, Ob.v (tSl (tP (tSl (tI .i64)) (tSl (tI .i64)))) l v_8, .box g_1 66 (List.map (Value.int .u8) zs)]) ?_ ?_
            · rcases Bool.eq_false_or_eq_true (!(noR l)) with g_311 | g_311
              · -- True
                have gp_312 := g_311
                try simp only [Bool.and_eq_true, Bool.or_eq_true, Bool.not_eq_true', Bool.and_eq_false_iff, Bool.or_eq_false_iff, Bool.not_eq_false', decide_eq_true_eq, decide_eq_false_iff_not, not_or, Bool.false_eq_true, Bool.true_eq_false, false_or, or_false, not_false_eq_true] at gp_312
                refine Wx.gnoB rfl rfl (congrArg Value.bool g_311) rfl rfl ?_
                refine Wx.gyes rfl rfl (congrArg Value.bool g_309) ?_
                refine Wx.rd (v := .bool true) (rd_pickT (congrArg Value.bool g_311) rfl) rfl ?_
                refine Wx.nil ⟨(), hS, ⟨?_, trivial⟩, Out.look rfl Out.refl⟩
                show Value.bool true = Value.bool (!(noR l) || noR (List.take (which % (l.length : Int)).toNat l ++ List.drop (which % (l.length : Int) + 1).toNat l))
                first | rw [g_311, Bool.true_or] | (rw [g_311]; rfl)
              · -- False
                have gp_313 := g_311
                try simp only [Bool.and_eq_true, Bool.or_eq_true, Bool.not_eq_true', Bool.and_eq_false_iff, Bool.or_eq_false_iff, Bool.not_eq_false', decide_eq_true_eq, decide_eq_false_iff_not, not_or, Bool.false_eq_true, Bool.true_eq_false, false_or, or_false, not_false_eq_true] at gp_313
                refine Wx.gyes rfl rfl (congrArg Value.bool g_311) ?_
                refine Wx.rd (v := .bool (noR (List.take (which % (l.length : Int)).toNat l ++ List.drop (which % (l.length : Int) + 1).toNat l))) (rd_move rfl) rfl ?_
                refine Wx.gyes rfl rfl (congrArg Value.bool g_309) ?_
                refine Wx.rd (v := .bool (noR (List.take (which % (l.length : Int)).toNat l ++ List.drop (which % (l.length : Int) + 1).toNat l))) (rd_pickF (congrArg Value.bool g_311) rfl) rfl ?_
                refine Wx.nil ⟨(), hS, ⟨?_, trivial⟩, Out.look rfl Out.refl⟩
                show Value.bool (noR (List.take (which % (l.length : Int)).toNat l ++ List.drop (which % (l.length : Int) + 1).toNat l)) = Value.bool (!(noR l) || noR (List.take (which % (l.length : Int)).toNat l ++ List.drop (which % (l.length : Int) + 1).toNat l))
                first | rw [g_311, Bool.false_or] | (rw [g_311]; rfl)
            rintro ⟨⟩ u_315 w_314 hS
            refine Wx.rd (v := .bool (!(noR l) || noR (List.take (which % (l.length : Int)).toNat l ++ List.drop (which % (l.length : Int) + 1).toNat l))) (rd_pickT (congrArg Value.bool g_309) rfl) rfl ?_
            refine Wx.nil ⟨(), hS, ⟨?_, trivial⟩, Out.look rfl (Out.hav rfl (Out.look rfl Out.refl))⟩
            show Value.bool (!(noR l) || noR (List.take (which % (l.length : Int)).toNat l ++ List.drop (which % (l.length : Int) + 1).toNat l)) = Value.bool ((noR l) == (noR l) && (!(noR l) || noR (List.take (which % (l.length : Int)).toNat l ++ List.drop (which % (l.length : Int) + 1).toNat l)))
            first | rw [g_309, Bool.true_and] | (rw [g_309]; rfl)
          · -- False
            have gp_316 := g_309
            try simp only [Bool.and_eq_true, Bool.or_eq_true, Bool.not_eq_true', Bool.and_eq_false_iff, Bool.or_eq_false_iff, Bool.not_eq_false', decide_eq_true_eq, decide_eq_false_iff_not, not_or, Bool.false_eq_true, Bool.true_eq_false, false_or, or_false, not_false_eq_true] at gp_316
            refine Wx.gnoB rfl rfl (congrArg Value.bool g_309) rfl rfl ?_
            refine Wx.gnoB rfl rfl (congrArg Value.bool g_309) rfl rfl ?_
            refine Wx.gnoB rfl rfl (congrArg Value.bool g_309) rfl rfl ?_
            refine Wx.gno rfl rfl rfl rfl ?_
            refine Wx.gnoB rfl rfl (congrArg Value.bool g_309) rfl rfl ?_
            refine Wx.rd (v := .bool false) (rd_pickF (congrArg Value.bool g_309) rfl) rfl ?_
            refine Wx.nil ⟨(), hS, ⟨?_, trivial⟩, Out.look rfl Out.refl⟩
            show Value.bool false = Value.bool ((noR l) == (noR l) && (!(noR l) || noR (List.take (which % (l.length : Int)).toNat l ++ List.drop (which % (l.length : Int) + 1).toNat l)))
            first | rw [g_309, Bool.false_and] | (rw [g_309]; rfl)
        rintro ⟨⟩ u_318 w_317 hS
        refine Wx.rd (v := .bool ((noR l) == (noR l) && (!(noR l) || noR (List.take (which % (l.length : Int)).toNat l ++ List.drop (which % (l.length : Int) + 1).toNat l)))) (rd_move rfl) rfl ?_
        refine Wx.cut (X := Unit) 2 [137, 138] (fun _ => [(138, .bool (((noR l) == (noR l) && (!(noR l) || noR (List.take (which % (l.length : Int)).toNat l ++ List.drop (which % (l.length : Int) + 1).toNat l))) && true))]) (fun _ w' => St w O w' [Ob.v (tSl (tP (tSl (tI .i64)) (tSl (tI .i64)))) (List.take (which % (l.length : Int)).toNat l ++ List.drop ((which % (l.length : Int)) + 1).toNat l) r_303, Ob.v (tSl (tI .i64)) ((ix ([], []) l (which % (l.length : Int))).2) v_226, Ob.v (tSl (tI .i64)) ((ix ([], []) l (which % (l.length : Int))).1) v_225, Ob.v (tSl (tP (tSl (tI .i64)) (tSl (tI .i64)))) (l ++ [(ix ([], []) l (which % (l.length : Int)))]) v_287, .row (tP (tSl (tI .i64)) (tSl (tI .i64))) 62 v_279 [(ix ([], []) l (which % (l.length : Int)))], Ob.v (tSl (tI .i64)) ((ix ([], []) l2 5).2) v_44, Ob.v (tSl (tI .i64)) ((ix ([], []) l2 5).1) v_43, Ob.v (tSl (tI .i64)) (wrongE (shG zs) (l ++ [(ix ([], []) l2 5)])) v_203, Ob.v (tSl (tP (tSl (tI .i64)) (tSl (tI .i64)))) (l ++ [(ix ([], []) l2 5)]) v_196, .row (tP (tSl (tI .i64)) (tSl (tI .i64))) 62 v_188 [(ix ([], []) l2 5)], Ob.v (tSl (tP (tSl (tI .i64)) (tSl (tI .i64)))) l2 v_33, .box g_22 66 (List.map (Value.int .u8) (List.set zs (1 : Int).toNat 6)), Ob.v (tSl (tI .i64)) (wrongE (shG zs) l) v_18, Ob.v (tSl (tP (tSl (tI .i64)) (tSl (tI .i64)))) l v_8, .box g_1 66 (List.map (Value.int .u8) zs)]) ?_ ?_
        · rcases Bool.eq_false_or_eq_true ((noR l) == (noR l) && (!(noR l) || noR (List.take (which % (l.length : Int)).toNat l ++ List.drop (which % (l.length : Int) + 1).toNat l))) with g_319 | g_319
          · -- True
            have gp_320 := g_319
            try simp only [Bool.and_eq_true, Bool.or_eq_true, Bool.not_eq_true', Bool.and_eq_false_iff, Bool.or_eq_false_iff, Bool.not_eq_false', decide_eq_true_eq, decide_eq_false_iff_not, not_or, Bool.false_eq_true, Bool.true_eq_false, false_or, or_false, not_false_eq_true] at gp_320
            refine Wx.gyes rfl rfl (congrArg Value.bool g_319) ?_
            refine Wx.callF (run_callF Try.call16 rfl) (F16 hS.fb_lt) rfl ?_
            rintro r_321 w_322 hx_323 rfl
            have hS := hS.ext hx_323
            refine Wx.rd (v := .bool true) (rd_pickT (congrArg Value.bool g_319) rfl) rfl ?_
            refine Wx.nil ⟨(), hS, ⟨?_, trivial⟩, Out.look rfl Out.refl⟩
            show Value.bool true = Value.bool (((noR l) == (noR l) && (!(noR l) || noR (List.take (which % (l.length : Int)).toNat l ++ List.drop (which % (l.length : Int) + 1).toNat l))) && true)
            first | rw [g_319, Bool.true_and] | (rw [g_319]; rfl)
          · -- False
            have gp_324 := g_319
            try simp only [Bool.and_eq_true, Bool.or_eq_true, Bool.not_eq_true', Bool.and_eq_false_iff, Bool.or_eq_false_iff, Bool.not_eq_false', decide_eq_true_eq, decide_eq_false_iff_not, not_or, Bool.false_eq_true, Bool.true_eq_false, false_or, or_false, not_false_eq_true] at gp_324
            refine Wx.gnoB rfl rfl (congrArg Value.bool g_319) rfl rfl ?_
            refine Wx.rd (v := .bool false) (rd_pickF (congrArg Value.bool g_319) rfl) rfl ?_
            refine Wx.nil ⟨(), hS, ⟨?_, trivial⟩, Out.look rfl Out.refl⟩
            show Value.bool false = Value.bool (((noR l) == (noR l) && (!(noR l) || noR (List.take (which % (l.length : Int)).toNat l ++ List.drop (which % (l.length : Int) + 1).toNat l))) && true)
            first | rw [g_319, Bool.false_and] | (rw [g_319]; rfl)
        rintro ⟨⟩ u_326 w_325 hS
        refine Wx.rd (v := .bool (((noR l) == (noR l) && (!(noR l) || noR (List.take (which % (l.length : Int)).toNat l ++ List.drop (which % (l.length : Int) + 1).toNat l))) && true)) (rd_assign rfl) rfl ?_
        refine Wx.nil ?_
        have e1_0 : (((noR l) == (noR l) && (!(noR l) || noR (List.take (which % (l.length : Int)).toNat l ++ List.drop (which % (l.length : Int) + 1).toNat l))) && true) = true := by cases h : noR l with | false => rfl | true => rw [noR_less h]; rfl
        exact W.ret ⟨.bool (((noR l) == (noR l) && (!(noR l) || noR (List.take (which % (l.length : Int)).toNat l ++ List.drop (which % (l.length : Int) + 1).toNat l))) && true), ResIs.one, hS.bel, (by rw [e1_0])⟩
end Go.Proofs.Ytjbcpggikaeleaa

namespace Go.Wk
open Go.RowKit Go.ChangeShapes
section
variable {H : Type} {enc : TypeId × Value → H} {P : Program} {W : World}
theorem RdI.arrayN {k : IntKind} {n m : Nat} {e t : TypeId} (hu : P.underlying t = some (.array n e)) (he : RdI enc P W k m e) (hc : P.cellsOf e = m) (hn : P.cellsOf t = n * m) : RdI enc P W k (n * m) t := by
  intro fuel cs x h
  obtain ⟨xs, f', _, _, hl, hx, hel⟩ := DataW.trod_array hu h
  rw [hc] at hel
  rw [hn] at hl
  have h1 : ∀ j, j ≤ n → ∃ zs : List Int, zs.length = j * m ∧ cs.take (j * m) = zs.map (Value.int k) ∧ ∀ z ∈ zs, InK k z := by
    intro j
    induction j with
    | zero => exact fun _ => ⟨[], by simp, by simp, fun z hz => by cases hz⟩
    | succ j ih =>
      intro hj
      obtain ⟨zs, l1, l2, l3⟩ := ih (by omega)
      have := hel j (by omega)
      cases hxi : xs[j]? with
      | none => rw [List.getElem?_eq_none_iff] at hxi; omega
      | some y =>
        rw [hxi] at this
        obtain ⟨zt, m1, m2, m3⟩ := he _ _ _ this
        refine ⟨zs ++ zt, by rw [List.length_append, l1, m1, Nat.succ_mul], ?_, fun z hz => (List.mem_append.1 hz).elim (l3 z) (m3 z)⟩
        rw [Nat.succ_mul, List.take_add, l2, List.map_append, ← m2]
  obtain ⟨zs, l1, l2, l3⟩ := h1 n (Nat.le_refl n)
  exact ⟨zs, l1, by rw [← l2, List.take_of_length_le (by omega)], l3⟩
end
end Go.Wk

namespace Go.Wk
open Go.RowKit Go.ChangeShapes
section
variable {H : Type} {enc : TypeId × Value → H} {P : Program} {W : World}
theorem drop_split (l : List Value) (a b : Nat) : l.drop a = (l.drop a).take b ++ l.drop (a + b) := by
  have := (List.take_append_drop b (l.drop a)).symm
  rw [List.drop_drop] at this
  exact this
theorem RdI.struct5 {k : IntKind} {t : TypeId} {f0 f1 f2 f3 f4 : Field} {m0 m1 m2 m3 m4 : Nat} (hu : P.underlying t = some (.struct #[f0, f1, f2, f3, f4])) (h0 : RdI enc P W k m0 f0.type) (h1 : RdI enc P W k m1 f1.type) (h2 : RdI enc P W k m2 f2.type) (h3 : RdI enc P W k m3 f3.type) (h4 : RdI enc P W k m4 f4.type)
    (c0 : P.cellsOf f0.type = m0) (c1 : P.cellsOf f1.type = m1) (c2 : P.cellsOf f2.type = m2) (c3 : P.cellsOf f3.type = m3) (c4 : P.cellsOf f4.type = m4) (o0 : f0.offset = 0) (o1 : f1.offset = m0) (o2 : f2.offset = m0 + m1) (o3 : f3.offset = m0 + m1 + m2) (o4 : f4.offset = m0 + m1 + m2 + m3)
    (hC : P.cellsOf t = m0 + m1 + m2 + m3 + m4) : RdI enc P W k (m0 + m1 + m2 + m3 + m4) t := by
  intro fuel cs x h
  obtain ⟨xs, n, _, rfl, hl, hlen, hf⟩ := DataW.trod_struct hu h
  match xs, hlen with
  | [y0, y1, y2, y3, y4], _ =>
    have r0 := hf 0 f0 rfl
    have r1 := hf 1 f1 rfl
    have r2 := hf 2 f2 rfl
    have r3 := hf 3 f3 rfl
    have r4 := hf 4 f4 rfl
    rw [c0, o0] at r0
    rw [c1, o1] at r1
    rw [c2, o2] at r2
    rw [c3, o3] at r3
    rw [c4, o4] at r4
    rw [hC] at hl
    obtain ⟨z0, l0, e0, i0⟩ := h0 _ _ _ (by simpa using r0)
    obtain ⟨z1, l1, e1, i1⟩ := h1 _ _ _ (by simpa using r1)
    obtain ⟨z2, l2, e2, i2⟩ := h2 _ _ _ (by simpa using r2)
    obtain ⟨z3, l3, e3, i3⟩ := h3 _ _ _ (by simpa using r3)
    obtain ⟨z4, l4, e4, i4⟩ := h4 _ _ _ (by simpa using r4)
    refine ⟨z0 ++ (z1 ++ (z2 ++ (z3 ++ z4))), by simp only [List.length_append, l0, l1, l2, l3, l4]; omega, ?_, fun z hz => ?_⟩
    · have e5 : (cs.drop (m0 + m1 + m2 + m3)).take m4 = cs.drop (m0 + m1 + m2 + m3) := List.take_of_length_le (by rw [List.length_drop]; omega)
      rw [List.map_append, List.map_append, List.map_append, List.map_append, ← e0, ← e1, ← e2, ← e3, ← e4, e5, ← drop_split, ← drop_split, ← drop_split, List.take_append_drop]
    · rw [List.mem_append, List.mem_append, List.mem_append, List.mem_append] at hz
      rcases hz with hz | hz | hz | hz | hz
      · exact i0 z hz
      · exact i1 z hz
      · exact i2 z hz
      · exact i3 z hz
      · exact i4 z hz
end
end Go.Wk

namespace Go.Proofs.Ytjbcpggikaeleaa.tasteMore
open Go.ChangeShapes Go.WideShapes Go.ChangeAt Go.RowKit Go.Joins Go.Wk
set_option linter.unusedVariables false

theorem own : ownKnob Try.prog.godebug = none := by kernel_rfl
theorem laidOut : laidOutB Try.prog = true := by kernel_rfl
theorem cells5 : Try.prog.cellsOf 5 = 1 := by kernel_rfl
theorem cells63 : Try.prog.cellsOf 63 = 3 := by kernel_rfl
theorem cells64 : Try.prog.cellsOf 64 = 18 := by kernel_rfl
theorem cells66 : Try.prog.cellsOf 66 = 39 := by kernel_rfl

set_option maxRecDepth 100000 in
theorem lifted (os : Os) (started : os.Started) (H : Type) (enc : TypeId × Value → H) :
    ReturnsInHanded {} Try.checked os 14 .any (Rows.tasteMoreSpec.pre6 enc Try.prog Try.f14 Rows.tasteMoreRow.domain false) (Rows.tasteMoreSpec.post enc Try.prog Try.f14 false true false false) := by
  refine returnsInHanded_of_change (C := Try.checked) own started (by kernel_rfl) Try.func14
    (ChangeSpec.witness6 (enc := enc) (C := Try.checked) false ⟨#[], #[.agg #[.int .u8 0, .int .u8 0, .int .u8 0, .int .u8 0, .int .u8 0, .int .u8 0, .int .u8 0, .int .u8 0, .int .u8 0, .int .u8 0, .int .u8 0, .int .u8 0, .int .u8 0, .int .u8 0, .int .u8 0, .int .u8 0, .int .u8 0, .int .u8 0, .int .u8 0, .int .u8 0, .int .u8 0, .int .u8 0, .int .u8 0, .int .u8 0, .int .u8 0, .int .u8 0, .int .u8 0, .int .u8 0, .int .u8 0, .int .u8 0, .int .u8 0, .int .u8 0, .int .u8 0, .int .u8 0, .int .u8 0, .int .u8 0, .int .u8 0, .int .u8 0, .int .u8 0], .int .u8 0], []⟩ 8 (by kernel_rfl) (by kernel_rfl) (by kernel_rfl) (by kernel_rfl)) ?_
  intro W base args ds gs before hval0 hW hcnd _
  have hval : ∀ (j : Nat) t v, Try.f14.params[j]? = some t → args[j]? = some v → Value.okWide Try.prog W .any base t v := hval0
  have hW' := hW
  obtain ⟨p, q, hA0, hV, rfl, hfz, hnd⟩ := hW
  have hA : DataW.TrodAll enc Try.prog W 0 (fun _ => true) true Try.f14.params.toList args.toList ds p := hA0
  rw [Try.params14] at hA hval
  obtain ⟨v0, vs0, d0, ds0, p0, q0, hargs, rfl, rfl, h0, r0⟩ := trodAll_cons hA
  obtain ⟨v1, vs1, d1, ds1, p1, q1, rfl, rfl, rfl, h1, r1⟩ := trodAll_cons r0
  obtain ⟨rfl, rfl, rfl⟩ := trodAll_nil r1
  obtain rfl : args = #[v0, v1] := by cases args; simp_all
  obtain ⟨rfl, rfl⟩ := trodVars_none hV
  have k0 := h0
  have lt0 : ∀ x ∈ p0, x.block < W.heap.size := by obtain ⟨m, hm⟩ := k0; exact DataW.trod_lt m _ _ _ hm
  obtain ⟨cs0, rfl, hsz0⟩ := okWide_struct Try.underlying66 (hval 0 66 v0 rfl rfl)
  obtain ⟨zs0, hz0, rfl, hin0⟩ := RdI.v (RdI.struct5 Try.underlying66 (RdI.int Try.underlying5) (RdI.int Try.underlying5) (RdI.int Try.underlying5) (RdI.arrayN (n := 6) Try.underlying64 (RdI.array Try.underlying63 Try.underlying5 cells5 cells63) cells63 cells64) (RdI.arrayN (n := 6) Try.underlying64 (RdI.array Try.underlying63 Try.underlying5 cells5 cells63) cells63 cells64) cells5 cells5 cells5 cells64 cells64 rfl rfl rfl rfl rfl cells66) h0
  obtain ⟨a1, rfl, rfl, rfl, u1⟩ := open_int Try.underlying5 (hval 1 5 v1 rfl rfl) h1
  clear hA0 hval0
  refine (F14 hz0 hin0 (inK_of_wf u1) (fun b (h : some b ∈ ([] : List (Option Nat))) => nomatch h)).mono fun e W' hE => ?_
  obtain ⟨r, he, bel, hr⟩ := hE
  subst he
  subst hr
  exact ⟨_, rfl, _, _, _, [], _, [], hW', trodAll_mk1 (shut_bool Try.underlying4 _), (trodAll_cons_mk (Below.trod laidOut (by kernel_rfl) (of_decide_eq_true (by kernel_rfl)) k0 bel lt0) (trodAll_cons_mk (shut_int Try.underlying5 u1) trodAll_mk0)), rfl, bel.frame _, fun h => by cases h⟩

theorem over : Rows.tasteMoreRow.holds Try.pinned (OpenSpec.ofChange Rows.tasteMoreSpec) :=
  OpenClaim.holds_of_wide 14 Try.f14 rfl rfl rfl rfl rfl rfl rfl ⟨rfl, rfl, rfl, rfl, rfl⟩ rfl rfl rfl rfl rfl (by kernel_rfl) Try.func14 (by kernel_rfl)
    (of_decide_eq_true (by kernel_rfl)) (by unfold Func.isWrapper; first | (rw [if_pos (by decide +kernel)]; kernel_rfl) | (rw [if_neg (by decide +kernel)]; exact ⟨rfl, rfl⟩))
    (fun os started H enc _ => lifted os started H enc)

end Go.Proofs.Ytjbcpggikaeleaa.tasteMore
namespace Go.Proofs.Ytjbcpggikaeleaa
/-- The statement. -/
theorem tasteMore_proved : Rows.TasteMoreSaid := tasteMore.over
#print axioms tasteMore_proved
end Go.Proofs.Ytjbcpggikaeleaa
