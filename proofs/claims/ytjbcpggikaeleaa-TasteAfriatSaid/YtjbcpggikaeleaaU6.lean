/-
  WHAT IS PROVED HERE, TEXT BY TEXT (several texts of one prover, joined to one file; the conditions stand in each statement):
  * WHAT IS PROVED HERE: what functions of layer 10 hand back, each out of its own code; the conditions stand in each statement.
  * WHAT IS PROVED HERE: what functions of layer 10 hand back, each out of its own code; the conditions stand in each statement.
  * WHAT IS PROVED HERE: what functions of layer 10 hand back, each out of its own code; the conditions stand in each statement.
  * WHAT IS PROVED HERE: what functions of layer 10 hand back, each out of its own code; the conditions stand in each statement.
  * WHAT IS PROVED HERE: what functions of layer 10 hand back, each out of its own code; the conditions stand in each statement.
  * WHAT IS PROVED HERE: arrays of arrays of numbers as they are read at the start. Conditions: the types' closed facts, as hypotheses.
  * WHAT IS PROVED HERE: structs of five parts, integers of one kind all, as they are read at the start. Conditions: the types' closed facts, as hypotheses.
  * WHAT IS PROVED HERE: the given statement of TasteAfriat: for every input it returns true, and each argument reads as it did. Conditions: none.
-/
import Derived.Test.YtjbcpggikaeleaaProg
import Derived.Test.YtjbcpggikaeleaaU2
import Derived.Test.YtjbcpggikaeleaaU5
import Derived.Test.YtjbcpggikaeleaaU3
import Derived.Test.YtjbcpggikaeleaaRows
import Derived.WalkKit
import Derived.ProofKit
import Derived.OpenShut
import Derived.Carry
import Derived.Lib.SmallJoins

set_option linter.unusedVariables false
set_option linter.unusedSimpArgs false

namespace Go.Proofs.Ytjbcpggikaeleaa
open Go.Wk Go.RowKit Go.Lib
set_option linter.unusedVariables false
set_option linter.unusedSimpArgs false
theorem foLl_66_0 : fldOff Try.prog 66 0 = some 0 := by kernel_rfl
theorem foLl_66_1 : fldOff Try.prog 66 1 = some 1 := by kernel_rfl
theorem foLl_66_3 : fldOff Try.prog 66 3 = some 3 := by kernel_rfl
theorem elLl_39 : ElemI Try.prog 39 3 (.int .i64 0) 1 8 := ElemI.of Try.underlying39 (by kernel_rfl) (by first | rfl | kernel_rfl) (by decide)
theorem foLl_66_4 : fldOff Try.prog 66 4 = some 21 := by kernel_rfl
theorem foLl_66_2 : fldOff Try.prog 66 2 = some 2 := by kernel_rfl
theorem elLl_22 : ElemI Try.prog 22 62 (.agg #[(.slice none 0 0), (.slice none 0 0)]) 2 48 := ElemI.of Try.underlying22 (by kernel_rfl) (by first | rfl | kernel_rfl) (by decide)
theorem foLl_62_0 : fldOff Try.prog 62 0 = some 0 := by kernel_rfl
theorem mixedLl_ : Try.prog.follows .mixedOrders = true := by kernel_rfl
theorem foLl_62_1 : fldOff Try.prog 62 1 = some 1 := by kernel_rfl

set_option maxHeartbeats 2000000 in
set_option maxRecDepth 10000 in
theorem F46 {zs : List Int} {most : Int} {O : List (Option Nat)} {w : World} (n_zs : zs.length = 39) (i_zs : ∀ z ∈ zs, InK .u8 z) (i_most : InK .i64 most) (p_m : 0 ≤ most) (p_6 : most ≤ 6) (hO : ∀ b, some b ∈ O → b < w.heap.size) : Calls Try.prog 46 #[.agg (List.map (Value.int .u8) zs).toArray, .int .i64 most] w (Ret w (fun r w' => ∃ l : List Sale, (shopP zs most l) ∧ ∃ rv, r = .tuple #[.int .i64 (shG zs), rv] ∧ FreshO (tP (tSl (tI .i64)) (tSl (tI .i64))) 62 l rv O w.heap.size w')) := by
  have b_most := bd_i64 i_most
  have hz0 := ix_u8 i_zs 0
  have hz1 := ix_u8 i_zs 1
  have hz2 := ix_u8 i_zs 2
  have hN0 := Int.emod_nonneg (ix 0 zs 1) (show most + 1 ≠ 0 by omega)
  have hN1 := Int.emod_lt_of_pos (ix 0 zs 1) (show 0 < most + 1 by omega)
  have hS := St.start w O hO
  refine enterR Try.func46 rfl Try.ntmps46 Try.results46 rfl ?_
  refine W.seq ?_
  refine W.reg ?_
  refine Wx.box (cs := List.map (Value.int .u8) zs) hS rfl rfl rfl (fun g_1 w_2 hx_4 hb_3 hS => ?_)
  refine Wx.rd (v := .int .i64 0) (rd_assign rfl) rfl ?_
  refine Wx.rd (v := (.slice none 0 0)) (rd_assign rfl) rfl ?_
  refine Wx.nil ?_
  refine W.seq ?_
  refine W.reg ?_
  refine Wx.rd (v := .pointer (some ⟨g_1, 0 + 0, none⟩)) (rd_fieldAddr (o := 0) rfl foLl_66_0) rfl ?_
  have bz_5 := ix_u8 i_zs 0
  refine Wx.rd (v := .int .u8 (ix 0 zs 0)) (rd_loadXa (d := 0) (f := (Value.int .u8)) (j := 0) hS 0 rfl rfl (by omega) (by omega) (by omega) Try.isAgg5) rfl ?_
  refine Wx.rd (v := .int .i64 (ix 0 zs 0)) (rd_convIn rfl Try.underlying5 Try.underlying3 (in_i64 (by omega) (by omega))) rfl ?_
  refine Wx.rd (v := .int .i64 ((ix 0 zs 0) % 3)) (rd_rem rfl rfl (by omega) (by omega)) rfl ?_
  refine Wx.rd (v := .int .i64 (1 + ((ix 0 zs 0) % 3))) (rd_add rfl rfl (in_i64 (by omega) (by omega))) rfl ?_
  refine Wx.rd (v := .int .i64 (1 + ((ix 0 zs 0) % 3))) (rd_assign rfl) rfl ?_
  refine Wx.nil ?_
  refine W.seq ?_
  refine W.reg ?_
  refine Wx.rd (v := (.slice none 0 0)) (rd_assign rfl) rfl ?_
  refine Wx.nil ?_
  refine W.seq ?_
  refine W.seq ?_
  refine W.reg ?_
  refine Wx.rd (v := .pointer (some ⟨g_1, 0 + 1, none⟩)) (rd_fieldAddr (o := 0) rfl foLl_66_1) rfl ?_
  have bz_6 := ix_u8 i_zs 1
  refine Wx.rd (v := .int .u8 (ix 0 zs 1)) (rd_loadXa (d := 0) (f := (Value.int .u8)) (j := 1) hS 0 rfl rfl (by omega) (by omega) (by omega) Try.isAgg5) rfl ?_
  refine Wx.rd (v := .int .i64 (ix 0 zs 1)) (rd_convIn rfl Try.underlying5 Try.underlying3 (in_i64 (by omega) (by omega))) rfl ?_
  refine Wx.rd (v := .int .i64 most) (rd_move rfl) rfl ?_
  refine Wx.rd (v := .int .i64 (most + 1)) (rd_add rfl rfl (in_i64 (by omega) (by omega))) rfl ?_
  refine Wx.rd (v := .int .i64 ((ix 0 zs 1) % (most + 1))) (rd_rem rfl rfl (by omega) (by omega)) rfl ?_
  refine Wx.rd (v := .int .i64 0) (rd_move rfl) rfl ?_
  refine Wx.nil ?_
  refine W.block ?_
  have hS := hS.addNil (tP (tSl (tI .i64)) (tSl (tI .i64))) 62
  refine W.loop [7, 8, 9, 10, 11, 12, 13, 14, 15, 16, 17, 18, 19, 20, 21, 33, 34, 35, 36, 37, 38, 39, 40, 41, 42, 43, 44, 45, 46, 47, 48, 49, 50, 51, 52, 53, 54, 55, 56, 57, 58, 59, 60, 61, 62, 63, 64, 65, 66, 67, 68, 69, 70, 71, 72, 73, 74, 75, 76, 77, 78, 79, 80, 81, 82, 83, 84, 85, 86, 87, 88, 89, 90, 91, 92, 93, 94, 95, 96, 97, 98, 99, 100, 101, 102, 103, 104, 105, 106, 107, 108, 109, 110, 111, 112, 113, 114, 115, 116, 117, 118, 119, 120, 121, 122, 123, 124, 125, 126, 127, 128, 129, 130, 131, 132, 133, 134, 135, 136, 137, 138, 139] (fun x : Int × Value × (List ((List Int) × (List Int))) => match x with | (i, ov, out) => [(33, .int .i64 i), (7, ov)]) (fun (x : Int × Value × (List ((List Int) × (List Int)))) w' => match x with | (i, ov, out) => St w O w' [.row (tP (tSl (tI .i64)) (tSl (tI .i64))) 62 ov out, .box g_1 66 (List.map (Value.int .u8) zs)] ∧ 0 ≤ i ∧ i ≤ (ix 0 zs 1 % (most + 1)) ∧ (out.length : Int) = i ∧ (∀ s ∈ out, shS (shG zs) s)) (fun x : Int × Value × (List ((List Int) × (List Int))) => match x with | (i, ov, out) => ((ix 0 zs 1 % (most + 1)) - i).toNat) (0, (.slice none 0 0), []) ⟨rfl, rfl, trivial⟩ ⟨hS, (by first | omega | simp), (by first | omega | simp), (rfl), (fun s hs => nomatch hs)⟩ ?_
  rintro ⟨i, ov, out⟩ u_8 w_7 ⟨hS, h0, h1, h2, h3⟩
  refine W.seq ?_
  refine W.reg ?_
  refine Wx.rd (v := .bool (decide (i < ((ix 0 zs 1) % (most + 1))))) (rd_lss rfl rfl) rfl ?_
  refine Wx.nil ?_
  refine W.seq ?_
  refine W.condD rfl (fun c0 => ?_) (fun c0 => ?_)
  · -- yes
    refine W.skip ?_
    refine W.seq ?_
    refine W.block ?_
    refine W.seq ?_
    refine W.reg ?_
    refine Wx.rd (v := .int .i64 i) (rd_move rfl) rfl ?_
    refine Wx.rd (v := .int .i64 i) (rd_assign rfl) rfl ?_
    refine Wx.nil ?_
    refine W.seq ?_
    refine W.reg ?_
    refine Wx.rd (v := (.slice none 0 0)) (rd_assign rfl) rfl ?_
    refine Wx.rd (v := (.slice none 0 0)) (rd_assign rfl) rfl ?_
    refine Wx.nil ?_
    refine W.seq ?_
    refine W.seq ?_
    refine W.reg ?_
    refine Wx.rd (v := .int .i64 (1 + ((ix 0 zs 0) % 3))) (rd_move rfl) rfl ?_
    refine Wx.rd (v := .int .i64 0) (rd_move rfl) rfl ?_
    refine Wx.nil ?_
    refine W.block ?_
    have hS := hS.addNil (tI .i64) 3
    have hS := hS.addNil (tI .i64) 3
    refine W.loop [9, 10, 11, 37, 38, 39, 40, 41, 42, 43, 44, 45, 46, 47, 48, 49, 50, 51, 52, 53, 54, 55, 56, 57, 58, 59, 60, 61, 62, 63] (fun x : Int × Value × (List Int) × Value × (List Int) => match x with | (k, pv, p, tv, t) => [(37, .int .i64 k), (9, pv), (10, tv)]) (fun (x : Int × Value × (List Int) × Value × (List Int)) w' => match x with | (k, pv, p, tv, t) => St w O w' [.row (tI .i64) 3 tv t, .row (tI .i64) 3 pv p, .row (tP (tSl (tI .i64)) (tSl (tI .i64))) 62 ov out, .box g_1 66 (List.map (Value.int .u8) zs)] ∧ 0 ≤ k ∧ k ≤ (1 + ix 0 zs 0 % 3) ∧ (p.length : Int) = k ∧ (t.length : Int) = k ∧ (∀ x ∈ p, 1 ≤ x ∧ x ≤ 4) ∧ (∀ x ∈ t, 0 ≤ x ∧ x ≤ 4)) (fun x : Int × Value × (List Int) × Value × (List Int) => match x with | (k, pv, p, tv, t) => ((1 + ix 0 zs 0 % 3) - k).toNat) (0, (.slice none 0 0), [], (.slice none 0 0), []) ⟨rfl, rfl, rfl, trivial⟩ ⟨hS, (by first | omega | simp), (by first | omega | simp), (rfl), (rfl), (fun s hs => nomatch hs), (fun s hs => nomatch hs)⟩ ?_
    rintro ⟨k, pv, p, tv, t⟩ u_10 w_9 ⟨hS, k0, k1, k2, k3, k4, k5⟩
    refine W.seq ?_
    refine W.reg ?_
    refine Wx.rd (v := .bool (decide (k < (1 + ((ix 0 zs 0) % 3))))) (rd_lss rfl rfl) rfl ?_
    refine Wx.nil ?_
    refine W.seq ?_
    refine W.condD rfl (fun c1 => ?_) (fun c1 => ?_)
    · -- yes
      refine W.skip ?_
      refine W.seq ?_
      refine W.block ?_
      refine W.seq ?_
      refine W.reg ?_
      refine Wx.rd (v := .int .i64 k) (rd_move rfl) rfl ?_
      refine Wx.rd (v := .int .i64 k) (rd_assign rfl) rfl ?_
      refine Wx.nil ?_
      refine W.seq ?_
      refine W.reg ?_
      refine Wx.rd (v := pv) (rd_move rfl) rfl ?_
      refine Wx.rd (v := .int .i64 i) (rd_move rfl) rfl ?_
      refine Wx.rd (v := .int .i64 k) (rd_move rfl) rfl ?_
      refine Wx.rd (v := .pointer (some ⟨g_1, 0 + 3, none⟩)) (rd_fieldAddr (o := 0) rfl foLl_66_3) rfl ?_
      refine Wx.rd (v := .pointer (some ⟨g_1, 0 + 3 + i.toNat * 3, none⟩)) (rd_indexArr rfl rfl Try.underlying64 Try.sizeOf63 (by omega) (by omega)) rfl ?_
      refine Wx.rd (v := .pointer (some ⟨g_1, 0 + 3 + i.toNat * 3 + k.toNat * 1, none⟩)) (rd_indexArr rfl rfl Try.underlying63 Try.sizeOf5 (by omega) (by omega)) rfl ?_
      have bz_11 := ix_u8 i_zs (3 + i * 3 + k)
      refine Wx.rd (v := .int .u8 (ix 0 zs (3 + i * 3 + k))) (rd_loadXa (d := 0) (f := (Value.int .u8)) (j := 3 + i * 3 + k) hS 3 rfl rfl (by omega) (by omega) (by omega) Try.isAgg5) rfl ?_
      refine Wx.rd (v := .int .i64 (ix 0 zs (3 + i * 3 + k))) (rd_convIn rfl Try.underlying5 Try.underlying3 (in_i64 (by omega) (by omega))) rfl ?_
      refine Wx.rd (v := .int .i64 ((ix 0 zs (3 + i * 3 + k)) % 4)) (rd_rem rfl rfl (by omega) (by omega)) rfl ?_
      refine Wx.rd (v := .int .i64 (1 + ((ix 0 zs (3 + i * 3 + k)) % 4))) (rd_add rfl rfl (in_i64 (by omega) (by omega))) rfl ?_
      refine Wx.lit (t := (tI .i64)) (ys := [1 + ((ix 0 zs (3 + i * 3 + k)) % 4)]) (vs := [.int .i64 (1 + ((ix 0 zs (3 + i * 3 + k)) % 4))]) elLl_39 hS rfl rfl ⟨(V.mkInt (in_i64 (by omega) (by omega))), trivial⟩ (by decide) rfl (fun v_12 w_13 hx_14 hS => ?_)
      refine Wx.append elLl_39 hS 2 rfl rfl rfl (Src.ofR hS 0 rfl) (by simp only [maxLen]; simp; omega) (by simp; omega) rfl (fun v_15 w_16 hz_17 hS => ?_)
      refine Wx.rd (v := v_15) (rd_assign rfl) rfl ?_
      refine Wx.nil ?_
      refine W.reg ?_
      refine Wx.rd (v := tv) (rd_move rfl) rfl ?_
      refine Wx.rd (v := .int .i64 i) (rd_move rfl) rfl ?_
      refine Wx.rd (v := .int .i64 k) (rd_move rfl) rfl ?_
      refine Wx.rd (v := .pointer (some ⟨g_1, 0 + 21, none⟩)) (rd_fieldAddr (o := 0) rfl foLl_66_4) rfl ?_
      refine Wx.rd (v := .pointer (some ⟨g_1, 0 + 21 + i.toNat * 3, none⟩)) (rd_indexArr rfl rfl Try.underlying64 Try.sizeOf63 (by omega) (by omega)) rfl ?_
      refine Wx.rd (v := .pointer (some ⟨g_1, 0 + 21 + i.toNat * 3 + k.toNat * 1, none⟩)) (rd_indexArr rfl rfl Try.underlying63 Try.sizeOf5 (by omega) (by omega)) rfl ?_
      have bz_18 := ix_u8 i_zs (21 + i * 3 + k)
      refine Wx.rd (v := .int .u8 (ix 0 zs (21 + i * 3 + k))) (rd_loadXa (d := 0) (f := (Value.int .u8)) (j := 21 + i * 3 + k) hS 4 rfl rfl (by omega) (by omega) (by omega) Try.isAgg5) rfl ?_
      refine Wx.rd (v := .int .i64 (ix 0 zs (21 + i * 3 + k))) (rd_convIn rfl Try.underlying5 Try.underlying3 (in_i64 (by omega) (by omega))) rfl ?_
      refine Wx.rd (v := .int .i64 ((ix 0 zs (21 + i * 3 + k)) % 5)) (rd_rem rfl rfl (by omega) (by omega)) rfl ?_
      refine Wx.lit (t := (tI .i64)) (ys := [(ix 0 zs (21 + i * 3 + k)) % 5]) (vs := [.int .i64 ((ix 0 zs (21 + i * 3 + k)) % 5)]) elLl_39 hS rfl rfl ⟨(V.mkInt (in_i64 (by omega) (by omega))), trivial⟩ (by decide) rfl (fun v_19 w_20 hx_21 hS => ?_)
      refine Wx.append elLl_39 hS 2 rfl rfl rfl (Src.ofR hS 0 rfl) (by simp only [maxLen]; simp; omega) (by simp; omega) rfl (fun v_22 w_23 hz_24 hS => ?_)
      refine Wx.rd (v := v_22) (rd_assign rfl) rfl ?_
      refine Wx.nil ?_
      refine W.reg ?_
      refine Wx.rd (v := .int .i64 (k + 1)) (rd_add rfl rfl (in_i64 (by omega) (by omega))) rfl ?_
      refine Wx.rd (v := .int .i64 (k + 1)) (rd_move rfl) rfl ?_
      refine Wx.nil ?_
      refine ⟨(k + 1, v_15, p ++ [1 + ((ix 0 zs (3 + i * 3 + k)) % 4)], v_22, t ++ [(ix 0 zs (21 + i * 3 + k)) % 5]), (by show ((1 + ix 0 zs 0 % 3) - (k + 1)).toNat < ((1 + ix 0 zs 0 % 3) - k).toNat; omega), ?_, ?_, Out.look rfl Out.self⟩
      · exact ⟨St.tl (hS.tl), (by first | omega | assumption), (by first | omega | assumption), (by simp only [List.length_append, List.length_cons, List.length_nil]; omega), (by simp only [List.length_append, List.length_cons, List.length_nil]; omega), (snoc_all k4 (by omega)), (snoc_all k5 (by omega))⟩
      · exact ⟨rfl, rfl, rfl, trivial⟩
    · -- no
      refine W.exit rfl ?_
      refine W.seq ?_
      refine W.seq ?_
      refine W.reg ?_
      refine Wx.rd (v := .pointer (some ⟨g_1, 0 + 2, none⟩)) (rd_fieldAddr (o := 0) rfl foLl_66_2) rfl ?_
      have bz_25 := ix_u8 i_zs 2
      refine Wx.rd (v := .int .u8 (ix 0 zs 2)) (rd_loadXa (d := 0) (f := (Value.int .u8)) (j := 2) hS 3 rfl rfl (by omega) (by omega) (by omega) Try.isAgg5) rfl ?_
      refine Wx.rd (v := .int .u8 ((ix 0 zs 2) % 2)) (rd_rem rfl rfl (by omega) (by omega)) rfl ?_
      refine Wx.rd (v := .bool (decide (((ix 0 zs 2) % 2) = 1))) (rd_eql rfl rfl) rfl ?_
      refine Wx.nil ?_
      have hS := hS.freeze 0 rfl
      refine W.cutK [10, 12, 13, 14, 15, 16, 17, 18, 19, 20, 21, 68, 69, 70, 71, 72, 73, 74, 75, 76, 77, 78, 79, 80, 81, 82, 83, 84, 85, 86, 87, 88, 89, 90, 91, 92, 93, 94, 95, 96, 97, 98, 99, 100, 101, 102, 103, 104, 105, 106, 107, 108, 109, 110, 111, 112, 113, 114, 115, 116, 117, 118, 119, 120, 121, 122, 123, 124, 125, 126, 127, 128, 129, 130, 131, 132] (fun x : Value × (List Int) => match x with | (jv, tj) => [(10, jv)]) (fun (x : Value × (List Int)) w' => match x with | (jv, tj) => St w O w' [Ob.v (tSl (tI .i64)) tj jv, Ob.v (tSl (tI .i64)) t tv, .row (tI .i64) 3 pv p, .row (tP (tSl (tI .i64)) (tSl (tI .i64))) 62 ov out, .box g_1 66 (List.map (Value.int .u8) zs)] ∧ (tj.length : Int) = (1 + ix 0 zs 0 % 3) ∧ (∀ x ∈ tj, 0 ≤ x ∧ x ≤ 4)) ?_ ?_
      · -- up to the cut
        refine W.condD rfl (fun c2 => ?_) (fun c2 => ?_)
        · -- yes
          refine W.seq ?_
          refine W.reg ?_
          refine Wx.rd (v := .int .i64 i) (rd_move rfl) rfl ?_
          refine Wx.rd (v := .pointer (some ⟨g_1, 0 + 21, none⟩)) (rd_fieldAddr (o := 0) rfl foLl_66_4) rfl ?_
          refine Wx.rd (v := .pointer (some ⟨g_1, 0 + 21 + i.toNat * 3, none⟩)) (rd_indexArr rfl rfl Try.underlying64 Try.sizeOf63 (by omega) (by omega)) rfl ?_
          refine Wx.rd (v := .pointer (some ⟨g_1, 0 + 21 + i.toNat * 3 + (0 : Int).toNat * 1, none⟩)) (rd_indexArr rfl rfl Try.underlying63 Try.sizeOf5 (by omega) (by omega)) rfl ?_
          have bz_28 := ix_u8 i_zs (21 + i * 3 + 0)
          refine Wx.rd (v := .int .u8 (ix 0 zs (21 + i * 3 + 0))) (rd_loadXa (d := 0) (f := (Value.int .u8)) (j := 21 + i * 3 + 0) hS 3 rfl rfl (by omega) (by omega) (by omega) Try.isAgg5) rfl ?_
          refine Wx.rd (v := .int .i64 (ix 0 zs (21 + i * 3 + 0))) (rd_convIn rfl Try.underlying5 Try.underlying3 (in_i64 (by omega) (by omega))) rfl ?_
          refine Wx.rd (v := .int .i64 ((ix 0 zs (21 + i * 3 + 0)) % 9)) (rd_rem rfl rfl (by omega) (by omega)) rfl ?_
          refine Wx.rd (v := .int .i64 (4 + ((ix 0 zs (21 + i * 3 + 0)) % 9))) (rd_add rfl rfl (in_i64 (by omega) (by omega))) rfl ?_
          refine Wx.rd (v := .int .i64 (4 + ((ix 0 zs (21 + i * 3 + 0)) % 9))) (rd_assign rfl) rfl ?_
          refine Wx.nil ?_
          refine W.seq ?_
          refine W.reg ?_
          refine Wx.rd (v := .int .i64 (-1)) (rd_assign rfl) rfl ?_
          refine Wx.nil ?_
          refine W.seq ?_
          refine W.reg ?_
          refine Wx.rd (v := .int .i64 0) (rd_move rfl) rfl ?_
          refine Wx.nil ?_
          refine W.block ?_
          have hv_30 : V (tSl (tI .i64)) t tv _ _ := (hS.v 0 rfl)
          have hS := hS.add (hv_30)
          refine W.loop [10, 13, 14, 15, 16, 17, 18, 19, 20, 21, 76, 77, 78, 79, 80, 81, 82, 83, 84, 85, 86, 87, 88, 89, 90, 91, 92, 93, 94, 95, 96, 97, 98, 99, 100, 101, 102, 103, 104, 105, 106, 107, 108, 109, 110, 111, 112, 113, 114, 115, 116, 117, 118, 119, 120, 121, 122, 123, 124, 125, 126, 127, 128, 129, 130, 131, 132] (fun x : Value × (List Int) × Int × Int => match x with | (t4v, t4, b4, xa) => [(10, t4v), (13, .int .i64 b4), (76, .int .i64 xa)]) (fun (x : Value × (List Int) × Int × Int) w' => match x with | (t4v, t4, b4, xa) => St w O w' [Ob.v (tSl (tI .i64)) t4 t4v, Ob.v (tSl (tI .i64)) t tv, .row (tI .i64) 3 pv p, .row (tP (tSl (tI .i64)) (tSl (tI .i64))) 62 ov out, .box g_1 66 (List.map (Value.int .u8) zs)] ∧ 0 ≤ xa ∧ xa ≤ 5 ∧ (t4.length : Int) = (1 + ix 0 zs 0 % 3) ∧ (∀ x ∈ t4, 0 ≤ x ∧ x ≤ 4) ∧ -1 ≤ b4 ∧ b4 ≤ 343) (fun x : Value × (List Int) × Int × Int => match x with | (t4v, t4, b4, xa) => (5 - xa).toNat) (tv, t, -1, 0) ⟨rfl, rfl, rfl, trivial⟩ ⟨hS, (by first | omega | simp), (by first | omega | simp), (by omega), (k5), (by first | omega | simp), (by first | omega | simp)⟩ ?_
          rintro ⟨t4v, t4, b4, xa⟩ u_32 w_31 ⟨hS, x0, x1, xl, xb, x4, x5⟩
          refine W.seq ?_
          refine W.reg ?_
          refine Wx.rd (v := .bool (decide (xa < 5))) (rd_lss rfl rfl) rfl ?_
          refine Wx.nil ?_
          refine W.seq ?_
          refine W.condD rfl (fun c3 => ?_) (fun c3 => ?_)
          · -- yes
            refine W.skip ?_
            refine W.seq ?_
            refine W.block ?_
            refine W.seq ?_
            refine W.reg ?_
            refine Wx.rd (v := .int .i64 xa) (rd_move rfl) rfl ?_
            refine Wx.rd (v := .int .i64 xa) (rd_assign rfl) rfl ?_
            refine Wx.nil ?_
            refine W.seq ?_
            refine W.reg ?_
            refine Wx.rd (v := .int .i64 0) (rd_move rfl) rfl ?_
            refine Wx.nil ?_
            refine W.block ?_
            have hv_34 : V (tSl (tI .i64)) t4 t4v _ _ := (hS.v 0 rfl)
            have hS := hS.add (hv_34)
            refine W.loop [10, 13, 15, 16, 17, 18, 19, 20, 21, 79, 80, 81, 82, 83, 84, 85, 86, 87, 88, 89, 90, 91, 92, 93, 94, 95, 96, 97, 98, 99, 100, 101, 102, 103, 104, 105, 106, 107, 108, 109, 110, 111, 112, 113, 114, 115, 116, 117, 118, 119, 120, 121, 122, 123, 124, 125, 126, 127, 128, 129, 130, 131] (fun x : Value × (List Int) × Int × Int => match x with | (t6v, t6, b6, ya) => [(10, t6v), (13, .int .i64 b6), (79, .int .i64 ya)]) (fun (x : Value × (List Int) × Int × Int) w' => match x with | (t6v, t6, b6, ya) => St w O w' [Ob.v (tSl (tI .i64)) t6 t6v, Ob.v (tSl (tI .i64)) t4 t4v, Ob.v (tSl (tI .i64)) t tv, .row (tI .i64) 3 pv p, .row (tP (tSl (tI .i64)) (tSl (tI .i64))) 62 ov out, .box g_1 66 (List.map (Value.int .u8) zs)] ∧ 0 ≤ ya ∧ ya ≤ 5 ∧ (t6.length : Int) = (1 + ix 0 zs 0 % 3) ∧ (∀ x ∈ t6, 0 ≤ x ∧ x ≤ 4) ∧ -1 ≤ b6 ∧ b6 ≤ 343) (fun x : Value × (List Int) × Int × Int => match x with | (t6v, t6, b6, ya) => (5 - ya).toNat) (t4v, t4, b4, 0) ⟨rfl, rfl, rfl, trivial⟩ ⟨hS, (by first | omega | simp), (by first | omega | simp), (xl), (xb), (by first | omega | simp), (by first | omega | simp)⟩ ?_
            rintro ⟨t6v, t6, b6, ya⟩ u_36 w_35 ⟨hS, y0, y1, yl, yb, y4, y5⟩
            refine W.seq ?_
            refine W.reg ?_
            refine Wx.rd (v := .bool (decide (ya < 5))) (rd_lss rfl rfl) rfl ?_
            refine Wx.nil ?_
            refine W.seq ?_
            refine W.condD rfl (fun c4 => ?_) (fun c4 => ?_)
            · -- yes
              refine W.skip ?_
              refine W.seq ?_
              refine W.block ?_
              refine W.seq ?_
              refine W.reg ?_
              refine Wx.rd (v := .int .i64 ya) (rd_move rfl) rfl ?_
              refine Wx.rd (v := .int .i64 ya) (rd_assign rfl) rfl ?_
              refine Wx.nil ?_
              refine W.seq ?_
              refine W.reg ?_
              refine Wx.rd (v := .int .i64 0) (rd_move rfl) rfl ?_
              refine Wx.nil ?_
              refine W.block ?_
              have hv_38 : V (tSl (tI .i64)) t6 t6v _ _ := (hS.v 0 rfl)
              have hS := hS.add (hv_38)
              refine W.loop [10, 13, 16, 17, 18, 19, 20, 21, 82, 83, 84, 85, 86, 87, 88, 89, 90, 91, 92, 93, 94, 95, 96, 97, 98, 99, 100, 101, 102, 103, 104, 105, 106, 107, 108, 109, 110, 111, 112, 113, 114, 115, 116, 117, 118, 119, 120, 121, 122, 123, 124, 125, 126, 127, 128, 129, 130] (fun x : Value × (List Int) × Int × Int => match x with | (t8v, t8, b8, za) => [(10, t8v), (13, .int .i64 b8), (82, .int .i64 za)]) (fun (x : Value × (List Int) × Int × Int) w' => match x with | (t8v, t8, b8, za) => St w O w' [Ob.v (tSl (tI .i64)) t8 t8v, Ob.v (tSl (tI .i64)) t6 t6v, Ob.v (tSl (tI .i64)) t4 t4v, Ob.v (tSl (tI .i64)) t tv, .row (tI .i64) 3 pv p, .row (tP (tSl (tI .i64)) (tSl (tI .i64))) 62 ov out, .box g_1 66 (List.map (Value.int .u8) zs)] ∧ 0 ≤ za ∧ za ≤ 5 ∧ (t8.length : Int) = (1 + ix 0 zs 0 % 3) ∧ (∀ x ∈ t8, 0 ≤ x ∧ x ≤ 4) ∧ -1 ≤ b8 ∧ b8 ≤ 343) (fun x : Value × (List Int) × Int × Int => match x with | (t8v, t8, b8, za) => (5 - za).toNat) (t6v, t6, b6, 0) ⟨rfl, rfl, rfl, trivial⟩ ⟨hS, (by first | omega | simp), (by first | omega | simp), (yl), (yb), (by first | omega | simp), (by first | omega | simp)⟩ ?_
              rintro ⟨t8v, t8, b8, za⟩ u_40 w_39 ⟨hS, z0, z1, zl, zb, z4, z5⟩
              refine W.seq ?_
              refine W.reg ?_
              refine Wx.rd (v := .bool (decide (za < 5))) (rd_lss rfl rfl) rfl ?_
              refine Wx.nil ?_
              refine W.seq ?_
              refine W.condD rfl (fun c5 => ?_) (fun c5 => ?_)
              · -- yes
                refine W.skip ?_
                refine W.seq ?_
                refine W.block ?_
                refine W.seq ?_
                refine W.reg ?_
                refine Wx.rd (v := .int .i64 za) (rd_move rfl) rfl ?_
                refine Wx.rd (v := .int .i64 za) (rd_assign rfl) rfl ?_
                refine Wx.nil ?_
                refine W.seq ?_
                refine W.reg ?_
                refine Wx.rd (v := .int .i64 xa) (rd_move rfl) rfl ?_
                refine Wx.rd (v := .int .i64 ya) (rd_move rfl) rfl ?_
                refine Wx.rd (v := .int .i64 za) (rd_move rfl) rfl ?_
                refine Wx.lit (t := (tI .i64)) (ys := [xa, ya, za]) (vs := [.int .i64 xa, .int .i64 ya, .int .i64 za]) elLl_39 hS rfl rfl ⟨(V.mkInt (in_i64 (by omega) (by omega))), ⟨(V.mkInt (in_i64 (by omega) (by omega))), ⟨(V.mkInt (in_i64 (by omega) (by omega))), trivial⟩⟩⟩ (by decide) rfl (fun v_41 w_42 hx_43 hS => ?_)
                refine Wx.rd (v := .int .i64 (1 + ((ix 0 zs 0) % 3))) (rd_move rfl) rfl ?_
                have hS := hS.freeze 0 rfl
                have h3l : (([xa, ya, za] : List Int).length : Int) = 3 := rfl
                refine Wx.ex (rd_sliceH (hS.v 0 rfl) Try.underlying39 Try.sizeOf3 rfl rfl (by omega) (by omega)) rfl (fun u_45 hu_46 => ?_)
                have ln_47 := hu_46.len63
                have hS := hS.add hu_46
                refine Wx.rd (v := u_45) (rd_assign rfl) rfl ?_
                refine Wx.nil ?_
                refine W.seq ?_
                refine W.reg ?_
                refine Wx.rd (v := .int .i64 0) (rd_assign rfl) rfl ?_
                refine Wx.rd (v := .int .i64 1) (rd_assign rfl) rfl ?_
                refine Wx.nil ?_
                refine W.seq ?_
                refine W.seq ?_
                refine W.reg ?_
                refine Wx.rd (v := u_45) (rd_move rfl) rfl ?_
                refine Wx.rd (v := .int .i64 (([xa, ya, za].take (1 + ((ix 0 zs 0) % 3)).toNat).length : Int)) (rd_lenV rfl (hS.v 0 rfl) Try.underlying39) rfl ?_
                refine Wx.rd (v := .int .i64 0) (rd_move rfl) rfl ?_
                refine Wx.nil ?_
                refine W.block ?_
                have hT := len3 (x := xa) (y := ya) (z := za) (g := (1 + ix 0 zs 0 % 3)) ⟨by omega, by omega⟩
                have hTb := take3 (x := xa) (y := ya) (z := za) (g := (1 + ix 0 zs 0 % 3)) ⟨by omega, by omega⟩ ⟨by omega, by omega⟩ ⟨by omega, by omega⟩
                refine W.loop [18, 19, 20, 21, 93, 94, 95, 96, 97, 98, 99, 100, 101, 102, 103, 104, 105, 106, 107, 108, 109, 110, 111, 112, 113, 114, 115, 116, 117, 118] (fun x : Int × Int × Int => match x with | (cost, worth, j) => [(18, .int .i64 cost), (19, .int .i64 worth), (93, .int .i64 j)]) (fun (x : Int × Int × Int) w' => match x with | (cost, worth, j) => St w O w' [Ob.v (tSl (tI .i64)) ([xa, ya, za].take (1 + ((ix 0 zs 0) % 3)).toNat) u_45, Ob.v (tSl (tI .i64)) [xa, ya, za] v_41, Ob.v (tSl (tI .i64)) t8 t8v, Ob.v (tSl (tI .i64)) t6 t6v, Ob.v (tSl (tI .i64)) t4 t4v, Ob.v (tSl (tI .i64)) t tv, .row (tI .i64) 3 pv p, .row (tP (tSl (tI .i64)) (tSl (tI .i64))) 62 ov out, .box g_1 66 (List.map (Value.int .u8) zs)] ∧ 0 ≤ j ∧ j ≤ (1 + ix 0 zs 0 % 3) ∧ 0 ≤ cost ∧ cost ≤ 16 * j ∧ 1 ≤ worth ∧ ((j = 0 → worth ≤ 1) ∧ (j = 1 → worth ≤ 7) ∧ (j = 2 → worth ≤ 49) ∧ (j = 3 → worth ≤ 343))) (fun x : Int × Int × Int => match x with | (cost, worth, j) => ((1 + ix 0 zs 0 % 3) - j).toNat) (0, 1, 0) ⟨rfl, rfl, rfl, trivial⟩ ⟨hS, (by first | omega | simp), (by first | omega | simp), (by first | omega | simp), (by first | omega | simp), (by first | omega | simp), (by omega)⟩ ?_
                rintro ⟨cost, worth, j⟩ u_50 w_49 ⟨hS, j0, j1, j2, j3, j4, j5⟩
                refine W.seq ?_
                refine W.reg ?_
                refine Wx.rd (v := .bool (decide (j < (([xa, ya, za].take (1 + ((ix 0 zs 0) % 3)).toNat).length : Int)))) (rd_lss rfl rfl) rfl ?_
                refine Wx.nil ?_
                refine W.seq ?_
                refine W.condD rfl (fun c6 => ?_) (fun c6 => ?_)
                · -- yes
                  refine W.skip ?_
                  refine W.seq ?_
                  refine W.block ?_
                  refine W.seq ?_
                  refine W.reg ?_
                  refine Wx.rd (v := .int .i64 j) (rd_move rfl) rfl ?_
                  refine Wx.ex (rd_index 0 (hS.v 0 rfl) rfl rfl Try.underlying39 Try.sizeOf3 (by first | omega | (simp only [List.length_set, List.length_append, List.length_cons, List.length_nil, List.length_replicate]; omega)) (by first | omega | (simp only [List.length_set, List.length_append, List.length_cons, List.length_nil, List.length_replicate]; omega))) rfl (fun p_51 hp_52 => ?_)
                  refine Wx.rd (v := .int .i64 (ix 0 ([xa, ya, za].take (1 + ((ix 0 zs 0) % 3)).toNat) j)) (rd_loadI hp_52 rfl Try.isAgg3 Try.sizeOf3) rfl ?_
                  have bd_53 := bd_i64 hp_52.inK
                  refine Wx.rd (v := .int .i64 j) (rd_assign rfl) rfl ?_
                  refine Wx.rd (v := .int .i64 (ix 0 ([xa, ya, za].take (1 + ((ix 0 zs 0) % 3)).toNat) j)) (rd_assign rfl) rfl ?_
                  refine Wx.nil ?_
                  refine W.seq ?_
                  refine W.reg ?_
                  refine Wx.rd (v := .int .i64 cost) (rd_move rfl) rfl ?_
                  refine Wx.rd (v := pv) (rd_move rfl) rfl ?_
                  refine Wx.rd (v := .int .i64 j) (rd_move rfl) rfl ?_
                  refine Wx.indexR hS 6 rfl rfl rfl Try.underlying39 Try.sizeOf3 (by first | omega | (simp only [List.length_set, List.length_append, List.length_cons, List.length_nil, List.length_replicate]; omega)) (by first | omega | (simp only [List.length_set, List.length_append, List.length_cons, List.length_nil, List.length_replicate]; omega)) rfl (fun g_54 hg_55 => ?_)
                  refine Wx.rd (v := .int .i64 (ix 0 p j)) (rd_loadRI' hS 6 rfl hg_55 rfl (by first | omega | (simp only [List.length_set, List.length_append, List.length_cons, List.length_nil, List.length_replicate]; omega)) (by first | omega | (simp only [List.length_set, List.length_append, List.length_cons, List.length_nil, List.length_replicate]; omega)) Try.isAgg3 Try.sizeOf3) rfl ?_
                  have bd_56 := bd_i64 (hS.rowInK' 6 rfl (by first | omega | (simp only [List.length_set, List.length_append, List.length_cons, List.length_nil, List.length_replicate]; omega)) (by first | omega | (simp only [List.length_set, List.length_append, List.length_cons, List.length_nil, List.length_replicate]; omega)) : InK .i64 (ix 0 p j))
                  refine Wx.rd (v := .int .i64 (ix 0 ([xa, ya, za].take (1 + ((ix 0 zs 0) % 3)).toNat) j)) (rd_move rfl) rfl ?_
                  have hqx := ix_in hTb j0 (by omega)
                  have hmm := mul16 (ix_in k4 j0 (by omega)) hqx
                  refine Wx.rd (v := .int .i64 ((ix 0 p j) * (ix 0 ([xa, ya, za].take (1 + ((ix 0 zs 0) % 3)).toNat) j))) (rd_mul rfl rfl (in_i64 (by omega) (by omega))) rfl ?_
                  refine Wx.rd (v := .int .i64 (cost + ((ix 0 p j) * (ix 0 ([xa, ya, za].take (1 + ((ix 0 zs 0) % 3)).toNat) j)))) (rd_add rfl rfl (in_i64 (by omega) (by omega))) rfl ?_
                  refine Wx.rd (v := .int .i64 (cost + ((ix 0 p j) * (ix 0 ([xa, ya, za].take (1 + ((ix 0 zs 0) % 3)).toNat) j)))) (rd_assign rfl) rfl ?_
                  refine Wx.nil ?_
                  refine W.reg ?_
                  refine Wx.rd (v := .int .i64 worth) (rd_move rfl) rfl ?_
                  refine Wx.rd (v := .int .i64 (ix 0 ([xa, ya, za].take (1 + ((ix 0 zs 0) % 3)).toNat) j)) (rd_move rfl) rfl ?_
                  refine Wx.rd (v := .int .i64 ((ix 0 ([xa, ya, za].take (1 + ((ix 0 zs 0) % 3)).toNat) j) + 1)) (rd_add rfl rfl (in_i64 (by omega) (by omega))) rfl ?_
                  refine Wx.rd (v := .pointer (some ⟨g_1, 0 + 2, none⟩)) (rd_fieldAddr (o := 0) rfl foLl_66_2) rfl ?_
                  have bz_57 := ix_u8 i_zs 2
                  refine Wx.rd (v := .int .u8 (ix 0 zs 2)) (rd_loadXa (d := 0) (f := (Value.int .u8)) (j := 2) hS 8 rfl rfl (by omega) (by omega) (by omega) Try.isAgg5) rfl ?_
                  refine Wx.rd (v := .int .u8 ((ix 0 zs 2) / 2)) (rd_quo rfl rfl (by omega) (by omega) (in_u8 (by omega) (by omega))) rfl ?_
                  refine Wx.rd (v := .int .i64 ((ix 0 zs 2) / 2)) (rd_convIn rfl Try.underlying5 Try.underlying3 (in_i64 (by omega) (by omega))) rfl ?_
                  refine Wx.rd (v := .int .i64 j) (rd_move rfl) rfl ?_
                  refine Wx.rd (v := .int .i64 (j + 1)) (rd_add rfl rfl (in_i64 (by omega) (by omega))) rfl ?_
                  have hr0 := Int.emod_nonneg (ix 0 zs 2 / 2) (show j + 1 ≠ 0 by omega)
                  have hr1 := Int.emod_lt_of_pos (ix 0 zs 2 / 2) (show 0 < j + 1 by omega)
                  refine Wx.rd (v := .int .i64 (((ix 0 zs 2) / 2) % (j + 1))) (rd_rem rfl rfl (by omega) (by omega)) rfl ?_
                  refine Wx.rd (v := .int .i64 (((ix 0 ([xa, ya, za].take (1 + ((ix 0 zs 0) % 3)).toNat) j) + 1) + (((ix 0 zs 2) / 2) % (j + 1)))) (rd_add rfl rfl (in_i64 (by omega) (by omega))) rfl ?_
                  have hw7 := mul7 j4 (f := ix 0 (List.take (1 + ix 0 zs 0 % 3).toNat ([xa, ya, za] : List Int)) j + 1 + (ix 0 zs 2 / 2) % (j + 1)) ⟨by omega, by omega⟩
                  refine Wx.rd (v := .int .i64 (worth * (((ix 0 ([xa, ya, za].take (1 + ((ix 0 zs 0) % 3)).toNat) j) + 1) + (((ix 0 zs 2) / 2) % (j + 1))))) (rd_mul rfl rfl (in_i64 (by omega) (by omega))) rfl ?_
                  refine Wx.rd (v := .int .i64 (worth * (((ix 0 ([xa, ya, za].take (1 + ((ix 0 zs 0) % 3)).toNat) j) + 1) + (((ix 0 zs 2) / 2) % (j + 1))))) (rd_assign rfl) rfl ?_
                  refine Wx.nil ?_
                  refine W.reg ?_
                  refine Wx.rd (v := .int .i64 (j + 1)) (rd_add rfl rfl (in_i64 (by omega) (by omega))) rfl ?_
                  refine Wx.rd (v := .int .i64 (j + 1)) (rd_move rfl) rfl ?_
                  refine Wx.nil ?_
                  refine ⟨(cost + ((ix 0 p j) * (ix 0 ([xa, ya, za].take (1 + ((ix 0 zs 0) % 3)).toNat) j)), worth * (((ix 0 ([xa, ya, za].take (1 + ((ix 0 zs 0) % 3)).toNat) j) + 1) + (((ix 0 zs 2) / 2) % (j + 1))), j + 1), (by show ((1 + ix 0 zs 0 % 3) - (j + 1)).toNat < ((1 + ix 0 zs 0 % 3) - j).toNat; omega), ?_, ?_, Out.look rfl Out.self⟩
                  · exact ⟨hS, (by first | omega | assumption), (by first | omega | assumption), (by first | omega | assumption), (by first | omega | assumption), (by first | omega | assumption), (by omega)⟩
                  · exact ⟨rfl, rfl, rfl, trivial⟩
                · -- no
                  refine W.exit rfl ?_
                  refine W.seq ?_
                  refine W.reg ?_
                  refine Wx.rd (v := .int .i64 cost) (rd_move rfl) rfl ?_
                  refine Wx.rd (v := .int .i64 (4 + ((ix 0 zs (21 + i * 3 + 0)) % 9))) (rd_move rfl) rfl ?_
                  refine Wx.rd (v := .bool (decide (cost ≤ (4 + ((ix 0 zs (21 + i * 3 + 0)) % 9))))) (rd_leq rfl rfl) rfl ?_
                  refine Wx.rd (v := .bool (decide (cost ≤ (4 + ((ix 0 zs (21 + i * 3 + 0)) % 9))))) (rd_move rfl) rfl ?_
                  refine Wx.cut (X := Unit) 4 [123, 124, 125, 126] (fun _ => [(126, .bool (decide (cost ≤ (4 + ((ix 0 zs (21 + i * 3 + 0)) % 9))) && decide (b8 < worth)))]) (fun _ w' => St w O w' [Ob.v (tSl (tI .i64)) ([xa, ya, za].take (1 + ((ix 0 zs 0) % 3)).toNat) u_45, Ob.v (tSl (tI .i64)) [xa, ya, za] v_41, Ob.v (tSl (tI .i64)) t8 t8v, Ob.v (tSl (tI .i64)) t6 t6v, Ob.v (tSl (tI .i64)) t4 t4v, Ob.v (tSl (tI .i64)) t tv, .row (tI .i64) 3 pv p, .row (tP (tSl (tI .i64)) (tSl (tI .i64))) 62 ov out, .box g_1 66 (List.map (Value.int .u8) zs)]) ?_ ?_
                  · rcases Bool.eq_false_or_eq_true (decide (cost ≤ (4 + ((ix 0 zs (21 + i * 3 + 0)) % 9)))) with g_58 | g_58
                    · -- True
                      have gp_59 := of_decide_eq_true g_58
                      refine Wx.gyes rfl rfl (congrArg Value.bool g_58) ?_
                      refine Wx.rd (v := .int .i64 worth) (rd_move rfl) rfl ?_
                      refine Wx.gyes rfl rfl (congrArg Value.bool g_58) ?_
                      refine Wx.rd (v := .int .i64 b8) (rd_move rfl) rfl ?_
                      refine Wx.gyes rfl rfl (congrArg Value.bool g_58) ?_
                      refine Wx.rd (v := .bool (decide (b8 < worth))) (rd_gtr rfl rfl) rfl ?_
                      refine Wx.rd (v := .bool (decide (b8 < worth))) (rd_pickT (congrArg Value.bool g_58) rfl) rfl ?_
                      refine Wx.nil ⟨(), hS, ⟨?_, trivial⟩, Out.look rfl Out.refl⟩
                      show Value.bool (decide (b8 < worth)) = Value.bool (decide (cost ≤ (4 + ((ix 0 zs (21 + i * 3 + 0)) % 9))) && decide (b8 < worth))
                      first | rw [g_58, Bool.true_and] | (rw [g_58]; rfl)
                    · -- False
                      have gp_60 := of_decide_eq_false g_58
                      refine Wx.gnoB rfl rfl (congrArg Value.bool g_58) rfl rfl ?_
                      refine Wx.gnoB rfl rfl (congrArg Value.bool g_58) rfl rfl ?_
                      refine Wx.gnoB rfl rfl (congrArg Value.bool g_58) rfl rfl ?_
                      refine Wx.rd (v := .bool false) (rd_pickF (congrArg Value.bool g_58) rfl) rfl ?_
                      refine Wx.nil ⟨(), hS, ⟨?_, trivial⟩, Out.look rfl Out.refl⟩
                      show Value.bool false = Value.bool (decide (cost ≤ (4 + ((ix 0 zs (21 + i * 3 + 0)) % 9))) && decide (b8 < worth))
                      first | rw [g_58, Bool.false_and] | (rw [g_58]; rfl)
                  rintro ⟨⟩ u_62 w_61 hS
                  refine Wx.nil ?_
                  refine W.cond rfl (fun c7 => ?_) (fun c7 => ?_)
                  · -- yes
                    try simp only [Bool.and_eq_true, Bool.or_eq_true, Bool.not_eq_true', Bool.and_eq_false_iff, Bool.or_eq_false_iff, Bool.not_eq_false', decide_eq_true_eq, decide_eq_false_iff_not, not_or, Bool.false_eq_true, Bool.true_eq_false, false_or, or_false, not_false_eq_true] at c7
                    refine W.reg ?_
                    refine Wx.rd (v := u_45) (rd_move rfl) rfl ?_
                    refine Wx.callF (run_callF Try.call57 rfl) (F57 (hS.v 0 rfl) (by omega)) rfl ?_
                    rintro r_63 w_64 hx_65 ⟨_, rfl, hv_66⟩
                    have hS := hS.pushFr hx_65 hv_66
                    refine Wx.rd (v := .int .i64 worth) (rd_move rfl) rfl ?_
                    refine Wx.rd (v := r_63) (rd_assign rfl) rfl ?_
                    refine Wx.rd (v := .int .i64 worth) (rd_assign rfl) rfl ?_
                    refine Wx.nil ?_
                    refine W.reg ?_
                    refine Wx.rd (v := .int .i64 (za + 1)) (rd_add rfl rfl (in_i64 (by omega) (by omega))) rfl ?_
                    refine Wx.rd (v := .int .i64 (za + 1)) (rd_move rfl) rfl ?_
                    refine Wx.nil ?_
                    have hS := hS.freeze 0 rfl
                    have hv_69 : V (tSl (tI .i64)) ([xa, ya, za].take (1 + ((ix 0 zs 0) % 3)).toNat) r_63 _ _ := (hS.v 0 rfl)
                    refine ⟨(r_63, ([xa, ya, za].take (1 + ((ix 0 zs 0) % 3)).toNat), worth, za + 1), (by show (5 - (za + 1)).toNat < (5 - za).toNat; omega), ?_, ?_, Out.look rfl (Out.hav rfl (Out.look rfl (Out.hav rfl (Out.look rfl Out.self))))⟩
                    · exact ⟨(St.add (St.tl (St.tl (St.tl (St.tl (hS))))) (V.tlF (V.tlF (V.tlF (V.tlF (hv_69)))))), (by first | omega | assumption), (by first | omega | assumption), (by rw [len3 ⟨by omega, by omega⟩]), (take3 ⟨by omega, by omega⟩ ⟨by omega, by omega⟩ ⟨by omega, by omega⟩), (by first | omega | assumption), (by first | omega | assumption)⟩
                    · exact ⟨rfl, rfl, rfl, trivial⟩
                  · -- no
                    try simp only [Bool.and_eq_true, Bool.or_eq_true, Bool.not_eq_true', Bool.and_eq_false_iff, Bool.or_eq_false_iff, Bool.not_eq_false', decide_eq_true_eq, decide_eq_false_iff_not, not_or, Bool.false_eq_true, Bool.true_eq_false, false_or, or_false, not_false_eq_true] at c7
                    refine W.skip ?_
                    refine W.reg ?_
                    refine Wx.rd (v := .int .i64 (za + 1)) (rd_add rfl rfl (in_i64 (by omega) (by omega))) rfl ?_
                    refine Wx.rd (v := .int .i64 (za + 1)) (rd_move rfl) rfl ?_
                    refine Wx.nil ?_
                    have hv_70 : V (tSl (tI .i64)) t8 t8v _ _ := (hS.v 2 rfl)
                    refine ⟨(t8v, t8, b8, za + 1), (by show (5 - (za + 1)).toNat < (5 - za).toNat; omega), ?_, ?_, Out.look rfl (Out.hav rfl (Out.look rfl (Out.hav rfl (Out.look rfl Out.self))))⟩
                    · exact ⟨(St.add (St.tl (St.tl (St.tl (hS)))) (V.tlF (V.tlF (V.tlF (hv_70))))), (by first | omega | assumption), (by first | omega | assumption), (zl), (zb), (by first | omega | assumption), (by first | omega | assumption)⟩
                    · exact ⟨rfl, rfl, rfl, trivial⟩
              · -- no
                refine W.exit rfl ?_
                refine W.reg ?_
                refine Wx.rd (v := .int .i64 (ya + 1)) (rd_add rfl rfl (in_i64 (by omega) (by omega))) rfl ?_
                refine Wx.rd (v := .int .i64 (ya + 1)) (rd_move rfl) rfl ?_
                refine Wx.nil ?_
                have hv_71 : V (tSl (tI .i64)) t8 t8v _ _ := (hS.v 0 rfl)
                refine ⟨(t8v, t8, b8, ya + 1), (by show (5 - (ya + 1)).toNat < (5 - ya).toNat; omega), ?_, ?_, Out.look rfl (Out.hav rfl (Out.look rfl Out.self))⟩
                · exact ⟨(St.add (St.tl (St.tl (hS))) (V.tlF (V.tlF (hv_71)))), (by first | omega | assumption), (by first | omega | assumption), (zl), (zb), (by first | omega | assumption), (by first | omega | assumption)⟩
                · exact ⟨rfl, rfl, rfl, trivial⟩
            · -- no
              refine W.exit rfl ?_
              refine W.reg ?_
              refine Wx.rd (v := .int .i64 (xa + 1)) (rd_add rfl rfl (in_i64 (by omega) (by omega))) rfl ?_
              refine Wx.rd (v := .int .i64 (xa + 1)) (rd_move rfl) rfl ?_
              refine Wx.nil ?_
              have hv_72 : V (tSl (tI .i64)) t6 t6v _ _ := (hS.v 0 rfl)
              refine ⟨(t6v, t6, b6, xa + 1), (by show (5 - (xa + 1)).toNat < (5 - xa).toNat; omega), ?_, ?_, Out.look rfl (Out.hav rfl (Out.look rfl Out.self))⟩
              · exact ⟨(St.add (St.tl (St.tl (hS))) (V.tlF (V.tlF (hv_72)))), (by first | omega | assumption), (by first | omega | assumption), (yl), (yb), (by first | omega | assumption), (by first | omega | assumption)⟩
              · exact ⟨rfl, rfl, rfl, trivial⟩
          · -- no
            refine W.exit rfl ?_
            have hv_73 : V (tSl (tI .i64)) t4 t4v _ _ := (hS.v 0 rfl)
            refine ⟨(t4v, t4), ?_, ?_, Out.look rfl (Out.hav rfl (Out.look rfl Out.refl))⟩
            · exact ⟨(St.add (St.tl (hS)) (V.tlF (hv_73))), (xl), (xb)⟩
            · exact ⟨rfl, trivial⟩
        · -- no
          refine W.skip ?_
          have hv_74 : V (tSl (tI .i64)) t tv _ _ := (hS.v 0 rfl)
          refine ⟨(tv, t), ?_, ?_, Out.look rfl Out.refl⟩
          · exact ⟨(St.add (hS) (hv_74)), (by omega), (k5)⟩
          · exact ⟨rfl, trivial⟩
      rintro ⟨jv, tj⟩ u_76 w_75 ⟨hS, jl, jb⟩
      refine W.reg ?_
      refine Wx.rd (v := ov) (rd_move rfl) rfl ?_
      refine Wx.rd (v := pv) (rd_move rfl) rfl ?_
      refine Wx.rd (v := jv) (rd_move rfl) rfl ?_
      have hS := hS.freeze 2 rfl
      refine Wx.rd (v := .agg #[pv, jv]) (rd_buildC (vs := [(0, pv), (1, jv)]) (us := [(0, .agg #[pv]), (1, .agg #[jv])]) rfl (parts_cons (Go.Wk.cells_one (V.oneC (hS.v 0 rfl))) (parts_cons (Go.Wk.cells_one (V.oneC (hS.v 1 rfl))) parts_nil)) (by kernel_rfl)) rfl ?_
      refine Wx.lit (t := (tP (tSl (tI .i64)) (tSl (tI .i64)))) (ys := [(p, tj)]) (vs := [.agg #[pv, jv]]) elLl_22 hS rfl rfl ⟨(V.mkS2 (z := (p, tj)) (hS.v 0 rfl) (hS.v 1 rfl)), trivial⟩ (by decide) rfl (fun v_78 w_79 hx_80 hS => ?_)
      refine Wx.append elLl_22 hS 4 rfl rfl rfl (Src.ofR hS 0 rfl) (by simp only [maxLen]; simp; omega) (by simp; omega) rfl (fun v_81 w_82 hz_83 hS => ?_)
      refine Wx.rd (v := v_81) (rd_assign rfl) rfl ?_
      refine Wx.nil ?_
      refine W.reg ?_
      refine Wx.rd (v := .int .i64 (i + 1)) (rd_add rfl rfl (in_i64 (by omega) (by omega))) rfl ?_
      refine Wx.rd (v := .int .i64 (i + 1)) (rd_move rfl) rfl ?_
      refine Wx.nil ?_
      refine ⟨(i + 1, v_81, out ++ [(p, tj)]), (by show ((ix 0 zs 1 % (most + 1)) - (i + 1)).toNat < ((ix 0 zs 1 % (most + 1)) - i).toNat; omega), ?_, ?_, Out.look rfl (Out.hav rfl (Out.look rfl (Out.hav rfl (Out.look rfl Out.self))))⟩
      · exact ⟨St.tl (St.tl (St.tl (hS.tl))), (by first | omega | assumption), (by first | omega | assumption), (by simp only [List.length_append, List.length_cons, List.length_nil]; omega), (snoc_all h3 (shop_one (by rw [shG]; omega) (by rw [shG]; omega) k4 jb))⟩
      · exact ⟨rfl, rfl, trivial⟩
  · -- no
    refine W.exit rfl ?_
    refine W.seq ?_
    refine W.reg ?_
    refine Wx.rd (v := .int .i64 (1 + ((ix 0 zs 0) % 3))) (rd_move rfl) rfl ?_
    refine Wx.rd (v := ov) (rd_move rfl) rfl ?_
    refine Wx.rd (v := .int .i64 (1 + ((ix 0 zs 0) % 3))) (rd_assign rfl) rfl ?_
    refine Wx.rd (v := ov) (rd_assign rfl) rfl ?_
    refine Wx.nil ?_
    have e0_0 : (shG zs) = (1 + ((ix 0 zs 0) % 3) : Int) := by rfl
    exact W.ret ⟨.tuple #[.int .i64 (1 + ((ix 0 zs 0) % 3)), ov], ResIs.two, hS.bel, ⟨out, (by exact ⟨by omega, h3⟩), ⟨ov, (by rw [e0_0]), (hS.frO 0 rfl)⟩⟩⟩

theorem F53 {pv : Value} {p : List Int} {Fr_pv : List (Option Nat)} {qv : Value} {q : List Int} {Fr_qv : List (Option Nat)} {uv : Value} {u : List Int} {Fr_uv : List (Option Nat)} {tv : Value} {t : List Int} {Fr_tv : List (Option Nat)} {w : World} (h_pv : V (tSl (tI .i64)) p pv Fr_pv w) (h_qv : V (tSl (tI .i64)) q qv Fr_qv w) (h_uv : V (tSl (tI .i64)) u uv Fr_uv w) (h_tv : V (tSl (tI .i64)) t tv Fr_tv w) (p_p : ∀ x ∈ p, 1 ≤ x ∧ x ≤ 9) (p_q : ∀ x ∈ q, 0 ≤ x ∧ x ≤ 9) (p_t : ∀ x ∈ t, 0 ≤ x ∧ x ≤ 9) (p_3 : (p.length : Int) ≤ 3) (p_e : (q.length : Int) = p.length) (p_f : (t.length : Int) = p.length) : Calls Try.prog 53 #[.agg #[pv, qv], .agg #[uv, tv]] w (Ret w (fun r _ => r = .int .i64 (leadS (p, q) (u, t)))) := by
  have a_pv := h_pv.any
  have l_pv := h_pv.len63
  have a_qv := h_qv.any
  have l_qv := h_qv.len63
  have a_uv := h_uv.any
  have l_uv := h_uv.len63
  have a_tv := h_tv.any
  have l_tv := h_tv.len63
  have hS := St.start0 w
  refine enterR Try.func53 rfl Try.ntmps53 Try.results53 rfl ?_
  refine W.seq ?_
  refine W.reg ?_
  refine Wx.box (cs := [pv, qv]) hS rfl rfl rfl (fun g_1 w_2 hx_4 hb_3 hS => ?_)
  refine Wx.box (cs := [uv, tv]) hS rfl rfl rfl (fun g_5 w_6 hx_8 hb_7 hS => ?_)
  refine Wx.rd (v := .int .i64 0) (rd_assign rfl) rfl ?_
  refine Wx.nil ?_
  refine W.seq ?_
  refine W.reg ?_
  refine Wx.rd (v := .int .i64 0) (rd_assign rfl) rfl ?_
  refine Wx.nil ?_
  refine W.seq ?_
  refine W.seq ?_
  refine W.reg ?_
  refine Wx.rd (v := .pointer (some ⟨g_1, 0, none⟩)) (rd_fieldAddr rfl foLl_62_0) rfl ?_
  refine Wx.rd (v := pv) (rd_loadX hS 1 rfl rfl rfl Try.isAgg39) rfl ?_
  refine Wx.rd (v := .int .i64 (p.length : Int)) (rd_lenV rfl (hS.arg a_pv) Try.underlying39) rfl ?_
  refine Wx.rd (v := .int .i64 0) (rd_move rfl) rfl ?_
  refine Wx.nil ?_
  refine W.block ?_
  refine W.loop [5, 6, 7, 11, 12, 13, 14, 15, 16, 17, 18, 19, 20, 21, 22, 23, 24, 25, 26, 27, 28, 29, 30, 31] (fun x : Int × Int => match x with | (out, k) => [(5, .int .i64 out), (11, .int .i64 k)]) (fun (x : Int × Int) w' => match x with | (out, k) => St w [] w' [.box g_5 62 [uv, tv], .box g_1 62 [pv, qv]] ∧ 0 ≤ k ∧ k ≤ p.length ∧ out + (costV (p.drop k.toNat) (q.drop k.toNat) - costV (p.drop k.toNat) (t.drop k.toNat)) = leadS (p, q) (u, t) ∧ -81 * k ≤ out ∧ out ≤ 81 * k) (fun x : Int × Int => match x with | (out, k) => (p.length - k).toNat) (0, 0) ⟨rfl, rfl, trivial⟩ ⟨hS, (by first | omega | simp), (by first | omega | simp), (Int.zero_add _), (by omega), (by omega)⟩ ?_
  rintro ⟨out, k⟩ u_10 w_9 ⟨hS, h0, h1, h2, h3, h4⟩
  have hm81 := fun h : k < p.length => mul81 (ix_in p_p h0 h) (ix_in p_q h0 (by omega)) (ix_in p_t h0 (by omega))
  have hqb := fun h : k < p.length => ix_in p_q h0 (show k < q.length by omega)
  have htb := fun h : k < p.length => ix_in p_t h0 (show k < t.length by omega)
  refine W.seq ?_
  refine W.reg ?_
  refine Wx.rd (v := .bool (decide (k < (p.length : Int)))) (rd_lss rfl rfl) rfl ?_
  refine Wx.nil ?_
  refine W.seq ?_
  refine W.condD rfl (fun c0 => ?_) (fun c0 => ?_)
  · -- yes
    have hm81 := hm81 c0
    have hqb := hqb c0
    have htb := htb c0
    refine W.skip ?_
    refine W.seq ?_
    refine W.block ?_
    refine W.seq ?_
    refine W.reg ?_
    refine Wx.rd (v := .int .i64 k) (rd_move rfl) rfl ?_
    refine Wx.ex (rd_index 0 (hS.arg a_pv) rfl rfl Try.underlying39 Try.sizeOf3 (by first | omega | (simp only [List.length_set, List.length_append, List.length_cons, List.length_nil, List.length_replicate]; omega)) (by first | omega | (simp only [List.length_set, List.length_append, List.length_cons, List.length_nil, List.length_replicate]; omega))) rfl (fun p_11 hp_12 => ?_)
    refine Wx.rd (v := .int .i64 (ix 0 p k)) (rd_loadI hp_12 rfl Try.isAgg3 Try.sizeOf3) rfl ?_
    have bd_13 := bd_i64 hp_12.inK
    refine Wx.rd (v := .int .i64 k) (rd_assign rfl) rfl ?_
    refine Wx.rd (v := .int .i64 (ix 0 p k)) (rd_assign rfl) rfl ?_
    refine Wx.nil ?_
    refine W.regQ mixedLl_ (by kernel_rfl) ?_
    refine Wx.rd (v := .int .i64 out) (rd_move rfl) rfl ?_
    refine Wx.rd (v := .int .i64 (ix 0 p k)) (rd_move rfl) rfl ?_
    refine Wx.rd (v := .pointer (some ⟨g_1, 1, none⟩)) (rd_fieldAddr rfl foLl_62_1) rfl ?_
    refine Wx.rd (v := qv) (rd_loadX hS 1 rfl rfl rfl Try.isAgg39) rfl ?_
    refine Wx.rd (v := .int .i64 k) (rd_move rfl) rfl ?_
    refine Wx.ex (rd_index 0 (hS.arg a_qv) rfl rfl Try.underlying39 Try.sizeOf3 (by first | omega | (simp only [List.length_set, List.length_append, List.length_cons, List.length_nil, List.length_replicate]; omega)) (by first | omega | (simp only [List.length_set, List.length_append, List.length_cons, List.length_nil, List.length_replicate]; omega))) rfl (fun p_14 hp_15 => ?_)
    refine Wx.rd (v := .int .i64 (ix 0 q k)) (rd_loadI hp_15 rfl Try.isAgg3 Try.sizeOf3) rfl ?_
    have bd_16 := bd_i64 hp_15.inK
    refine Wx.rd (v := .pointer (some ⟨g_5, 1, none⟩)) (rd_fieldAddr rfl foLl_62_1) rfl ?_
    refine Wx.rd (v := tv) (rd_loadX hS 0 rfl rfl rfl Try.isAgg39) rfl ?_
    refine Wx.rd (v := .int .i64 k) (rd_move rfl) rfl ?_
    refine Wx.ex (rd_index 0 (hS.arg a_tv) rfl rfl Try.underlying39 Try.sizeOf3 (by first | omega | (simp only [List.length_set, List.length_append, List.length_cons, List.length_nil, List.length_replicate]; omega)) (by first | omega | (simp only [List.length_set, List.length_append, List.length_cons, List.length_nil, List.length_replicate]; omega))) rfl (fun p_17 hp_18 => ?_)
    refine Wx.rd (v := .int .i64 (ix 0 t k)) (rd_loadI hp_18 rfl Try.isAgg3 Try.sizeOf3) rfl ?_
    have bd_19 := bd_i64 hp_18.inK
    refine Wx.rd (v := .int .i64 ((ix 0 q k) - (ix 0 t k))) (rd_sub rfl rfl (in_i64 (by omega) (by omega))) rfl ?_
    refine Wx.rd (v := .int .i64 ((ix 0 p k) * ((ix 0 q k) - (ix 0 t k)))) (rd_mul rfl rfl (in_i64 (by omega) (by omega))) rfl ?_
    refine Wx.rd (v := .int .i64 (out + ((ix 0 p k) * ((ix 0 q k) - (ix 0 t k))))) (rd_add rfl rfl (in_i64 (by omega) (by omega))) rfl ?_
    refine Wx.rd (v := .int .i64 (out + ((ix 0 p k) * ((ix 0 q k) - (ix 0 t k))))) (rd_assign rfl) rfl ?_
    refine Wx.nilQ (fun w_20 hx_21 => ?_)
    have hS := hS.ext hx_21
    refine W.reg ?_
    refine Wx.rd (v := .int .i64 (k + 1)) (rd_add rfl rfl (in_i64 (by omega) (by omega))) rfl ?_
    refine Wx.rd (v := .int .i64 (k + 1)) (rd_move rfl) rfl ?_
    refine Wx.nil ?_
    refine ⟨(out + ((ix 0 p k) * ((ix 0 q k) - (ix 0 t k))), k + 1), (by show (p.length - (k + 1)).toNat < (p.length - k).toNat; omega), ?_, ?_, Out.look rfl Out.self⟩
    · exact ⟨hS, (by first | omega | assumption), (by first | omega | assumption), (lead_next h0 (by omega) (by omega) (by omega) h2), (by first | omega | assumption), (by first | omega | assumption)⟩
    · exact ⟨rfl, rfl, trivial⟩
  · -- no
    refine W.exit rfl ?_
    refine W.seq ?_
    refine W.reg ?_
    refine Wx.rd (v := .int .i64 out) (rd_move rfl) rfl ?_
    refine Wx.rd (v := .int .i64 out) (rd_assign rfl) rfl ?_
    refine Wx.nil ?_
    have e0_0 : (leadS (p, q) (u, t)) = (out : Int) := by exact lead_end (by omega) h2
    exact W.ret ⟨.int .i64 out, ResIs.one, hS.bel, (by rw [e0_0])⟩
end Go.Proofs.Ytjbcpggikaeleaa

namespace Go.Proofs.Ytjbcpggikaeleaa
open Go.Wk Go.RowKit Go.Lib
set_option linter.unusedVariables false
set_option linter.unusedSimpArgs false
theorem mixedLm_ : Try.prog.follows .mixedOrders = true := by kernel_rfl

set_option maxHeartbeats 4000000 in
set_option maxRecDepth 10000 in
theorem F47 {v : Value} {l : List ((List Int) × (List Int))} {O : List (Option Nat)} {w : World} (h_v : V (tSl (tP (tSl (tI .i64)) (tSl (tI .i64)))) l v O w) (p_ok : SalesOK l) (hO : ∀ b, some b ∈ O → b < w.heap.size) : Calls Try.prog 47 #[v] w (Ret w (fun r _ => r = .bool (!(noR l)))) := by
  obtain ⟨gd, hgd, hok⟩ := p_ok.at
  have hl6 := p_ok.1
  have a_v := h_v
  have l_v := h_v.len63
  have hS := St.start w O hO
  refine enterR Try.func47 rfl Try.ntmps47 Try.results47 rfl ?_
  refine W.seq ?_
  refine W.reg ?_
  refine Wx.rd (v := .bool false) (rd_assign rfl) rfl ?_
  refine Wx.nil ?_
  refine W.seq ?_
  refine W.reg ?_
  refine Wx.rd (v := v) (rd_move rfl) rfl ?_
  refine Wx.rd (v := .int .i64 (l.length : Int)) (rd_lenV rfl (hS.arg a_v) Try.underlying22) rfl ?_
  refine Wx.rd (v := .int .i64 (l.length : Int)) (rd_assign rfl) rfl ?_
  refine Wx.nil ?_
  refine W.seq ?_
  refine W.reg ?_
  refine Wx.alloc (cs := List.map Value.bool (List.replicate 36 false)) hS Try.zeroValue82 (by kernel_rfl) rfl (fun g_1 w_2 hx_4 hb_3 hS => ?_)
  have hS : St _ _ w_2 [.box g_1 82 (List.map Value.bool (List.replicate 36 false))] := hS
  refine Wx.nil ?_
  refine W.seq ?_
  refine W.seq ?_
  refine W.reg ?_
  refine Wx.rd (v := .int .i64 (l.length : Int)) (rd_move rfl) rfl ?_
  refine Wx.rd (v := .int .i64 0) (rd_move rfl) rfl ?_
  refine Wx.nil ?_
  refine W.block ?_
  refine W.loop [5, 6, 15, 16, 17, 18, 19, 20, 21, 22, 23, 24, 25, 26, 27, 28, 29, 30, 31, 32, 33, 34, 35, 36, 37] (fun x : Int × (List Bool) => match x with | (a, T) => [(15, .int .i64 a)]) (fun (x : Int × (List Bool)) w' => match x with | (a, T) => St w O w' [.box g_1 82 (List.map Value.bool T)] ∧ 0 ≤ a ∧ a ≤ l.length ∧ (T.length : Int) = 36 ∧ fillI (gS l) l.length a 0 (tbR T)) (fun x : Int × (List Bool) => match x with | (a, T) => (l.length - a).toNat) (0, (List.replicate 36 false)) ⟨rfl, trivial⟩ ⟨hS, (by first | omega | simp), (by first | omega | simp), (rfl), (fill_start)⟩ ?_
  rintro ⟨a, T⟩ u_6 w_5 ⟨hS, h0, h1, h2, h3⟩
  refine W.seq ?_
  refine W.reg ?_
  refine Wx.rd (v := .bool (decide (a < (l.length : Int)))) (rd_lss rfl rfl) rfl ?_
  refine Wx.nil ?_
  refine W.seq ?_
  refine W.condD rfl (fun c0 => ?_) (fun c0 => ?_)
  · -- yes
    refine W.skip ?_
    refine W.seq ?_
    refine W.block ?_
    refine W.seq ?_
    refine W.reg ?_
    refine Wx.rd (v := .int .i64 a) (rd_move rfl) rfl ?_
    refine Wx.rd (v := .int .i64 a) (rd_assign rfl) rfl ?_
    refine Wx.nil ?_
    refine W.seq ?_
    refine W.reg ?_
    refine Wx.rd (v := .int .i64 (l.length : Int)) (rd_move rfl) rfl ?_
    refine Wx.rd (v := .int .i64 0) (rd_move rfl) rfl ?_
    refine Wx.nil ?_
    refine W.block ?_
    refine W.loop [6, 19, 20, 21, 22, 23, 24, 25, 26, 27, 28, 29, 30, 31, 32, 33, 34, 35, 36] (fun x : Int × (List Bool) => match x with | (b, T2) => [(19, .int .i64 b)]) (fun (x : Int × (List Bool)) w' => match x with | (b, T2) => St w O w' [.box g_1 82 (List.map Value.bool T2)] ∧ 0 ≤ b ∧ b ≤ l.length ∧ (T2.length : Int) = 36 ∧ fillI (gS l) l.length a b (tbR T2)) (fun x : Int × (List Bool) => match x with | (b, T2) => (l.length - b).toNat) (0, T) ⟨rfl, trivial⟩ ⟨hS, (by first | omega | simp), (by first | omega | simp), (h2), (h3)⟩ ?_
    rintro ⟨b, T2⟩ u_8 w_7 ⟨hS, k0, k1, k2, k3⟩
    refine W.seq ?_
    refine W.reg ?_
    refine Wx.rd (v := .bool (decide (b < (l.length : Int)))) (rd_lss rfl rfl) rfl ?_
    refine Wx.nil ?_
    refine W.seq ?_
    refine W.condD rfl (fun c1 => ?_) (fun c1 => ?_)
    · -- yes
      refine W.skip ?_
      refine W.seq ?_
      refine W.block ?_
      refine W.seq ?_
      refine W.reg ?_
      refine Wx.rd (v := .int .i64 b) (rd_move rfl) rfl ?_
      refine Wx.rd (v := .int .i64 b) (rd_assign rfl) rfl ?_
      refine Wx.nil ?_
      refine W.regT 14 mixedLm_ (by kernel_rfl) ?_
      refine Wx.rd (v := .int .i64 a) (rd_move rfl) rfl ?_
      refine Wx.rd (v := .int .i64 b) (rd_move rfl) rfl ?_
      refine Wx.rd (v := v) (rd_move rfl) rfl ?_
      refine Wx.rd (v := .int .i64 a) (rd_move rfl) rfl ?_
      refine Wx.ex (rd_index ([], []) (hS.arg a_v) rfl rfl Try.underlying22 Try.sizeOf62 (by first | omega | (simp only [List.length_set, List.length_append, List.length_cons, List.length_nil, List.length_replicate]; omega)) (by first | omega | (simp only [List.length_set, List.length_append, List.length_cons, List.length_nil, List.length_replicate]; omega))) rfl (fun p_9 hp_10 => ?_)
      refine Wx.ex (rd_load hp_10 rfl Try.isAgg62 Try.sizeOf62) rfl (fun v_11 hv_12 => ?_)
      obtain ⟨v_13, v_14, rfl, hv_15, hv_16⟩ := hv_12.s2
      have hS := hS.add (hv_15)
      have ln_18 := (hS.v 0 rfl).len63
      have hS := hS.add (V.upF (hv_16))
      have ln_20 := (hS.v 0 rfl).len63
      refine Wx.rd (v := v) (rd_move rfl) rfl ?_
      refine Wx.rd (v := .int .i64 b) (rd_move rfl) rfl ?_
      refine Wx.ex (rd_index ([], []) (hS.arg a_v) rfl rfl Try.underlying22 Try.sizeOf62 (by first | omega | (simp only [List.length_set, List.length_append, List.length_cons, List.length_nil, List.length_replicate]; omega)) (by first | omega | (simp only [List.length_set, List.length_append, List.length_cons, List.length_nil, List.length_replicate]; omega))) rfl (fun p_21 hp_22 => ?_)
      refine Wx.ex (rd_load hp_22 rfl Try.isAgg62 Try.sizeOf62) rfl (fun v_23 hv_24 => ?_)
      obtain ⟨v_25, v_26, rfl, hv_27, hv_28⟩ := hv_24.s2
      have hS := hS.add (hv_27)
      have ln_30 := (hS.v 0 rfl).len63
      have hS := hS.add (V.upF (hv_28))
      have ln_32 := (hS.v 0 rfl).len63
      refine Wx.callV (v := .int .i64 (leadS (((ix ([], []) l a).1), ((ix ([], []) l a).2)) (((ix ([], []) l b).1), ((ix ([], []) l b).2)))) (run_callF Try.call53 rfl) (fun w_33 hw_34 => (F53 ((hS.v 3 rfl).ext hw_34) ((hS.v 2 rfl).ext hw_34) ((hS.v 1 rfl).ext hw_34) ((hS.v 0 rfl).ext hw_34) (hok a (by omega) (by omega)).b1 (hok a (by omega) (by omega)).b2 (hok b (by omega) (by omega)).b2 (by have := (hok a (by omega) (by omega)).l1; omega) (by have h1 := (hok a (by omega) (by omega)).l1; have h2 := (hok a (by omega) (by omega)).l2; omega) (by have h1 := (hok a (by omega) (by omega)).l1; have h2 := (hok b (by omega) (by omega)).l2; omega))) rfl ?_
      rw [show (leadS (((ix ([], []) l a).1), ((ix ([], []) l a).2)) (((ix ([], []) l b).1), ((ix ([], []) l b).2)) : Int) = leadS (ix ([], []) l a) (ix ([], []) l b) from rfl]
      have hld := lead_bd9 (hok a (by omega) (by omega)) hgd.2 (hok b (by omega) (by omega))
      refine Wx.rd (v := .bool (decide (0 ≤ (leadS (ix ([], []) l a) (ix ([], []) l b))))) (rd_geq rfl rfl) rfl ?_
      refine Wx.rd (v := .pointer (some ⟨g_1, 0 + a.toNat * 6, none⟩)) (rd_indexArr rfl rfl Try.underlying82 Try.sizeOf81 (by omega) (by omega)) rfl ?_
      refine Wx.rd (v := .pointer (some ⟨g_1, 0 + a.toNat * 6 + b.toNat * 1, none⟩)) (rd_indexArr rfl rfl Try.underlying81 Try.sizeOf4 (by omega) (by omega)) rfl ?_
      refine Wx.nilQ (fun w_35 hx_36 => ?_)
      have hS := hS.ext hx_36
      refine Wx.storeXa (j := a * 6 + b) (f := Value.bool) (u := (decide (0 ≤ (leadS (ix ([], []) l a) (ix ([], []) l b))))) hS 4 rfl rfl (by omega) rfl rfl rfl Try.sizeOf4 (by omega) (by omega) (fun w_37 hz_38 hS => ?_)
      refine Wx.nil ?_
      refine W.reg ?_
      refine Wx.rd (v := .int .i64 (b + 1)) (rd_add rfl rfl (in_i64 (by omega) (by omega))) rfl ?_
      refine Wx.rd (v := .int .i64 (b + 1)) (rd_move rfl) rfl ?_
      refine Wx.nil ?_
      refine ⟨(b + 1, List.set T2 (a * 6 + b).toNat (decide (0 ≤ (leadS (ix ([], []) l a) (ix ([], []) l b))))), (by show (l.length - (b + 1)).toNat < (l.length - b).toNat; omega), ?_, ?_, Out.look rfl Out.self⟩
      · exact ⟨St.tl (St.tl (St.tl (hS.tl))), (by first | omega | assumption), (by first | omega | assumption), (by rw [List.length_set]; exact k2), (tb_fill hl6 k2 ⟨h0, by omega⟩ ⟨k0, by omega⟩ rfl k3)⟩
      · exact ⟨rfl, trivial⟩
    · -- no
      refine W.exit rfl ?_
      refine W.reg ?_
      refine Wx.rd (v := .int .i64 (a + 1)) (rd_add rfl rfl (in_i64 (by omega) (by omega))) rfl ?_
      refine Wx.rd (v := .int .i64 (a + 1)) (rd_move rfl) rfl ?_
      refine Wx.nil ?_
      refine ⟨(a + 1, T2), (by show (l.length - (a + 1)).toNat < (l.length - a).toNat; omega), ?_, ?_, Out.look rfl (Out.hav rfl (Out.look rfl Out.self))⟩
      · exact ⟨hS, (by first | omega | assumption), (by first | omega | assumption), (k2), (fill_row k3 (by omega))⟩
      · exact ⟨rfl, trivial⟩
  · -- no
    refine W.exit rfl ?_
    refine W.seq ?_
    refine W.seq ?_
    refine W.reg ?_
    refine Wx.rd (v := .int .i64 (l.length : Int)) (rd_move rfl) rfl ?_
    refine Wx.rd (v := .int .i64 0) (rd_move rfl) rfl ?_
    refine Wx.nil ?_
    refine W.block ?_
    refine W.loop [7, 8, 9, 39, 40, 41, 42, 43, 44, 45, 46, 47, 48, 49, 50, 51, 52, 53, 54, 55, 56, 57, 58, 59, 60, 61, 62, 63, 64, 65, 66, 67, 68, 69, 70, 71, 72, 73, 74, 75, 76, 77, 78, 79] (fun x : Int × (List Bool) => match x with | (r, T4) => [(39, .int .i64 r)]) (fun (x : Int × (List Bool)) w' => match x with | (r, T4) => St w O w' [.box g_1 82 (List.map Value.bool T4)] ∧ 0 ≤ r ∧ r ≤ l.length ∧ (T4.length : Int) = 36 ∧ RngI (gS l) l.length (r + 1) 0 0 0 (tbR T4)) (fun x : Int × (List Bool) => match x with | (r, T4) => (l.length - r).toNat) (0, T) ⟨rfl, trivial⟩ ⟨hS, (by first | omega | simp), (by first | omega | simp), (h2), (rg_start (fun i _ _ => gS_refl l i) h3 (by omega))⟩ ?_
    rintro ⟨r, T4⟩ u_40 w_39 ⟨hS, r0, r1, r2, r3⟩
    refine W.seq ?_
    refine W.reg ?_
    refine Wx.rd (v := .bool (decide (r < (l.length : Int)))) (rd_lss rfl rfl) rfl ?_
    refine Wx.nil ?_
    refine W.seq ?_
    refine W.condD rfl (fun c2 => ?_) (fun c2 => ?_)
    · -- yes
      refine W.skip ?_
      refine W.seq ?_
      refine W.block ?_
      refine W.seq ?_
      refine W.reg ?_
      refine Wx.rd (v := .int .i64 (l.length : Int)) (rd_move rfl) rfl ?_
      refine Wx.rd (v := .int .i64 0) (rd_move rfl) rfl ?_
      refine Wx.nil ?_
      refine W.block ?_
      refine W.loop [7, 8, 9, 42, 43, 44, 45, 46, 47, 48, 49, 50, 51, 52, 53, 54, 55, 56, 57, 58, 59, 60, 61, 62, 63, 64, 65, 66, 67, 68, 69, 70, 71, 72, 73, 74, 75, 76, 77, 78] (fun x : Int × (List Bool) => match x with | (a, T6) => [(42, .int .i64 a)]) (fun (x : Int × (List Bool)) w' => match x with | (a, T6) => St w O w' [.box g_1 82 (List.map Value.bool T6)] ∧ 0 ≤ a ∧ a ≤ l.length ∧ (T6.length : Int) = 36 ∧ RngI (gS l) l.length (r + 1) a 0 0 (tbR T6)) (fun x : Int × (List Bool) => match x with | (a, T6) => (l.length - a).toNat) (0, T4) ⟨rfl, trivial⟩ ⟨hS, (by first | omega | simp), (by first | omega | simp), (r2), (r3)⟩ ?_
      rintro ⟨a, T6⟩ u_42 w_41 ⟨hS, m0, m1, m2, m3⟩
      refine W.seq ?_
      refine W.reg ?_
      refine Wx.rd (v := .bool (decide (a < (l.length : Int)))) (rd_lss rfl rfl) rfl ?_
      refine Wx.nil ?_
      refine W.seq ?_
      refine W.condD rfl (fun c3 => ?_) (fun c3 => ?_)
      · -- yes
        refine W.skip ?_
        refine W.seq ?_
        refine W.block ?_
        refine W.seq ?_
        refine W.reg ?_
        refine Wx.rd (v := .int .i64 a) (rd_move rfl) rfl ?_
        refine Wx.rd (v := .int .i64 a) (rd_assign rfl) rfl ?_
        refine Wx.nil ?_
        refine W.seq ?_
        refine W.reg ?_
        refine Wx.rd (v := .int .i64 (l.length : Int)) (rd_move rfl) rfl ?_
        refine Wx.rd (v := .int .i64 0) (rd_move rfl) rfl ?_
        refine Wx.nil ?_
        refine W.block ?_
        refine W.loop [8, 9, 46, 47, 48, 49, 50, 51, 52, 53, 54, 55, 56, 57, 58, 59, 60, 61, 62, 63, 64, 65, 66, 67, 68, 69, 70, 71, 72, 73, 74, 75, 76, 77] (fun x : Int × (List Bool) => match x with | (b, T8) => [(46, .int .i64 b)]) (fun (x : Int × (List Bool)) w' => match x with | (b, T8) => St w O w' [.box g_1 82 (List.map Value.bool T8)] ∧ 0 ≤ b ∧ b ≤ l.length ∧ (T8.length : Int) = 36 ∧ RngI (gS l) l.length (r + 1) a b 0 (tbR T8)) (fun x : Int × (List Bool) => match x with | (b, T8) => (l.length - b).toNat) (0, T6) ⟨rfl, trivial⟩ ⟨hS, (by first | omega | simp), (by first | omega | simp), (m2), (m3)⟩ ?_
        rintro ⟨b, T8⟩ u_44 w_43 ⟨hS, q0, q1, q2, q3⟩
        refine W.seq ?_
        refine W.reg ?_
        refine Wx.rd (v := .bool (decide (b < (l.length : Int)))) (rd_lss rfl rfl) rfl ?_
        refine Wx.nil ?_
        refine W.seq ?_
        refine W.condD rfl (fun c4 => ?_) (fun c4 => ?_)
        · -- yes
          refine W.skip ?_
          refine W.seq ?_
          refine W.block ?_
          refine W.seq ?_
          refine W.reg ?_
          refine Wx.rd (v := .int .i64 b) (rd_move rfl) rfl ?_
          refine Wx.rd (v := .int .i64 b) (rd_assign rfl) rfl ?_
          refine Wx.nil ?_
          refine W.seq ?_
          refine W.reg ?_
          refine Wx.rd (v := .int .i64 (l.length : Int)) (rd_move rfl) rfl ?_
          refine Wx.rd (v := .int .i64 0) (rd_move rfl) rfl ?_
          refine Wx.nil ?_
          refine W.block ?_
          refine W.loop [9, 50, 51, 52, 53, 54, 55, 56, 57, 58, 59, 60, 61, 62, 63, 64, 65, 66, 67, 68, 69, 70, 71, 72, 73, 74, 75, 76] (fun x : Int × (List Bool) => match x with | (c, T10) => [(50, .int .i64 c)]) (fun (x : Int × (List Bool)) w' => match x with | (c, T10) => St w O w' [.box g_1 82 (List.map Value.bool T10)] ∧ 0 ≤ c ∧ c ≤ l.length ∧ (T10.length : Int) = 36 ∧ RngI (gS l) l.length (r + 1) a b c (tbR T10)) (fun x : Int × (List Bool) => match x with | (c, T10) => (l.length - c).toNat) (0, T8) ⟨rfl, trivial⟩ ⟨hS, (by first | omega | simp), (by first | omega | simp), (q2), (q3)⟩ ?_
          rintro ⟨c, T10⟩ u_46 w_45 ⟨hS, s0, s1, s2, s3⟩
          refine W.seq ?_
          refine W.reg ?_
          refine Wx.rd (v := .bool (decide (c < (l.length : Int)))) (rd_lss rfl rfl) rfl ?_
          refine Wx.nil ?_
          refine W.seq ?_
          refine W.condD rfl (fun c5 => ?_) (fun c5 => ?_)
          · -- yes
            refine W.skip ?_
            refine W.seq ?_
            refine W.block ?_
            refine W.seq ?_
            refine W.reg ?_
            refine Wx.rd (v := .int .i64 c) (rd_move rfl) rfl ?_
            refine Wx.rd (v := .int .i64 c) (rd_assign rfl) rfl ?_
            refine Wx.nil ?_
            refine W.regT 23 mixedLm_ (by kernel_rfl) ?_
            refine Wx.rd (v := .int .i64 a) (rd_move rfl) rfl ?_
            refine Wx.rd (v := .int .i64 c) (rd_move rfl) rfl ?_
            refine Wx.rd (v := .int .i64 a) (rd_move rfl) rfl ?_
            refine Wx.rd (v := .int .i64 c) (rd_move rfl) rfl ?_
            refine Wx.rd (v := .pointer (some ⟨g_1, 0 + a.toNat * 6, none⟩)) (rd_indexArr rfl rfl Try.underlying82 Try.sizeOf81 (by omega) (by omega)) rfl ?_
            refine Wx.rd (v := .pointer (some ⟨g_1, 0 + a.toNat * 6 + c.toNat * 1, none⟩)) (rd_indexArr rfl rfl Try.underlying81 Try.sizeOf4 (by omega) (by omega)) rfl ?_
            refine Wx.rd (v := .bool (ix false T10 (a * 6 + c))) (rd_loadXa (d := false) (f := Value.bool) (j := a * 6 + c) hS 0 rfl rfl (by omega) (by omega) (by omega) Try.isAgg4) rfl ?_
            refine Wx.rd (v := .bool (ix false T10 (a * 6 + c))) (rd_move rfl) rfl ?_
            refine Wx.cutQ (X := Unit) 13 [61, 62, 63, 64, 65, 66, 67, 68, 69, 70, 71, 72, 73] (fun _ => [(73, .bool (ix false T10 (a * 6 + c) || (ix false T10 (a * 6 + b) && ix false T10 (b * 6 + c))))]) (fun _ => True) ?_ ?_
            · rcases Bool.eq_false_or_eq_true (ix false T10 (a * 6 + c)) with g_47 | g_47
              · -- True
                have gp_48 := g_47
                try simp only [Bool.and_eq_true, Bool.or_eq_true, Bool.not_eq_true', Bool.and_eq_false_iff, Bool.or_eq_false_iff, Bool.not_eq_false', decide_eq_true_eq, decide_eq_false_iff_not, not_or, Bool.false_eq_true, Bool.true_eq_false, false_or, or_false, not_false_eq_true] at gp_48
                refine Wx.gnoB rfl rfl (congrArg Value.bool g_47) rfl rfl ?_
                refine Wx.gnoB rfl rfl (congrArg Value.bool g_47) rfl rfl ?_
                refine Wx.gnoB rfl rfl (congrArg Value.bool g_47) rfl rfl ?_
                refine Wx.gnoB rfl rfl (congrArg Value.bool g_47) rfl rfl ?_
                refine Wx.gnoB rfl rfl (congrArg Value.bool g_47) rfl rfl ?_
                refine Wx.gnoB rfl rfl (congrArg Value.bool g_47) rfl rfl ?_
                refine Wx.gno rfl rfl rfl rfl ?_
                refine Wx.gno rfl rfl rfl rfl ?_
                refine Wx.gno rfl rfl rfl rfl ?_
                refine Wx.gno rfl rfl rfl rfl ?_
                refine Wx.gno rfl rfl rfl rfl ?_
                refine Wx.gnoB rfl rfl (congrArg Value.bool g_47) rfl rfl ?_
                refine Wx.rd (v := .bool true) (rd_pickT (congrArg Value.bool g_47) rfl) rfl ?_
                refine Wx.nilQ (fun _ _ => ⟨(), trivial, ⟨?_, trivial⟩, Out.look rfl Out.refl⟩)
                show Value.bool true = Value.bool (ix false T10 (a * 6 + c) || (ix false T10 (a * 6 + b) && ix false T10 (b * 6 + c)))
                first | rw [g_47, Bool.true_or] | (rw [g_47]; rfl)
              · -- False
                have gp_49 := g_47
                try simp only [Bool.and_eq_true, Bool.or_eq_true, Bool.not_eq_true', Bool.and_eq_false_iff, Bool.or_eq_false_iff, Bool.not_eq_false', decide_eq_true_eq, decide_eq_false_iff_not, not_or, Bool.false_eq_true, Bool.true_eq_false, false_or, or_false, not_false_eq_true] at gp_49
                refine Wx.gyes rfl rfl (congrArg Value.bool g_47) ?_
                refine Wx.rd (v := .int .i64 a) (rd_move rfl) rfl ?_
                refine Wx.gyes rfl rfl (congrArg Value.bool g_47) ?_
                refine Wx.rd (v := .int .i64 b) (rd_move rfl) rfl ?_
                refine Wx.gyes rfl rfl (congrArg Value.bool g_47) ?_
                refine Wx.rd (v := .pointer (some ⟨g_1, 0 + a.toNat * 6, none⟩)) (rd_indexArr rfl rfl Try.underlying82 Try.sizeOf81 (by omega) (by omega)) rfl ?_
                refine Wx.gyes rfl rfl (congrArg Value.bool g_47) ?_
                refine Wx.rd (v := .pointer (some ⟨g_1, 0 + a.toNat * 6 + b.toNat * 1, none⟩)) (rd_indexArr rfl rfl Try.underlying81 Try.sizeOf4 (by omega) (by omega)) rfl ?_
                refine Wx.gyes rfl rfl (congrArg Value.bool g_47) ?_
                refine Wx.rd (v := .bool (ix false T10 (a * 6 + b))) (rd_loadXa (d := false) (f := Value.bool) (j := a * 6 + b) hS 0 rfl rfl (by omega) (by omega) (by omega) Try.isAgg4) rfl ?_
                refine Wx.gyes rfl rfl (congrArg Value.bool g_47) ?_
                refine Wx.rd (v := .bool (ix false T10 (a * 6 + b))) (rd_move rfl) rfl ?_
                refine Wx.cutQ (X := Unit) 6 [67, 68, 69, 70, 71, 72] (fun _ => [(72, .bool (ix false T10 (a * 6 + b) && ix false T10 (b * 6 + c)))]) (fun _ => True) ?_ ?_
                · rcases Bool.eq_false_or_eq_true (ix false T10 (a * 6 + b)) with g_50 | g_50
                  · -- True
                    have gp_51 := g_50
                    try simp only [Bool.and_eq_true, Bool.or_eq_true, Bool.not_eq_true', Bool.and_eq_false_iff, Bool.or_eq_false_iff, Bool.not_eq_false', decide_eq_true_eq, decide_eq_false_iff_not, not_or, Bool.false_eq_true, Bool.true_eq_false, false_or, or_false, not_false_eq_true] at gp_51
                    refine Wx.gyes rfl rfl (congrArg Value.bool g_50) ?_
                    refine Wx.rd (v := .int .i64 b) (rd_move rfl) rfl ?_
                    refine Wx.gyes rfl rfl (congrArg Value.bool g_50) ?_
                    refine Wx.rd (v := .int .i64 c) (rd_move rfl) rfl ?_
                    refine Wx.gyes rfl rfl (congrArg Value.bool g_50) ?_
                    refine Wx.rd (v := .pointer (some ⟨g_1, 0 + b.toNat * 6, none⟩)) (rd_indexArr rfl rfl Try.underlying82 Try.sizeOf81 (by omega) (by omega)) rfl ?_
                    refine Wx.gyes rfl rfl (congrArg Value.bool g_50) ?_
                    refine Wx.rd (v := .pointer (some ⟨g_1, 0 + b.toNat * 6 + c.toNat * 1, none⟩)) (rd_indexArr rfl rfl Try.underlying81 Try.sizeOf4 (by omega) (by omega)) rfl ?_
                    refine Wx.gyes rfl rfl (congrArg Value.bool g_50) ?_
                    refine Wx.rd (v := .bool (ix false T10 (b * 6 + c))) (rd_loadXa (d := false) (f := Value.bool) (j := b * 6 + c) hS 0 rfl rfl (by omega) (by omega) (by omega) Try.isAgg4) rfl ?_
                    refine Wx.gyes rfl rfl (congrArg Value.bool g_47) ?_
                    refine Wx.rd (v := .bool (ix false T10 (b * 6 + c))) (rd_pickT (congrArg Value.bool g_50) rfl) rfl ?_
                    refine Wx.nilQ (fun _ _ => ⟨(), trivial, ⟨?_, trivial⟩, Out.look rfl Out.refl⟩)
                    show Value.bool (ix false T10 (b * 6 + c)) = Value.bool (ix false T10 (a * 6 + b) && ix false T10 (b * 6 + c))
                    first | rw [g_50, Bool.true_and] | (rw [g_50]; rfl)
                  · -- False
                    have gp_52 := g_50
                    try simp only [Bool.and_eq_true, Bool.or_eq_true, Bool.not_eq_true', Bool.and_eq_false_iff, Bool.or_eq_false_iff, Bool.not_eq_false', decide_eq_true_eq, decide_eq_false_iff_not, not_or, Bool.false_eq_true, Bool.true_eq_false, false_or, or_false, not_false_eq_true] at gp_52
                    refine Wx.gnoB rfl rfl (congrArg Value.bool g_50) rfl rfl ?_
                    refine Wx.gnoB rfl rfl (congrArg Value.bool g_50) rfl rfl ?_
                    refine Wx.gnoB rfl rfl (congrArg Value.bool g_50) rfl rfl ?_
                    refine Wx.gnoB rfl rfl (congrArg Value.bool g_50) rfl rfl ?_
                    refine Wx.gnoB rfl rfl (congrArg Value.bool g_50) rfl rfl ?_
                    refine Wx.gyes rfl rfl (congrArg Value.bool g_47) ?_
                    refine Wx.rd (v := .bool false) (rd_pickF (congrArg Value.bool g_50) rfl) rfl ?_
                    refine Wx.nilQ (fun _ _ => ⟨(), trivial, ⟨?_, trivial⟩, Out.look rfl Out.refl⟩)
                    show Value.bool false = Value.bool (ix false T10 (a * 6 + b) && ix false T10 (b * 6 + c))
                    first | rw [g_50, Bool.false_and] | (rw [g_50]; rfl)
                rintro ⟨⟩ u_54 -
                refine Wx.rd (v := .bool (ix false T10 (a * 6 + b) && ix false T10 (b * 6 + c))) (rd_pickF (congrArg Value.bool g_47) rfl) rfl ?_
                refine Wx.nilQ (fun _ _ => ⟨(), trivial, ⟨?_, trivial⟩, Out.look rfl (Out.hav rfl (Out.look rfl Out.refl))⟩)
                show Value.bool (ix false T10 (a * 6 + b) && ix false T10 (b * 6 + c)) = Value.bool (ix false T10 (a * 6 + c) || (ix false T10 (a * 6 + b) && ix false T10 (b * 6 + c)))
                first | rw [g_47, Bool.false_or] | (rw [g_47]; rfl)
            rintro ⟨⟩ u_56 -
            refine Wx.rd (v := .pointer (some ⟨g_1, 0 + a.toNat * 6, none⟩)) (rd_indexArr rfl rfl Try.underlying82 Try.sizeOf81 (by omega) (by omega)) rfl ?_
            refine Wx.rd (v := .pointer (some ⟨g_1, 0 + a.toNat * 6 + c.toNat * 1, none⟩)) (rd_indexArr rfl rfl Try.underlying81 Try.sizeOf4 (by omega) (by omega)) rfl ?_
            refine Wx.nilQ (fun w_57 hx_58 => ?_)
            have hS := hS.ext hx_58
            refine Wx.storeXa (j := a * 6 + c) (f := Value.bool) (u := (ix false T10 (a * 6 + c) || (ix false T10 (a * 6 + b) && ix false T10 (b * 6 + c)))) hS 0 rfl rfl (by omega) rfl rfl rfl Try.sizeOf4 (by omega) (by omega) (fun w_59 hz_60 hS => ?_)
            refine Wx.nil ?_
            refine W.reg ?_
            refine Wx.rd (v := .int .i64 (c + 1)) (rd_add rfl rfl (in_i64 (by omega) (by omega))) rfl ?_
            refine Wx.rd (v := .int .i64 (c + 1)) (rd_move rfl) rfl ?_
            refine Wx.nil ?_
            refine ⟨(c + 1, List.set T10 (a * 6 + c).toNat (ix false T10 (a * 6 + c) || (ix false T10 (a * 6 + b) && ix false T10 (b * 6 + c)))), (by show (l.length - (c + 1)).toNat < (l.length - c).toNat; omega), ?_, ?_, Out.look rfl (Out.hav rfl (Out.look rfl Out.self))⟩
            · exact ⟨hS, (by first | omega | assumption), (by first | omega | assumption), (by rw [List.length_set]; exact s2), (rg_step hl6 s2 (by omega) ⟨m0, by omega⟩ ⟨q0, by omega⟩ ⟨s0, by omega⟩ s3)⟩
            · exact ⟨rfl, trivial⟩
          · -- no
            refine W.exit rfl ?_
            refine W.reg ?_
            refine Wx.rd (v := .int .i64 (b + 1)) (rd_add rfl rfl (in_i64 (by omega) (by omega))) rfl ?_
            refine Wx.rd (v := .int .i64 (b + 1)) (rd_move rfl) rfl ?_
            refine Wx.nil ?_
            refine ⟨(b + 1, T10), (by show (l.length - (b + 1)).toNat < (l.length - b).toNat; omega), ?_, ?_, Out.look rfl (Out.hav rfl (Out.look rfl Out.self))⟩
            · exact ⟨hS, (by first | omega | assumption), (by first | omega | assumption), (s2), (rg_col s3 (by omega))⟩
            · exact ⟨rfl, trivial⟩
        · -- no
          refine W.exit rfl ?_
          refine W.reg ?_
          refine Wx.rd (v := .int .i64 (a + 1)) (rd_add rfl rfl (in_i64 (by omega) (by omega))) rfl ?_
          refine Wx.rd (v := .int .i64 (a + 1)) (rd_move rfl) rfl ?_
          refine Wx.nil ?_
          refine ⟨(a + 1, T8), (by show (l.length - (a + 1)).toNat < (l.length - a).toNat; omega), ?_, ?_, Out.look rfl (Out.hav rfl (Out.look rfl Out.self))⟩
          · exact ⟨hS, (by first | omega | assumption), (by first | omega | assumption), (q2), (rg_row q3 (by omega))⟩
          · exact ⟨rfl, trivial⟩
      · -- no
        refine W.exit rfl ?_
        refine W.reg ?_
        refine Wx.rd (v := .int .i64 (r + 1)) (rd_add rfl rfl (in_i64 (by omega) (by omega))) rfl ?_
        refine Wx.rd (v := .int .i64 (r + 1)) (rd_move rfl) rfl ?_
        refine Wx.nil ?_
        refine ⟨(r + 1, T6), (by show (l.length - (r + 1)).toNat < (l.length - r).toNat; omega), ?_, ?_, Out.look rfl (Out.hav rfl (Out.look rfl Out.self))⟩
        · exact ⟨hS, (by first | omega | assumption), (by first | omega | assumption), (m2), (rg_next (by omega) m3 (by omega))⟩
        · exact ⟨rfl, trivial⟩
    · -- no
      refine W.exit rfl ?_
      refine W.seq ?_
      refine W.seq ?_
      refine W.reg ?_
      refine Wx.rd (v := .int .i64 (l.length : Int)) (rd_move rfl) rfl ?_
      refine Wx.rd (v := .int .i64 0) (rd_move rfl) rfl ?_
      refine Wx.nil ?_
      refine W.block ?_
      have hT := rg_end r3 (by omega)
      refine W.loop [2, 10, 11, 81, 82, 83, 84, 85, 86, 87, 88, 89, 90, 91, 92, 93, 94, 95, 96, 97, 98, 99, 100, 101, 102, 103, 104, 105, 106] (fun (a : Int) => [(81, .int .i64 a)]) (fun (a : Int) w' => St w O w' [.box g_1 82 (List.map Value.bool T4)] ∧ 0 ≤ a ∧ a ≤ l.length ∧ (∀ x y, (0 ≤ x ∧ x < (l.length : Int)) → (0 ≤ y ∧ y < (l.length : Int)) → x < a → ¬ (bS l x y = true ∧ ledB (gS l) l.length y x = true))) (fun (a : Int) => (l.length - a).toNat) 0 ⟨rfl, trivial⟩ ⟨hS, (by first | omega | simp), (by first | omega | simp), (fun x y hx hy hk => by omega)⟩ ?_
      rintro a u_62 w_61 ⟨hS, u0, u1, u2⟩
      refine W.seq ?_
      refine W.reg ?_
      refine Wx.rd (v := .bool (decide (a < (l.length : Int)))) (rd_lss rfl rfl) rfl ?_
      refine Wx.nil ?_
      refine W.seq ?_
      refine W.condD rfl (fun c6 => ?_) (fun c6 => ?_)
      · -- yes
        refine W.skip ?_
        refine W.seq ?_
        refine W.block ?_
        refine W.seq ?_
        refine W.reg ?_
        refine Wx.rd (v := .int .i64 a) (rd_move rfl) rfl ?_
        refine Wx.rd (v := .int .i64 a) (rd_assign rfl) rfl ?_
        refine Wx.nil ?_
        refine W.seq ?_
        refine W.reg ?_
        refine Wx.rd (v := .int .i64 (l.length : Int)) (rd_move rfl) rfl ?_
        refine Wx.rd (v := .int .i64 0) (rd_move rfl) rfl ?_
        refine Wx.nil ?_
        refine W.block ?_
        refine W.loop [2, 11, 85, 86, 87, 88, 89, 90, 91, 92, 93, 94, 95, 96, 97, 98, 99, 100, 101, 102, 103, 104, 105] (fun (b : Int) => [(85, .int .i64 b)]) (fun (b : Int) w' => St w O w' [.box g_1 82 (List.map Value.bool T4)] ∧ 0 ≤ b ∧ b ≤ l.length ∧ (∀ y, (0 ≤ y ∧ y < (l.length : Int)) → y < b → ¬ (bS l a y = true ∧ ledB (gS l) l.length y a = true))) (fun (b : Int) => (l.length - b).toNat) 0 ⟨rfl, trivial⟩ ⟨hS, (by first | omega | simp), (by first | omega | simp), (fun y hy hk => by omega)⟩ ?_
        rintro b u_64 w_63 ⟨hS, x0, x1, x2⟩
        refine W.seq ?_
        refine W.reg ?_
        refine Wx.rd (v := .bool (decide (b < (l.length : Int)))) (rd_lss rfl rfl) rfl ?_
        refine Wx.nil ?_
        refine W.seq ?_
        refine W.condD rfl (fun c7 => ?_) (fun c7 => ?_)
        · -- yes
          refine W.skip ?_
          refine W.seq ?_
          refine W.block ?_
          refine W.seq ?_
          refine W.reg ?_
          refine Wx.rd (v := .int .i64 b) (rd_move rfl) rfl ?_
          refine Wx.rd (v := .int .i64 b) (rd_assign rfl) rfl ?_
          refine Wx.nil ?_
          refine W.seq ?_
          refine W.regQ mixedLm_ (by kernel_rfl) ?_
          refine Wx.rd (v := v) (rd_move rfl) rfl ?_
          refine Wx.rd (v := .int .i64 a) (rd_move rfl) rfl ?_
          refine Wx.ex (rd_index ([], []) (hS.arg a_v) rfl rfl Try.underlying22 Try.sizeOf62 (by first | omega | (simp only [List.length_set, List.length_append, List.length_cons, List.length_nil, List.length_replicate]; omega)) (by first | omega | (simp only [List.length_set, List.length_append, List.length_cons, List.length_nil, List.length_replicate]; omega))) rfl (fun p_65 hp_66 => ?_)
          refine Wx.ex (rd_load hp_66 rfl Try.isAgg62 Try.sizeOf62) rfl (fun v_67 hv_68 => ?_)
          obtain ⟨v_69, v_70, rfl, hv_71, hv_72⟩ := hv_68.s2
          have hS := hS.add (hv_71)
          have ln_74 := (hS.v 0 rfl).len63
          have hS := hS.add (V.upF (hv_72))
          have ln_76 := (hS.v 0 rfl).len63
          refine Wx.rd (v := v) (rd_move rfl) rfl ?_
          refine Wx.rd (v := .int .i64 b) (rd_move rfl) rfl ?_
          refine Wx.ex (rd_index ([], []) (hS.arg a_v) rfl rfl Try.underlying22 Try.sizeOf62 (by first | omega | (simp only [List.length_set, List.length_append, List.length_cons, List.length_nil, List.length_replicate]; omega)) (by first | omega | (simp only [List.length_set, List.length_append, List.length_cons, List.length_nil, List.length_replicate]; omega))) rfl (fun p_77 hp_78 => ?_)
          refine Wx.ex (rd_load hp_78 rfl Try.isAgg62 Try.sizeOf62) rfl (fun v_79 hv_80 => ?_)
          obtain ⟨v_81, v_82, rfl, hv_83, hv_84⟩ := hv_80.s2
          have hS := hS.add (hv_83)
          have ln_86 := (hS.v 0 rfl).len63
          have hS := hS.add (V.upF (hv_84))
          have ln_88 := (hS.v 0 rfl).len63
          refine Wx.callV (v := .int .i64 (leadS (((ix ([], []) l a).1), ((ix ([], []) l a).2)) (((ix ([], []) l b).1), ((ix ([], []) l b).2)))) (run_callF Try.call53 rfl) (fun w_89 hw_90 => (F53 ((hS.v 3 rfl).ext hw_90) ((hS.v 2 rfl).ext hw_90) ((hS.v 1 rfl).ext hw_90) ((hS.v 0 rfl).ext hw_90) (hok a (by omega) (by omega)).b1 (hok a (by omega) (by omega)).b2 (hok b (by omega) (by omega)).b2 (by have := (hok a (by omega) (by omega)).l1; omega) (by have h1 := (hok a (by omega) (by omega)).l1; have h2 := (hok a (by omega) (by omega)).l2; omega) (by have h1 := (hok a (by omega) (by omega)).l1; have h2 := (hok b (by omega) (by omega)).l2; omega))) rfl ?_
          rw [show (leadS (((ix ([], []) l a).1), ((ix ([], []) l a).2)) (((ix ([], []) l b).1), ((ix ([], []) l b).2)) : Int) = leadS (ix ([], []) l a) (ix ([], []) l b) from rfl]
          have hld := lead_bd9 (hok a (by omega) (by omega)) hgd.2 (hok b (by omega) (by omega))
          refine Wx.rd (v := .bool (decide (0 < (leadS (ix ([], []) l a) (ix ([], []) l b))))) (rd_gtr rfl rfl) rfl ?_
          refine Wx.rd (v := .bool (decide (0 < (leadS (ix ([], []) l a) (ix ([], []) l b))))) (rd_move rfl) rfl ?_
          refine Wx.cutQ (X := Unit) 6 [99, 100, 101, 102, 103, 104] (fun _ => [(104, .bool (decide (0 < (leadS (ix ([], []) l a) (ix ([], []) l b))) && ix false T4 (b * 6 + a)))]) (fun _ => True) ?_ ?_
          · rcases Bool.eq_false_or_eq_true (decide (0 < (leadS (ix ([], []) l a) (ix ([], []) l b)))) with g_91 | g_91
            · -- True
              have gp_92 := of_decide_eq_true g_91
              refine Wx.gyes rfl rfl (congrArg Value.bool g_91) ?_
              refine Wx.rd (v := .int .i64 b) (rd_move rfl) rfl ?_
              refine Wx.gyes rfl rfl (congrArg Value.bool g_91) ?_
              refine Wx.rd (v := .int .i64 a) (rd_move rfl) rfl ?_
              refine Wx.gyes rfl rfl (congrArg Value.bool g_91) ?_
              refine Wx.rd (v := .pointer (some ⟨g_1, 0 + b.toNat * 6, none⟩)) (rd_indexArr rfl rfl Try.underlying82 Try.sizeOf81 (by omega) (by omega)) rfl ?_
              refine Wx.gyes rfl rfl (congrArg Value.bool g_91) ?_
              refine Wx.rd (v := .pointer (some ⟨g_1, 0 + b.toNat * 6 + a.toNat * 1, none⟩)) (rd_indexArr rfl rfl Try.underlying81 Try.sizeOf4 (by omega) (by omega)) rfl ?_
              refine Wx.gyes rfl rfl (congrArg Value.bool g_91) ?_
              refine Wx.rd (v := .bool (ix false T4 (b * 6 + a))) (rd_loadXa (d := false) (f := Value.bool) (j := b * 6 + a) hS 4 rfl rfl (by omega) (by omega) (by omega) Try.isAgg4) rfl ?_
              refine Wx.rd (v := .bool (ix false T4 (b * 6 + a))) (rd_pickT (congrArg Value.bool g_91) rfl) rfl ?_
              refine Wx.nilQ (fun _ _ => ⟨(), trivial, ⟨?_, trivial⟩, Out.look rfl Out.refl⟩)
              show Value.bool (ix false T4 (b * 6 + a)) = Value.bool (decide (0 < (leadS (ix ([], []) l a) (ix ([], []) l b))) && ix false T4 (b * 6 + a))
              first | rw [g_91, Bool.true_and] | (rw [g_91]; rfl)
            · -- False
              have gp_93 := of_decide_eq_false g_91
              refine Wx.gnoB rfl rfl (congrArg Value.bool g_91) rfl rfl ?_
              refine Wx.gnoB rfl rfl (congrArg Value.bool g_91) rfl rfl ?_
              refine Wx.gnoB rfl rfl (congrArg Value.bool g_91) rfl rfl ?_
              refine Wx.gnoB rfl rfl (congrArg Value.bool g_91) rfl rfl ?_
              refine Wx.gnoB rfl rfl (congrArg Value.bool g_91) rfl rfl ?_
              refine Wx.rd (v := .bool false) (rd_pickF (congrArg Value.bool g_91) rfl) rfl ?_
              refine Wx.nilQ (fun _ _ => ⟨(), trivial, ⟨?_, trivial⟩, Out.look rfl Out.refl⟩)
              show Value.bool false = Value.bool (decide (0 < (leadS (ix ([], []) l a) (ix ([], []) l b))) && ix false T4 (b * 6 + a))
              first | rw [g_91, Bool.false_and] | (rw [g_91]; rfl)
          rintro ⟨⟩ u_95 -
          refine Wx.nilQ (fun w_96 hx_97 => ?_)
          have hS := hS.ext hx_97
          refine W.cond rfl (fun c8 => ?_) (fun c8 => ?_)
          · -- yes
            try simp only [Bool.and_eq_true, Bool.or_eq_true, Bool.not_eq_true', Bool.and_eq_false_iff, Bool.or_eq_false_iff, Bool.not_eq_false', decide_eq_true_eq, decide_eq_false_iff_not, not_or, Bool.false_eq_true, Bool.true_eq_false, false_or, or_false, not_false_eq_true] at c8
            refine W.seq ?_
            refine W.reg ?_
            refine Wx.rd (v := .bool true) (rd_assign rfl) rfl ?_
            refine Wx.nil ?_
            have e0_0 : (!(noR l)) = true := by rw [noR_false (a := a) (b := b) ⟨by omega, by omega⟩ ⟨by omega, by omega⟩ (decide_eq_true c8.1) (by rw [← hT b a ⟨by omega, by omega⟩ ⟨by omega, by omega⟩]; exact c8.2)]; rfl
            exact W.ret ⟨.bool true, ResIs.one, hS.bel, (by rw [e0_0])⟩
          · -- no
            try simp only [Bool.and_eq_true, Bool.or_eq_true, Bool.not_eq_true', Bool.and_eq_false_iff, Bool.or_eq_false_iff, Bool.not_eq_false', decide_eq_true_eq, decide_eq_false_iff_not, not_or, Bool.false_eq_true, Bool.true_eq_false, false_or, or_false, not_false_eq_true] at c8
            refine W.skip ?_
            refine W.reg ?_
            refine Wx.rd (v := .int .i64 (b + 1)) (rd_add rfl rfl (in_i64 (by omega) (by omega))) rfl ?_
            refine Wx.rd (v := .int .i64 (b + 1)) (rd_move rfl) rfl ?_
            refine Wx.nil ?_
            refine ⟨b + 1, (by show (l.length - (b + 1)).toNat < (l.length - b).toNat; omega), ?_, ?_, Out.look rfl (Out.hav rfl (Out.look rfl Out.self))⟩
            · exact ⟨St.tl (St.tl (St.tl (hS.tl))), (by first | omega | assumption), (by first | omega | assumption), (fun y hy hk => by by_cases e : y = b; (rw [e, ← hT b a ⟨by omega, by omega⟩ ⟨by omega, by omega⟩]; exact fun hh => c8.elim (fun q => by have := of_decide_eq_true hh.1; omega) (fun q => by rw [show tbR T4 b a = false from q] at hh; cases hh.2)); exact x2 y hy (by omega))⟩
            · exact ⟨rfl, trivial⟩
        · -- no
          refine W.exit rfl ?_
          refine W.reg ?_
          refine Wx.rd (v := .int .i64 (a + 1)) (rd_add rfl rfl (in_i64 (by omega) (by omega))) rfl ?_
          refine Wx.rd (v := .int .i64 (a + 1)) (rd_move rfl) rfl ?_
          refine Wx.nil ?_
          refine ⟨a + 1, (by show (l.length - (a + 1)).toNat < (l.length - a).toNat; omega), ?_, ?_, Out.look rfl (Out.hav rfl (Out.look rfl Out.self))⟩
          · exact ⟨hS, (by first | omega | assumption), (by first | omega | assumption), (fun x y hx hy hk => by by_cases e : x = a; (rw [e]; exact x2 y hy (by omega)); exact u2 x y hx hy (by omega))⟩
          · exact ⟨rfl, trivial⟩
      · -- no
        refine W.exit rfl ?_
        refine W.seq ?_
        refine W.reg ?_
        refine Wx.rd (v := .bool false) (rd_assign rfl) rfl ?_
        refine Wx.nil ?_
        have e1_0 : (!(noR l)) = false := by rw [noR_true (a := a) (by omega) u2]; rfl
        exact W.ret ⟨.bool false, ResIs.one, hS.bel, (by rw [e1_0])⟩
end Go.Proofs.Ytjbcpggikaeleaa

namespace Go.Proofs.Ytjbcpggikaeleaa
open Go.Wk Go.RowKit Go.Lib
set_option linter.unusedVariables false
set_option linter.unusedSimpArgs false
theorem mixedLn_ : Try.prog.follows .mixedOrders = true := by kernel_rfl

set_option maxHeartbeats 2000000 in
theorem F48 {v : Value} {l : List ((List Int) × (List Int))} {Fr_v : List (Option Nat)} {wv : Value} {worth : List Int} {Fr_wv : List (Option Nat)} {uv : Value} {weight : List Int} {Fr_uv : List (Option Nat)} {w : World} (h_v : V (tSl (tP (tSl (tI .i64)) (tSl (tI .i64)))) l v Fr_v w) (h_wv : V (tSl (tI .i64)) worth wv Fr_wv w) (h_uv : V (tSl (tI .i64)) weight uv Fr_uv w) (p_ok : SalesOK l) : Calls Try.prog 48 #[v, wv, uv] w (Ret w (fun r _ => r = .bool (nbB l worth weight))) := by
  obtain ⟨gd, hgd, hok⟩ := p_ok.at
  have hl6 := p_ok.1
  have a_v := h_v.any
  have l_v := h_v.len63
  have a_wv := h_wv.any
  have l_wv := h_wv.len63
  have a_uv := h_uv.any
  have l_uv := h_uv.len63
  have hS := St.start0 w
  refine enterR Try.func48 rfl Try.ntmps48 Try.results48 rfl ?_
  refine W.seq ?_
  refine W.reg ?_
  refine Wx.rd (v := .bool false) (rd_assign rfl) rfl ?_
  refine Wx.nil ?_
  refine W.seq ?_
  refine W.seq ?_
  refine W.reg ?_
  refine Wx.rd (v := wv) (rd_move rfl) rfl ?_
  refine Wx.rd (v := .int .i64 (worth.length : Int)) (rd_lenV rfl (hS.arg a_wv) Try.underlying39) rfl ?_
  refine Wx.rd (v := v) (rd_move rfl) rfl ?_
  refine Wx.rd (v := .int .i64 (l.length : Int)) (rd_lenV rfl (hS.arg a_v) Try.underlying22) rfl ?_
  refine Wx.rd (v := .bool (decide ((worth.length : Int) ≠ (l.length : Int)))) (rd_neq rfl rfl) rfl ?_
  refine Wx.rd (v := .bool (decide ((worth.length : Int) ≠ (l.length : Int)))) (rd_move rfl) rfl ?_
  refine Wx.cut (X := Unit) 6 [16, 17, 18, 19, 20, 21] (fun _ => [(21, .bool (decide ((worth.length : Int) ≠ (l.length : Int)) || decide ((weight.length : Int) ≠ (l.length : Int))))]) (fun _ w' => St w [] w' []) ?_ ?_
  · rcases Bool.eq_false_or_eq_true (decide ((worth.length : Int) ≠ (l.length : Int))) with g_1 | g_1
    · -- True
      have gp_2 := of_decide_eq_true g_1
      refine Wx.gnoB rfl rfl (congrArg Value.bool g_1) rfl rfl ?_
      refine Wx.gnoB rfl rfl (congrArg Value.bool g_1) rfl rfl ?_
      refine Wx.gnoB rfl rfl (congrArg Value.bool g_1) rfl rfl ?_
      refine Wx.gnoB rfl rfl (congrArg Value.bool g_1) rfl rfl ?_
      refine Wx.gnoB rfl rfl (congrArg Value.bool g_1) rfl rfl ?_
      refine Wx.rd (v := .bool true) (rd_pickT (congrArg Value.bool g_1) rfl) rfl ?_
      refine Wx.nil ⟨(), hS, ⟨?_, trivial⟩, Out.look rfl Out.refl⟩
      show Value.bool true = Value.bool (decide ((worth.length : Int) ≠ (l.length : Int)) || decide ((weight.length : Int) ≠ (l.length : Int)))
      first | rw [g_1, Bool.true_or] | (rw [g_1]; rfl)
    · -- False
      have gp_3 := of_decide_eq_false g_1
      refine Wx.gyes rfl rfl (congrArg Value.bool g_1) ?_
      refine Wx.rd (v := uv) (rd_move rfl) rfl ?_
      refine Wx.gyes rfl rfl (congrArg Value.bool g_1) ?_
      refine Wx.rd (v := .int .i64 (weight.length : Int)) (rd_lenV rfl (hS.arg a_uv) Try.underlying39) rfl ?_
      refine Wx.gyes rfl rfl (congrArg Value.bool g_1) ?_
      refine Wx.rd (v := v) (rd_move rfl) rfl ?_
      refine Wx.gyes rfl rfl (congrArg Value.bool g_1) ?_
      refine Wx.rd (v := .int .i64 (l.length : Int)) (rd_lenV rfl (hS.arg a_v) Try.underlying22) rfl ?_
      refine Wx.gyes rfl rfl (congrArg Value.bool g_1) ?_
      refine Wx.rd (v := .bool (decide ((weight.length : Int) ≠ (l.length : Int)))) (rd_neq rfl rfl) rfl ?_
      refine Wx.rd (v := .bool (decide ((weight.length : Int) ≠ (l.length : Int)))) (rd_pickF (congrArg Value.bool g_1) rfl) rfl ?_
      refine Wx.nil ⟨(), hS, ⟨?_, trivial⟩, Out.look rfl Out.refl⟩
      show Value.bool (decide ((weight.length : Int) ≠ (l.length : Int))) = Value.bool (decide ((worth.length : Int) ≠ (l.length : Int)) || decide ((weight.length : Int) ≠ (l.length : Int)))
      first | rw [g_1, Bool.false_or] | (rw [g_1]; rfl)
  rintro ⟨⟩ u_5 w_4 hS
  refine Wx.nil ?_
  refine W.cond rfl (fun c0 => ?_) (fun c0 => ?_)
  · -- yes
    try simp only [Bool.and_eq_true, Bool.or_eq_true, Bool.not_eq_true', Bool.and_eq_false_iff, Bool.or_eq_false_iff, Bool.not_eq_false', decide_eq_true_eq, decide_eq_false_iff_not, not_or, Bool.false_eq_true, Bool.true_eq_false, false_or, or_false, not_false_eq_true] at c0
    refine W.seq ?_
    refine W.reg ?_
    refine Wx.rd (v := .bool false) (rd_assign rfl) rfl ?_
    refine Wx.nil ?_
    have e0_0 : (nbB l worth weight) = false := by exact nbB_len (by omega)
    exact W.ret ⟨.bool false, ResIs.one, hS.bel, (by rw [e0_0])⟩
  · -- no
    try simp only [Bool.and_eq_true, Bool.or_eq_true, Bool.not_eq_true', Bool.and_eq_false_iff, Bool.or_eq_false_iff, Bool.not_eq_false', decide_eq_true_eq, decide_eq_false_iff_not, not_or, Bool.false_eq_true, Bool.true_eq_false, false_or, or_false, not_false_eq_true] at c0
    refine W.skip ?_
    refine W.seq ?_
    refine W.seq ?_
    refine W.reg ?_
    refine Wx.rd (v := v) (rd_move rfl) rfl ?_
    refine Wx.rd (v := .int .i64 (l.length : Int)) (rd_lenV rfl (hS.arg a_v) Try.underlying22) rfl ?_
    refine Wx.rd (v := .int .i64 0) (rd_move rfl) rfl ?_
    refine Wx.nil ?_
    refine W.block ?_
    refine W.loop [6, 7, 24, 25, 26, 27, 28, 29, 30, 31, 32, 33, 34, 35, 36, 37, 38, 39, 40, 41, 42, 43, 44, 45, 46, 47, 48, 49, 50, 51, 52, 53] (fun (i : Int) => [(24, .int .i64 i)]) (fun (i : Int) w' => St w [] w' [] ∧ 0 ≤ i ∧ i ≤ l.length ∧ (∀ q : Int, 0 ≤ q → q < i → agr1 worth weight q)) (fun (i : Int) => (l.length - i).toNat) 0 ⟨rfl, trivial⟩ ⟨hS, (by first | omega | simp), (by first | omega | simp), (fun q q0 q1 => by omega)⟩ ?_
    rintro i u_7 w_6 ⟨hS, h0, h1, h2⟩
    refine W.seq ?_
    refine W.reg ?_
    refine Wx.rd (v := .bool (decide (i < (l.length : Int)))) (rd_lss rfl rfl) rfl ?_
    refine Wx.nil ?_
    refine W.seq ?_
    refine W.condD rfl (fun c1 => ?_) (fun c1 => ?_)
    · -- yes
      refine W.skip ?_
      refine W.seq ?_
      refine W.block ?_
      refine W.seq ?_
      refine W.reg ?_
      refine Wx.rd (v := .int .i64 i) (rd_move rfl) rfl ?_
      refine Wx.rd (v := .int .i64 i) (rd_assign rfl) rfl ?_
      refine Wx.nil ?_
      refine W.seq ?_
      refine W.reg ?_
      refine Wx.rd (v := wv) (rd_move rfl) rfl ?_
      refine Wx.rd (v := .int .i64 i) (rd_move rfl) rfl ?_
      refine Wx.ex (rd_index 0 (hS.arg a_wv) rfl rfl Try.underlying39 Try.sizeOf3 (by first | omega | (simp only [List.length_set, List.length_append, List.length_cons, List.length_nil, List.length_replicate]; omega)) (by first | omega | (simp only [List.length_set, List.length_append, List.length_cons, List.length_nil, List.length_replicate]; omega))) rfl (fun p_8 hp_9 => ?_)
      refine Wx.rd (v := .int .i64 (ix 0 worth i)) (rd_loadI hp_9 rfl Try.isAgg3 Try.sizeOf3) rfl ?_
      have bd_10 := bd_i64 hp_9.inK
      refine Wx.rd (v := .bool (decide ((ix 0 worth i) < 0))) (rd_lss rfl rfl) rfl ?_
      refine Wx.rd (v := .bool (decide ((ix 0 worth i) < 0))) (rd_move rfl) rfl ?_
      refine Wx.cut (X := Unit) 6 [33, 34, 35, 36, 37, 38] (fun _ => [(38, .bool (decide ((ix 0 worth i) < 0) || decide (1000000000000 < (ix 0 worth i))))]) (fun _ w' => St w [] w' []) ?_ ?_
      · rcases Bool.eq_false_or_eq_true (decide ((ix 0 worth i) < 0)) with g_11 | g_11
        · -- True
          have gp_12 := of_decide_eq_true g_11
          refine Wx.gnoB rfl rfl (congrArg Value.bool g_11) rfl rfl ?_
          refine Wx.gnoB rfl rfl (congrArg Value.bool g_11) rfl rfl ?_
          refine Wx.gnoB rfl rfl (congrArg Value.bool g_11) rfl rfl ?_
          refine Wx.gnoB rfl rfl (congrArg Value.bool g_11) rfl rfl ?_
          refine Wx.gnoB rfl rfl (congrArg Value.bool g_11) rfl rfl ?_
          refine Wx.rd (v := .bool true) (rd_pickT (congrArg Value.bool g_11) rfl) rfl ?_
          refine Wx.nil ⟨(), hS, ⟨?_, trivial⟩, Out.look rfl Out.refl⟩
          show Value.bool true = Value.bool (decide ((ix 0 worth i) < 0) || decide (1000000000000 < (ix 0 worth i)))
          first | rw [g_11, Bool.true_or] | (rw [g_11]; rfl)
        · -- False
          have gp_13 := of_decide_eq_false g_11
          refine Wx.gyes rfl rfl (congrArg Value.bool g_11) ?_
          refine Wx.rd (v := wv) (rd_move rfl) rfl ?_
          refine Wx.gyes rfl rfl (congrArg Value.bool g_11) ?_
          refine Wx.rd (v := .int .i64 i) (rd_move rfl) rfl ?_
          refine Wx.gyes rfl rfl (congrArg Value.bool g_11) ?_
          refine Wx.ex (rd_index 0 (hS.arg a_wv) rfl rfl Try.underlying39 Try.sizeOf3 (by first | omega | (simp only [List.length_set, List.length_append, List.length_cons, List.length_nil, List.length_replicate]; omega)) (by first | omega | (simp only [List.length_set, List.length_append, List.length_cons, List.length_nil, List.length_replicate]; omega))) rfl (fun p_14 hp_15 => ?_)
          refine Wx.gyes rfl rfl (congrArg Value.bool g_11) ?_
          refine Wx.rd (v := .int .i64 (ix 0 worth i)) (rd_loadI hp_15 rfl Try.isAgg3 Try.sizeOf3) rfl ?_
          have bd_16 := bd_i64 hp_15.inK
          refine Wx.gyes rfl rfl (congrArg Value.bool g_11) ?_
          refine Wx.rd (v := .bool (decide (1000000000000 < (ix 0 worth i)))) (rd_gtr rfl rfl) rfl ?_
          refine Wx.rd (v := .bool (decide (1000000000000 < (ix 0 worth i)))) (rd_pickF (congrArg Value.bool g_11) rfl) rfl ?_
          refine Wx.nil ⟨(), hS, ⟨?_, trivial⟩, Out.look rfl Out.refl⟩
          show Value.bool (decide (1000000000000 < (ix 0 worth i))) = Value.bool (decide ((ix 0 worth i) < 0) || decide (1000000000000 < (ix 0 worth i)))
          first | rw [g_11, Bool.false_or] | (rw [g_11]; rfl)
      rintro ⟨⟩ u_18 w_17 hS
      refine Wx.rd (v := .bool (decide ((ix 0 worth i) < 0) || decide (1000000000000 < (ix 0 worth i)))) (rd_move rfl) rfl ?_
      refine Wx.cut (X := Unit) 6 [40, 41, 42, 43, 44, 45] (fun _ => [(45, .bool ((decide ((ix 0 worth i) < 0) || decide (1000000000000 < (ix 0 worth i))) || decide ((ix 0 weight i) < 1)))]) (fun _ w' => St w [] w' []) ?_ ?_
      · rcases Bool.eq_false_or_eq_true (decide ((ix 0 worth i) < 0) || decide (1000000000000 < (ix 0 worth i))) with g_19 | g_19
        · -- True
          have gp_20 := g_19
          try simp only [Bool.and_eq_true, Bool.or_eq_true, Bool.not_eq_true', Bool.and_eq_false_iff, Bool.or_eq_false_iff, Bool.not_eq_false', decide_eq_true_eq, decide_eq_false_iff_not, not_or, Bool.false_eq_true, Bool.true_eq_false, false_or, or_false, not_false_eq_true] at gp_20
          refine Wx.gnoB rfl rfl (congrArg Value.bool g_19) rfl rfl ?_
          refine Wx.gnoB rfl rfl (congrArg Value.bool g_19) rfl rfl ?_
          refine Wx.gnoB rfl rfl (congrArg Value.bool g_19) rfl rfl ?_
          refine Wx.gnoB rfl rfl (congrArg Value.bool g_19) rfl rfl ?_
          refine Wx.gnoB rfl rfl (congrArg Value.bool g_19) rfl rfl ?_
          refine Wx.rd (v := .bool true) (rd_pickT (congrArg Value.bool g_19) rfl) rfl ?_
          refine Wx.nil ⟨(), hS, ⟨?_, trivial⟩, Out.look rfl Out.refl⟩
          show Value.bool true = Value.bool ((decide ((ix 0 worth i) < 0) || decide (1000000000000 < (ix 0 worth i))) || decide ((ix 0 weight i) < 1))
          first | rw [g_19, Bool.true_or] | (rw [g_19]; rfl)
        · -- False
          have gp_21 := g_19
          try simp only [Bool.and_eq_true, Bool.or_eq_true, Bool.not_eq_true', Bool.and_eq_false_iff, Bool.or_eq_false_iff, Bool.not_eq_false', decide_eq_true_eq, decide_eq_false_iff_not, not_or, Bool.false_eq_true, Bool.true_eq_false, false_or, or_false, not_false_eq_true] at gp_21
          refine Wx.gyes rfl rfl (congrArg Value.bool g_19) ?_
          refine Wx.rd (v := uv) (rd_move rfl) rfl ?_
          refine Wx.gyes rfl rfl (congrArg Value.bool g_19) ?_
          refine Wx.rd (v := .int .i64 i) (rd_move rfl) rfl ?_
          refine Wx.gyes rfl rfl (congrArg Value.bool g_19) ?_
          refine Wx.ex (rd_index 0 (hS.arg a_uv) rfl rfl Try.underlying39 Try.sizeOf3 (by first | omega | (simp only [List.length_set, List.length_append, List.length_cons, List.length_nil, List.length_replicate]; omega)) (by first | omega | (simp only [List.length_set, List.length_append, List.length_cons, List.length_nil, List.length_replicate]; omega))) rfl (fun p_22 hp_23 => ?_)
          refine Wx.gyes rfl rfl (congrArg Value.bool g_19) ?_
          refine Wx.rd (v := .int .i64 (ix 0 weight i)) (rd_loadI hp_23 rfl Try.isAgg3 Try.sizeOf3) rfl ?_
          have bd_24 := bd_i64 hp_23.inK
          refine Wx.gyes rfl rfl (congrArg Value.bool g_19) ?_
          refine Wx.rd (v := .bool (decide ((ix 0 weight i) < 1))) (rd_lss rfl rfl) rfl ?_
          refine Wx.rd (v := .bool (decide ((ix 0 weight i) < 1))) (rd_pickF (congrArg Value.bool g_19) rfl) rfl ?_
          refine Wx.nil ⟨(), hS, ⟨?_, trivial⟩, Out.look rfl Out.refl⟩
          show Value.bool (decide ((ix 0 weight i) < 1)) = Value.bool ((decide ((ix 0 worth i) < 0) || decide (1000000000000 < (ix 0 worth i))) || decide ((ix 0 weight i) < 1))
          first | rw [g_19, Bool.false_or] | (rw [g_19]; rfl)
      rintro ⟨⟩ u_26 w_25 hS
      refine Wx.rd (v := .bool ((decide ((ix 0 worth i) < 0) || decide (1000000000000 < (ix 0 worth i))) || decide ((ix 0 weight i) < 1))) (rd_move rfl) rfl ?_
      refine Wx.cut (X := Unit) 6 [47, 48, 49, 50, 51, 52] (fun _ => [(52, .bool (((decide ((ix 0 worth i) < 0) || decide (1000000000000 < (ix 0 worth i))) || decide ((ix 0 weight i) < 1)) || decide (1000000000000 < (ix 0 weight i))))]) (fun _ w' => St w [] w' []) ?_ ?_
      · rcases Bool.eq_false_or_eq_true ((decide ((ix 0 worth i) < 0) || decide (1000000000000 < (ix 0 worth i))) || decide ((ix 0 weight i) < 1)) with g_27 | g_27
        · -- True
          have gp_28 := g_27
          try simp only [Bool.and_eq_true, Bool.or_eq_true, Bool.not_eq_true', Bool.and_eq_false_iff, Bool.or_eq_false_iff, Bool.not_eq_false', decide_eq_true_eq, decide_eq_false_iff_not, not_or, Bool.false_eq_true, Bool.true_eq_false, false_or, or_false, not_false_eq_true] at gp_28
          refine Wx.gnoB rfl rfl (congrArg Value.bool g_27) rfl rfl ?_
          refine Wx.gnoB rfl rfl (congrArg Value.bool g_27) rfl rfl ?_
          refine Wx.gnoB rfl rfl (congrArg Value.bool g_27) rfl rfl ?_
          refine Wx.gnoB rfl rfl (congrArg Value.bool g_27) rfl rfl ?_
          refine Wx.gnoB rfl rfl (congrArg Value.bool g_27) rfl rfl ?_
          refine Wx.rd (v := .bool true) (rd_pickT (congrArg Value.bool g_27) rfl) rfl ?_
          refine Wx.nil ⟨(), hS, ⟨?_, trivial⟩, Out.look rfl Out.refl⟩
          show Value.bool true = Value.bool (((decide ((ix 0 worth i) < 0) || decide (1000000000000 < (ix 0 worth i))) || decide ((ix 0 weight i) < 1)) || decide (1000000000000 < (ix 0 weight i)))
          first | rw [g_27, Bool.true_or] | (rw [g_27]; rfl)
        · -- False
          have gp_29 := g_27
          try simp only [Bool.and_eq_true, Bool.or_eq_true, Bool.not_eq_true', Bool.and_eq_false_iff, Bool.or_eq_false_iff, Bool.not_eq_false', decide_eq_true_eq, decide_eq_false_iff_not, not_or, Bool.false_eq_true, Bool.true_eq_false, false_or, or_false, not_false_eq_true] at gp_29
          refine Wx.gyes rfl rfl (congrArg Value.bool g_27) ?_
          refine Wx.rd (v := uv) (rd_move rfl) rfl ?_
          refine Wx.gyes rfl rfl (congrArg Value.bool g_27) ?_
          refine Wx.rd (v := .int .i64 i) (rd_move rfl) rfl ?_
          refine Wx.gyes rfl rfl (congrArg Value.bool g_27) ?_
          refine Wx.ex (rd_index 0 (hS.arg a_uv) rfl rfl Try.underlying39 Try.sizeOf3 (by first | omega | (simp only [List.length_set, List.length_append, List.length_cons, List.length_nil, List.length_replicate]; omega)) (by first | omega | (simp only [List.length_set, List.length_append, List.length_cons, List.length_nil, List.length_replicate]; omega))) rfl (fun p_30 hp_31 => ?_)
          refine Wx.gyes rfl rfl (congrArg Value.bool g_27) ?_
          refine Wx.rd (v := .int .i64 (ix 0 weight i)) (rd_loadI hp_31 rfl Try.isAgg3 Try.sizeOf3) rfl ?_
          have bd_32 := bd_i64 hp_31.inK
          refine Wx.gyes rfl rfl (congrArg Value.bool g_27) ?_
          refine Wx.rd (v := .bool (decide (1000000000000 < (ix 0 weight i)))) (rd_gtr rfl rfl) rfl ?_
          refine Wx.rd (v := .bool (decide (1000000000000 < (ix 0 weight i)))) (rd_pickF (congrArg Value.bool g_27) rfl) rfl ?_
          refine Wx.nil ⟨(), hS, ⟨?_, trivial⟩, Out.look rfl Out.refl⟩
          show Value.bool (decide (1000000000000 < (ix 0 weight i))) = Value.bool (((decide ((ix 0 worth i) < 0) || decide (1000000000000 < (ix 0 worth i))) || decide ((ix 0 weight i) < 1)) || decide (1000000000000 < (ix 0 weight i)))
          first | rw [g_27, Bool.false_or] | (rw [g_27]; rfl)
      rintro ⟨⟩ u_34 w_33 hS
      refine Wx.nil ?_
      refine W.cond rfl (fun c2 => ?_) (fun c2 => ?_)
      · -- yes
        try simp only [Bool.and_eq_true, Bool.or_eq_true, Bool.not_eq_true', Bool.and_eq_false_iff, Bool.or_eq_false_iff, Bool.not_eq_false', decide_eq_true_eq, decide_eq_false_iff_not, not_or, Bool.false_eq_true, Bool.true_eq_false, false_or, or_false, not_false_eq_true] at c2
        refine W.seq ?_
        refine W.reg ?_
        refine Wx.rd (v := .bool false) (rd_assign rfl) rfl ?_
        refine Wx.nil ?_
        have e1_0 : (nbB l worth weight) = false := by exact nbB_one h0 (by omega) (agr1_no (by omega))
        exact W.ret ⟨.bool false, ResIs.one, hS.bel, (by rw [e1_0])⟩
      · -- no
        try simp only [Bool.and_eq_true, Bool.or_eq_true, Bool.not_eq_true', Bool.and_eq_false_iff, Bool.or_eq_false_iff, Bool.not_eq_false', decide_eq_true_eq, decide_eq_false_iff_not, not_or, Bool.false_eq_true, Bool.true_eq_false, false_or, or_false, not_false_eq_true] at c2
        refine W.skip ?_
        refine W.reg ?_
        refine Wx.rd (v := .int .i64 (i + 1)) (rd_add rfl rfl (in_i64 (by omega) (by omega))) rfl ?_
        refine Wx.rd (v := .int .i64 (i + 1)) (rd_move rfl) rfl ?_
        refine Wx.nil ?_
        refine ⟨i + 1, (by show (l.length - (i + 1)).toNat < (l.length - i).toNat; omega), ?_, ?_, Out.look rfl (Out.hav rfl (Out.look rfl (Out.hav rfl (Out.look rfl (Out.hav rfl (Out.look rfl Out.self))))))⟩
        · exact ⟨hS, (by first | omega | assumption), (by first | omega | assumption), (fun q q0 q1 => by by_cases e : q = i; (rw [e]; exact agr1_of (by omega)); exact h2 q q0 (by omega))⟩
        · exact ⟨rfl, trivial⟩
    · -- no
      refine W.exit rfl ?_
      refine W.seq ?_
      refine W.seq ?_
      refine W.reg ?_
      refine Wx.rd (v := v) (rd_move rfl) rfl ?_
      refine Wx.rd (v := .int .i64 (l.length : Int)) (rd_lenV rfl (hS.arg a_v) Try.underlying22) rfl ?_
      refine Wx.rd (v := .int .i64 0) (rd_move rfl) rfl ?_
      refine Wx.nil ?_
      refine W.block ?_
      refine W.loop [6, 8, 9, 56, 57, 58, 59, 60, 61, 62, 63, 64, 65, 66, 67, 68, 69, 70, 71, 72, 73, 74, 75, 76, 77, 78, 79, 80, 81, 82, 83, 84, 85, 86, 87, 88, 89] (fun (a : Int) => [(56, .int .i64 a)]) (fun (a : Int) w' => St w [] w' [] ∧ 0 ≤ a ∧ a ≤ l.length ∧ (∀ x y : Int, 0 ≤ x → x < a → 0 ≤ y → y < l.length → agr2 l worth weight x y)) (fun (a : Int) => (l.length - a).toNat) 0 ⟨rfl, trivial⟩ ⟨hS, (by first | omega | simp), (by first | omega | simp), (fun q y q0 q1 => by omega)⟩ ?_
      rintro a u_36 w_35 ⟨hS, k0, k1, k2⟩
      have ha1 := fun h : a < (l.length : Int) => h2 a k0 (by omega)
      refine W.seq ?_
      refine W.reg ?_
      refine Wx.rd (v := .bool (decide (a < (l.length : Int)))) (rd_lss rfl rfl) rfl ?_
      refine Wx.nil ?_
      refine W.seq ?_
      refine W.condD rfl (fun c3 => ?_) (fun c3 => ?_)
      · -- yes
        refine W.skip ?_
        refine W.seq ?_
        refine W.block ?_
        refine W.seq ?_
        refine W.reg ?_
        refine Wx.rd (v := .int .i64 a) (rd_move rfl) rfl ?_
        refine Wx.rd (v := .int .i64 a) (rd_assign rfl) rfl ?_
        refine Wx.nil ?_
        refine W.seq ?_
        refine W.reg ?_
        refine Wx.rd (v := v) (rd_move rfl) rfl ?_
        refine Wx.rd (v := .int .i64 (l.length : Int)) (rd_lenV rfl (hS.arg a_v) Try.underlying22) rfl ?_
        refine Wx.rd (v := .int .i64 0) (rd_move rfl) rfl ?_
        refine Wx.nil ?_
        refine W.block ?_
        refine W.loop [6, 9, 61, 62, 63, 64, 65, 66, 67, 68, 69, 70, 71, 72, 73, 74, 75, 76, 77, 78, 79, 80, 81, 82, 83, 84, 85, 86, 87, 88] (fun (b : Int) => [(61, .int .i64 b)]) (fun (b : Int) w' => St w [] w' [] ∧ 0 ≤ b ∧ b ≤ l.length ∧ (∀ y : Int, 0 ≤ y → y < b → agr2 l worth weight a y)) (fun (b : Int) => (l.length - b).toNat) 0 ⟨rfl, trivial⟩ ⟨hS, (by first | omega | simp), (by first | omega | simp), (fun q q0 q1 => by omega)⟩ ?_
        rintro b u_38 w_37 ⟨hS, m0, m1, m2⟩
        have hb1 := fun h : b < (l.length : Int) => h2 b m0 (by omega)
        refine W.seq ?_
        refine W.reg ?_
        refine Wx.rd (v := .bool (decide (b < (l.length : Int)))) (rd_lss rfl rfl) rfl ?_
        refine Wx.nil ?_
        refine W.seq ?_
        refine W.condD rfl (fun c4 => ?_) (fun c4 => ?_)
        · -- yes
          refine W.skip ?_
          refine W.seq ?_
          refine W.block ?_
          refine W.seq ?_
          refine W.reg ?_
          refine Wx.rd (v := .int .i64 b) (rd_move rfl) rfl ?_
          refine Wx.rd (v := .int .i64 b) (rd_assign rfl) rfl ?_
          refine Wx.nil ?_
          refine W.seq ?_
          refine W.regQ mixedLn_ (by kernel_rfl) ?_
          refine Wx.rd (v := wv) (rd_move rfl) rfl ?_
          refine Wx.rd (v := .int .i64 b) (rd_move rfl) rfl ?_
          refine Wx.ex (rd_index 0 (hS.arg a_wv) rfl rfl Try.underlying39 Try.sizeOf3 (by first | omega | (simp only [List.length_set, List.length_append, List.length_cons, List.length_nil, List.length_replicate]; omega)) (by first | omega | (simp only [List.length_set, List.length_append, List.length_cons, List.length_nil, List.length_replicate]; omega))) rfl (fun p_39 hp_40 => ?_)
          refine Wx.rd (v := .int .i64 (ix 0 worth b)) (rd_loadI hp_40 rfl Try.isAgg3 Try.sizeOf3) rfl ?_
          have bd_41 := bd_i64 hp_40.inK
          refine Wx.rd (v := wv) (rd_move rfl) rfl ?_
          refine Wx.rd (v := .int .i64 a) (rd_move rfl) rfl ?_
          refine Wx.ex (rd_index 0 (hS.arg a_wv) rfl rfl Try.underlying39 Try.sizeOf3 (by first | omega | (simp only [List.length_set, List.length_append, List.length_cons, List.length_nil, List.length_replicate]; omega)) (by first | omega | (simp only [List.length_set, List.length_append, List.length_cons, List.length_nil, List.length_replicate]; omega))) rfl (fun p_42 hp_43 => ?_)
          refine Wx.rd (v := .int .i64 (ix 0 worth a)) (rd_loadI hp_43 rfl Try.isAgg3 Try.sizeOf3) rfl ?_
          have bd_44 := bd_i64 hp_43.inK
          refine Wx.rd (v := uv) (rd_move rfl) rfl ?_
          refine Wx.rd (v := .int .i64 a) (rd_move rfl) rfl ?_
          refine Wx.ex (rd_index 0 (hS.arg a_uv) rfl rfl Try.underlying39 Try.sizeOf3 (by first | omega | (simp only [List.length_set, List.length_append, List.length_cons, List.length_nil, List.length_replicate]; omega)) (by first | omega | (simp only [List.length_set, List.length_append, List.length_cons, List.length_nil, List.length_replicate]; omega))) rfl (fun p_45 hp_46 => ?_)
          refine Wx.rd (v := .int .i64 (ix 0 weight a)) (rd_loadI hp_46 rfl Try.isAgg3 Try.sizeOf3) rfl ?_
          have bd_47 := bd_i64 hp_46.inK
          refine Wx.rd (v := v) (rd_move rfl) rfl ?_
          obtain ⟨⟨wa0, wa1⟩, wa2, wa3⟩ := h2 a k0 (show a < i by omega)
          obtain ⟨⟨wb0, wb1⟩, wb2, wb3⟩ := h2 b m0 (show b < i by omega)
          refine Wx.rd (v := .int .i64 a) (rd_move rfl) rfl ?_
          refine Wx.ex (rd_index ([], []) (hS.arg a_v) rfl rfl Try.underlying22 Try.sizeOf62 (by first | omega | (simp only [List.length_set, List.length_append, List.length_cons, List.length_nil, List.length_replicate]; omega)) (by first | omega | (simp only [List.length_set, List.length_append, List.length_cons, List.length_nil, List.length_replicate]; omega))) rfl (fun p_48 hp_49 => ?_)
          refine Wx.ex (rd_load hp_49 rfl Try.isAgg62 Try.sizeOf62) rfl (fun v_50 hv_51 => ?_)
          obtain ⟨v_52, v_53, rfl, hv_54, hv_55⟩ := hv_51.s2
          have hS := hS.add (hv_54)
          have ln_57 := (hS.v 0 rfl).len63
          have hS := hS.add (V.upF (hv_55))
          have ln_59 := (hS.v 0 rfl).len63
          refine Wx.rd (v := v) (rd_move rfl) rfl ?_
          refine Wx.rd (v := .int .i64 b) (rd_move rfl) rfl ?_
          refine Wx.ex (rd_index ([], []) (hS.arg a_v) rfl rfl Try.underlying22 Try.sizeOf62 (by first | omega | (simp only [List.length_set, List.length_append, List.length_cons, List.length_nil, List.length_replicate]; omega)) (by first | omega | (simp only [List.length_set, List.length_append, List.length_cons, List.length_nil, List.length_replicate]; omega))) rfl (fun p_60 hp_61 => ?_)
          refine Wx.ex (rd_load hp_61 rfl Try.isAgg62 Try.sizeOf62) rfl (fun v_62 hv_63 => ?_)
          obtain ⟨v_64, v_65, rfl, hv_66, hv_67⟩ := hv_63.s2
          have hS := hS.add (hv_66)
          have ln_69 := (hS.v 0 rfl).len63
          have hS := hS.add (V.upF (hv_67))
          have ln_71 := (hS.v 0 rfl).len63
          refine Wx.callV (v := .int .i64 (leadS (((ix ([], []) l a).1), ((ix ([], []) l a).2)) (((ix ([], []) l b).1), ((ix ([], []) l b).2)))) (run_callF Try.call53 rfl) (fun w_72 hw_73 => (F53 ((hS.v 3 rfl).ext hw_73) ((hS.v 2 rfl).ext hw_73) ((hS.v 1 rfl).ext hw_73) ((hS.v 0 rfl).ext hw_73) (hok a (by omega) (by omega)).b1 (hok a (by omega) (by omega)).b2 (hok b (by omega) (by omega)).b2 (by have := (hok a (by omega) (by omega)).l1; omega) (by have h1 := (hok a (by omega) (by omega)).l1; have h2 := (hok a (by omega) (by omega)).l2; omega) (by have h1 := (hok a (by omega) (by omega)).l1; have h2 := (hok b (by omega) (by omega)).l2; omega))) rfl ?_
          rw [show (leadS (((ix ([], []) l a).1), ((ix ([], []) l a).2)) (((ix ([], []) l b).1), ((ix ([], []) l b).2)) : Int) = leadS (ix ([], []) l a) (ix ([], []) l b) from rfl]
          have hld := lead_bd9 (hok a (by omega) (by omega)) hgd.2 (hok b (by omega) (by omega))
          have hml := mul_ld wa2 wa3 hld
          refine Wx.rd (v := .int .i64 ((ix 0 weight a) * (leadS (ix ([], []) l a) (ix ([], []) l b)))) (rd_mul rfl rfl (in_i64 (by omega) (by omega))) rfl ?_
          refine Wx.rd (v := .int .i64 ((ix 0 worth a) - ((ix 0 weight a) * (leadS (ix ([], []) l a) (ix ([], []) l b))))) (rd_sub rfl rfl (in_i64 (by omega) (by omega))) rfl ?_
          refine Wx.rd (v := .bool (decide (((ix 0 worth a) - ((ix 0 weight a) * (leadS (ix ([], []) l a) (ix ([], []) l b)))) < (ix 0 worth b)))) (rd_gtr rfl rfl) rfl ?_
          refine Wx.nilQ (fun w_74 hx_75 => ?_)
          have hS := hS.ext hx_75
          refine W.condD rfl (fun c5 => ?_) (fun c5 => ?_)
          · -- yes
            refine W.seq ?_
            refine W.reg ?_
            refine Wx.rd (v := .bool false) (rd_assign rfl) rfl ?_
            refine Wx.nil ?_
            have e2_0 : (nbB l worth weight) = false := by exact nbB_two (a := a) (b := b) k0 (by omega) m0 (by omega) (fun hh => agr2_is.1 hh c5)
            exact W.ret ⟨.bool false, ResIs.one, hS.bel, (by rw [e2_0])⟩
          · -- no
            refine W.skip ?_
            refine W.reg ?_
            refine Wx.rd (v := .int .i64 (b + 1)) (rd_add rfl rfl (in_i64 (by omega) (by omega))) rfl ?_
            refine Wx.rd (v := .int .i64 (b + 1)) (rd_move rfl) rfl ?_
            refine Wx.nil ?_
            refine ⟨b + 1, (by show (l.length - (b + 1)).toNat < (l.length - b).toNat; omega), ?_, ?_, Out.look rfl Out.self⟩
            · exact ⟨St.tl (St.tl (St.tl (hS.tl))), (by first | omega | assumption), (by first | omega | assumption), (fun y y0 y1 => by by_cases e : y = b; (rw [e]; exact agr2_is.2 c5); exact m2 y y0 (by omega))⟩
            · exact ⟨rfl, trivial⟩
        · -- no
          refine W.exit rfl ?_
          refine W.reg ?_
          refine Wx.rd (v := .int .i64 (a + 1)) (rd_add rfl rfl (in_i64 (by omega) (by omega))) rfl ?_
          refine Wx.rd (v := .int .i64 (a + 1)) (rd_move rfl) rfl ?_
          refine Wx.nil ?_
          refine ⟨a + 1, (by show (l.length - (a + 1)).toNat < (l.length - a).toNat; omega), ?_, ?_, Out.look rfl (Out.hav rfl (Out.look rfl Out.self))⟩
          · exact ⟨hS, (by first | omega | assumption), (by first | omega | assumption), (fun x y x0 x1 y0 y1 => by by_cases e : x = a; (rw [e]; exact m2 y y0 (by omega)); exact k2 x y x0 (by omega) y0 y1)⟩
          · exact ⟨rfl, trivial⟩
      · -- no
        refine W.exit rfl ?_
        refine W.seq ?_
        refine W.reg ?_
        refine Wx.rd (v := .bool true) (rd_assign rfl) rfl ?_
        refine Wx.nil ?_
        have e3_0 : (nbB l worth weight) = true := by exact nbB_true ⟨⟨by omega, by omega⟩, fun q q0 q1 => h2 q q0 (by omega), fun x y x0 x1 y0 y1 => k2 x y x0 (by omega) y0 y1⟩
        exact W.ret ⟨.bool true, ResIs.one, hS.bel, (by rw [e3_0])⟩
end Go.Proofs.Ytjbcpggikaeleaa

namespace Go.Proofs.Ytjbcpggikaeleaa
open Go.Wk Go.RowKit Go.Lib
set_option linter.unusedVariables false
set_option linter.unusedSimpArgs false
theorem mixedLo_ : Try.prog.follows .mixedOrders = true := by kernel_rfl

set_option maxHeartbeats 2000000 in
theorem F49 {v : Value} {l : List ((List Int) × (List Int))} {Fr_v : List (Option Nat)} {rv : Value} {rg : List Int} {Fr_rv : List (Option Nat)} {w : World} (h_v : V (tSl (tP (tSl (tI .i64)) (tSl (tI .i64)))) l v Fr_v w) (h_rv : V (tSl (tI .i64)) rg rv Fr_rv w) (p_ok : SalesOK l) (p_r : ∀ x ∈ rg, 0 ≤ x ∧ x < (l.length : Int)) : Calls Try.prog 49 #[v, rv] w (Ret w (fun r _ => r = .bool (clsB l rg))) := by
  obtain ⟨gd, hgd, hok⟩ := p_ok.at
  have hl6 := p_ok.1
  have a_v := h_v.any
  have l_v := h_v.len63
  have a_rv := h_rv.any
  have l_rv := h_rv.len63
  have hS := St.start0 w
  refine enterR Try.func49 rfl Try.ntmps49 Try.results49 rfl ?_
  refine W.seq ?_
  refine W.reg ?_
  refine Wx.rd (v := .bool false) (rd_assign rfl) rfl ?_
  refine Wx.nil ?_
  refine W.seq ?_
  refine W.reg ?_
  refine Wx.rd (v := .bool false) (rd_assign rfl) rfl ?_
  refine Wx.nil ?_
  refine W.seq ?_
  refine W.seq ?_
  refine W.reg ?_
  refine Wx.rd (v := rv) (rd_move rfl) rfl ?_
  refine Wx.rd (v := .int .i64 (rg.length : Int)) (rd_lenV rfl (hS.arg a_rv) Try.underlying39) rfl ?_
  refine Wx.rd (v := .int .i64 0) (rd_move rfl) rfl ?_
  refine Wx.nil ?_
  refine W.block ?_
  refine W.loop [4, 5, 6, 7, 8, 11, 12, 13, 14, 15, 16, 17, 18, 19, 20, 21, 22, 23, 24, 25, 26, 27, 28, 29, 30, 31, 32, 33, 34, 35, 36, 37, 38, 39, 40, 41, 42, 43, 44, 45, 46, 47, 48, 49, 50, 51, 52, 53] (fun x : Bool × Int => match x with | (bt, k) => [(5, .bool bt), (11, .int .i64 k)]) (fun (x : Bool × Int) w' => match x with | (bt, k) => St w [] w' [] ∧ 0 ≤ k ∧ k ≤ rg.length ∧ (∀ i : Int, 0 ≤ i → i < k → cycB (gS l) rg i = true ∧ ix 0 rg 0 ≤ ix 0 rg i ∧ hasL (rg.take i.toNat) (ix 0 rg i) = false) ∧ (rng 0 k).any (cycB (bS l) rg) = bt) (fun x : Bool × Int => match x with | (bt, k) => (rg.length - k).toNat) (false, 0) ⟨rfl, rfl, trivial⟩ ⟨hS, (by first | omega | simp), (by first | omega | simp), (fun q q0 q1 => by omega), (rfl)⟩ ?_
  rintro ⟨bt, k⟩ u_2 w_1 ⟨hS, h0, h1, h2, h3⟩
  refine W.seq ?_
  refine W.reg ?_
  refine Wx.rd (v := .bool (decide (k < (rg.length : Int)))) (rd_lss rfl rfl) rfl ?_
  refine Wx.nil ?_
  refine W.seq ?_
  refine W.condD rfl (fun c0 => ?_) (fun c0 => ?_)
  · -- yes
    obtain ⟨hr0, hr1, hr2, hr3⟩ := ring_in p_r h0 c0
    have hem0 := Int.emod_nonneg (k + 1) (show (rg.length : Int) ≠ 0 by omega)
    have hem1 := Int.emod_lt_of_pos (k + 1) (show 0 < (rg.length : Int) by omega)
    refine W.skip ?_
    refine W.seq ?_
    refine W.block ?_
    refine W.seq ?_
    refine W.reg ?_
    refine Wx.rd (v := .int .i64 k) (rd_move rfl) rfl ?_
    refine Wx.ex (rd_index 0 (hS.arg a_rv) rfl rfl Try.underlying39 Try.sizeOf3 (by first | omega | (simp only [List.length_set, List.length_append, List.length_cons, List.length_nil, List.length_replicate]; omega)) (by first | omega | (simp only [List.length_set, List.length_append, List.length_cons, List.length_nil, List.length_replicate]; omega))) rfl (fun p_3 hp_4 => ?_)
    refine Wx.rd (v := .int .i64 (ix 0 rg k)) (rd_loadI hp_4 rfl Try.isAgg3 Try.sizeOf3) rfl ?_
    have bd_5 := bd_i64 hp_4.inK
    refine Wx.rd (v := .int .i64 k) (rd_assign rfl) rfl ?_
    refine Wx.rd (v := .int .i64 (ix 0 rg k)) (rd_assign rfl) rfl ?_
    refine Wx.nil ?_
    refine W.seq ?_
    refine W.regQ mixedLo_ (by kernel_rfl) ?_
    refine Wx.rd (v := v) (rd_move rfl) rfl ?_
    refine Wx.rd (v := .int .i64 (ix 0 rg k)) (rd_move rfl) rfl ?_
    refine Wx.ex (rd_index ([], []) (hS.arg a_v) rfl rfl Try.underlying22 Try.sizeOf62 (by first | omega | (simp only [List.length_set, List.length_append, List.length_cons, List.length_nil, List.length_replicate]; omega)) (by first | omega | (simp only [List.length_set, List.length_append, List.length_cons, List.length_nil, List.length_replicate]; omega))) rfl (fun p_6 hp_7 => ?_)
    refine Wx.ex (rd_load hp_7 rfl Try.isAgg62 Try.sizeOf62) rfl (fun v_8 hv_9 => ?_)
    obtain ⟨v_10, v_11, rfl, hv_12, hv_13⟩ := hv_9.s2
    have hS := hS.add (hv_12)
    have ln_15 := (hS.v 0 rfl).len63
    have hS := hS.add (V.upF (hv_13))
    have ln_17 := (hS.v 0 rfl).len63
    refine Wx.rd (v := v) (rd_move rfl) rfl ?_
    refine Wx.rd (v := rv) (rd_move rfl) rfl ?_
    refine Wx.rd (v := .int .i64 k) (rd_move rfl) rfl ?_
    refine Wx.rd (v := .int .i64 (k + 1)) (rd_add rfl rfl (in_i64 (by omega) (by omega))) rfl ?_
    refine Wx.rd (v := rv) (rd_move rfl) rfl ?_
    refine Wx.rd (v := .int .i64 (rg.length : Int)) (rd_lenV rfl (hS.arg a_rv) Try.underlying39) rfl ?_
    refine Wx.rd (v := .int .i64 ((k + 1) % (rg.length : Int))) (rd_rem rfl rfl (by omega) (by omega)) rfl ?_
    refine Wx.ex (rd_index 0 (hS.arg a_rv) rfl rfl Try.underlying39 Try.sizeOf3 (by first | omega | (simp only [List.length_set, List.length_append, List.length_cons, List.length_nil, List.length_replicate]; omega)) (by first | omega | (simp only [List.length_set, List.length_append, List.length_cons, List.length_nil, List.length_replicate]; omega))) rfl (fun p_18 hp_19 => ?_)
    refine Wx.rd (v := .int .i64 (ix 0 rg ((k + 1) % (rg.length : Int)))) (rd_loadI hp_19 rfl Try.isAgg3 Try.sizeOf3) rfl ?_
    have bd_20 := bd_i64 hp_19.inK
    refine Wx.ex (rd_index ([], []) (hS.arg a_v) rfl rfl Try.underlying22 Try.sizeOf62 (by first | omega | (simp only [List.length_set, List.length_append, List.length_cons, List.length_nil, List.length_replicate]; omega)) (by first | omega | (simp only [List.length_set, List.length_append, List.length_cons, List.length_nil, List.length_replicate]; omega))) rfl (fun p_21 hp_22 => ?_)
    refine Wx.ex (rd_load hp_22 rfl Try.isAgg62 Try.sizeOf62) rfl (fun v_23 hv_24 => ?_)
    obtain ⟨v_25, v_26, rfl, hv_27, hv_28⟩ := hv_24.s2
    have hS := hS.add (hv_27)
    have ln_30 := (hS.v 0 rfl).len63
    have hS := hS.add (V.upF (hv_28))
    have ln_32 := (hS.v 0 rfl).len63
    refine Wx.callV (v := .int .i64 (leadS (((ix ([], []) l (ix 0 rg k)).1), ((ix ([], []) l (ix 0 rg k)).2)) (((ix ([], []) l (ix 0 rg ((k + 1) % (rg.length : Int)))).1), ((ix ([], []) l (ix 0 rg ((k + 1) % (rg.length : Int)))).2)))) (run_callF Try.call53 rfl) (fun w_33 hw_34 => (F53 ((hS.v 3 rfl).ext hw_34) ((hS.v 2 rfl).ext hw_34) ((hS.v 1 rfl).ext hw_34) ((hS.v 0 rfl).ext hw_34) (hok (ix 0 rg k) (by omega) (by omega)).b1 (hok (ix 0 rg k) (by omega) (by omega)).b2 (hok (ix 0 rg ((k + 1) % (rg.length : Int))) (by omega) (by omega)).b2 (by have := (hok (ix 0 rg k) (by omega) (by omega)).l1; omega) (by have h1 := (hok (ix 0 rg k) (by omega) (by omega)).l1; have h2 := (hok (ix 0 rg k) (by omega) (by omega)).l2; omega) (by have h1 := (hok (ix 0 rg k) (by omega) (by omega)).l1; have h2 := (hok (ix 0 rg ((k + 1) % (rg.length : Int))) (by omega) (by omega)).l2; omega))) rfl ?_
    rw [show (leadS (((ix ([], []) l (ix 0 rg k)).1), ((ix ([], []) l (ix 0 rg k)).2)) (((ix ([], []) l (ix 0 rg ((k + 1) % (rg.length : Int)))).1), ((ix ([], []) l (ix 0 rg ((k + 1) % (rg.length : Int)))).2)) : Int) = leadS (ix ([], []) l (ix 0 rg k)) (ix ([], []) l (ix 0 rg ((k + 1) % (rg.length : Int)))) from rfl]
    have hld := lead_bd9 (hok (ix 0 rg k) (by omega) (by omega)) hgd.2 (hok (ix 0 rg ((k + 1) % (rg.length : Int))) (by omega) (by omega))
    refine Wx.rd (v := .int .i64 (leadS (ix ([], []) l (ix 0 rg k)) (ix ([], []) l (ix 0 rg ((k + 1) % (rg.length : Int)))))) (rd_assign rfl) rfl ?_
    refine Wx.nilQ (fun w_35 hx_36 => ?_)
    have hS := hS.ext hx_36
    refine W.seq ?_
    refine W.seq ?_
    refine W.reg ?_
    refine Wx.rd (v := .int .i64 (leadS (ix ([], []) l (ix 0 rg k)) (ix ([], []) l (ix 0 rg ((k + 1) % (rg.length : Int)))))) (rd_move rfl) rfl ?_
    refine Wx.rd (v := .bool (decide ((leadS (ix ([], []) l (ix 0 rg k)) (ix ([], []) l (ix 0 rg ((k + 1) % (rg.length : Int))))) < 0))) (rd_lss rfl rfl) rfl ?_
    refine Wx.rd (v := .bool (decide ((leadS (ix ([], []) l (ix 0 rg k)) (ix ([], []) l (ix 0 rg ((k + 1) % (rg.length : Int))))) < 0))) (rd_move rfl) rfl ?_
    refine Wx.cut (X := Unit) 6 [35, 36, 37, 38, 39, 40] (fun _ => [(40, .bool (decide ((leadS (ix ([], []) l (ix 0 rg k)) (ix ([], []) l (ix 0 rg ((k + 1) % (rg.length : Int))))) < 0) || decide ((ix 0 rg k) < (ix 0 rg 0))))]) (fun _ w' => St w [] w' [Ob.v (tSl (tI .i64)) ((ix ([], []) l (ix 0 rg ((k + 1) % (rg.length : Int)))).2) v_26, Ob.v (tSl (tI .i64)) ((ix ([], []) l (ix 0 rg ((k + 1) % (rg.length : Int)))).1) v_25, Ob.v (tSl (tI .i64)) ((ix ([], []) l (ix 0 rg k)).2) v_11, Ob.v (tSl (tI .i64)) ((ix ([], []) l (ix 0 rg k)).1) v_10]) ?_ ?_
    · rcases Bool.eq_false_or_eq_true (decide ((leadS (ix ([], []) l (ix 0 rg k)) (ix ([], []) l (ix 0 rg ((k + 1) % (rg.length : Int))))) < 0)) with g_37 | g_37
      · -- True
        have gp_38 := of_decide_eq_true g_37
        refine Wx.gnoB rfl rfl (congrArg Value.bool g_37) rfl rfl ?_
        refine Wx.gnoB rfl rfl (congrArg Value.bool g_37) rfl rfl ?_
        refine Wx.gnoB rfl rfl (congrArg Value.bool g_37) rfl rfl ?_
        refine Wx.gnoB rfl rfl (congrArg Value.bool g_37) rfl rfl ?_
        refine Wx.gnoB rfl rfl (congrArg Value.bool g_37) rfl rfl ?_
        refine Wx.rd (v := .bool true) (rd_pickT (congrArg Value.bool g_37) rfl) rfl ?_
        refine Wx.nil ⟨(), hS, ⟨?_, trivial⟩, Out.look rfl Out.refl⟩
        show Value.bool true = Value.bool (decide ((leadS (ix ([], []) l (ix 0 rg k)) (ix ([], []) l (ix 0 rg ((k + 1) % (rg.length : Int))))) < 0) || decide ((ix 0 rg k) < (ix 0 rg 0)))
        first | rw [g_37, Bool.true_or] | (rw [g_37]; rfl)
      · -- False
        have gp_39 := of_decide_eq_false g_37
        refine Wx.gyes rfl rfl (congrArg Value.bool g_37) ?_
        refine Wx.rd (v := .int .i64 (ix 0 rg k)) (rd_move rfl) rfl ?_
        refine Wx.gyes rfl rfl (congrArg Value.bool g_37) ?_
        refine Wx.rd (v := rv) (rd_move rfl) rfl ?_
        refine Wx.gyes rfl rfl (congrArg Value.bool g_37) ?_
        refine Wx.ex (rd_index 0 (hS.arg a_rv) rfl rfl Try.underlying39 Try.sizeOf3 (by first | omega | (simp only [List.length_set, List.length_append, List.length_cons, List.length_nil, List.length_replicate]; omega)) (by first | omega | (simp only [List.length_set, List.length_append, List.length_cons, List.length_nil, List.length_replicate]; omega))) rfl (fun p_40 hp_41 => ?_)
        refine Wx.gyes rfl rfl (congrArg Value.bool g_37) ?_
        refine Wx.rd (v := .int .i64 (ix 0 rg 0)) (rd_loadI hp_41 rfl Try.isAgg3 Try.sizeOf3) rfl ?_
        have bd_42 := bd_i64 hp_41.inK
        refine Wx.gyes rfl rfl (congrArg Value.bool g_37) ?_
        refine Wx.rd (v := .bool (decide ((ix 0 rg k) < (ix 0 rg 0)))) (rd_lss rfl rfl) rfl ?_
        refine Wx.rd (v := .bool (decide ((ix 0 rg k) < (ix 0 rg 0)))) (rd_pickF (congrArg Value.bool g_37) rfl) rfl ?_
        refine Wx.nil ⟨(), hS, ⟨?_, trivial⟩, Out.look rfl Out.refl⟩
        show Value.bool (decide ((ix 0 rg k) < (ix 0 rg 0))) = Value.bool (decide ((leadS (ix ([], []) l (ix 0 rg k)) (ix ([], []) l (ix 0 rg ((k + 1) % (rg.length : Int))))) < 0) || decide ((ix 0 rg k) < (ix 0 rg 0)))
        first | rw [g_37, Bool.false_or] | (rw [g_37]; rfl)
    rintro ⟨⟩ u_44 w_43 hS
    refine Wx.rd (v := .bool (decide ((leadS (ix ([], []) l (ix 0 rg k)) (ix ([], []) l (ix 0 rg ((k + 1) % (rg.length : Int))))) < 0) || decide ((ix 0 rg k) < (ix 0 rg 0)))) (rd_move rfl) rfl ?_
    refine Wx.cut (X := Unit) 6 [42, 43, 44, 45, 46, 47] (fun _ => [(47, .bool ((decide ((leadS (ix ([], []) l (ix 0 rg k)) (ix ([], []) l (ix 0 rg ((k + 1) % (rg.length : Int))))) < 0) || decide ((ix 0 rg k) < (ix 0 rg 0))) || hasL (rg.take k.toNat) (ix 0 rg k)))]) (fun _ w' => St w [] w' [Ob.v (tSl (tI .i64)) ((ix ([], []) l (ix 0 rg ((k + 1) % (rg.length : Int)))).2) v_26, Ob.v (tSl (tI .i64)) ((ix ([], []) l (ix 0 rg ((k + 1) % (rg.length : Int)))).1) v_25, Ob.v (tSl (tI .i64)) ((ix ([], []) l (ix 0 rg k)).2) v_11, Ob.v (tSl (tI .i64)) ((ix ([], []) l (ix 0 rg k)).1) v_10]) ?_ ?_
    · rcases Bool.eq_false_or_eq_true (decide ((leadS (ix ([], []) l (ix 0 rg k)) (ix ([], []) l (ix 0 rg ((k + 1) % (rg.length : Int))))) < 0) || decide ((ix 0 rg k) < (ix 0 rg 0))) with g_45 | g_45
      · -- True
        have gp_46 := g_45
        try simp only [Bool.and_eq_true, Bool.or_eq_true, Bool.not_eq_true', Bool.and_eq_false_iff, Bool.or_eq_false_iff, Bool.not_eq_false', decide_eq_true_eq, decide_eq_false_iff_not, not_or, Bool.false_eq_true, Bool.true_eq_false, false_or, or_false, not_false_eq_true] at gp_46
        refine Wx.gnoB rfl rfl (congrArg Value.bool g_45) rfl rfl ?_
        refine Wx.gnoB rfl rfl (congrArg Value.bool g_45) rfl rfl ?_
        refine Wx.gnoB rfl rfl (congrArg Value.bool g_45) rfl rfl ?_
        refine Wx.gnoB rfl rfl (congrArg Value.bool g_45) rfl rfl ?_
        refine Wx.gnoB rfl rfl (congrArg Value.bool g_45) rfl rfl ?_
        refine Wx.rd (v := .bool true) (rd_pickT (congrArg Value.bool g_45) rfl) rfl ?_
        refine Wx.nil ⟨(), hS, ⟨?_, trivial⟩, Out.look rfl Out.refl⟩
        show Value.bool true = Value.bool ((decide ((leadS (ix ([], []) l (ix 0 rg k)) (ix ([], []) l (ix 0 rg ((k + 1) % (rg.length : Int))))) < 0) || decide ((ix 0 rg k) < (ix 0 rg 0))) || hasL (rg.take k.toNat) (ix 0 rg k))
        first | rw [g_45, Bool.true_or] | (rw [g_45]; rfl)
      · -- False
        have gp_47 := g_45
        try simp only [Bool.and_eq_true, Bool.or_eq_true, Bool.not_eq_true', Bool.and_eq_false_iff, Bool.or_eq_false_iff, Bool.not_eq_false', decide_eq_true_eq, decide_eq_false_iff_not, not_or, Bool.false_eq_true, Bool.true_eq_false, false_or, or_false, not_false_eq_true] at gp_47
        refine Wx.gyes rfl rfl (congrArg Value.bool g_45) ?_
        refine Wx.rd (v := rv) (rd_move rfl) rfl ?_
        refine Wx.gyes rfl rfl (congrArg Value.bool g_45) ?_
        refine Wx.rd (v := .int .i64 k) (rd_move rfl) rfl ?_
        refine Wx.gyes rfl rfl (congrArg Value.bool g_45) ?_
        refine Wx.ex (rd_sliceH (hS.arg a_rv) Try.underlying39 Try.sizeOf3 rfl rfl (by omega) (by omega)) rfl (fun u_48 hu_49 => ?_)
        have ln_50 := hu_49.len63
        have hS := hS.add hu_49
        refine Wx.gyes rfl rfl (congrArg Value.bool g_45) ?_
        refine Wx.rd (v := .int .i64 (ix 0 rg k)) (rd_move rfl) rfl ?_
        refine Wx.gyes rfl rfl (congrArg Value.bool g_45) ?_
        refine Wx.callF (run_callF Try.call55 rfl) (F55 (hS.v 0 rfl) (in_i64 (by omega) (by omega))) rfl ?_
        rintro r_52 w_53 hx_54 rfl
        have hS := hS.ext hx_54
        refine Wx.rd (v := .bool (hasL (rg.take k.toNat) (ix 0 rg k))) (rd_pickF (congrArg Value.bool g_45) rfl) rfl ?_
        refine Wx.nil ⟨(), hS.tl, ⟨?_, trivial⟩, Out.look rfl Out.refl⟩
        show Value.bool (hasL (rg.take k.toNat) (ix 0 rg k)) = Value.bool ((decide ((leadS (ix ([], []) l (ix 0 rg k)) (ix ([], []) l (ix 0 rg ((k + 1) % (rg.length : Int))))) < 0) || decide ((ix 0 rg k) < (ix 0 rg 0))) || hasL (rg.take k.toNat) (ix 0 rg k))
        first | rw [g_45, Bool.false_or] | (rw [g_45]; rfl)
    rintro ⟨⟩ u_56 w_55 hS
    refine Wx.nil ?_
    refine W.cond rfl (fun c1 => ?_) (fun c1 => ?_)
    · -- yes
      try simp only [Bool.and_eq_true, Bool.or_eq_true, Bool.not_eq_true', Bool.and_eq_false_iff, Bool.or_eq_false_iff, Bool.not_eq_false', decide_eq_true_eq, decide_eq_false_iff_not, not_or, Bool.false_eq_true, Bool.true_eq_false, false_or, or_false, not_false_eq_true] at c1
      refine W.seq ?_
      refine W.reg ?_
      refine Wx.rd (v := .bool false) (rd_assign rfl) rfl ?_
      refine Wx.nil ?_
      have e0_0 : (clsB l rg) = false := by exact cls_no h0 c0 (by rcases c1 with (c1 | c1) | c1; exact .inl (.inl (decide_eq_false (by omega))); exact .inl (.inr c1); exact .inr c1)
      exact W.ret ⟨.bool false, ResIs.one, hS.bel, (by rw [e0_0])⟩
    · -- no
      try simp only [Bool.and_eq_true, Bool.or_eq_true, Bool.not_eq_true', Bool.and_eq_false_iff, Bool.or_eq_false_iff, Bool.not_eq_false', decide_eq_true_eq, decide_eq_false_iff_not, not_or, Bool.false_eq_true, Bool.true_eq_false, false_or, or_false, not_false_eq_true] at c1
      refine W.skip ?_
      refine W.reg ?_
      refine Wx.rd (v := .bool bt) (rd_move rfl) rfl ?_
      refine Wx.rd (v := .bool bt) (rd_move rfl) rfl ?_
      refine Wx.cut (X := Unit) 3 [50, 51, 52] (fun _ => [(52, .bool (bt || decide (0 < (leadS (ix ([], []) l (ix 0 rg k)) (ix ([], []) l (ix 0 rg ((k + 1) % (rg.length : Int))))))))]) (fun _ w' => St w [] w' [Ob.v (tSl (tI .i64)) ((ix ([], []) l (ix 0 rg ((k + 1) % (rg.length : Int)))).2) v_26, Ob.v (tSl (tI .i64)) ((ix ([], []) l (ix 0 rg ((k + 1) % (rg.length : Int)))).1) v_25, Ob.v (tSl (tI .i64)) ((ix ([], []) l (ix 0 rg k)).2) v_11, Ob.v (tSl (tI .i64)) ((ix ([], []) l (ix 0 rg k)).1) v_10]) ?_ ?_
      · rcases Bool.eq_false_or_eq_true bt with g_57 | g_57
        · -- True
          have gp_58 := g_57
          try simp only [Bool.and_eq_true, Bool.or_eq_true, Bool.not_eq_true', Bool.and_eq_false_iff, Bool.or_eq_false_iff, Bool.not_eq_false', decide_eq_true_eq, decide_eq_false_iff_not, not_or, Bool.false_eq_true, Bool.true_eq_false, false_or, or_false, not_false_eq_true] at gp_58
          refine Wx.gnoB rfl rfl (congrArg Value.bool g_57) rfl rfl ?_
          refine Wx.gnoB rfl rfl (congrArg Value.bool g_57) rfl rfl ?_
          refine Wx.rd (v := .bool true) (rd_pickT (congrArg Value.bool g_57) rfl) rfl ?_
          refine Wx.nil ⟨(), hS, ⟨?_, trivial⟩, Out.look rfl Out.refl⟩
          show Value.bool true = Value.bool (bt || decide (0 < (leadS (ix ([], []) l (ix 0 rg k)) (ix ([], []) l (ix 0 rg ((k + 1) % (rg.length : Int)))))))
          first | rw [g_57, Bool.true_or] | (rw [g_57]; rfl)
        · -- False
          have gp_59 := g_57
          try simp only [Bool.and_eq_true, Bool.or_eq_true, Bool.not_eq_true', Bool.and_eq_false_iff, Bool.or_eq_false_iff, Bool.not_eq_false', decide_eq_true_eq, decide_eq_false_iff_not, not_or, Bool.false_eq_true, Bool.true_eq_false, false_or, or_false, not_false_eq_true] at gp_59
          refine Wx.gyes rfl rfl (congrArg Value.bool g_57) ?_
          refine Wx.rd (v := .int .i64 (leadS (ix ([], []) l (ix 0 rg k)) (ix ([], []) l (ix 0 rg ((k + 1) % (rg.length : Int)))))) (rd_move rfl) rfl ?_
          refine Wx.gyes rfl rfl (congrArg Value.bool g_57) ?_
          refine Wx.rd (v := .bool (decide (0 < (leadS (ix ([], []) l (ix 0 rg k)) (ix ([], []) l (ix 0 rg ((k + 1) % (rg.length : Int)))))))) (rd_gtr rfl rfl) rfl ?_
          refine Wx.rd (v := .bool (decide (0 < (leadS (ix ([], []) l (ix 0 rg k)) (ix ([], []) l (ix 0 rg ((k + 1) % (rg.length : Int)))))))) (rd_pickF (congrArg Value.bool g_57) rfl) rfl ?_
          refine Wx.nil ⟨(), hS, ⟨?_, trivial⟩, Out.look rfl Out.refl⟩
          show Value.bool (decide (0 < (leadS (ix ([], []) l (ix 0 rg k)) (ix ([], []) l (ix 0 rg ((k + 1) % (rg.length : Int))))))) = Value.bool (bt || decide (0 < (leadS (ix ([], []) l (ix 0 rg k)) (ix ([], []) l (ix 0 rg ((k + 1) % (rg.length : Int)))))))
          first | rw [g_57, Bool.false_or] | (rw [g_57]; rfl)
      rintro ⟨⟩ u_61 w_60 hS
      refine Wx.rd (v := .bool (bt || decide (0 < (leadS (ix ([], []) l (ix 0 rg k)) (ix ([], []) l (ix 0 rg ((k + 1) % (rg.length : Int)))))))) (rd_assign rfl) rfl ?_
      refine Wx.nil ?_
      refine W.reg ?_
      refine Wx.rd (v := .int .i64 (k + 1)) (rd_add rfl rfl (in_i64 (by omega) (by omega))) rfl ?_
      refine Wx.rd (v := .int .i64 (k + 1)) (rd_move rfl) rfl ?_
      refine Wx.nil ?_
      refine ⟨((bt || decide (0 < (leadS (ix ([], []) l (ix 0 rg k)) (ix ([], []) l (ix 0 rg ((k + 1) % (rg.length : Int))))))), k + 1), (by show (rg.length - (k + 1)).toNat < (rg.length - k).toNat; omega), ?_, ?_, Out.look rfl (Out.hav rfl (Out.look rfl (Out.hav rfl (Out.look rfl (Out.hav rfl (Out.look rfl Out.self))))))⟩
      · exact ⟨St.tl (St.tl (St.tl (hS.tl))), (by first | omega | assumption), (by first | omega | assumption), (fun i i0 i1 => by by_cases e : i = k; (rw [e]; exact ⟨decide_eq_true (by omega), by omega, c1.2⟩); exact h2 i i0 (by omega)), (by rw [any_snoc' h0, h3]; rfl)⟩
      · exact ⟨rfl, rfl, trivial⟩
  · -- no
    refine W.exit rfl ?_
    refine W.seq ?_
    refine W.reg ?_
    refine Wx.rd (v := .bool bt) (rd_move rfl) rfl ?_
    refine Wx.rd (v := .bool bt) (rd_assign rfl) rfl ?_
    refine Wx.nil ?_
    have e1_0 : (clsB l rg) = bt := by exact (cls_end (by omega) h2).trans h3
    exact W.ret ⟨.bool bt, ResIs.one, hS.bel, (by rw [e1_0])⟩
end Go.Proofs.Ytjbcpggikaeleaa

namespace Go.Proofs.Ytjbcpggikaeleaa
open Go.Wk Go.RowKit Go.Lib
set_option linter.unusedVariables false
set_option linter.unusedSimpArgs false
theorem mixedLp_ : Try.prog.follows .mixedOrders = true := by kernel_rfl
theorem elLp_39 : ElemI Try.prog 39 3 (.int .i64 0) 1 8 := ElemI.of Try.underlying39 (by kernel_rfl) (by first | rfl | kernel_rfl) (by decide)

set_option maxHeartbeats 4000000 in
set_option maxRecDepth 10000 in
theorem F8 {zs : List Int} {wo : List Int} {we : List Int} {O : List (Option Nat)} {w : World} (n_zs : zs.length = 39) (i_zs : ∀ z ∈ zs, InK .u8 z) (n_wo : wo.length = 6) (i_wo : ∀ z ∈ wo, InK .u16 z) (n_we : we.length = 6) (i_we : ∀ z ∈ we, InK .u16 z) (hO : ∀ b, some b ∈ O → b < w.heap.size) : Calls Try.prog 8 #[.agg (List.map (Value.int .u8) zs).toArray, .agg (List.map (Value.int .u16) wo).toArray, .agg (List.map (Value.int .u16) we).toArray] w (Ret w (fun r _ => r = .bool true)) := by
  have hS := St.start w O hO
  refine enterR Try.func8 rfl Try.ntmps8 Try.results8 rfl ?_
  refine W.seq ?_
  refine W.reg ?_
  refine Wx.box (cs := List.map (Value.int .u8) zs) hS rfl rfl rfl (fun g_1 w_2 hx_4 hb_3 hS => ?_)
  refine Wx.box (cs := List.map (Value.int .u16) wo) hS rfl rfl rfl (fun g_5 w_6 hx_8 hb_7 hS => ?_)
  refine Wx.box (cs := List.map (Value.int .u16) we) hS rfl rfl rfl (fun g_9 w_10 hx_12 hb_11 hS => ?_)
  refine Wx.rd (v := .bool false) (rd_assign rfl) rfl ?_
  refine Wx.nil ?_
  refine W.seq ?_
  refine W.reg ?_
  refine Wx.rd (v := .agg (List.map (Value.int .u8) zs).toArray) (rd_loadXs (ds := List.map (Value.int .u8) zs) hS 2 rfl rfl (by rw [List.drop_zero, List.take_of_length_le (by simp; omega)]) (by simp; omega) Try.isAgg66 Try.sizeOf66) rfl ?_
  refine Wx.callF (run_callF Try.call46 rfl) (F46 n_zs i_zs (in_i64 (by omega) (by omega)) (by omega) (by omega) hS.fb_lt) rfl ?_
  rintro r_13 w_14 hx_15 ⟨l, x_hc, v_16, rfl, hv_17⟩
  have hS := hS.pushFrO hx_15 hv_17
  obtain ⟨hc, ok_hc, h6_hc⟩ := shop_ok (by decide) (by decide) x_hc
  have hgz := shG_bd zs
  refine Wx.rd (v := .tuple #[.int .i64 (shG zs), v_16]) (rd_move rfl) rfl ?_
  refine Wx.rd (v := .int .i64 (shG zs)) (rd_extract rfl rfl) rfl ?_
  refine Wx.rd (v := v_16) (rd_extract rfl rfl) rfl ?_
  refine Wx.rd (v := .int .i64 (shG zs)) (rd_assign rfl) rfl ?_
  refine Wx.rd (v := v_16) (rd_assign rfl) rfl ?_
  refine Wx.nil ?_
  refine W.seq ?_
  refine W.reg ?_
  refine Wx.rd (v := .int .i64 (shG zs)) (rd_move rfl) rfl ?_
  refine Wx.rd (v := v_16) (rd_move rfl) rfl ?_
  have hS := hS.freeze 0 rfl
  refine Wx.callF (run_callF Try.call29 rfl) (F29 (in_i64 (by omega) (by omega)) (hS.v 0 rfl) hS.fb_lt) rfl ?_
  rintro r_20 w_21 hx_22 rfl
  have hS := hS.ext hx_22
  refine Wx.rd (v := .tuple #[.bool (tasteE (shG zs) l), .int .i64 (checkE (shG zs) l)]) (rd_move rfl) rfl ?_
  refine Wx.rd (v := .bool (noR l)) (Rd.to (v := .bool (tasteE (shG zs) l)) (rd_extract rfl rfl) (congrArg (Value.bool) (show (noR l : Bool) = (tasteE (shG zs) l : Bool) from (taste_noR hc).symm).symm)) rfl ?_
  refine Wx.rd (v := .int .i64 0) (Rd.to (v := .int .i64 (checkE (shG zs) l)) (rd_extract rfl rfl) (congrArg (Value.int .i64) (show (0 : Int) = (checkE (shG zs) l : Int) from hc.symm).symm)) rfl ?_
  refine Wx.rd (v := .bool (noR l)) (rd_assign rfl) rfl ?_
  refine Wx.rd (v := .int .i64 0) (rd_assign rfl) rfl ?_
  refine Wx.nil ?_
  refine W.seq ?_
  refine W.reg ?_
  refine Wx.rd (v := .int .i64 (shG zs)) (rd_move rfl) rfl ?_
  refine Wx.rd (v := v_16) (rd_move rfl) rfl ?_
  refine Wx.callF (run_callF Try.call36 rfl) (F36 (in_i64 (by omega) (by omega)) (hS.v 0 rfl) hS.fb_lt) rfl ?_
  rintro r_23 w_24 hx_25 ⟨v_26, v_27, rfl, hv_28, hv_29⟩
  have ln_31 := hv_28.len63
  have ln_33 := hv_29.len63
  have hS := hS.ext hx_25
  have hS := hS.add hv_28
  have hS := hS.add (hv_29.mv (.less (by simp [fb, Ob.blk])))
  refine Wx.rd (v := .tuple #[v_26, v_27, .int .i64 (numX (shG zs) l)]) (rd_move rfl) rfl ?_
  refine Wx.rd (v := v_26) (rd_extract rfl rfl) rfl ?_
  refine Wx.rd (v := v_27) (rd_extract rfl rfl) rfl ?_
  refine Wx.rd (v := .int .i64 (numX (shG zs) l)) (rd_extract rfl rfl) rfl ?_
  refine Wx.rd (v := v_26) (rd_assign rfl) rfl ?_
  refine Wx.rd (v := v_27) (rd_assign rfl) rfl ?_
  refine Wx.rd (v := .int .i64 (numX (shG zs) l)) (rd_assign rfl) rfl ?_
  refine Wx.nil ?_
  refine W.seq ?_
  refine W.reg ?_
  refine Wx.rd (v := .int .i64 (shG zs)) (rd_move rfl) rfl ?_
  refine Wx.rd (v := v_16) (rd_move rfl) rfl ?_
  refine Wx.callF (run_callF Try.call31 rfl) (F31 (in_i64 (by omega) (by omega)) (hS.v 2 rfl) hS.fb_lt) rfl ?_
  rintro r_34 w_35 hx_36 ⟨v_37, rfl, hv_38⟩
  have ln_40 := hv_38.len63
  have hS := hS.ext hx_36
  have hS := hS.add hv_38
  refine Wx.rd (v := .tuple #[v_37, .int .i64 (ringX (shG zs) l)]) (rd_move rfl) rfl ?_
  refine Wx.rd (v := v_37) (rd_extract rfl rfl) rfl ?_
  refine Wx.rd (v := .int .i64 (ringX (shG zs) l)) (rd_extract rfl rfl) rfl ?_
  refine Wx.rd (v := v_37) (rd_assign rfl) rfl ?_
  refine Wx.rd (v := .int .i64 (ringX (shG zs) l)) (rd_assign rfl) rfl ?_
  refine Wx.nil ?_
  refine W.seq ?_
  refine W.seq ?_
  refine W.reg ?_
  refine Wx.rd (v := .int .i64 0) (rd_move rfl) rfl ?_
  refine Wx.rd (v := .bool false) (Rd.to (v := .bool (decide ((0 : Int) ≠ 0))) (rd_neq rfl rfl) rfl) rfl ?_
  refine Wx.rd (v := .bool false) (rd_move rfl) rfl ?_
  refine Wx.gyes rfl rfl rfl ?_
  refine Wx.rd (v := .bool (noR l)) (rd_move rfl) rfl ?_
  refine Wx.gyes rfl rfl rfl ?_
  refine Wx.rd (v := v_16) (rd_move rfl) rfl ?_
  refine Wx.gyes rfl rfl rfl ?_
  refine Wx.callF (run_callF Try.call47 rfl) (F47 (hS.v 3 rfl) ok_hc hS.fb_lt) rfl ?_
  rintro r_41 w_42 hx_43 rfl
  have hS := hS.ext hx_43
  refine Wx.gyes rfl rfl rfl ?_
  refine Wx.rd (v := .bool ((noR l) == (!(noR l)))) (rd_eqlB rfl rfl Try.underlying4) rfl ?_
  refine Wx.rd (v := .bool ((noR l) == (!(noR l)))) (rd_pickF rfl rfl) rfl ?_
  refine Wx.nil ?_
  refine W.condF rfl (by cases noR l <;> rfl) ?_
  refine W.skip ?_
  refine W.seq ?_
  refine W.reg ?_
  refine Wx.rd (v := (.slice none 0 0)) (rd_assign rfl) rfl ?_
  refine Wx.rd (v := (.slice none 0 0)) (rd_assign rfl) rfl ?_
  refine Wx.nil ?_
  refine W.seq ?_
  refine W.seq ?_
  refine W.reg ?_
  refine Wx.rd (v := v_16) (rd_move rfl) rfl ?_
  refine Wx.rd (v := .int .i64 (l.length : Int)) (rd_lenV rfl (hS.v 3 rfl) Try.underlying22) rfl ?_
  refine Wx.rd (v := .int .i64 0) (rd_move rfl) rfl ?_
  refine Wx.nil ?_
  refine W.block ?_
  have hS := hS.addNil (tI .i64) 3
  have hS := hS.addNil (tI .i64) 3
  refine W.loop [16, 17, 18, 56, 57, 58, 59, 60, 61, 62, 63, 64, 65, 66, 67, 68, 69, 70, 71, 72, 73, 74] (fun x : Int × Value × (List Int) × Value × (List Int) => match x with | (i, xv, x, yv, y) => [(56, .int .i64 i), (16, xv), (17, yv)]) (fun (x : Int × Value × (List Int) × Value × (List Int)) w' => match x with | (i, xv, x, yv, y) => St w O w' [.row (tI .i64) 3 yv y, .row (tI .i64) 3 xv x, Ob.v (tSl (tI .i64)) (ringE (shG zs) l) v_37, Ob.v (tSl (tI .i64)) (numU (shG zs) l) v_27, Ob.v (tSl (tI .i64)) (numW (shG zs) l) v_26, Ob.v (tSl (tP (tSl (tI .i64)) (tSl (tI .i64)))) l v_16, .box g_9 68 (List.map (Value.int .u16) we), .box g_5 68 (List.map (Value.int .u16) wo), .box g_1 66 (List.map (Value.int .u8) zs)] ∧ 0 ≤ i ∧ i ≤ l.length ∧ (x.length : Int) = i ∧ (y.length : Int) = i ∧ (∀ q ∈ x, 0 ≤ q ∧ q ≤ 65535) ∧ (∀ q ∈ y, 1 ≤ q ∧ q ≤ 65536)) (fun x : Int × Value × (List Int) × Value × (List Int) => match x with | (i, xv, x, yv, y) => (l.length - i).toNat) (0, (.slice none 0 0), [], (.slice none 0 0), []) ⟨rfl, rfl, rfl, trivial⟩ ⟨hS, (by first | omega | simp), (by first | omega | simp), (rfl), (rfl), (fun s hs => nomatch hs), (fun s hs => nomatch hs)⟩ ?_
  rintro ⟨i, xv, x, yv, y⟩ u_45 w_44 ⟨hS, h0, h1, h2, h3, xb, yb⟩
  refine W.seq ?_
  refine W.reg ?_
  refine Wx.rd (v := .bool (decide (i < (l.length : Int)))) (rd_lss rfl rfl) rfl ?_
  refine Wx.nil ?_
  refine W.seq ?_
  refine W.condD rfl (fun c1 => ?_) (fun c1 => ?_)
  · -- yes
    refine W.skip ?_
    refine W.seq ?_
    refine W.block ?_
    refine W.seq ?_
    refine W.reg ?_
    refine Wx.rd (v := .int .i64 i) (rd_move rfl) rfl ?_
    refine Wx.rd (v := .int .i64 i) (rd_assign rfl) rfl ?_
    refine Wx.nil ?_
    refine W.regP mixedLp_ (fun w_46 hx_47 => ?_)
    have hS := hS.ext hx_47
    refine Wp.rd (v := xv) 0 rfl (by kernel_rfl) (fun _ => (rd_move rfl)) rfl ?_
    refine Wp.rd (v := .int .i64 i) 1 rfl (by kernel_rfl) (fun _ => (rd_move rfl)) rfl ?_
    refine Wp.rd (v := .pointer (some ⟨g_5, 0 + i.toNat * 1, none⟩)) 2 rfl (by kernel_rfl) (fun _ => (rd_indexArr rfl rfl Try.underlying68 Try.sizeOf67 (by omega) (by omega))) rfl ?_
    refine Wp.rd (v := yv) 7 rfl (by kernel_rfl) (fun _ => (rd_move rfl)) rfl ?_
    refine Wp.rd (v := .int .i64 i) 8 rfl (by kernel_rfl) (fun _ => (rd_move rfl)) rfl ?_
    refine Wp.rd (v := .pointer (some ⟨g_9, 0 + i.toNat * 1, none⟩)) 9 rfl (by kernel_rfl) (fun _ => (rd_indexArr rfl rfl Try.underlying68 Try.sizeOf67 (by omega) (by omega))) rfl ?_
    refine Wp.br [3, 10] (by kernel_rfl) (by decide) ⟨⟨_, rfl, ?_⟩, ⟨_, rfl, ?_⟩, trivial⟩
    · -- operation 3
      have bz_48 := ix_u16 i_wo i
      refine Wx.rd (v := .int .u16 (ix 0 wo i)) (rd_loadXa (d := 0) (f := (Value.int .u16)) (j := i) hS 7 rfl rfl (by omega) (by omega) (by omega) Try.isAgg67) rfl ?_
      refine Wx.nil ?_
      refine Wp.rd (v := .int .i64 (ix 0 wo i)) 4 rfl (by kernel_rfl) (fun _ => (rd_convIn rfl Try.underlying67 Try.underlying3 (in_i64 (by omega) (by omega)))) rfl ?_
      refine Wp.br [5, 10] (by kernel_rfl) (by decide) ⟨⟨_, rfl, ?_⟩, ⟨_, rfl, ?_⟩, trivial⟩
      · -- operation 5
        refine Wx.lit (t := (tI .i64)) (ys := [ix 0 wo i]) (vs := [.int .i64 (ix 0 wo i)]) elLp_39 hS rfl rfl ⟨(V.mkInt (in_i64 (by omega) (by omega))), trivial⟩ (by decide) rfl (fun v_49 w_50 hx_51 hS => ?_)
        refine Wx.nil ?_
        refine Wp.br [6, 10] (by kernel_rfl) (by decide) ⟨⟨_, rfl, ?_⟩, ⟨_, rfl, ?_⟩, trivial⟩
        · -- operation 6
          refine Wx.append elLp_39 hS 2 rfl rfl rfl (Src.ofR hS 0 rfl) (by simp only [maxLen]; simp; omega) (by simp; omega) rfl (fun v_52 w_53 hz_54 hS => ?_)
          refine Wx.nil ?_
          refine Wp.br [10] (by kernel_rfl) (by decide) ⟨⟨_, rfl, ?_⟩, trivial⟩
          have bz_55 := ix_u16 i_we i
          refine Wx.rd (v := .int .u16 (ix 0 we i)) (rd_loadXa (d := 0) (f := (Value.int .u16)) (j := i) hS 7 rfl rfl (by omega) (by omega) (by omega) Try.isAgg67) rfl ?_
          refine Wx.nil ?_
          refine Wp.rd (v := .int .i64 (ix 0 we i)) 11 rfl (by kernel_rfl) (fun _ => (rd_convIn rfl Try.underlying67 Try.underlying3 (in_i64 (by omega) (by omega)))) rfl ?_
          refine Wp.rd (v := .int .i64 (1 + (ix 0 we i))) 12 rfl (by kernel_rfl) (fun _ => (rd_add rfl rfl (in_i64 (by omega) (by omega)))) rfl ?_
          refine Wp.br [13] (by kernel_rfl) (by decide) ⟨⟨_, rfl, ?_⟩, trivial⟩
          refine Wx.lit (t := (tI .i64)) (ys := [1 + (ix 0 we i)]) (vs := [.int .i64 (1 + (ix 0 we i))]) elLp_39 hS rfl rfl ⟨(V.mkInt (in_i64 (by omega) (by omega))), trivial⟩ (by decide) rfl (fun v_56 w_57 hx_58 hS => ?_)
          refine Wx.nil ?_
          refine Wp.br [14] (by kernel_rfl) (by decide) ⟨⟨_, rfl, ?_⟩, trivial⟩
          refine Wx.append elLp_39 hS 2 rfl rfl rfl (Src.ofR hS 0 rfl) (by simp only [maxLen]; simp; omega) (by simp; omega) rfl (fun v_59 w_60 hz_61 hS => ?_)
          refine Wx.nil ?_
          refine Wp.rd (v := v_52) 15 rfl (by kernel_rfl) (fun _ => (rd_assign rfl)) rfl ?_
          refine Wp.rd (v := v_59) 16 rfl (by kernel_rfl) (fun _ => (rd_assign rfl)) rfl ?_
          refine Wp.done (by kernel_rfl) ?_
          refine W.reg ?_
          refine Wx.rd (v := .int .i64 (i + 1)) (rd_add rfl rfl (in_i64 (by omega) (by omega))) rfl ?_
          refine Wx.rd (v := .int .i64 (i + 1)) (rd_move rfl) rfl ?_
          refine Wx.nil ?_
          refine ⟨(i + 1, v_52, x ++ [ix 0 wo i], v_59, y ++ [1 + (ix 0 we i)]), (by show (l.length - (i + 1)).toNat < (l.length - i).toNat; omega), ?_, ?_, Out.look rfl Out.self⟩
          · exact ⟨St.tl (hS.tl), (by first | omega | assumption), (by first | omega | assumption), (by simp only [List.length_append, List.length_cons, List.length_nil]; omega), (by simp only [List.length_append, List.length_cons, List.length_nil]; omega), (snoc_all xb (by omega)), (snoc_all yb (by omega))⟩
          · exact ⟨rfl, rfl, rfl, trivial⟩
        · -- operation 10
          have bz_62 := ix_u16 i_we i
          refine Wx.rd (v := .int .u16 (ix 0 we i)) (rd_loadXa (d := 0) (f := (Value.int .u16)) (j := i) hS 7 rfl rfl (by omega) (by omega) (by omega) Try.isAgg67) rfl ?_
          refine Wx.nil ?_
          refine Wp.rd (v := .int .i64 (ix 0 we i)) 11 rfl (by kernel_rfl) (fun _ => (rd_convIn rfl Try.underlying67 Try.underlying3 (in_i64 (by omega) (by omega)))) rfl ?_
          refine Wp.rd (v := .int .i64 (1 + (ix 0 we i))) 12 rfl (by kernel_rfl) (fun _ => (rd_add rfl rfl (in_i64 (by omega) (by omega)))) rfl ?_
          refine Wp.br [6, 13] (by kernel_rfl) (by decide) ⟨⟨_, rfl, ?_⟩, ⟨_, rfl, ?_⟩, trivial⟩
          · -- operation 6
            refine Wx.append elLp_39 hS 2 rfl rfl rfl (Src.ofR hS 0 rfl) (by simp only [maxLen]; simp; omega) (by simp; omega) rfl (fun v_63 w_64 hz_65 hS => ?_)
            refine Wx.nil ?_
            refine Wp.br [13] (by kernel_rfl) (by decide) ⟨⟨_, rfl, ?_⟩, trivial⟩
            refine Wx.lit (t := (tI .i64)) (ys := [1 + (ix 0 we i)]) (vs := [.int .i64 (1 + (ix 0 we i))]) elLp_39 hS rfl rfl ⟨(V.mkInt (in_i64 (by omega) (by omega))), trivial⟩ (by decide) rfl (fun v_66 w_67 hx_68 hS => ?_)
            refine Wx.nil ?_
            refine Wp.br [14] (by kernel_rfl) (by decide) ⟨⟨_, rfl, ?_⟩, trivial⟩
            refine Wx.append elLp_39 hS 2 rfl rfl rfl (Src.ofR hS 0 rfl) (by simp only [maxLen]; simp; omega) (by simp; omega) rfl (fun v_69 w_70 hz_71 hS => ?_)
            refine Wx.nil ?_
            refine Wp.rd (v := v_63) 15 rfl (by kernel_rfl) (fun _ => (rd_assign rfl)) rfl ?_
            refine Wp.rd (v := v_69) 16 rfl (by kernel_rfl) (fun _ => (rd_assign rfl)) rfl ?_
            refine Wp.done (by kernel_rfl) ?_
            refine W.reg ?_
            refine Wx.rd (v := .int .i64 (i + 1)) (rd_add rfl rfl (in_i64 (by omega) (by omega))) rfl ?_
            refine Wx.rd (v := .int .i64 (i + 1)) (rd_move rfl) rfl ?_
            refine Wx.nil ?_
            refine ⟨(i + 1, v_63, x ++ [ix 0 wo i], v_69, y ++ [1 + (ix 0 we i)]), (by show (l.length - (i + 1)).toNat < (l.length - i).toNat; omega), ?_, ?_, Out.look rfl Out.self⟩
            · exact ⟨St.tl (hS.tl), (by first | omega | assumption), (by first | omega | assumption), (by simp only [List.length_append, List.length_cons, List.length_nil]; omega), (by simp only [List.length_append, List.length_cons, List.length_nil]; omega), (snoc_all xb (by omega)), (snoc_all yb (by omega))⟩
            · exact ⟨rfl, rfl, rfl, trivial⟩
          · -- operation 13
            refine Wx.lit (t := (tI .i64)) (ys := [1 + (ix 0 we i)]) (vs := [.int .i64 (1 + (ix 0 we i))]) elLp_39 hS rfl rfl ⟨(V.mkInt (in_i64 (by omega) (by omega))), trivial⟩ (by decide) rfl (fun v_72 w_73 hx_74 hS => ?_)
            refine Wx.nil ?_
            refine Wp.br [6] (by kernel_rfl) (by decide) ⟨⟨_, rfl, ?_⟩, trivial⟩
            refine Wx.append elLp_39 hS 3 rfl rfl rfl (Src.ofR hS 1 rfl) (by simp only [maxLen]; simp; omega) (by simp; omega) rfl (fun v_75 w_76 hz_77 hS => ?_)
            refine Wx.nil ?_
            refine Wp.br [14] (by kernel_rfl) (by decide) ⟨⟨_, rfl, ?_⟩, trivial⟩
            refine Wx.append elLp_39 hS 2 rfl rfl rfl (Src.ofR hS 0 rfl) (by simp only [maxLen]; simp; omega) (by simp; omega) rfl (fun v_78 w_79 hz_80 hS => ?_)
            refine Wx.nil ?_
            refine Wp.rd (v := v_75) 15 rfl (by kernel_rfl) (fun _ => (rd_assign rfl)) rfl ?_
            refine Wp.rd (v := v_78) 16 rfl (by kernel_rfl) (fun _ => (rd_assign rfl)) rfl ?_
            refine Wp.done (by kernel_rfl) ?_
            refine W.reg ?_
            refine Wx.rd (v := .int .i64 (i + 1)) (rd_add rfl rfl (in_i64 (by omega) (by omega))) rfl ?_
            refine Wx.rd (v := .int .i64 (i + 1)) (rd_move rfl) rfl ?_
            refine Wx.nil ?_
            refine ⟨(i + 1, v_75, x ++ [ix 0 wo i], v_78, y ++ [1 + (ix 0 we i)]), (by show (l.length - (i + 1)).toNat < (l.length - i).toNat; omega), ?_, ?_, Out.look rfl Out.self⟩
            · exact ⟨St.tl (hS.tl), (by first | omega | assumption), (by first | omega | assumption), (by simp only [List.length_append, List.length_cons, List.length_nil]; omega), (by simp only [List.length_append, List.length_cons, List.length_nil]; omega), (snoc_all xb (by omega)), (snoc_all yb (by omega))⟩
            · exact ⟨rfl, rfl, rfl, trivial⟩
      · -- operation 10
        have bz_81 := ix_u16 i_we i
        refine Wx.rd (v := .int .u16 (ix 0 we i)) (rd_loadXa (d := 0) (f := (Value.int .u16)) (j := i) hS 6 rfl rfl (by omega) (by omega) (by omega) Try.isAgg67) rfl ?_
        refine Wx.nil ?_
        refine Wp.rd (v := .int .i64 (ix 0 we i)) 11 rfl (by kernel_rfl) (fun _ => (rd_convIn rfl Try.underlying67 Try.underlying3 (in_i64 (by omega) (by omega)))) rfl ?_
        refine Wp.rd (v := .int .i64 (1 + (ix 0 we i))) 12 rfl (by kernel_rfl) (fun _ => (rd_add rfl rfl (in_i64 (by omega) (by omega)))) rfl ?_
        refine Wp.br [5, 13] (by kernel_rfl) (by decide) ⟨⟨_, rfl, ?_⟩, ⟨_, rfl, ?_⟩, trivial⟩
        · -- operation 5
          refine Wx.lit (t := (tI .i64)) (ys := [ix 0 wo i]) (vs := [.int .i64 (ix 0 wo i)]) elLp_39 hS rfl rfl ⟨(V.mkInt (in_i64 (by omega) (by omega))), trivial⟩ (by decide) rfl (fun v_82 w_83 hx_84 hS => ?_)
          refine Wx.nil ?_
          refine Wp.br [6, 13] (by kernel_rfl) (by decide) ⟨⟨_, rfl, ?_⟩, ⟨_, rfl, ?_⟩, trivial⟩
          · -- operation 6
            refine Wx.append elLp_39 hS 2 rfl rfl rfl (Src.ofR hS 0 rfl) (by simp only [maxLen]; simp; omega) (by simp; omega) rfl (fun v_85 w_86 hz_87 hS => ?_)
            refine Wx.nil ?_
            refine Wp.br [13] (by kernel_rfl) (by decide) ⟨⟨_, rfl, ?_⟩, trivial⟩
            refine Wx.lit (t := (tI .i64)) (ys := [1 + (ix 0 we i)]) (vs := [.int .i64 (1 + (ix 0 we i))]) elLp_39 hS rfl rfl ⟨(V.mkInt (in_i64 (by omega) (by omega))), trivial⟩ (by decide) rfl (fun v_88 w_89 hx_90 hS => ?_)
            refine Wx.nil ?_
            refine Wp.br [14] (by kernel_rfl) (by decide) ⟨⟨_, rfl, ?_⟩, trivial⟩
            refine Wx.append elLp_39 hS 2 rfl rfl rfl (Src.ofR hS 0 rfl) (by simp only [maxLen]; simp; omega) (by simp; omega) rfl (fun v_91 w_92 hz_93 hS => ?_)
            refine Wx.nil ?_
            refine Wp.rd (v := v_85) 15 rfl (by kernel_rfl) (fun _ => (rd_assign rfl)) rfl ?_
            refine Wp.rd (v := v_91) 16 rfl (by kernel_rfl) (fun _ => (rd_assign rfl)) rfl ?_
            refine Wp.done (by kernel_rfl) ?_
            refine W.reg ?_
            refine Wx.rd (v := .int .i64 (i + 1)) (rd_add rfl rfl (in_i64 (by omega) (by omega))) rfl ?_
            refine Wx.rd (v := .int .i64 (i + 1)) (rd_move rfl) rfl ?_
            refine Wx.nil ?_
            refine ⟨(i + 1, v_85, x ++ [ix 0 wo i], v_91, y ++ [1 + (ix 0 we i)]), (by show (l.length - (i + 1)).toNat < (l.length - i).toNat; omega), ?_, ?_, Out.look rfl Out.self⟩
            · exact ⟨St.tl (hS.tl), (by first | omega | assumption), (by first | omega | assumption), (by simp only [List.length_append, List.length_cons, List.length_nil]; omega), (by simp only [List.length_append, List.length_cons, List.length_nil]; omega), (snoc_all xb (by omega)), (snoc_all yb (by omega))⟩
            · exact ⟨rfl, rfl, rfl, trivial⟩
          · -- operation 13
            refine Wx.lit (t := (tI .i64)) (ys := [1 + (ix 0 we i)]) (vs := [.int .i64 (1 + (ix 0 we i))]) elLp_39 hS rfl rfl ⟨(V.mkInt (in_i64 (by omega) (by omega))), trivial⟩ (by decide) rfl (fun v_94 w_95 hx_96 hS => ?_)
            refine Wx.nil ?_
            refine Wp.br [6] (by kernel_rfl) (by decide) ⟨⟨_, rfl, ?_⟩, trivial⟩
            refine Wx.append elLp_39 hS 3 rfl rfl rfl (Src.ofR hS 1 rfl) (by simp only [maxLen]; simp; omega) (by simp; omega) rfl (fun v_97 w_98 hz_99 hS => ?_)
            refine Wx.nil ?_
            refine Wp.br [14] (by kernel_rfl) (by decide) ⟨⟨_, rfl, ?_⟩, trivial⟩
            refine Wx.append elLp_39 hS 2 rfl rfl rfl (Src.ofR hS 0 rfl) (by simp only [maxLen]; simp; omega) (by simp; omega) rfl (fun v_100 w_101 hz_102 hS => ?_)
            refine Wx.nil ?_
            refine Wp.rd (v := v_97) 15 rfl (by kernel_rfl) (fun _ => (rd_assign rfl)) rfl ?_
            refine Wp.rd (v := v_100) 16 rfl (by kernel_rfl) (fun _ => (rd_assign rfl)) rfl ?_
            refine Wp.done (by kernel_rfl) ?_
            refine W.reg ?_
            refine Wx.rd (v := .int .i64 (i + 1)) (rd_add rfl rfl (in_i64 (by omega) (by omega))) rfl ?_
            refine Wx.rd (v := .int .i64 (i + 1)) (rd_move rfl) rfl ?_
            refine Wx.nil ?_
            refine ⟨(i + 1, v_97, x ++ [ix 0 wo i], v_100, y ++ [1 + (ix 0 we i)]), (by show (l.length - (i + 1)).toNat < (l.length - i).toNat; omega), ?_, ?_, Out.look rfl Out.self⟩
            · exact ⟨St.tl (hS.tl), (by first | omega | assumption), (by first | omega | assumption), (by simp only [List.length_append, List.length_cons, List.length_nil]; omega), (by simp only [List.length_append, List.length_cons, List.length_nil]; omega), (snoc_all xb (by omega)), (snoc_all yb (by omega))⟩
            · exact ⟨rfl, rfl, rfl, trivial⟩
        · -- operation 13
          refine Wx.lit (t := (tI .i64)) (ys := [1 + (ix 0 we i)]) (vs := [.int .i64 (1 + (ix 0 we i))]) elLp_39 hS rfl rfl ⟨(V.mkInt (in_i64 (by omega) (by omega))), trivial⟩ (by decide) rfl (fun v_103 w_104 hx_105 hS => ?_)
          refine Wx.nil ?_
          refine Wp.br [5] (by kernel_rfl) (by decide) ⟨⟨_, rfl, ?_⟩, trivial⟩
          refine Wx.lit (t := (tI .i64)) (ys := [ix 0 wo i]) (vs := [.int .i64 (ix 0 wo i)]) elLp_39 hS rfl rfl ⟨(V.mkInt (in_i64 (by omega) (by omega))), trivial⟩ (by decide) rfl (fun v_106 w_107 hx_108 hS => ?_)
          refine Wx.nil ?_
          refine Wp.br [6] (by kernel_rfl) (by decide) ⟨⟨_, rfl, ?_⟩, trivial⟩
          refine Wx.append elLp_39 hS 3 rfl rfl rfl (Src.ofR hS 0 rfl) (by simp only [maxLen]; simp; omega) (by simp; omega) rfl (fun v_109 w_110 hz_111 hS => ?_)
          refine Wx.nil ?_
          refine Wp.br [14] (by kernel_rfl) (by decide) ⟨⟨_, rfl, ?_⟩, trivial⟩
          refine Wx.append elLp_39 hS 2 rfl rfl rfl (Src.ofR hS 1 rfl) (by simp only [maxLen]; simp; omega) (by simp; omega) rfl (fun v_112 w_113 hz_114 hS => ?_)
          refine Wx.nil ?_
          refine Wp.rd (v := v_109) 15 rfl (by kernel_rfl) (fun _ => (rd_assign rfl)) rfl ?_
          refine Wp.rd (v := v_112) 16 rfl (by kernel_rfl) (fun _ => (rd_assign rfl)) rfl ?_
          refine Wp.done (by kernel_rfl) ?_
          refine W.reg ?_
          refine Wx.rd (v := .int .i64 (i + 1)) (rd_add rfl rfl (in_i64 (by omega) (by omega))) rfl ?_
          refine Wx.rd (v := .int .i64 (i + 1)) (rd_move rfl) rfl ?_
          refine Wx.nil ?_
          refine ⟨(i + 1, v_109, x ++ [ix 0 wo i], v_112, y ++ [1 + (ix 0 we i)]), (by show (l.length - (i + 1)).toNat < (l.length - i).toNat; omega), ?_, ?_, Out.look rfl Out.self⟩
          · exact ⟨St.tl (hS.tl), (by first | omega | assumption), (by first | omega | assumption), (by simp only [List.length_append, List.length_cons, List.length_nil]; omega), (by simp only [List.length_append, List.length_cons, List.length_nil]; omega), (snoc_all xb (by omega)), (snoc_all yb (by omega))⟩
          · exact ⟨rfl, rfl, rfl, trivial⟩
    · -- operation 10
      have bz_115 := ix_u16 i_we i
      refine Wx.rd (v := .int .u16 (ix 0 we i)) (rd_loadXa (d := 0) (f := (Value.int .u16)) (j := i) hS 6 rfl rfl (by omega) (by omega) (by omega) Try.isAgg67) rfl ?_
      refine Wx.nil ?_
      refine Wp.rd (v := .int .i64 (ix 0 we i)) 11 rfl (by kernel_rfl) (fun _ => (rd_convIn rfl Try.underlying67 Try.underlying3 (in_i64 (by omega) (by omega)))) rfl ?_
      refine Wp.rd (v := .int .i64 (1 + (ix 0 we i))) 12 rfl (by kernel_rfl) (fun _ => (rd_add rfl rfl (in_i64 (by omega) (by omega)))) rfl ?_
      refine Wp.br [3, 13] (by kernel_rfl) (by decide) ⟨⟨_, rfl, ?_⟩, ⟨_, rfl, ?_⟩, trivial⟩
      · -- operation 3
        have bz_116 := ix_u16 i_wo i
        refine Wx.rd (v := .int .u16 (ix 0 wo i)) (rd_loadXa (d := 0) (f := (Value.int .u16)) (j := i) hS 7 rfl rfl (by omega) (by omega) (by omega) Try.isAgg67) rfl ?_
        refine Wx.nil ?_
        refine Wp.rd (v := .int .i64 (ix 0 wo i)) 4 rfl (by kernel_rfl) (fun _ => (rd_convIn rfl Try.underlying67 Try.underlying3 (in_i64 (by omega) (by omega)))) rfl ?_
        refine Wp.br [5, 13] (by kernel_rfl) (by decide) ⟨⟨_, rfl, ?_⟩, ⟨_, rfl, ?_⟩, trivial⟩
        · -- operation 5
          refine Wx.lit (t := (tI .i64)) (ys := [ix 0 wo i]) (vs := [.int .i64 (ix 0 wo i)]) elLp_39 hS rfl rfl ⟨(V.mkInt (in_i64 (by omega) (by omega))), trivial⟩ (by decide) rfl (fun v_117 w_118 hx_119 hS => ?_)
          refine Wx.nil ?_
          refine Wp.br [6, 13] (by kernel_rfl) (by decide) ⟨⟨_, rfl, ?_⟩, ⟨_, rfl, ?_⟩, trivial⟩
          · -- operation 6
            refine Wx.append elLp_39 hS 2 rfl rfl rfl (Src.ofR hS 0 rfl) (by simp only [maxLen]; simp; omega) (by simp; omega) rfl (fun v_120 w_121 hz_122 hS => ?_)
            refine Wx.nil ?_
            refine Wp.br [13] (by kernel_rfl) (by decide) ⟨⟨_, rfl, ?_⟩, trivial⟩
            refine Wx.lit (t := (tI .i64)) (ys := [1 + (ix 0 we i)]) (vs := [.int .i64 (1 + (ix 0 we i))]) elLp_39 hS rfl rfl ⟨(V.mkInt (in_i64 (by omega) (by omega))), trivial⟩ (by decide) rfl (fun v_123 w_124 hx_125 hS => ?_)
            refine Wx.nil ?_
            refine Wp.br [14] (by kernel_rfl) (by decide) ⟨⟨_, rfl, ?_⟩, trivial⟩
            refine Wx.append elLp_39 hS 2 rfl rfl rfl (Src.ofR hS 0 rfl) (by simp only [maxLen]; simp; omega) (by simp; omega) rfl (fun v_126 w_127 hz_128 hS => ?_)
            refine Wx.nil ?_
            refine Wp.rd (v := v_120) 15 rfl (by kernel_rfl) (fun _ => (rd_assign rfl)) rfl ?_
            refine Wp.rd (v := v_126) 16 rfl (by kernel_rfl) (fun _ => (rd_assign rfl)) rfl ?_
            refine Wp.done (by kernel_rfl) ?_
            refine W.reg ?_
            refine Wx.rd (v := .int .i64 (i + 1)) (rd_add rfl rfl (in_i64 (by omega) (by omega))) rfl ?_
            refine Wx.rd (v := .int .i64 (i + 1)) (rd_move rfl) rfl ?_
            refine Wx.nil ?_
            refine ⟨(i + 1, v_120, x ++ [ix 0 wo i], v_126, y ++ [1 + (ix 0 we i)]), (by show (l.length - (i + 1)).toNat < (l.length - i).toNat; omega), ?_, ?_, Out.look rfl Out.self⟩
            · exact ⟨St.tl (hS.tl), (by first | omega | assumption), (by first | omega | assumption), (by simp only [List.length_append, List.length_cons, List.length_nil]; omega), (by simp only [List.length_append, List.length_cons, List.length_nil]; omega), (snoc_all xb (by omega)), (snoc_all yb (by omega))⟩
            · exact ⟨rfl, rfl, rfl, trivial⟩
          · -- operation 13
            refine Wx.lit (t := (tI .i64)) (ys := [1 + (ix 0 we i)]) (vs := [.int .i64 (1 + (ix 0 we i))]) elLp_39 hS rfl rfl ⟨(V.mkInt (in_i64 (by omega) (by omega))), trivial⟩ (by decide) rfl (fun v_129 w_130 hx_131 hS => ?_)
            refine Wx.nil ?_
            refine Wp.br [6] (by kernel_rfl) (by decide) ⟨⟨_, rfl, ?_⟩, trivial⟩
            refine Wx.append elLp_39 hS 3 rfl rfl rfl (Src.ofR hS 1 rfl) (by simp only [maxLen]; simp; omega) (by simp; omega) rfl (fun v_132 w_133 hz_134 hS => ?_)
            refine Wx.nil ?_
            refine Wp.br [14] (by kernel_rfl) (by decide) ⟨⟨_, rfl, ?_⟩, trivial⟩
            refine Wx.append elLp_39 hS 2 rfl rfl rfl (Src.ofR hS 0 rfl) (by simp only [maxLen]; simp; omega) (by simp; omega) rfl (fun v_135 w_136 hz_137 hS => ?_)
            refine Wx.nil ?_
            refine Wp.rd (v := v_132) 15 rfl (by kernel_rfl) (fun _ => (rd_assign rfl)) rfl ?_
            refine Wp.rd (v := v_135) 16 rfl (by kernel_rfl) (fun _ => (rd_assign rfl)) rfl ?_
            refine Wp.done (by kernel_rfl) ?_
            refine W.reg ?_
            refine Wx.rd (v := .int .i64 (i + 1)) (rd_add rfl rfl (in_i64 (by omega) (by omega))) rfl ?_
            refine Wx.rd (v := .int .i64 (i + 1)) (rd_move rfl) rfl ?_
            refine Wx.nil ?_
            refine ⟨(i + 1, v_132, x ++ [ix 0 wo i], v_135, y ++ [1 + (ix 0 we i)]), (by show (l.length - (i + 1)).toNat < (l.length - i).toNat; omega), ?_, ?_, Out.look rfl Out.self⟩
            · exact ⟨St.tl (hS.tl), (by first | omega | assumption), (by first | omega | assumption), (by simp only [List.length_append, List.length_cons, List.length_nil]; omega), (by simp only [List.length_append, List.length_cons, List.length_nil]; omega), (snoc_all xb (by omega)), (snoc_all yb (by omega))⟩
            · exact ⟨rfl, rfl, rfl, trivial⟩
        · -- operation 13
          refine Wx.lit (t := (tI .i64)) (ys := [1 + (ix 0 we i)]) (vs := [.int .i64 (1 + (ix 0 we i))]) elLp_39 hS rfl rfl ⟨(V.mkInt (in_i64 (by omega) (by omega))), trivial⟩ (by decide) rfl (fun v_138 w_139 hx_140 hS => ?_)
          refine Wx.nil ?_
          refine Wp.br [5] (by kernel_rfl) (by decide) ⟨⟨_, rfl, ?_⟩, trivial⟩
          refine Wx.lit (t := (tI .i64)) (ys := [ix 0 wo i]) (vs := [.int .i64 (ix 0 wo i)]) elLp_39 hS rfl rfl ⟨(V.mkInt (in_i64 (by omega) (by omega))), trivial⟩ (by decide) rfl (fun v_141 w_142 hx_143 hS => ?_)
          refine Wx.nil ?_
          refine Wp.br [6] (by kernel_rfl) (by decide) ⟨⟨_, rfl, ?_⟩, trivial⟩
          refine Wx.append elLp_39 hS 3 rfl rfl rfl (Src.ofR hS 0 rfl) (by simp only [maxLen]; simp; omega) (by simp; omega) rfl (fun v_144 w_145 hz_146 hS => ?_)
          refine Wx.nil ?_
          refine Wp.br [14] (by kernel_rfl) (by decide) ⟨⟨_, rfl, ?_⟩, trivial⟩
          refine Wx.append elLp_39 hS 2 rfl rfl rfl (Src.ofR hS 1 rfl) (by simp only [maxLen]; simp; omega) (by simp; omega) rfl (fun v_147 w_148 hz_149 hS => ?_)
          refine Wx.nil ?_
          refine Wp.rd (v := v_144) 15 rfl (by kernel_rfl) (fun _ => (rd_assign rfl)) rfl ?_
          refine Wp.rd (v := v_147) 16 rfl (by kernel_rfl) (fun _ => (rd_assign rfl)) rfl ?_
          refine Wp.done (by kernel_rfl) ?_
          refine W.reg ?_
          refine Wx.rd (v := .int .i64 (i + 1)) (rd_add rfl rfl (in_i64 (by omega) (by omega))) rfl ?_
          refine Wx.rd (v := .int .i64 (i + 1)) (rd_move rfl) rfl ?_
          refine Wx.nil ?_
          refine ⟨(i + 1, v_144, x ++ [ix 0 wo i], v_147, y ++ [1 + (ix 0 we i)]), (by show (l.length - (i + 1)).toNat < (l.length - i).toNat; omega), ?_, ?_, Out.look rfl Out.self⟩
          · exact ⟨St.tl (hS.tl), (by first | omega | assumption), (by first | omega | assumption), (by simp only [List.length_append, List.length_cons, List.length_nil]; omega), (by simp only [List.length_append, List.length_cons, List.length_nil]; omega), (snoc_all xb (by omega)), (snoc_all yb (by omega))⟩
          · exact ⟨rfl, rfl, rfl, trivial⟩
      · -- operation 13
        refine Wx.lit (t := (tI .i64)) (ys := [1 + (ix 0 we i)]) (vs := [.int .i64 (1 + (ix 0 we i))]) elLp_39 hS rfl rfl ⟨(V.mkInt (in_i64 (by omega) (by omega))), trivial⟩ (by decide) rfl (fun v_150 w_151 hx_152 hS => ?_)
        refine Wx.nil ?_
        refine Wp.br [3] (by kernel_rfl) (by decide) ⟨⟨_, rfl, ?_⟩, trivial⟩
        have bz_153 := ix_u16 i_wo i
        refine Wx.rd (v := .int .u16 (ix 0 wo i)) (rd_loadXa (d := 0) (f := (Value.int .u16)) (j := i) hS 8 rfl rfl (by omega) (by omega) (by omega) Try.isAgg67) rfl ?_
        refine Wx.nil ?_
        refine Wp.rd (v := .int .i64 (ix 0 wo i)) 4 rfl (by kernel_rfl) (fun _ => (rd_convIn rfl Try.underlying67 Try.underlying3 (in_i64 (by omega) (by omega)))) rfl ?_
        refine Wp.br [5] (by kernel_rfl) (by decide) ⟨⟨_, rfl, ?_⟩, trivial⟩
        refine Wx.lit (t := (tI .i64)) (ys := [ix 0 wo i]) (vs := [.int .i64 (ix 0 wo i)]) elLp_39 hS rfl rfl ⟨(V.mkInt (in_i64 (by omega) (by omega))), trivial⟩ (by decide) rfl (fun v_154 w_155 hx_156 hS => ?_)
        refine Wx.nil ?_
        refine Wp.br [6] (by kernel_rfl) (by decide) ⟨⟨_, rfl, ?_⟩, trivial⟩
        refine Wx.append elLp_39 hS 3 rfl rfl rfl (Src.ofR hS 0 rfl) (by simp only [maxLen]; simp; omega) (by simp; omega) rfl (fun v_157 w_158 hz_159 hS => ?_)
        refine Wx.nil ?_
        refine Wp.br [14] (by kernel_rfl) (by decide) ⟨⟨_, rfl, ?_⟩, trivial⟩
        refine Wx.append elLp_39 hS 2 rfl rfl rfl (Src.ofR hS 1 rfl) (by simp only [maxLen]; simp; omega) (by simp; omega) rfl (fun v_160 w_161 hz_162 hS => ?_)
        refine Wx.nil ?_
        refine Wp.rd (v := v_157) 15 rfl (by kernel_rfl) (fun _ => (rd_assign rfl)) rfl ?_
        refine Wp.rd (v := v_160) 16 rfl (by kernel_rfl) (fun _ => (rd_assign rfl)) rfl ?_
        refine Wp.done (by kernel_rfl) ?_
        refine W.reg ?_
        refine Wx.rd (v := .int .i64 (i + 1)) (rd_add rfl rfl (in_i64 (by omega) (by omega))) rfl ?_
        refine Wx.rd (v := .int .i64 (i + 1)) (rd_move rfl) rfl ?_
        refine Wx.nil ?_
        refine ⟨(i + 1, v_157, x ++ [ix 0 wo i], v_160, y ++ [1 + (ix 0 we i)]), (by show (l.length - (i + 1)).toNat < (l.length - i).toNat; omega), ?_, ?_, Out.look rfl Out.self⟩
        · exact ⟨St.tl (hS.tl), (by first | omega | assumption), (by first | omega | assumption), (by simp only [List.length_append, List.length_cons, List.length_nil]; omega), (by simp only [List.length_append, List.length_cons, List.length_nil]; omega), (snoc_all xb (by omega)), (snoc_all yb (by omega))⟩
        · exact ⟨rfl, rfl, rfl, trivial⟩
  · -- no
    refine W.exit rfl ?_
    refine W.seq ?_
    refine W.reg ?_
    refine Wx.rd (v := .int .i64 (shG zs)) (rd_move rfl) rfl ?_
    refine Wx.rd (v := v_16) (rd_move rfl) rfl ?_
    refine Wx.rd (v := xv) (rd_move rfl) rfl ?_
    refine Wx.rd (v := yv) (rd_move rfl) rfl ?_
    have hS := hS.freeze 1 rfl
    have hS := hS.freeze 1 rfl
    refine Wx.callF (run_callF Try.call37 rfl) (F37 (in_i64 (by omega) (by omega)) (hS.v 5 rfl) (hS.v 1 rfl) (hS.v 0 rfl) hS.fb_lt) rfl ?_
    rintro r_165 w_166 hx_167 rfl
    have hS := hS.ext hx_167
    generalize h_kk : agreesE (shG zs) l x y = kk
    have hkk := af_k hc (x := x) (y := y) (by omega) (by omega) xb yb
    rw [h_kk] at hkk
    refine Wx.rd (v := .int .i64 kk) (rd_assign rfl) rfl ?_
    refine Wx.nil ?_
    refine W.seq ?_
    refine W.seq ?_
    refine W.reg ?_
    refine Wx.rd (v := .int .i64 kk) (rd_move rfl) rfl ?_
    refine Wx.rd (v := .bool (decide (kk = 0))) (rd_eql rfl rfl) rfl ?_
    refine Wx.rd (v := v_16) (rd_move rfl) rfl ?_
    refine Wx.rd (v := xv) (rd_move rfl) rfl ?_
    refine Wx.rd (v := yv) (rd_move rfl) rfl ?_
    refine Wx.callF (run_callF Try.call48 rfl) (F48 (hS.v 5 rfl) (hS.v 1 rfl) (hS.v 0 rfl) ok_hc) rfl ?_
    rintro r_168 w_169 hx_170 rfl
    have hS := hS.ext hx_170
    rw [show (nbB l x y : Bool) = decide (kk = 0) from (by rw [← h_kk, nb_dec hc])]
    refine Wx.rd (v := .bool (!((decide (kk = 0)) == (decide (kk = 0))))) (rd_neqB rfl rfl Try.underlying4) rfl ?_
    refine Wx.rd (v := .bool (!((decide (kk = 0)) == (decide (kk = 0))))) (rd_move rfl) rfl ?_
    refine Wx.cut (X := Unit) 7 [88, 89, 90, 91, 92, 93, 94] (fun _ => [(94, .bool (!((decide (kk = 0)) == (decide (kk = 0))) || (decide (kk ≠ 0) && decide (kk ≠ 14))))]) (fun _ w' => St w O w' [Ob.v (tSl (tI .i64)) y yv, Ob.v (tSl (tI .i64)) x xv, Ob.v (tSl (tI .i64)) (ringE (shG zs) l) v_37, Ob.v (tSl (tI .i64)) (numU (shG zs) l) v_27, Ob.v (tSl (tI .i64)) (numW (shG zs) l) v_26, Ob.v (tSl (tP (tSl (tI .i64)) (tSl (tI .i64)))) l v_16, .box g_9 68 (List.map (Value.int .u16) we), .box g_5 68 (List.map (Value.int .u16) wo), .box g_1 66 (List.map (Value.int .u8) zs)]) ?_ ?_
    · rcases Bool.eq_false_or_eq_true (!((decide (kk = 0)) == (decide (kk = 0)))) with g_171 | g_171
      · -- True
        have gp_172 := g_171
        try simp only [Bool.and_eq_true, Bool.or_eq_true, Bool.not_eq_true', Bool.and_eq_false_iff, Bool.or_eq_false_iff, Bool.not_eq_false', decide_eq_true_eq, decide_eq_false_iff_not, not_or, Bool.false_eq_true, Bool.true_eq_false, false_or, or_false, not_false_eq_true] at gp_172
        refine Wx.gnoB rfl rfl (congrArg Value.bool g_171) rfl rfl ?_
        refine Wx.gnoB rfl rfl (congrArg Value.bool g_171) rfl rfl ?_
        refine Wx.gnoB rfl rfl (congrArg Value.bool g_171) rfl rfl ?_
        refine Wx.gno rfl rfl rfl rfl ?_
        refine Wx.gno rfl rfl rfl rfl ?_
        refine Wx.gnoB rfl rfl (congrArg Value.bool g_171) rfl rfl ?_
        refine Wx.rd (v := .bool true) (rd_pickT (congrArg Value.bool g_171) rfl) rfl ?_
        refine Wx.nil ⟨(), hS, ⟨?_, trivial⟩, Out.look rfl Out.refl⟩
        show Value.bool true = Value.bool (!((decide (kk = 0)) == (decide (kk = 0))) || (decide (kk ≠ 0) && decide (kk ≠ 14)))
        first | rw [g_171, Bool.true_or] | (rw [g_171]; rfl)
      · -- False
        have gp_173 := g_171
        try simp only [Bool.and_eq_true, Bool.or_eq_true, Bool.not_eq_true', Bool.and_eq_false_iff, Bool.or_eq_false_iff, Bool.not_eq_false', decide_eq_true_eq, decide_eq_false_iff_not, not_or, Bool.false_eq_true, Bool.true_eq_false, false_or, or_false, not_false_eq_true] at gp_173
        refine Wx.gyes rfl rfl (congrArg Value.bool g_171) ?_
        refine Wx.rd (v := .int .i64 kk) (rd_move rfl) rfl ?_
        refine Wx.gyes rfl rfl (congrArg Value.bool g_171) ?_
        refine Wx.rd (v := .bool (decide (kk ≠ 0))) (rd_neq rfl rfl) rfl ?_
        refine Wx.gyes rfl rfl (congrArg Value.bool g_171) ?_
        refine Wx.rd (v := .bool (decide (kk ≠ 0))) (rd_move rfl) rfl ?_
        refine Wx.cut (X := Unit) 3 [91, 92, 93] (fun _ => [(93, .bool (decide (kk ≠ 0) && decide (kk ≠ 14)))]) (fun _ w' => St w O w' [Ob.v (tSl (tI .i64)) y yv, Ob.v (tSl (tI .i64)) x xv, Ob.v (tSl (tI .i64)) (ringE (shG zs) l) v_37, Ob.v (tSl (tI .i64)) (numU (shG zs) l) v_27, Ob.v (tSl (tI .i64)) (numW (shG zs) l) v_26, Ob.v (tSl (tP (tSl (tI .i64)) (tSl (tI .i64)))) l v_16, .box g_9 68 (List.map (Value.int .u16) we), .box g_5 68 (List.map (Value.int .u16) wo), .box g_1 66 (List.map (Value.int .u8) zs)]) ?_ ?_
        · rcases Bool.eq_false_or_eq_true (decide (kk ≠ 0)) with g_174 | g_174
          · -- True
            have gp_175 := of_decide_eq_true g_174
            refine Wx.gyes rfl rfl (congrArg Value.bool g_174) ?_
            refine Wx.rd (v := .int .i64 kk) (rd_move rfl) rfl ?_
            refine Wx.gyes rfl rfl (congrArg Value.bool g_174) ?_
            refine Wx.rd (v := .bool (decide (kk ≠ 14))) (rd_neq rfl rfl) rfl ?_
            refine Wx.gyes rfl rfl (congrArg Value.bool g_171) ?_
            refine Wx.rd (v := .bool (decide (kk ≠ 14))) (rd_pickT (congrArg Value.bool g_174) rfl) rfl ?_
            refine Wx.nil ⟨(), hS, ⟨?_, trivial⟩, Out.look rfl Out.refl⟩
            show Value.bool (decide (kk ≠ 14)) = Value.bool (decide (kk ≠ 0) && decide (kk ≠ 14))
            first | rw [g_174, Bool.true_and] | (rw [g_174]; rfl)
          · -- False
            have gp_176 := of_decide_eq_false g_174
            refine Wx.gnoB rfl rfl (congrArg Value.bool g_174) rfl rfl ?_
            refine Wx.gnoB rfl rfl (congrArg Value.bool g_174) rfl rfl ?_
            refine Wx.gyes rfl rfl (congrArg Value.bool g_171) ?_
            refine Wx.rd (v := .bool false) (rd_pickF (congrArg Value.bool g_174) rfl) rfl ?_
            refine Wx.nil ⟨(), hS, ⟨?_, trivial⟩, Out.look rfl Out.refl⟩
            show Value.bool false = Value.bool (decide (kk ≠ 0) && decide (kk ≠ 14))
            first | rw [g_174, Bool.false_and] | (rw [g_174]; rfl)
        rintro ⟨⟩ u_178 w_177 hS
        refine Wx.rd (v := .bool (decide (kk ≠ 0) && decide (kk ≠ 14))) (rd_pickF (congrArg Value.bool g_171) rfl) rfl ?_
        refine Wx.nil ⟨(), hS, ⟨?_, trivial⟩, Out.look rfl (Out.hav rfl (Out.look rfl Out.refl))⟩
        show Value.bool (decide (kk ≠ 0) && decide (kk ≠ 14)) = Value.bool (!((decide (kk = 0)) == (decide (kk = 0))) || (decide (kk ≠ 0) && decide (kk ≠ 14)))
        first | rw [g_171, Bool.false_or] | (rw [g_171]; rfl)
    rintro ⟨⟩ u_180 w_179 hS
    refine Wx.nil ?_
    refine W.condF rfl (by rcases hkk.1 with h | h <;> simp [h]) ?_
    refine W.skip ?_
    refine W.seq ?_
    refine W.seq ?_
    refine W.reg ?_
    refine Wx.rd (v := .bool (noR l)) (rd_move rfl) rfl ?_
    refine Wx.nil ?_
    refine W.cond rfl (fun c3 => ?_) (fun c3 => ?_)
    · -- yes
      try simp only [Bool.and_eq_true, Bool.or_eq_true, Bool.not_eq_true', Bool.and_eq_false_iff, Bool.or_eq_false_iff, Bool.not_eq_false', decide_eq_true_eq, decide_eq_false_iff_not, not_or, Bool.false_eq_true, Bool.true_eq_false, false_or, or_false, not_false_eq_true] at c3
      obtain ⟨ay1, ay2, ay3, ay4, ay5⟩ := af_yes hc c3
      have hl5 : ((ringE (shG zs) l).length : Int) = 0 := by rw [ay5]; rfl
      refine W.seq ?_
      refine W.reg ?_
      refine Wx.rd (v := .int .i64 (numX (shG zs) l)) (rd_move rfl) rfl ?_
      refine Wx.rd (v := .bool (decide ((numX (shG zs) l) = 0))) (rd_eql rfl rfl) rfl ?_
      refine Wx.rd (v := .bool (decide ((numX (shG zs) l) = 0))) (rd_move rfl) rfl ?_
      refine Wx.cut (X := Unit) 5 [99, 100, 101, 102, 103] (fun _ => [(103, .bool (decide ((numX (shG zs) l) = 0) && true))]) (fun _ w' => St w O w' [Ob.v (tSl (tI .i64)) y yv, Ob.v (tSl (tI .i64)) x xv, Ob.v (tSl (tI .i64)) (ringE (shG zs) l) v_37, Ob.v (tSl (tI .i64)) (numU (shG zs) l) v_27, Ob.v (tSl (tI .i64)) (numW (shG zs) l) v_26, Ob.v (tSl (tP (tSl (tI .i64)) (tSl (tI .i64)))) l v_16, .box g_9 68 (List.map (Value.int .u16) we), .box g_5 68 (List.map (Value.int .u16) wo), .box g_1 66 (List.map (Value.int .u8) zs)]) ?_ ?_
      · rcases Bool.eq_false_or_eq_true (decide ((numX (shG zs) l) = 0)) with g_181 | g_181
        · -- True
          have gp_182 := of_decide_eq_true g_181
          refine Wx.gyes rfl rfl (congrArg Value.bool g_181) ?_
          refine Wx.rd (v := v_16) (rd_move rfl) rfl ?_
          refine Wx.gyes rfl rfl (congrArg Value.bool g_181) ?_
          refine Wx.rd (v := v_26) (rd_move rfl) rfl ?_
          refine Wx.gyes rfl rfl (congrArg Value.bool g_181) ?_
          refine Wx.rd (v := v_27) (rd_move rfl) rfl ?_
          refine Wx.gyes rfl rfl (congrArg Value.bool g_181) ?_
          refine Wx.callF (run_callF Try.call48 rfl) (F48 (hS.v 5 rfl) (hS.v 4 rfl) (hS.v 3 rfl) ok_hc) rfl ?_
          rintro r_183 w_184 hx_185 rfl
          have hS := hS.ext hx_185
          rw [show (nbB l (numW (shG zs) l) (numU (shG zs) l) : Bool) = true from ay2]
          refine Wx.rd (v := .bool true) (rd_pickT (congrArg Value.bool g_181) rfl) rfl ?_
          refine Wx.nil ⟨(), hS, ⟨?_, trivial⟩, Out.look rfl Out.refl⟩
          show Value.bool true = Value.bool (decide ((numX (shG zs) l) = 0) && true)
          first | rw [g_181, Bool.true_and] | (rw [g_181]; rfl)
        · -- False
          have gp_186 := of_decide_eq_false g_181
          refine Wx.gnoB rfl rfl (congrArg Value.bool g_181) rfl rfl ?_
          refine Wx.gnoB rfl rfl (congrArg Value.bool g_181) rfl rfl ?_
          refine Wx.gnoB rfl rfl (congrArg Value.bool g_181) rfl rfl ?_
          refine Wx.gnoB rfl rfl (congrArg Value.bool g_181) rfl rfl ?_
          refine Wx.rd (v := .bool false) (rd_pickF (congrArg Value.bool g_181) rfl) rfl ?_
          refine Wx.nil ⟨(), hS, ⟨?_, trivial⟩, Out.look rfl Out.refl⟩
          show Value.bool false = Value.bool (decide ((numX (shG zs) l) = 0) && true)
          first | rw [g_181, Bool.false_and] | (rw [g_181]; rfl)
      rintro ⟨⟩ u_188 w_187 hS
      refine Wx.rd (v := .bool (decide ((numX (shG zs) l) = 0) && true)) (rd_move rfl) rfl ?_
      refine Wx.cut (X := Unit) 7 [105, 106, 107, 108, 109, 110, 111] (fun _ => [(111, .bool ((decide ((numX (shG zs) l) = 0) && true) && true))]) (fun _ w' => St w O w' [Ob.v (tSl (tI .i64)) y yv, Ob.v (tSl (tI .i64)) x xv, Ob.v (tSl (tI .i64)) (ringE (shG zs) l) v_37, Ob.v (tSl (tI .i64)) (numU (shG zs) l) v_27, Ob.v (tSl (tI .i64)) (numW (shG zs) l) v_26, Ob.v (tSl (tP (tSl (tI .i64)) (tSl (tI .i64)))) l v_16, .box g_9 68 (List.map (Value.int .u16) we), .box g_5 68 (List.map (Value.int .u16) wo), .box g_1 66 (List.map (Value.int .u8) zs)]) ?_ ?_
      · rcases Bool.eq_false_or_eq_true (decide ((numX (shG zs) l) = 0) && true) with g_189 | g_189
        · -- True
          have gp_190 := g_189
          try simp only [Bool.and_eq_true, Bool.or_eq_true, Bool.not_eq_true', Bool.and_eq_false_iff, Bool.or_eq_false_iff, Bool.not_eq_false', decide_eq_true_eq, decide_eq_false_iff_not, not_or, Bool.false_eq_true, Bool.true_eq_false, false_or, or_false, not_false_eq_true] at gp_190
          refine Wx.gyes rfl rfl (congrArg Value.bool g_189) ?_
          refine Wx.rd (v := .int .i64 (shG zs)) (rd_move rfl) rfl ?_
          refine Wx.gyes rfl rfl (congrArg Value.bool g_189) ?_
          refine Wx.rd (v := v_16) (rd_move rfl) rfl ?_
          refine Wx.gyes rfl rfl (congrArg Value.bool g_189) ?_
          refine Wx.rd (v := v_26) (rd_move rfl) rfl ?_
          refine Wx.gyes rfl rfl (congrArg Value.bool g_189) ?_
          refine Wx.rd (v := v_27) (rd_move rfl) rfl ?_
          refine Wx.gyes rfl rfl (congrArg Value.bool g_189) ?_
          refine Wx.callF (run_callF Try.call37 rfl) (F37 (in_i64 (by omega) (by omega)) (hS.v 5 rfl) (hS.v 4 rfl) (hS.v 3 rfl) hS.fb_lt) rfl ?_
          rintro r_191 w_192 hx_193 rfl
          have hS := hS.ext hx_193
          rw [show (agreesE (shG zs) l (numW (shG zs) l) (numU (shG zs) l) : Int) = 0 from ay3]
          refine Wx.gyes rfl rfl (congrArg Value.bool g_189) ?_
          refine Wx.rd (v := .bool true) (Rd.to (v := .bool (decide ((0 : Int) = 0))) (rd_eql rfl rfl) rfl) rfl ?_
          refine Wx.rd (v := .bool true) (rd_pickT (congrArg Value.bool g_189) rfl) rfl ?_
          refine Wx.nil ⟨(), hS, ⟨?_, trivial⟩, Out.look rfl Out.refl⟩
          show Value.bool true = Value.bool ((decide ((numX (shG zs) l) = 0) && true) && true)
          first | rw [g_189, Bool.true_and] | (rw [g_189]; rfl)
        · -- False
          have gp_194 := g_189
          try simp only [Bool.and_eq_true, Bool.or_eq_true, Bool.not_eq_true', Bool.and_eq_false_iff, Bool.or_eq_false_iff, Bool.not_eq_false', decide_eq_true_eq, decide_eq_false_iff_not, not_or, Bool.false_eq_true, Bool.true_eq_false, false_or, or_false, not_false_eq_true] at gp_194
          refine Wx.gnoB rfl rfl (congrArg Value.bool g_189) rfl rfl ?_
          refine Wx.gnoB rfl rfl (congrArg Value.bool g_189) rfl rfl ?_
          refine Wx.gnoB rfl rfl (congrArg Value.bool g_189) rfl rfl ?_
          refine Wx.gnoB rfl rfl (congrArg Value.bool g_189) rfl rfl ?_
          refine Wx.gnoB rfl rfl (congrArg Value.bool g_189) rfl rfl ?_
          refine Wx.gnoB rfl rfl (congrArg Value.bool g_189) rfl rfl ?_
          refine Wx.rd (v := .bool false) (rd_pickF (congrArg Value.bool g_189) rfl) rfl ?_
          refine Wx.nil ⟨(), hS, ⟨?_, trivial⟩, Out.look rfl Out.refl⟩
          show Value.bool false = Value.bool ((decide ((numX (shG zs) l) = 0) && true) && true)
          first | rw [g_189, Bool.false_and] | (rw [g_189]; rfl)
      rintro ⟨⟩ u_196 w_195 hS
      refine Wx.rd (v := .bool ((decide ((numX (shG zs) l) = 0) && true) && true)) (rd_move rfl) rfl ?_
      refine Wx.cut (X := Unit) 3 [113, 114, 115] (fun _ => [(115, .bool (((decide ((numX (shG zs) l) = 0) && true) && true) && decide ((ringX (shG zs) l) = 13)))]) (fun _ w' => St w O w' [Ob.v (tSl (tI .i64)) y yv, Ob.v (tSl (tI .i64)) x xv, Ob.v (tSl (tI .i64)) (ringE (shG zs) l) v_37, Ob.v (tSl (tI .i64)) (numU (shG zs) l) v_27, Ob.v (tSl (tI .i64)) (numW (shG zs) l) v_26, Ob.v (tSl (tP (tSl (tI .i64)) (tSl (tI .i64)))) l v_16, .box g_9 68 (List.map (Value.int .u16) we), .box g_5 68 (List.map (Value.int .u16) wo), .box g_1 66 (List.map (Value.int .u8) zs)]) ?_ ?_
      · rcases Bool.eq_false_or_eq_true ((decide ((numX (shG zs) l) = 0) && true) && true) with g_197 | g_197
        · -- True
          have gp_198 := g_197
          try simp only [Bool.and_eq_true, Bool.or_eq_true, Bool.not_eq_true', Bool.and_eq_false_iff, Bool.or_eq_false_iff, Bool.not_eq_false', decide_eq_true_eq, decide_eq_false_iff_not, not_or, Bool.false_eq_true, Bool.true_eq_false, false_or, or_false, not_false_eq_true] at gp_198
          refine Wx.gyes rfl rfl (congrArg Value.bool g_197) ?_
          refine Wx.rd (v := .int .i64 (ringX (shG zs) l)) (rd_move rfl) rfl ?_
          refine Wx.gyes rfl rfl (congrArg Value.bool g_197) ?_
          refine Wx.rd (v := .bool (decide ((ringX (shG zs) l) = 13))) (rd_eql rfl rfl) rfl ?_
          refine Wx.rd (v := .bool (decide ((ringX (shG zs) l) = 13))) (rd_pickT (congrArg Value.bool g_197) rfl) rfl ?_
          refine Wx.nil ⟨(), hS, ⟨?_, trivial⟩, Out.look rfl Out.refl⟩
          show Value.bool (decide ((ringX (shG zs) l) = 13)) = Value.bool (((decide ((numX (shG zs) l) = 0) && true) && true) && decide ((ringX (shG zs) l) = 13))
          first | rw [g_197, Bool.true_and] | (rw [g_197]; rfl)
        · -- False
          have gp_199 := g_197
          try simp only [Bool.and_eq_true, Bool.or_eq_true, Bool.not_eq_true', Bool.and_eq_false_iff, Bool.or_eq_false_iff, Bool.not_eq_false', decide_eq_true_eq, decide_eq_false_iff_not, not_or, Bool.false_eq_true, Bool.true_eq_false, false_or, or_false, not_false_eq_true] at gp_199
          refine Wx.gnoB rfl rfl (congrArg Value.bool g_197) rfl rfl ?_
          refine Wx.gnoB rfl rfl (congrArg Value.bool g_197) rfl rfl ?_
          refine Wx.rd (v := .bool false) (rd_pickF (congrArg Value.bool g_197) rfl) rfl ?_
          refine Wx.nil ⟨(), hS, ⟨?_, trivial⟩, Out.look rfl Out.refl⟩
          show Value.bool false = Value.bool (((decide ((numX (shG zs) l) = 0) && true) && true) && decide ((ringX (shG zs) l) = 13))
          first | rw [g_197, Bool.false_and] | (rw [g_197]; rfl)
      rintro ⟨⟩ u_201 w_200 hS
      refine Wx.rd (v := .bool (((decide ((numX (shG zs) l) = 0) && true) && true) && decide ((ringX (shG zs) l) = 13))) (rd_move rfl) rfl ?_
      refine Wx.cut (X := Unit) 4 [117, 118, 119, 120] (fun _ => [(120, .bool ((((decide ((numX (shG zs) l) = 0) && true) && true) && decide ((ringX (shG zs) l) = 13)) && decide (((ringE (shG zs) l).length : Int) = 0)))]) (fun _ w' => St w O w' [Ob.v (tSl (tI .i64)) y yv, Ob.v (tSl (tI .i64)) x xv, Ob.v (tSl (tI .i64)) (ringE (shG zs) l) v_37, Ob.v (tSl (tI .i64)) (numU (shG zs) l) v_27, Ob.v (tSl (tI .i64)) (numW (shG zs) l) v_26, Ob.v (tSl (tP (tSl (tI .i64)) (tSl (tI .i64)))) l v_16, .box g_9 68 (List.map (Value.int .u16) we), .box g_5 68 (List.map (Value.int .u16) wo), .box g_1 66 (List.map (Value.int .u8) zs)]) ?_ ?_
      · rcases Bool.eq_false_or_eq_true (((decide ((numX (shG zs) l) = 0) && true) && true) && decide ((ringX (shG zs) l) = 13)) with g_202 | g_202
        · -- True
          have gp_203 := g_202
          try simp only [Bool.and_eq_true, Bool.or_eq_true, Bool.not_eq_true', Bool.and_eq_false_iff, Bool.or_eq_false_iff, Bool.not_eq_false', decide_eq_true_eq, decide_eq_false_iff_not, not_or, Bool.false_eq_true, Bool.true_eq_false, false_or, or_false, not_false_eq_true] at gp_203
          refine Wx.gyes rfl rfl (congrArg Value.bool g_202) ?_
          refine Wx.rd (v := v_37) (rd_move rfl) rfl ?_
          refine Wx.gyes rfl rfl (congrArg Value.bool g_202) ?_
          refine Wx.rd (v := .int .i64 ((ringE (shG zs) l).length : Int)) (rd_lenV rfl (hS.v 2 rfl) Try.underlying39) rfl ?_
          refine Wx.gyes rfl rfl (congrArg Value.bool g_202) ?_
          refine Wx.rd (v := .bool (decide (((ringE (shG zs) l).length : Int) = 0))) (rd_eql rfl rfl) rfl ?_
          refine Wx.rd (v := .bool (decide (((ringE (shG zs) l).length : Int) = 0))) (rd_pickT (congrArg Value.bool g_202) rfl) rfl ?_
          refine Wx.nil ⟨(), hS, ⟨?_, trivial⟩, Out.look rfl Out.refl⟩
          show Value.bool (decide (((ringE (shG zs) l).length : Int) = 0)) = Value.bool ((((decide ((numX (shG zs) l) = 0) && true) && true) && decide ((ringX (shG zs) l) = 13)) && decide (((ringE (shG zs) l).length : Int) = 0))
          first | rw [g_202, Bool.true_and] | (rw [g_202]; rfl)
        · -- False
          have gp_204 := g_202
          try simp only [Bool.and_eq_true, Bool.or_eq_true, Bool.not_eq_true', Bool.and_eq_false_iff, Bool.or_eq_false_iff, Bool.not_eq_false', decide_eq_true_eq, decide_eq_false_iff_not, not_or, Bool.false_eq_true, Bool.true_eq_false, false_or, or_false, not_false_eq_true] at gp_204
          refine Wx.gnoB rfl rfl (congrArg Value.bool g_202) rfl rfl ?_
          refine Wx.gnoB rfl rfl (congrArg Value.bool g_202) rfl rfl ?_
          refine Wx.gnoB rfl rfl (congrArg Value.bool g_202) rfl rfl ?_
          refine Wx.rd (v := .bool false) (rd_pickF (congrArg Value.bool g_202) rfl) rfl ?_
          refine Wx.nil ⟨(), hS, ⟨?_, trivial⟩, Out.look rfl Out.refl⟩
          show Value.bool false = Value.bool ((((decide ((numX (shG zs) l) = 0) && true) && true) && decide ((ringX (shG zs) l) = 13)) && decide (((ringE (shG zs) l).length : Int) = 0))
          first | rw [g_202, Bool.false_and] | (rw [g_202]; rfl)
      rintro ⟨⟩ u_206 w_205 hS
      refine Wx.rd (v := .bool ((((decide ((numX (shG zs) l) = 0) && true) && true) && decide ((ringX (shG zs) l) = 13)) && decide (((ringE (shG zs) l).length : Int) = 0))) (rd_move rfl) rfl ?_
      refine Wx.cut (X := Unit) 2 [122, 123] (fun _ => [(123, .bool (((((decide ((numX (shG zs) l) = 0) && true) && true) && decide ((ringX (shG zs) l) = 13)) && decide (((ringE (shG zs) l).length : Int) = 0)) && true))]) (fun _ w' => St w O w' [Ob.v (tSl (tI .i64)) y yv, Ob.v (tSl (tI .i64)) x xv, Ob.v (tSl (tI .i64)) (ringE (shG zs) l) v_37, Ob.v (tSl (tI .i64)) (numU (shG zs) l) v_27, Ob.v (tSl (tI .i64)) (numW (shG zs) l) v_26, Ob.v (tSl (tP (tSl (tI .i64)) (tSl (tI .i64)))) l v_16, .box g_9 68 (List.map (Value.int .u16) we), .box g_5 68 (List.map (Value.int .u16) wo), .box g_1 66 (List.map (Value.int .u8) zs)]) ?_ ?_
      · rcases Bool.eq_false_or_eq_true ((((decide ((numX (shG zs) l) = 0) && true) && true) && decide ((ringX (shG zs) l) = 13)) && decide (((ringE (shG zs) l).length : Int) = 0)) with g_207 | g_207
        · -- True
          have gp_208 := g_207
          try simp only [Bool.and_eq_true, Bool.or_eq_true, Bool.not_eq_true', Bool.and_eq_false_iff, Bool.or_eq_false_iff, Bool.not_eq_false', decide_eq_true_eq, decide_eq_false_iff_not, not_or, Bool.false_eq_true, Bool.true_eq_false, false_or, or_false, not_false_eq_true] at gp_208
          refine Wx.gyes rfl rfl (congrArg Value.bool g_207) ?_
          refine Wx.callF (run_callF Try.call16 rfl) (F16 hS.fb_lt) rfl ?_
          rintro r_209 w_210 hx_211 rfl
          have hS := hS.ext hx_211
          refine Wx.rd (v := .bool true) (rd_pickT (congrArg Value.bool g_207) rfl) rfl ?_
          refine Wx.nil ⟨(), hS, ⟨?_, trivial⟩, Out.look rfl Out.refl⟩
          show Value.bool true = Value.bool (((((decide ((numX (shG zs) l) = 0) && true) && true) && decide ((ringX (shG zs) l) = 13)) && decide (((ringE (shG zs) l).length : Int) = 0)) && true)
          first | rw [g_207, Bool.true_and] | (rw [g_207]; rfl)
        · -- False
          have gp_212 := g_207
          try simp only [Bool.and_eq_true, Bool.or_eq_true, Bool.not_eq_true', Bool.and_eq_false_iff, Bool.or_eq_false_iff, Bool.not_eq_false', decide_eq_true_eq, decide_eq_false_iff_not, not_or, Bool.false_eq_true, Bool.true_eq_false, false_or, or_false, not_false_eq_true] at gp_212
          refine Wx.gnoB rfl rfl (congrArg Value.bool g_207) rfl rfl ?_
          refine Wx.rd (v := .bool false) (rd_pickF (congrArg Value.bool g_207) rfl) rfl ?_
          refine Wx.nil ⟨(), hS, ⟨?_, trivial⟩, Out.look rfl Out.refl⟩
          show Value.bool false = Value.bool (((((decide ((numX (shG zs) l) = 0) && true) && true) && decide ((ringX (shG zs) l) = 13)) && decide (((ringE (shG zs) l).length : Int) = 0)) && true)
          first | rw [g_207, Bool.false_and] | (rw [g_207]; rfl)
      rintro ⟨⟩ u_214 w_213 hS
      refine Wx.rd (v := .bool (((((decide ((numX (shG zs) l) = 0) && true) && true) && decide ((ringX (shG zs) l) = 13)) && decide (((ringE (shG zs) l).length : Int) = 0)) && true)) (rd_assign rfl) rfl ?_
      refine Wx.nil ?_
      have e0_0 : (((((decide ((numX (shG zs) l) = 0) && true) && true) && decide ((ringX (shG zs) l) = 13)) && decide (((ringE (shG zs) l).length : Int) = 0)) && true) = true := by rw [ay1, ay4, ay5]; rfl
      exact W.ret ⟨.bool (((((decide ((numX (shG zs) l) = 0) && true) && true) && decide ((ringX (shG zs) l) = 13)) && decide (((ringE (shG zs) l).length : Int) = 0)) && true), ResIs.one, hS.bel, (by rw [e0_0])⟩
    · -- no
      try simp only [Bool.and_eq_true, Bool.or_eq_true, Bool.not_eq_true', Bool.and_eq_false_iff, Bool.or_eq_false_iff, Bool.not_eq_false', decide_eq_true_eq, decide_eq_false_iff_not, not_or, Bool.false_eq_true, Bool.true_eq_false, false_or, or_false, not_false_eq_true] at c3
      obtain ⟨an1, an2, an3, an4, an5⟩ := af_no hc c3
      have hw0 : ((numW (shG zs) l).length : Int) = 0 := by rw [an2]; rfl
      have hu0 : ((numU (shG zs) l).length : Int) = 0 := by rw [an3]; rfl
      have hk14 := hkk.2 c3
      refine W.skip ?_
      refine W.seq ?_
      refine W.seq ?_
      refine W.reg ?_
      refine Wx.rd (v := v_37) (rd_move rfl) rfl ?_
      refine Wx.rd (v := .int .i64 ((ringE (shG zs) l).length : Int)) (rd_lenV rfl (hS.v 2 rfl) Try.underlying39) rfl ?_
      refine Wx.rd (v := .int .i64 0) (rd_move rfl) rfl ?_
      refine Wx.nil ?_
      refine W.block ?_
      refine W.loop [6, 21, 126, 127, 128, 129, 130, 131, 132, 133, 134, 135, 136, 137, 138] (fun (q : Int) => [(126, .int .i64 q)]) (fun (q : Int) w' => St w O w' [Ob.v (tSl (tI .i64)) y yv, Ob.v (tSl (tI .i64)) x xv, Ob.v (tSl (tI .i64)) (ringE (shG zs) l) v_37, Ob.v (tSl (tI .i64)) (numU (shG zs) l) v_27, Ob.v (tSl (tI .i64)) (numW (shG zs) l) v_26, Ob.v (tSl (tP (tSl (tI .i64)) (tSl (tI .i64)))) l v_16, .box g_9 68 (List.map (Value.int .u16) we), .box g_5 68 (List.map (Value.int .u16) wo), .box g_1 66 (List.map (Value.int .u8) zs)] ∧ 0 ≤ q ∧ q ≤ ((ringE (shG zs) l).length : Int)) (fun (q : Int) => ((ringE (shG zs) l).length - q).toNat) 0 ⟨rfl, trivial⟩ ⟨hS, (by first | omega | simp), (by first | omega | simp)⟩ ?_
      rintro q u_216 w_215 ⟨hS, g0, g1⟩
      refine W.seq ?_
      refine W.reg ?_
      refine Wx.rd (v := .bool (decide (q < ((ringE (shG zs) l).length : Int)))) (rd_lss rfl rfl) rfl ?_
      refine Wx.nil ?_
      refine W.seq ?_
      refine W.condD rfl (fun c4 => ?_) (fun c4 => ?_)
      · -- yes
        have hrr := ringP_in an5 _ (List.mem_of_getElem? (ix_get (d := (0 : Int)) c4 g0))
        refine W.skip ?_
        refine W.seq ?_
        refine W.block ?_
        refine W.seq ?_
        refine W.reg ?_
        refine Wx.ex (rd_index 0 (hS.v 2 rfl) rfl rfl Try.underlying39 Try.sizeOf3 (by first | omega | (simp only [List.length_set, List.length_append, List.length_cons, List.length_nil, List.length_replicate]; omega)) (by first | omega | (simp only [List.length_set, List.length_append, List.length_cons, List.length_nil, List.length_replicate]; omega))) rfl (fun p_217 hp_218 => ?_)
        refine Wx.rd (v := .int .i64 (ix 0 (ringE (shG zs) l) q)) (rd_loadI hp_218 rfl Try.isAgg3 Try.sizeOf3) rfl ?_
        have bd_219 := bd_i64 hp_218.inK
        refine Wx.rd (v := .int .i64 (ix 0 (ringE (shG zs) l) q)) (rd_assign rfl) rfl ?_
        refine Wx.nil ?_
        refine W.seq ?_
        refine W.reg ?_
        refine Wx.rd (v := .int .i64 (ix 0 (ringE (shG zs) l) q)) (rd_move rfl) rfl ?_
        refine Wx.rd (v := .bool (decide ((ix 0 (ringE (shG zs) l) q) < 0))) (rd_lss rfl rfl) rfl ?_
        refine Wx.rd (v := .bool (decide ((ix 0 (ringE (shG zs) l) q) < 0))) (rd_move rfl) rfl ?_
        refine Wx.cut (X := Unit) 5 [133, 134, 135, 136, 137] (fun _ => [(137, .bool (decide ((ix 0 (ringE (shG zs) l) q) < 0) || decide ((l.length : Int) ≤ (ix 0 (ringE (shG zs) l) q))))]) (fun _ w' => St w O w' [Ob.v (tSl (tI .i64)) y yv, Ob.v (tSl (tI .i64)) x xv, Ob.v (tSl (tI .i64)) (ringE (shG zs) l) v_37, Ob.v (tSl (tI .i64)) (numU (shG zs) l) v_27, Ob.v (tSl (tI .i64)) (numW (shG zs) l) v_26, Ob.v (tSl (tP (tSl (tI .i64)) (tSl (tI .i64)))) l v_16, .box g_9 68 (List.map (Value.int .u16) we), .box g_5 68 (List.map (Value.int .u16) wo), .box g_1 66 (List.map (Value.int .u8) zs)]) ?_ ?_
        · rcases Bool.eq_false_or_eq_true (decide ((ix 0 (ringE (shG zs) l) q) < 0)) with g_220 | g_220
          · -- True
            have gp_221 := of_decide_eq_true g_220
            refine Wx.gnoB rfl rfl (congrArg Value.bool g_220) rfl rfl ?_
            refine Wx.gnoB rfl rfl (congrArg Value.bool g_220) rfl rfl ?_
            refine Wx.gnoB rfl rfl (congrArg Value.bool g_220) rfl rfl ?_
            refine Wx.gnoB rfl rfl (congrArg Value.bool g_220) rfl rfl ?_
            refine Wx.rd (v := .bool true) (rd_pickT (congrArg Value.bool g_220) rfl) rfl ?_
            refine Wx.nil ⟨(), hS, ⟨?_, trivial⟩, Out.look rfl Out.refl⟩
            show Value.bool true = Value.bool (decide ((ix 0 (ringE (shG zs) l) q) < 0) || decide ((l.length : Int) ≤ (ix 0 (ringE (shG zs) l) q)))
            first | rw [g_220, Bool.true_or] | (rw [g_220]; rfl)
          · -- False
            have gp_222 := of_decide_eq_false g_220
            refine Wx.gyes rfl rfl (congrArg Value.bool g_220) ?_
            refine Wx.rd (v := .int .i64 (ix 0 (ringE (shG zs) l) q)) (rd_move rfl) rfl ?_
            refine Wx.gyes rfl rfl (congrArg Value.bool g_220) ?_
            refine Wx.rd (v := v_16) (rd_move rfl) rfl ?_
            refine Wx.gyes rfl rfl (congrArg Value.bool g_220) ?_
            refine Wx.rd (v := .int .i64 (l.length : Int)) (rd_lenV rfl (hS.v 5 rfl) Try.underlying22) rfl ?_
            refine Wx.gyes rfl rfl (congrArg Value.bool g_220) ?_
            refine Wx.rd (v := .bool (decide ((l.length : Int) ≤ (ix 0 (ringE (shG zs) l) q)))) (rd_geq rfl rfl) rfl ?_
            refine Wx.rd (v := .bool (decide ((l.length : Int) ≤ (ix 0 (ringE (shG zs) l) q)))) (rd_pickF (congrArg Value.bool g_220) rfl) rfl ?_
            refine Wx.nil ⟨(), hS, ⟨?_, trivial⟩, Out.look rfl Out.refl⟩
            show Value.bool (decide ((l.length : Int) ≤ (ix 0 (ringE (shG zs) l) q))) = Value.bool (decide ((ix 0 (ringE (shG zs) l) q) < 0) || decide ((l.length : Int) ≤ (ix 0 (ringE (shG zs) l) q)))
            first | rw [g_220, Bool.false_or] | (rw [g_220]; rfl)
        rintro ⟨⟩ u_224 w_223 hS
        refine Wx.nil ?_
        refine W.condF rfl (by simp; omega) ?_
        refine W.skip ?_
        refine W.reg ?_
        refine Wx.rd (v := .int .i64 (q + 1)) (rd_add rfl rfl (in_i64 (by omega) (by omega))) rfl ?_
        refine Wx.rd (v := .int .i64 (q + 1)) (rd_move rfl) rfl ?_
        refine Wx.nil ?_
        refine ⟨q + 1, (by show ((ringE (shG zs) l).length - (q + 1)).toNat < ((ringE (shG zs) l).length - q).toNat; omega), ?_, ?_, Out.look rfl (Out.hav rfl (Out.look rfl Out.self))⟩
        · exact ⟨hS, (by first | omega | assumption), (by first | omega | assumption)⟩
        · exact ⟨rfl, trivial⟩
      · -- no
        refine W.exit rfl ?_
        refine W.seq ?_
        refine W.reg ?_
        refine Wx.rd (v := .int .i64 (numX (shG zs) l)) (rd_move rfl) rfl ?_
        refine Wx.rd (v := .bool (decide ((numX (shG zs) l) = 13))) (rd_eql rfl rfl) rfl ?_
        refine Wx.rd (v := .bool (decide ((numX (shG zs) l) = 13))) (rd_move rfl) rfl ?_
        refine Wx.cut (X := Unit) 7 [142, 143, 144, 145, 146, 147, 148] (fun _ => [(148, .bool (decide ((numX (shG zs) l) = 13) && decide ((((numW (shG zs) l).length : Int) + ((numU (shG zs) l).length : Int)) = 0)))]) (fun _ w' => St w O w' [Ob.v (tSl (tI .i64)) y yv, Ob.v (tSl (tI .i64)) x xv, Ob.v (tSl (tI .i64)) (ringE (shG zs) l) v_37, Ob.v (tSl (tI .i64)) (numU (shG zs) l) v_27, Ob.v (tSl (tI .i64)) (numW (shG zs) l) v_26, Ob.v (tSl (tP (tSl (tI .i64)) (tSl (tI .i64)))) l v_16, .box g_9 68 (List.map (Value.int .u16) we), .box g_5 68 (List.map (Value.int .u16) wo), .box g_1 66 (List.map (Value.int .u8) zs)]) ?_ ?_
        · rcases Bool.eq_false_or_eq_true (decide ((numX (shG zs) l) = 13)) with g_225 | g_225
          · -- True
            have gp_226 := of_decide_eq_true g_225
            refine Wx.gyes rfl rfl (congrArg Value.bool g_225) ?_
            refine Wx.rd (v := v_26) (rd_move rfl) rfl ?_
            refine Wx.gyes rfl rfl (congrArg Value.bool g_225) ?_
            refine Wx.rd (v := .int .i64 ((numW (shG zs) l).length : Int)) (rd_lenV rfl (hS.v 4 rfl) Try.underlying39) rfl ?_
            refine Wx.gyes rfl rfl (congrArg Value.bool g_225) ?_
            refine Wx.rd (v := v_27) (rd_move rfl) rfl ?_
            refine Wx.gyes rfl rfl (congrArg Value.bool g_225) ?_
            refine Wx.rd (v := .int .i64 ((numU (shG zs) l).length : Int)) (rd_lenV rfl (hS.v 3 rfl) Try.underlying39) rfl ?_
            refine Wx.gyes rfl rfl (congrArg Value.bool g_225) ?_
            refine Wx.rd (v := .int .i64 (((numW (shG zs) l).length : Int) + ((numU (shG zs) l).length : Int))) (rd_add rfl rfl (in_i64 (by omega) (by omega))) rfl ?_
            refine Wx.gyes rfl rfl (congrArg Value.bool g_225) ?_
            refine Wx.rd (v := .bool (decide ((((numW (shG zs) l).length : Int) + ((numU (shG zs) l).length : Int)) = 0))) (rd_eql rfl rfl) rfl ?_
            refine Wx.rd (v := .bool (decide ((((numW (shG zs) l).length : Int) + ((numU (shG zs) l).length : Int)) = 0))) (rd_pickT (congrArg Value.bool g_225) rfl) rfl ?_
            refine Wx.nil ⟨(), hS, ⟨?_, trivial⟩, Out.look rfl Out.refl⟩
            show Value.bool (decide ((((numW (shG zs) l).length : Int) + ((numU (shG zs) l).length : Int)) = 0)) = Value.bool (decide ((numX (shG zs) l) = 13) && decide ((((numW (shG zs) l).length : Int) + ((numU (shG zs) l).length : Int)) = 0))
            first | rw [g_225, Bool.true_and] | (rw [g_225]; rfl)
          · -- False
            have gp_227 := of_decide_eq_false g_225
            refine Wx.gnoB rfl rfl (congrArg Value.bool g_225) rfl rfl ?_
            refine Wx.gnoB rfl rfl (congrArg Value.bool g_225) rfl rfl ?_
            refine Wx.gnoB rfl rfl (congrArg Value.bool g_225) rfl rfl ?_
            refine Wx.gnoB rfl rfl (congrArg Value.bool g_225) rfl rfl ?_
            refine Wx.gnoB rfl rfl (congrArg Value.bool g_225) rfl rfl ?_
            refine Wx.gnoB rfl rfl (congrArg Value.bool g_225) rfl rfl ?_
            refine Wx.rd (v := .bool false) (rd_pickF (congrArg Value.bool g_225) rfl) rfl ?_
            refine Wx.nil ⟨(), hS, ⟨?_, trivial⟩, Out.look rfl Out.refl⟩
            show Value.bool false = Value.bool (decide ((numX (shG zs) l) = 13) && decide ((((numW (shG zs) l).length : Int) + ((numU (shG zs) l).length : Int)) = 0))
            first | rw [g_225, Bool.false_and] | (rw [g_225]; rfl)
        rintro ⟨⟩ u_229 w_228 hS
        refine Wx.rd (v := .bool (decide ((numX (shG zs) l) = 13) && decide ((((numW (shG zs) l).length : Int) + ((numU (shG zs) l).length : Int)) = 0))) (rd_move rfl) rfl ?_
        refine Wx.cut (X := Unit) 3 [150, 151, 152] (fun _ => [(152, .bool ((decide ((numX (shG zs) l) = 13) && decide ((((numW (shG zs) l).length : Int) + ((numU (shG zs) l).length : Int)) = 0)) && decide ((ringX (shG zs) l) = 0)))]) (fun _ w' => St w O w' [Ob.v (tSl (tI .i64)) y yv, Ob.v (tSl (tI .i64)) x xv, Ob.v (tSl (tI .i64)) (ringE (shG zs) l) v_37, Ob.v (tSl (tI .i64)) (numU (shG zs) l) v_27, Ob.v (tSl (tI .i64)) (numW (shG zs) l) v_26, Ob.v (tSl (tP (tSl (tI .i64)) (tSl (tI .i64)))) l v_16, .box g_9 68 (List.map (Value.int .u16) we), .box g_5 68 (List.map (Value.int .u16) wo), .box g_1 66 (List.map (Value.int .u8) zs)]) ?_ ?_
        · rcases Bool.eq_false_or_eq_true (decide ((numX (shG zs) l) = 13) && decide ((((numW (shG zs) l).length : Int) + ((numU (shG zs) l).length : Int)) = 0)) with g_230 | g_230
          · -- True
            have gp_231 := g_230
            try simp only [Bool.and_eq_true, Bool.or_eq_true, Bool.not_eq_true', Bool.and_eq_false_iff, Bool.or_eq_false_iff, Bool.not_eq_false', decide_eq_true_eq, decide_eq_false_iff_not, not_or, Bool.false_eq_true, Bool.true_eq_false, false_or, or_false, not_false_eq_true] at gp_231
            refine Wx.gyes rfl rfl (congrArg Value.bool g_230) ?_
            refine Wx.rd (v := .int .i64 (ringX (shG zs) l)) (rd_move rfl) rfl ?_
            refine Wx.gyes rfl rfl (congrArg Value.bool g_230) ?_
            refine Wx.rd (v := .bool (decide ((ringX (shG zs) l) = 0))) (rd_eql rfl rfl) rfl ?_
            refine Wx.rd (v := .bool (decide ((ringX (shG zs) l) = 0))) (rd_pickT (congrArg Value.bool g_230) rfl) rfl ?_
            refine Wx.nil ⟨(), hS, ⟨?_, trivial⟩, Out.look rfl Out.refl⟩
            show Value.bool (decide ((ringX (shG zs) l) = 0)) = Value.bool ((decide ((numX (shG zs) l) = 13) && decide ((((numW (shG zs) l).length : Int) + ((numU (shG zs) l).length : Int)) = 0)) && decide ((ringX (shG zs) l) = 0))
            first | rw [g_230, Bool.true_and] | (rw [g_230]; rfl)
          · -- False
            have gp_232 := g_230
            try simp only [Bool.and_eq_true, Bool.or_eq_true, Bool.not_eq_true', Bool.and_eq_false_iff, Bool.or_eq_false_iff, Bool.not_eq_false', decide_eq_true_eq, decide_eq_false_iff_not, not_or, Bool.false_eq_true, Bool.true_eq_false, false_or, or_false, not_false_eq_true] at gp_232
            refine Wx.gnoB rfl rfl (congrArg Value.bool g_230) rfl rfl ?_
            refine Wx.gnoB rfl rfl (congrArg Value.bool g_230) rfl rfl ?_
            refine Wx.rd (v := .bool false) (rd_pickF (congrArg Value.bool g_230) rfl) rfl ?_
            refine Wx.nil ⟨(), hS, ⟨?_, trivial⟩, Out.look rfl Out.refl⟩
            show Value.bool false = Value.bool ((decide ((numX (shG zs) l) = 13) && decide ((((numW (shG zs) l).length : Int) + ((numU (shG zs) l).length : Int)) = 0)) && decide ((ringX (shG zs) l) = 0))
            first | rw [g_230, Bool.false_and] | (rw [g_230]; rfl)
        rintro ⟨⟩ u_234 w_233 hS
        refine Wx.rd (v := .bool ((decide ((numX (shG zs) l) = 13) && decide ((((numW (shG zs) l).length : Int) + ((numU (shG zs) l).length : Int)) = 0)) && decide ((ringX (shG zs) l) = 0))) (rd_move rfl) rfl ?_
        refine Wx.cut (X := Unit) 4 [154, 155, 156, 157] (fun _ => [(157, .bool (((decide ((numX (shG zs) l) = 13) && decide ((((numW (shG zs) l).length : Int) + ((numU (shG zs) l).length : Int)) = 0)) && decide ((ringX (shG zs) l) = 0)) && true))]) (fun _ w' => St w O w' [Ob.v (tSl (tI .i64)) y yv, Ob.v (tSl (tI .i64)) x xv, Ob.v (tSl (tI .i64)) (ringE (shG zs) l) v_37, Ob.v (tSl (tI .i64)) (numU (shG zs) l) v_27, Ob.v (tSl (tI .i64)) (numW (shG zs) l) v_26, Ob.v (tSl (tP (tSl (tI .i64)) (tSl (tI .i64)))) l v_16, .box g_9 68 (List.map (Value.int .u16) we), .box g_5 68 (List.map (Value.int .u16) wo), .box g_1 66 (List.map (Value.int .u8) zs)]) ?_ ?_
        · rcases Bool.eq_false_or_eq_true ((decide ((numX (shG zs) l) = 13) && decide ((((numW (shG zs) l).length : Int) + ((numU (shG zs) l).length : Int)) = 0)) && decide ((ringX (shG zs) l) = 0)) with g_235 | g_235
          · -- True
            have gp_236 := g_235
            try simp only [Bool.and_eq_true, Bool.or_eq_true, Bool.not_eq_true', Bool.and_eq_false_iff, Bool.or_eq_false_iff, Bool.not_eq_false', decide_eq_true_eq, decide_eq_false_iff_not, not_or, Bool.false_eq_true, Bool.true_eq_false, false_or, or_false, not_false_eq_true] at gp_236
            refine Wx.gyes rfl rfl (congrArg Value.bool g_235) ?_
            refine Wx.rd (v := v_16) (rd_move rfl) rfl ?_
            refine Wx.gyes rfl rfl (congrArg Value.bool g_235) ?_
            refine Wx.rd (v := v_37) (rd_move rfl) rfl ?_
            refine Wx.gyes rfl rfl (congrArg Value.bool g_235) ?_
            refine Wx.callF (run_callF Try.call49 rfl) (F49 (hS.v 5 rfl) (hS.v 2 rfl) ok_hc (ringP_in an5)) rfl ?_
            rintro r_237 w_238 hx_239 rfl
            have hS := hS.ext hx_239
            rw [show (clsB l (ringE (shG zs) l) : Bool) = true from (cls_iff (ringP_in an5)).2 an5]
            refine Wx.rd (v := .bool true) (rd_pickT (congrArg Value.bool g_235) rfl) rfl ?_
            refine Wx.nil ⟨(), hS, ⟨?_, trivial⟩, Out.look rfl Out.refl⟩
            show Value.bool true = Value.bool (((decide ((numX (shG zs) l) = 13) && decide ((((numW (shG zs) l).length : Int) + ((numU (shG zs) l).length : Int)) = 0)) && decide ((ringX (shG zs) l) = 0)) && true)
            first | rw [g_235, Bool.true_and] | (rw [g_235]; rfl)
          · -- False
            have gp_240 := g_235
            try simp only [Bool.and_eq_true, Bool.or_eq_true, Bool.not_eq_true', Bool.and_eq_false_iff, Bool.or_eq_false_iff, Bool.not_eq_false', decide_eq_true_eq, decide_eq_false_iff_not, not_or, Bool.false_eq_true, Bool.true_eq_false, false_or, or_false, not_false_eq_true] at gp_240
            refine Wx.gnoB rfl rfl (congrArg Value.bool g_235) rfl rfl ?_
            refine Wx.gnoB rfl rfl (congrArg Value.bool g_235) rfl rfl ?_
            refine Wx.gnoB rfl rfl (congrArg Value.bool g_235) rfl rfl ?_
            refine Wx.rd (v := .bool false) (rd_pickF (congrArg Value.bool g_235) rfl) rfl ?_
            refine Wx.nil ⟨(), hS, ⟨?_, trivial⟩, Out.look rfl Out.refl⟩
            show Value.bool false = Value.bool (((decide ((numX (shG zs) l) = 13) && decide ((((numW (shG zs) l).length : Int) + ((numU (shG zs) l).length : Int)) = 0)) && decide ((ringX (shG zs) l) = 0)) && true)
            first | rw [g_235, Bool.false_and] | (rw [g_235]; rfl)
        rintro ⟨⟩ u_242 w_241 hS
        refine Wx.rd (v := .bool (((decide ((numX (shG zs) l) = 13) && decide ((((numW (shG zs) l).length : Int) + ((numU (shG zs) l).length : Int)) = 0)) && decide ((ringX (shG zs) l) = 0)) && true)) (rd_move rfl) rfl ?_
        refine Wx.cut (X := Unit) 3 [159, 160, 161] (fun _ => [(161, .bool ((((decide ((numX (shG zs) l) = 13) && decide ((((numW (shG zs) l).length : Int) + ((numU (shG zs) l).length : Int)) = 0)) && decide ((ringX (shG zs) l) = 0)) && true) && decide (kk = 14)))]) (fun _ w' => St w O w' [Ob.v (tSl (tI .i64)) y yv, Ob.v (tSl (tI .i64)) x xv, Ob.v (tSl (tI .i64)) (ringE (shG zs) l) v_37, Ob.v (tSl (tI .i64)) (numU (shG zs) l) v_27, Ob.v (tSl (tI .i64)) (numW (shG zs) l) v_26, Ob.v (tSl (tP (tSl (tI .i64)) (tSl (tI .i64)))) l v_16, .box g_9 68 (List.map (Value.int .u16) we), .box g_5 68 (List.map (Value.int .u16) wo), .box g_1 66 (List.map (Value.int .u8) zs)]) ?_ ?_
        · rcases Bool.eq_false_or_eq_true (((decide ((numX (shG zs) l) = 13) && decide ((((numW (shG zs) l).length : Int) + ((numU (shG zs) l).length : Int)) = 0)) && decide ((ringX (shG zs) l) = 0)) && true) with g_243 | g_243
          · -- True
            have gp_244 := g_243
            try simp only [Bool.and_eq_true, Bool.or_eq_true, Bool.not_eq_true', Bool.and_eq_false_iff, Bool.or_eq_false_iff, Bool.not_eq_false', decide_eq_true_eq, decide_eq_false_iff_not, not_or, Bool.false_eq_true, Bool.true_eq_false, false_or, or_false, not_false_eq_true] at gp_244
            refine Wx.gyes rfl rfl (congrArg Value.bool g_243) ?_
            refine Wx.rd (v := .int .i64 kk) (rd_move rfl) rfl ?_
            refine Wx.gyes rfl rfl (congrArg Value.bool g_243) ?_
            refine Wx.rd (v := .bool (decide (kk = 14))) (rd_eql rfl rfl) rfl ?_
            refine Wx.rd (v := .bool (decide (kk = 14))) (rd_pickT (congrArg Value.bool g_243) rfl) rfl ?_
            refine Wx.nil ⟨(), hS, ⟨?_, trivial⟩, Out.look rfl Out.refl⟩
            show Value.bool (decide (kk = 14)) = Value.bool ((((decide ((numX (shG zs) l) = 13) && decide ((((numW (shG zs) l).length : Int) + ((numU (shG zs) l).length : Int)) = 0)) && decide ((ringX (shG zs) l) = 0)) && true) && decide (kk = 14))
            first | rw [g_243, Bool.true_and] | (rw [g_243]; rfl)
          · -- False
            have gp_245 := g_243
            try simp only [Bool.and_eq_true, Bool.or_eq_true, Bool.not_eq_true', Bool.and_eq_false_iff, Bool.or_eq_false_iff, Bool.not_eq_false', decide_eq_true_eq, decide_eq_false_iff_not, not_or, Bool.false_eq_true, Bool.true_eq_false, false_or, or_false, not_false_eq_true] at gp_245
            refine Wx.gnoB rfl rfl (congrArg Value.bool g_243) rfl rfl ?_
            refine Wx.gnoB rfl rfl (congrArg Value.bool g_243) rfl rfl ?_
            refine Wx.rd (v := .bool false) (rd_pickF (congrArg Value.bool g_243) rfl) rfl ?_
            refine Wx.nil ⟨(), hS, ⟨?_, trivial⟩, Out.look rfl Out.refl⟩
            show Value.bool false = Value.bool ((((decide ((numX (shG zs) l) = 13) && decide ((((numW (shG zs) l).length : Int) + ((numU (shG zs) l).length : Int)) = 0)) && decide ((ringX (shG zs) l) = 0)) && true) && decide (kk = 14))
            first | rw [g_243, Bool.false_and] | (rw [g_243]; rfl)
        rintro ⟨⟩ u_247 w_246 hS
        refine Wx.rd (v := .bool ((((decide ((numX (shG zs) l) = 13) && decide ((((numW (shG zs) l).length : Int) + ((numU (shG zs) l).length : Int)) = 0)) && decide ((ringX (shG zs) l) = 0)) && true) && decide (kk = 14))) (rd_move rfl) rfl ?_
        refine Wx.cut (X := Unit) 2 [163, 164] (fun _ => [(164, .bool (((((decide ((numX (shG zs) l) = 13) && decide ((((numW (shG zs) l).length : Int) + ((numU (shG zs) l).length : Int)) = 0)) && decide ((ringX (shG zs) l) = 0)) && true) && decide (kk = 14)) && true))]) (fun _ w' => St w O w' [Ob.v (tSl (tI .i64)) y yv, Ob.v (tSl (tI .i64)) x xv, Ob.v (tSl (tI .i64)) (ringE (shG zs) l) v_37, Ob.v (tSl (tI .i64)) (numU (shG zs) l) v_27, Ob.v (tSl (tI .i64)) (numW (shG zs) l) v_26, Ob.v (tSl (tP (tSl (tI .i64)) (tSl (tI .i64)))) l v_16, .box g_9 68 (List.map (Value.int .u16) we), .box g_5 68 (List.map (Value.int .u16) wo), .box g_1 66 (List.map (Value.int .u8) zs)]) ?_ ?_
        · rcases Bool.eq_false_or_eq_true ((((decide ((numX (shG zs) l) = 13) && decide ((((numW (shG zs) l).length : Int) + ((numU (shG zs) l).length : Int)) = 0)) && decide ((ringX (shG zs) l) = 0)) && true) && decide (kk = 14)) with g_248 | g_248
          · -- True
            have gp_249 := g_248
            try simp only [Bool.and_eq_true, Bool.or_eq_true, Bool.not_eq_true', Bool.and_eq_false_iff, Bool.or_eq_false_iff, Bool.not_eq_false', decide_eq_true_eq, decide_eq_false_iff_not, not_or, Bool.false_eq_true, Bool.true_eq_false, false_or, or_false, not_false_eq_true] at gp_249
            refine Wx.gyes rfl rfl (congrArg Value.bool g_248) ?_
            refine Wx.callF (run_callF Try.call16 rfl) (F16 hS.fb_lt) rfl ?_
            rintro r_250 w_251 hx_252 rfl
            have hS := hS.ext hx_252
            refine Wx.rd (v := .bool true) (rd_pickT (congrArg Value.bool g_248) rfl) rfl ?_
            refine Wx.nil ⟨(), hS, ⟨?_, trivial⟩, Out.look rfl Out.refl⟩
            show Value.bool true = Value.bool (((((decide ((numX (shG zs) l) = 13) && decide ((((numW (shG zs) l).length : Int) + ((numU (shG zs) l).length : Int)) = 0)) && decide ((ringX (shG zs) l) = 0)) && true) && decide (kk = 14)) && true)
            first | rw [g_248, Bool.true_and] | (rw [g_248]; rfl)
          · -- False
            have gp_253 := g_248
            try simp only [Bool.and_eq_true, Bool.or_eq_true, Bool.not_eq_true', Bool.and_eq_false_iff, Bool.or_eq_false_iff, Bool.not_eq_false', decide_eq_true_eq, decide_eq_false_iff_not, not_or, Bool.false_eq_true, Bool.true_eq_false, false_or, or_false, not_false_eq_true] at gp_253
            refine Wx.gnoB rfl rfl (congrArg Value.bool g_248) rfl rfl ?_
            refine Wx.rd (v := .bool false) (rd_pickF (congrArg Value.bool g_248) rfl) rfl ?_
            refine Wx.nil ⟨(), hS, ⟨?_, trivial⟩, Out.look rfl Out.refl⟩
            show Value.bool false = Value.bool (((((decide ((numX (shG zs) l) = 13) && decide ((((numW (shG zs) l).length : Int) + ((numU (shG zs) l).length : Int)) = 0)) && decide ((ringX (shG zs) l) = 0)) && true) && decide (kk = 14)) && true)
            first | rw [g_248, Bool.false_and] | (rw [g_248]; rfl)
        rintro ⟨⟩ u_255 w_254 hS
        refine Wx.rd (v := .bool (((((decide ((numX (shG zs) l) = 13) && decide ((((numW (shG zs) l).length : Int) + ((numU (shG zs) l).length : Int)) = 0)) && decide ((ringX (shG zs) l) = 0)) && true) && decide (kk = 14)) && true)) (rd_assign rfl) rfl ?_
        refine Wx.nil ?_
        have e1_0 : (((((decide ((numX (shG zs) l) = 13) && decide ((((numW (shG zs) l).length : Int) + ((numU (shG zs) l).length : Int)) = 0)) && decide ((ringX (shG zs) l) = 0)) && true) && decide (kk = 14)) && true) = true := by rw [an1, an2, an3, an4, hk14]; rfl
        exact W.ret ⟨.bool (((((decide ((numX (shG zs) l) = 13) && decide ((((numW (shG zs) l).length : Int) + ((numU (shG zs) l).length : Int)) = 0)) && decide ((ringX (shG zs) l) = 0)) && true) && decide (kk = 14)) && true), ResIs.one, hS.bel, (by rw [e1_0])⟩
end Go.Proofs.Ytjbcpggikaeleaa

namespace Go.Wk
open Go.RowKit Go.ChangeShapes
section
variable {H : Type} {enc : TypeId × Value → H} {P : Program} {W : World}
theorem RdI.arrayN {k : IntKind} {n m : Nat} {e t : TypeId} (hu : P.underlying t = some (.array n e)) (he : RdI enc P W k m e) (hc : P.cellsOf e = m) (hn : P.cellsOf t = n * m) : RdI enc P W k (n * m) t := by
  intro fuel cs x h
  obtain ⟨xs, f', _, _, hl, hx, hel⟩ := DataW.trod_array hu h
  rw [hc] at hel
  rw [hn] at hl
  have h1 : ∀ j, j ≤ n → ∃ zs : List Int, zs.length = j * m ∧ cs.take (j * m) = zs.map (Value.int k) ∧ ∀ z ∈ zs, InK k z := by
    intro j
    induction j with
    | zero => exact fun _ => ⟨[], by simp, by simp, fun z hz => by cases hz⟩
    | succ j ih =>
      intro hj
      obtain ⟨zs, l1, l2, l3⟩ := ih (by omega)
      have := hel j (by omega)
      cases hxi : xs[j]? with
      | none => rw [List.getElem?_eq_none_iff] at hxi; omega
      | some y =>
        rw [hxi] at this
        obtain ⟨zt, m1, m2, m3⟩ := he _ _ _ this
        refine ⟨zs ++ zt, by rw [List.length_append, l1, m1, Nat.succ_mul], ?_, fun z hz => (List.mem_append.1 hz).elim (l3 z) (m3 z)⟩
        rw [Nat.succ_mul, List.take_add, l2, List.map_append, ← m2]
  obtain ⟨zs, l1, l2, l3⟩ := h1 n (Nat.le_refl n)
  exact ⟨zs, l1, by rw [← l2, List.take_of_length_le (by omega)], l3⟩
end
end Go.Wk

namespace Go.Wk
open Go.RowKit Go.ChangeShapes
section
variable {H : Type} {enc : TypeId × Value → H} {P : Program} {W : World}
theorem drop_split (l : List Value) (a b : Nat) : l.drop a = (l.drop a).take b ++ l.drop (a + b) := by
  have := (List.take_append_drop b (l.drop a)).symm
  rw [List.drop_drop] at this
  exact this
theorem RdI.struct5 {k : IntKind} {t : TypeId} {f0 f1 f2 f3 f4 : Field} {m0 m1 m2 m3 m4 : Nat} (hu : P.underlying t = some (.struct #[f0, f1, f2, f3, f4])) (h0 : RdI enc P W k m0 f0.type) (h1 : RdI enc P W k m1 f1.type) (h2 : RdI enc P W k m2 f2.type) (h3 : RdI enc P W k m3 f3.type) (h4 : RdI enc P W k m4 f4.type)
    (c0 : P.cellsOf f0.type = m0) (c1 : P.cellsOf f1.type = m1) (c2 : P.cellsOf f2.type = m2) (c3 : P.cellsOf f3.type = m3) (c4 : P.cellsOf f4.type = m4) (o0 : f0.offset = 0) (o1 : f1.offset = m0) (o2 : f2.offset = m0 + m1) (o3 : f3.offset = m0 + m1 + m2) (o4 : f4.offset = m0 + m1 + m2 + m3)
    (hC : P.cellsOf t = m0 + m1 + m2 + m3 + m4) : RdI enc P W k (m0 + m1 + m2 + m3 + m4) t := by
  intro fuel cs x h
  obtain ⟨xs, n, _, rfl, hl, hlen, hf⟩ := DataW.trod_struct hu h
  match xs, hlen with
  | [y0, y1, y2, y3, y4], _ =>
    have r0 := hf 0 f0 rfl
    have r1 := hf 1 f1 rfl
    have r2 := hf 2 f2 rfl
    have r3 := hf 3 f3 rfl
    have r4 := hf 4 f4 rfl
    rw [c0, o0] at r0
    rw [c1, o1] at r1
    rw [c2, o2] at r2
    rw [c3, o3] at r3
    rw [c4, o4] at r4
    rw [hC] at hl
    obtain ⟨z0, l0, e0, i0⟩ := h0 _ _ _ (by simpa using r0)
    obtain ⟨z1, l1, e1, i1⟩ := h1 _ _ _ (by simpa using r1)
    obtain ⟨z2, l2, e2, i2⟩ := h2 _ _ _ (by simpa using r2)
    obtain ⟨z3, l3, e3, i3⟩ := h3 _ _ _ (by simpa using r3)
    obtain ⟨z4, l4, e4, i4⟩ := h4 _ _ _ (by simpa using r4)
    refine ⟨z0 ++ (z1 ++ (z2 ++ (z3 ++ z4))), by simp only [List.length_append, l0, l1, l2, l3, l4]; omega, ?_, fun z hz => ?_⟩
    · have e5 : (cs.drop (m0 + m1 + m2 + m3)).take m4 = cs.drop (m0 + m1 + m2 + m3) := List.take_of_length_le (by rw [List.length_drop]; omega)
      rw [List.map_append, List.map_append, List.map_append, List.map_append, ← e0, ← e1, ← e2, ← e3, ← e4, e5, ← drop_split, ← drop_split, ← drop_split, List.take_append_drop]
    · rw [List.mem_append, List.mem_append, List.mem_append, List.mem_append] at hz
      rcases hz with hz | hz | hz | hz | hz
      · exact i0 z hz
      · exact i1 z hz
      · exact i2 z hz
      · exact i3 z hz
      · exact i4 z hz
end
end Go.Wk

namespace Go.Proofs.Ytjbcpggikaeleaa.tasteAfriat
open Go.ChangeShapes Go.WideShapes Go.ChangeAt Go.RowKit Go.Joins Go.Wk
set_option linter.unusedVariables false

theorem own : ownKnob Try.prog.godebug = none := by kernel_rfl
theorem laidOut : laidOutB Try.prog = true := by kernel_rfl
theorem cells5 : Try.prog.cellsOf 5 = 1 := by kernel_rfl
theorem cells63 : Try.prog.cellsOf 63 = 3 := by kernel_rfl
theorem cells64 : Try.prog.cellsOf 64 = 18 := by kernel_rfl
theorem cells66 : Try.prog.cellsOf 66 = 39 := by kernel_rfl
theorem cells67 : Try.prog.cellsOf 67 = 1 := by kernel_rfl
theorem cells68 : Try.prog.cellsOf 68 = 6 := by kernel_rfl
theorem okWide_array {P : Program} {w : World} {r : Reach} {base : Nat} {t : TypeId} {v : Value} {n : Nat} {e : TypeId} (ht : P.underlying t = some (.array n e)) (h : Value.okWide P w r base t v) : ∃ cs, v = .agg cs ∧ cs.size = P.cellsOf t := by
  simp only [Value.okWide, ht] at h
  obtain ⟨cs, h1, h2, _⟩ := h
  exact ⟨cs, h1, h2⟩

set_option maxRecDepth 100000 in
theorem lifted (os : Os) (started : os.Started) (H : Type) (enc : TypeId × Value → H) :
    ReturnsInHanded {} Try.checked os 8 .any (Rows.tasteAfriatSpec.pre6 enc Try.prog Try.f8 Rows.tasteAfriatRow.domain false) (Rows.tasteAfriatSpec.post enc Try.prog Try.f8 false true false false) := by
  refine returnsInHanded_of_change (C := Try.checked) own started (by kernel_rfl) Try.func8
    (ChangeSpec.witness6 (enc := enc) (C := Try.checked) false ⟨#[], #[.agg #[.int .u8 0, .int .u8 0, .int .u8 0, .int .u8 0, .int .u8 0, .int .u8 0, .int .u8 0, .int .u8 0, .int .u8 0, .int .u8 0, .int .u8 0, .int .u8 0, .int .u8 0, .int .u8 0, .int .u8 0, .int .u8 0, .int .u8 0, .int .u8 0, .int .u8 0, .int .u8 0, .int .u8 0, .int .u8 0, .int .u8 0, .int .u8 0, .int .u8 0, .int .u8 0, .int .u8 0, .int .u8 0, .int .u8 0, .int .u8 0, .int .u8 0, .int .u8 0, .int .u8 0, .int .u8 0, .int .u8 0, .int .u8 0, .int .u8 0, .int .u8 0, .int .u8 0], .agg #[.int .u16 0, .int .u16 0, .int .u16 0, .int .u16 0, .int .u16 0, .int .u16 0], .agg #[.int .u16 0, .int .u16 0, .int .u16 0, .int .u16 0, .int .u16 0, .int .u16 0]], []⟩ 8 (by kernel_rfl) (by kernel_rfl) (by kernel_rfl) (by kernel_rfl)) ?_
  intro W base args ds gs before hval0 hW hcnd _
  have hval : ∀ (j : Nat) t v, Try.f8.params[j]? = some t → args[j]? = some v → Value.okWide Try.prog W .any base t v := hval0
  have hW' := hW
  obtain ⟨p, q, hA0, hV, rfl, hfz, hnd⟩ := hW
  have hA : DataW.TrodAll enc Try.prog W 0 (fun _ => true) true Try.f8.params.toList args.toList ds p := hA0
  rw [Try.params8] at hA hval
  obtain ⟨v0, vs0, d0, ds0, p0, q0, hargs, rfl, rfl, h0, r0⟩ := trodAll_cons hA
  obtain ⟨v1, vs1, d1, ds1, p1, q1, rfl, rfl, rfl, h1, r1⟩ := trodAll_cons r0
  obtain ⟨v2, vs2, d2, ds2, p2, q2, rfl, rfl, rfl, h2, r2⟩ := trodAll_cons r1
  obtain ⟨rfl, rfl, rfl⟩ := trodAll_nil r2
  obtain rfl : args = #[v0, v1, v2] := by cases args; simp_all
  obtain ⟨rfl, rfl⟩ := trodVars_none hV
  have k0 := h0
  have lt0 : ∀ x ∈ p0, x.block < W.heap.size := by obtain ⟨m, hm⟩ := k0; exact DataW.trod_lt m _ _ _ hm
  obtain ⟨cs0, rfl, hsz0⟩ := okWide_struct Try.underlying66 (hval 0 66 v0 rfl rfl)
  obtain ⟨zs0, hz0, rfl, hin0⟩ := RdI.v (RdI.struct5 Try.underlying66 (RdI.int Try.underlying5) (RdI.int Try.underlying5) (RdI.int Try.underlying5) (RdI.arrayN (n := 6) Try.underlying64 (RdI.array Try.underlying63 Try.underlying5 cells5 cells63) cells63 cells64) (RdI.arrayN (n := 6) Try.underlying64 (RdI.array Try.underlying63 Try.underlying5 cells5 cells63) cells63 cells64) cells5 cells5 cells5 cells64 cells64 rfl rfl rfl rfl rfl cells66) h0
  have k1 := h1
  have lt1 : ∀ x ∈ p1, x.block < W.heap.size := by obtain ⟨m, hm⟩ := k1; exact DataW.trod_lt m _ _ _ hm
  obtain ⟨cs1, rfl, hsz1⟩ := okWide_array Try.underlying68 (hval 1 68 v1 rfl rfl)
  obtain ⟨zs1, hz1, rfl, hin1⟩ := RdI.v (RdI.array Try.underlying68 Try.underlying67 cells67 cells68) h1
  have k2 := h2
  have lt2 : ∀ x ∈ p2, x.block < W.heap.size := by obtain ⟨m, hm⟩ := k2; exact DataW.trod_lt m _ _ _ hm
  obtain ⟨cs2, rfl, hsz2⟩ := okWide_array Try.underlying68 (hval 2 68 v2 rfl rfl)
  obtain ⟨zs2, hz2, rfl, hin2⟩ := RdI.v (RdI.array Try.underlying68 Try.underlying67 cells67 cells68) h2
  clear hA0 hval0
  refine (F8 hz0 hin0 hz1 hin1 hz2 hin2 (fun b (h : some b ∈ ([] : List (Option Nat))) => nomatch h)).mono fun e W' hE => ?_
  obtain ⟨r, he, bel, hr⟩ := hE
  subst he
  subst hr
  exact ⟨_, rfl, _, _, _, [], _, [], hW', trodAll_mk1 (shut_bool Try.underlying4 _), (trodAll_cons_mk (Below.trod laidOut (by kernel_rfl) (of_decide_eq_true (by kernel_rfl)) k0 bel lt0) (trodAll_cons_mk (Below.trod laidOut (by kernel_rfl) (of_decide_eq_true (by kernel_rfl)) k1 bel lt1) (trodAll_cons_mk (Below.trod laidOut (by kernel_rfl) (of_decide_eq_true (by kernel_rfl)) k2 bel lt2) trodAll_mk0))), rfl, bel.frame _, fun h => by cases h⟩

theorem over : Rows.tasteAfriatRow.holds Try.pinned (OpenSpec.ofChange Rows.tasteAfriatSpec) :=
  OpenClaim.holds_of_wide 8 Try.f8 rfl rfl rfl rfl rfl rfl rfl ⟨rfl, rfl, rfl, rfl, rfl⟩ rfl rfl rfl rfl rfl (by kernel_rfl) Try.func8 (by kernel_rfl)
    (of_decide_eq_true (by kernel_rfl)) (by unfold Func.isWrapper; first | (rw [if_pos (by decide +kernel)]; kernel_rfl) | (rw [if_neg (by decide +kernel)]; exact ⟨rfl, rfl⟩))
    (fun os started H enc _ => lifted os started H enc)

end Go.Proofs.Ytjbcpggikaeleaa.tasteAfriat
namespace Go.Proofs.Ytjbcpggikaeleaa
/-- The statement. -/
theorem tasteAfriat_proved : Rows.TasteAfriatSaid := tasteAfriat.over
#print axioms tasteAfriat_proved
end Go.Proofs.Ytjbcpggikaeleaa
